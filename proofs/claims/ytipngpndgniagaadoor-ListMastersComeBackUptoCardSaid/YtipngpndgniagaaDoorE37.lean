/- What is proved here: the texts of lists of all renditions on plain data (no statement of the seat). -/
import Derived.Test.YtipngpndgniagaaDoorE36
namespace Go.Proofs.YtipngpndgniagaaDoor
open Go Go.RowKit
set_option linter.unusedVariables false
set_option linter.unusedSimpArgs false
set_option maxRecDepth 100000

def F.sndT (o : ByteArray) (s : Snd) : ByteArray :=
  (bif s.dflt then (o ++ (((((⟨⟨[35, 83, 79, 85, 78, 68, 32]⟩⟩ ++ s.group) ++ ⟨⟨[32]⟩⟩) ++ s.name) ++ ⟨⟨[32]⟩⟩) ++ s.lang)) ++ ⟨⟨[32, 68, 69, 70, 65, 85, 76, 84]⟩⟩
   else o ++ (((((⟨⟨[35, 83, 79, 85, 78, 68, 32]⟩⟩ ++ s.group) ++ ⟨⟨[32]⟩⟩) ++ s.name) ++ ⟨⟨[32]⟩⟩) ++ s.lang)) ++ ((⟨⟨[10]⟩⟩ ++ s.uri) ++ ⟨⟨[10]⟩⟩)

def F.dash (s : ByteArray) : ByteArray := bif F.seq s ⟨⟨[]⟩⟩ then ⟨⟨[45]⟩⟩ else s

def F.numT (o : ByteArray) (n : Int) : ByteArray := o ++ (⟨⟨[32]⟩⟩ ++ F.itoa n)

def F.strT (o : ByteArray) (s : Strm) : ByteArray :=
  ([s.mean, s.peak, s.width, s.height].foldl F.numT (o ++ (⟨⟨[35, 83, 84, 82, 69, 65, 77, 32]⟩⟩ ++ s.name))) ++ ((((⟨⟨[32]⟩⟩ ++ F.dash s.sound) ++ ⟨⟨[10]⟩⟩) ++ s.uri) ++ ⟨⟨[10]⟩⟩)

theorem F.uri_len {s : ByteArray} (h : F.uriFault s = 0) : s.size ≤ 200 := by
  unfold F.uriFault at h
  split at h
  · cases h
  · rename_i hh
    simp only [F.out, Bool.or_eq_true, decide_eq_true_eq, not_or] at hh
    omega

theorem F.name_len {s : ByteArray} (h : F.isName s = true) : s.size ≤ 40 := by
  simp only [F.isName, Bool.and_eq_true, decide_eq_true_eq] at h
  exact h.1.1.2

theorem F.lang_len {s : Snd} (h : F.lang s.lang = true) : s.lang.size ≤ 8 := by
  simp only [F.lang, F.out, Bool.and_eq_true] at h
  have := h.2
  simp at this
  omega

theorem F.sndF_ok {s : Snd} {l : List Snd} (h : F.sndF s l = 0) : s.group.size ≤ 40 ∧ s.name.size ≤ 40 ∧ s.lang.size ≤ 8 ∧ s.uri.size ≤ 200 := by
  unfold F.sndF at h
  cases h1 : F.isName s.group
  · rw [h1] at h; cases h
  cases h2 : F.isName s.name
  · rw [h1, h2] at h; cases h
  cases h3 : l.any (F.sndTw s)
  · cases h4 : F.lang s.lang
    · rw [h1, h2, h3, h4] at h; cases h
    · rw [h1, h2, h3, h4] at h
      simp only [Bool.not_true, Bool.or_self, cond_false] at h
      cases h5 : (s.dflt && l.any (F.sndDf s))
      · rw [h5] at h
        exact ⟨F.name_len h1, F.name_len h2, F.lang_len h4, F.uri_len h⟩
      · rw [h5] at h; cases h
  · rw [h1, h2, h3] at h; cases h

theorem F.strmF_ok {s : Strm} {l : List Strm} {m : List Snd} (h : F.strmF s l m = 0) (hm : ∀ o ∈ m, o.group.size ≤ 40) : s.name.size ≤ 40 ∧ s.uri.size ≤ 200 ∧ s.sound.size ≤ 40 ∧
    (1 ≤ s.mean ∧ s.mean ≤ 10000000000) ∧ (1 ≤ s.peak ∧ s.peak ≤ 10000000000) ∧ (0 ≤ s.width ∧ s.width ≤ 20000) ∧ (0 ≤ s.height ∧ s.height ≤ 20000) := by
  unfold F.strmF at h
  cases h1 : F.isName s.name
  · rw [h1] at h; cases h
  rw [h1] at h
  cases h2 : l.any fun o => F.seq o.name s.name
  · rw [h2] at h
    cases h3 : F.uriFault s.uri != 0
    · rw [h3] at h
      cases h4 : F.out s.mean 1 10000000000
      · cases h5 : F.out s.peak s.mean 10000000000
        · cases h6 : F.out s.width 0 20000
          · cases h7 : F.out s.height 0 20000
            · rw [h4, h5, h6, h7] at h
              simp only [Bool.not_true, Bool.or_self, cond_false, Bool.false_or] at h
              cases h8 : (s.width == 0) != (s.height == 0)
              · rw [h8] at h
                simp only [cond_false] at h
                have hu : F.uriFault s.uri = 0 := by simpa using h3
                simp only [F.out, Bool.or_eq_false_iff, decide_eq_false_iff_not] at h4 h5 h6 h7
                refine ⟨F.name_len h1, F.uri_len hu, ?_, by omega, by omega, by omega, by omega⟩
                unfold F.nonE at h
                cases h9 : F.seq s.sound ⟨⟨[]⟩⟩
                · rw [h9] at h
                  cases h10 : m.any fun o => F.seq o.group s.sound
                  · rw [h10] at h; cases h
                  · obtain ⟨o, ho, he⟩ := List.any_eq_true.1 h10
                    have := hm o ho
                    have e : o.group.toList = s.sound.toList := by simpa [F.seq] using he
                    have : o.group.toList.length = s.sound.toList.length := by rw [e]
                    simp only [ByteArray.toList_eq, Array.length_toList, ByteArray.size_data] at this
                    omega
                · have e : s.sound.toList = (⟨⟨[]⟩⟩ : ByteArray).toList := by simpa [F.seq] using h9
                  have : s.sound.toList.length = (⟨⟨[]⟩⟩ : ByteArray).toList.length := by rw [e]
                  simp only [ByteArray.toList_eq, Array.length_toList, ByteArray.size_data, List.length_nil] at this
                  omega
              · rw [h8] at h; cases h
            · rw [h4, h5, h6, h7] at h; cases h
          · rw [h4, h5, h6] at h; cases h
        · rw [h4, h5] at h; cases h
      · rw [h4] at h; cases h
    · rw [h3] at h; cases h
  · rw [h2] at h; cases h

/-- Lists of all renditions that are right, in bounds. -/
theorem F.chkM_ok {m : Mas} (h : F.chkM m = 0) : m.streams.length ≤ 50 ∧ m.sounds.length ≤ 50 ∧ (∀ s ∈ m.sounds, s.group.size ≤ 40 ∧ s.name.size ≤ 40 ∧ s.lang.size ≤ 8 ∧ s.uri.size ≤ 200) ∧
    (∀ s ∈ m.streams, s.name.size ≤ 40 ∧ s.uri.size ≤ 200 ∧ s.sound.size ≤ 40 ∧ (1 ≤ s.mean ∧ s.mean ≤ 10000000000) ∧ (1 ≤ s.peak ∧ s.peak ≤ 10000000000) ∧ (0 ≤ s.width ∧ s.width ≤ 20000) ∧ (0 ≤ s.height ∧ s.height ≤ 20000)) := by
  have hz : ∀ {α : Type} (g : α → Int) (l : List α), M.ffI g l = 0 → ∀ y ∈ l, g y = 0 := by
    intro α g l
    induction l with
    | nil => intro _ y hy; cases hy
    | cons x l ih =>
      intro h y hy
      simp only [M.ffI] at h
      split at h
      · rename_i h0
        rcases List.mem_cons.1 hy with rfl | hy
        · exact h0
        · exact ih h y hy
      · exact absurd h ‹_›
  have hin : ∀ {α : Type} (l : List α) (y : α), y ∈ l → ∃ k, (y, k) ∈ l.zipIdx := by
    intro α l y hy
    obtain ⟨k, hk, e⟩ := List.getElem_of_mem hy
    refine ⟨k, List.mem_of_getElem? (i := k) ?_⟩
    rw [List.getElem?_zipIdx, List.getElem?_eq_getElem hk, e]
    simp
  unfold F.chkM at h
  cases h1 : decide (50 < m.streams.length)
  · cases h2 : decide (50 < m.sounds.length)
    · rw [h1, h2] at h
      simp only [Bool.or_self, cond_false] at h
      simp only [decide_eq_false_iff_not] at h1 h2
      cases h3 : F.sndsF m.sounds != 0
      · rw [h3] at h
        simp only [cond_false] at h
        have h4 : F.sndsF m.sounds = 0 := by simpa using h3
        have hs : ∀ s ∈ m.sounds, s.group.size ≤ 40 ∧ s.name.size ≤ 40 ∧ s.lang.size ≤ 8 ∧ s.uri.size ≤ 200 := fun s hs => by
          obtain ⟨k, hk⟩ := hin _ _ hs
          exact F.sndF_ok (hz _ _ h4 _ hk)
        refine ⟨by omega, by omega, hs, fun s hss => ?_⟩
        obtain ⟨k, hk⟩ := hin _ _ hss
        exact F.strmF_ok (hz _ _ h _ hk) fun o ho => (hs o ho).1
      · rw [h3] at h
        simp only [cond_true] at h
        rw [h] at h3; cases h3
    · rw [h1, h2] at h; cases h
  · rw [h1] at h; cases h

theorem F.sz (x : UInt8) (l : List UInt8) : ByteArray.size ⟨⟨x :: l⟩⟩ = l.length + 1 := rfl

theorem F.dash_size {s : ByteArray} (h : s.size ≤ 40) : (F.dash s).size ≤ 40 := by
  unfold F.dash
  cases F.seq s ⟨⟨[]⟩⟩
  · exact h
  · show (1 : Nat) ≤ 40; omega

theorem F.sndT_size {o : ByteArray} {s : Snd} (h : s.group.size ≤ 40 ∧ s.name.size ≤ 40 ∧ s.lang.size ≤ 8 ∧ s.uri.size ≤ 200) : (F.sndT o s).size ≤ o.size + 400 := by
  unfold F.sndT
  cases s.dflt <;> simp only [cond_true, cond_false, ByteArray.size_append, F.sz, List.length_cons, List.length_nil] <;> omega

theorem F.numT_size {o : ByteArray} {n : Int} (h0 : -9223372036854775808 ≤ n) (h1 : n ≤ 9223372036854775807) : (F.numT o n).size ≤ o.size + 22 := by
  have := F.itoa_size h0 h1
  unfold F.numT
  simp only [ByteArray.size_append, F.sz, List.length_cons, List.length_nil]
  omega

theorem F.num4 {o : ByteArray} {a b c d : Int} (h4 : 1 ≤ a ∧ a ≤ 10000000000) (h5 : 1 ≤ b ∧ b ≤ 10000000000) (h6 : 0 ≤ c ∧ c ≤ 20000) (h7 : 0 ≤ d ∧ d ≤ 20000) : ([a, b, c, d].foldl F.numT o).size ≤ o.size + 88 := by
  simp only [List.foldl_cons, List.foldl_nil]
  have a1 := F.numT_size (o := o) (n := a) (by omega) (by omega)
  have a2 := F.numT_size (o := F.numT o a) (n := b) (by omega) (by omega)
  have a3 := F.numT_size (o := F.numT (F.numT o a) b) (n := c) (by omega) (by omega)
  have a4 := F.numT_size (o := F.numT (F.numT (F.numT o a) b) c) (n := d) (by omega) (by omega)
  omega

theorem F.strT_size {o : ByteArray} {s : Strm} (h : s.name.size ≤ 40 ∧ s.uri.size ≤ 200 ∧ s.sound.size ≤ 40 ∧ (1 ≤ s.mean ∧ s.mean ≤ 10000000000) ∧ (1 ≤ s.peak ∧ s.peak ≤ 10000000000) ∧ (0 ≤ s.width ∧ s.width ≤ 20000) ∧ (0 ≤ s.height ∧ s.height ≤ 20000)) : (F.strT o s).size ≤ o.size + 400 := by
  obtain ⟨h1, h2, h3, h4, h5, h6, h7⟩ := h
  have d := F.dash_size h3
  have a1 := F.num4 (o := o ++ (⟨⟨[35, 83, 84, 82, 69, 65, 77, 32]⟩⟩ ++ s.name)) h4 h5 h6 h7
  unfold F.strT
  simp only [ByteArray.size_append, F.sz, List.length_cons, List.length_nil] at a1 ⊢
  omega

/-- The text of a list of all renditions. -/
def F.sndsT (o : ByteArray) (l : List Snd) : ByteArray := l.foldl F.sndT o

def F.strsT (o : ByteArray) (l : List Strm) : ByteArray := l.foldl F.strT o

def F.masT (m : Mas) : ByteArray := F.strsT (F.sndsT ⟨⟨[35, 77, 65, 83, 84, 69, 82, 10]⟩⟩ m.sounds) m.streams

def F.big (s : ByteArray) : Bool := decide (500000 < s.size)

def F.mtext (m : Mas) : ByteArray × Int := bif F.chkM m != 0 then (⟨⟨[]⟩⟩, F.chkM m) else bif F.big (F.masT m) then (⟨⟨[]⟩⟩, 2) else (F.masT m, 0)

namespace M


theorem evDsh (s : ByteArray) : (runF en0 false Tryd.f17 [vS s]).val =
  bif ByteArray.toList s == ByteArray.toList (ByteArray.mk (Array.mk [])) then some ((vS (ByteArray.mk (Array.mk [(45 : UInt8)]))), []) else some ((vS s), []) := by kernel_rfl

def encDsh1 (s : ByteArray) : List AV := [vS s]

def encDsh (a : ByteArray) : List AV := encDsh1 a

theorem encDsh_inj (a a' : ByteArray) (h : encDsh a = encDsh a') : a = a' := by
  simp only [encDsh, encDsh1] at h
  try simp [strs_inj, ents_inj, eEnt_iff, eLst_iff, eSnds_inj, eSnd_iff, eStrms_inj, eStrm_iff, eMas_iff] at h
  grind

theorem unDsh (s : ByteArray) : unenc encDsh ([(vS s)]) = some (s) := unenc_of encDsh_inj (s) rfl

def resDsh1 (s : ByteArray) : AV × Heap := (vS (F.dash s), [])

def preDsh1 (s : ByteArray) : Bool := true

noncomputable def oDsh : Orc := orc 17 true encDsh (fun a => preDsh1 a) fun a => resDsh1 a

theorem okDsh : OrcOK Tryd.prog noG oDsh := by
  refine mk_ok Tryd.f17 (keep := false) (by kernel_rfl) (by kernel_rfl) en0_ok mixed (no_loops (by kernel_rfl)) (by first | exact fun _ _ => ⟨rfl, rfl⟩ | (intro h; cases h)) ?_
  rintro s hpre hok
  show (runF en0 false _ (encDsh1 _)).val = some (resDsh1 _)
  unfold encDsh1 resDsh1
  rw [evDsh]
  unfold F.dash F.seq
  cases (s.toList == ByteArray.toList ⟨⟨[]⟩⟩) <;> rfl

theorem evBnd (s : ByteArray) : (runF en0 false Tryd.f18 [vS s]).val =
  bif decide ((500000 : Int) < (↑(ByteArray.size s) : Int)) then some (AV.tup [(vS (ByteArray.mk (Array.mk []))), (vI (2 : Int))], []) else some (AV.tup [(vS s), (vI (0 :
  Int))], []) := by kernel_rfl

def encBnd1 (s : ByteArray) : List AV := [vS s]

def encBnd (a : ByteArray) : List AV := encBnd1 a

theorem encBnd_inj (a a' : ByteArray) (h : encBnd a = encBnd a') : a = a' := by
  simp only [encBnd, encBnd1] at h
  try simp [strs_inj, ents_inj, eEnt_iff, eLst_iff, eSnds_inj, eSnd_iff, eStrms_inj, eStrm_iff, eMas_iff] at h
  grind

theorem unBnd (s : ByteArray) : unenc encBnd ([(vS s)]) = some (s) := unenc_of encBnd_inj (s) rfl

def resBnd1 (s : ByteArray) : AV × Heap := (.tup [vS (bif F.big s then ⟨⟨[]⟩⟩ else s), vI (bif F.big s then 2 else 0)], [])

def preBnd1 (s : ByteArray) : Bool := true

noncomputable def oBnd : Orc := orc 18 true encBnd (fun a => preBnd1 a) fun a => resBnd1 a

theorem okBnd : OrcOK Tryd.prog noG oBnd := by
  refine mk_ok Tryd.f18 (keep := false) (by kernel_rfl) (by kernel_rfl) en0_ok mixed (no_loops (by kernel_rfl)) (by first | exact fun _ _ => ⟨rfl, rfl⟩ | (intro h; cases h)) ?_
  rintro s hpre hok
  show (runF en0 false _ (encBnd1 _)).val = some (resBnd1 _)
  unfold encBnd1 resBnd1
  rw [evBnd]
  have e : decide ((500000 : Int) < (s.size : Int)) = F.big s := by
    unfold F.big
    by_cases h : 500000 < s.size
    · rw [decide_eq_true h, decide_eq_true (by omega)]
    · rw [decide_eq_false h, decide_eq_false (by omega)]
  rw [e]
  cases F.big s <;> rfl

def sndsOK (l : List Snd) : Bool := l.all fun s => decide (s.group.size ≤ 40) && decide (s.name.size ≤ 40) && decide (s.lang.size ≤ 8) && decide (s.uri.size ≤ 200)

theorem sndsOK_at {l : List Snd} (h : sndsOK l = true) {s : Snd} (hs : s ∈ l) : s.group.size ≤ 40 ∧ s.name.size ≤ 40 ∧ s.lang.size ≤ 8 ∧ s.uri.size ≤ 200 := by
  have := List.all_eq_true.1 h s hs
  simp only [Bool.and_eq_true, decide_eq_true_eq] at this
  exact ⟨this.1.1.1, this.1.1.2, this.1.2, this.2⟩

end M
end Go.Proofs.YtipngpndgniagaaDoor
