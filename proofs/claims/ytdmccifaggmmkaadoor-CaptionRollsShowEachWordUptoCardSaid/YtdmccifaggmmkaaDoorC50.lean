/- What is proved here: that each caption of words ends with the words of its time (no statement of the seat). -/
import Derived.Test.YtdmccifaggmmkaaDoorC49
import Derived.Test.YtdmccifaggmmkaaDoorC30
namespace Go.Proofs.YtdmccifaggmmkaaDoor
open Go Go.RowKit
set_option linter.unusedVariables false
set_option linter.unusedSimpArgs false

/-- No blank. -/
def F.noSp (x : ByteArray) : Prop := (32 : UInt8) ∉ x.data.toList

theorem F.noSp_of {x : ByteArray} (h : F.cont x F.sp = false) : F.noSp x := by
  have h1 : decide (0 ≤ Lib.index x.data.toList [32]) = false := h
  rw [Lib.index_one] at h1
  have h2 := of_decide_eq_false h1
  have h3 := Lib.indexByte_ge x.data.toList 32
  have h4 : Lib.indexByte x.data.toList 32 = -1 := by omega
  intro hm
  obtain ⟨k, hk⟩ := List.mem_iff_getElem?.1 hm
  exact Lib.indexByte_none h4 k hk

theorem F.index_first : ∀ {x : List UInt8} {r : List UInt8}, (32 : UInt8) ∉ x → Lib.indexByte (x ++ 32 :: r) 32 = (x.length : Int)
  | [], r, _ => by simp [Lib.indexByte]
  | b :: x, r, h => by
    have hb : (b == 32) = false := by
      simp only [beq_eq_false_iff_ne]
      intro e; exact h (by rw [e]; exact List.mem_cons_self ..)
    have ih := F.index_first (x := x) (r := r) (fun hm => h (List.mem_cons_of_mem _ hm))
    rw [List.cons_append, Lib.indexByte, hb, ih]
    have h2 : ((x.length : Int) == -1) = false := by
      rw [beq_eq_false_iff_ne]; omega
    rw [if_neg (by simp), if_neg (by simp [h2])]
    simp

theorem F.index_no : ∀ {x : List UInt8}, (32 : UInt8) ∉ x → Lib.indexByte x 32 = -1
  | [], _ => rfl
  | b :: x, h => by
    have hb : (b == 32) = false := by
      simp only [beq_eq_false_iff_ne]
      intro e; exact h (by rw [e]; exact List.mem_cons_self ..)
    rw [Lib.indexByte, hb, F.index_no (x := x) fun hm => h (List.mem_cons_of_mem _ hm)]
    rfl

theorem F.bext {a b : ByteArray} (h : a.data.toList = b.data.toList) : a = b := ByteArray.ext (Array.ext' h)

theorem F.join_ext {a b : List ByteArray} (h : F.jl a = F.jl b) : F.join a F.sp = F.join b F.sp := F.bext h

theorem F.split_join : ∀ {ws : List ByteArray}, ws ≠ [] → (∀ x ∈ ws, F.noSp x) → F.split (F.join ws F.sp) F.sp = ws
  | [], h, _ => absurd rfl h
  | [x], _, h => by
    have e : F.join [x] F.sp = x := F.bext (by rw [F.join_jl]; simp [F.jl, Lib.join_one])
    have hm : Lib.indexB x F.sp = -1 := by
      show Lib.index x.data.toList [32] = -1
      rw [Lib.index_one]; exact F.index_no (h x (List.mem_singleton.2 rfl))
    rw [e]
    unfold F.split
    rw [Lib.countB_miss _ _ hm, Lib.splitB_zero]
  | x :: y :: l, _, h => by
    have hd : (F.join (x :: y :: l) F.sp).data.toList = x.data.toList ++ 32 :: F.jl (y :: l) := by rw [F.join_jl, F.jl_cons (by simp)]
    generalize hs : F.join (x :: y :: l) F.sp = s at hd ⊢
    have hi : Lib.indexB s F.sp = ((x.size : Nat) : Int) := by
      show Lib.index s.data.toList [32] = _
      rw [Lib.index_one, hd, F.index_first (h x (List.mem_cons_self ..)), Lib.size_eq]
    have hx : s.extract 0 (x.size + 0) = x := F.bext (by
      rw [Lib.extract_data, hd, List.drop_zero, Nat.add_zero, Nat.sub_zero, Lib.size_eq, List.take_left])
    have hr : s.extract (x.size + F.sp.size) s.size = F.join (y :: l) F.sp := F.bext (by
      have e1 : F.sp.size = 1 := rfl
      rw [Lib.extract_data, F.join_jl, hd, e1, Lib.size_eq s, hd, show x.data.toList ++ 32 :: F.jl (y :: l) = (x.data.toList ++ [32]) ++ F.jl (y :: l) by simp, show x.size + 1 = (x.data.toList ++ [32]).length by rw [Lib.size_eq]; simp, List.drop_left, List.take_of_length_le]
      simp; omega)
    unfold F.split
    rw [Lib.countB_hit s F.sp x.size (Nat.le_refl 1) hi, hr, Nat.add_comm, Lib.splitB_hit _ _ _ _ _ hi, hx, hr]
    have ih := F.split_join (ws := y :: l) (by simp) fun z hz => h z (List.mem_cons_of_mem _ hz)
    unfold F.split at ih
    rw [ih]

/-- Lines that are words with blanks between. -/
def F.LW (ls : List ByteArray) (Ws : List (List ByteArray)) : Prop := ls = Ws.map (fun ws => F.join ws F.sp) ∧ ∀ ws ∈ Ws, ws ≠ [] ∧ ∀ x ∈ ws, F.noSp x

theorem F.jl_flat : ∀ {Ws : List (List ByteArray)}, (∀ ws ∈ Ws, ws ≠ []) → F.jl (Ws.map fun ws => F.join ws F.sp) = F.jl Ws.flatten
  | [], _ => rfl
  | [ws], _ => by simp [F.jl, Lib.join_one]; rfl
  | ws :: v :: Ws, h => by
    have ih := F.jl_flat (Ws := v :: Ws) fun u hu => h u (List.mem_cons_of_mem _ hu)
    have hne : (v :: Ws).flatten ≠ [] := by
      rw [List.flatten_cons]
      intro e
      exact h v (List.mem_cons_of_mem _ (List.mem_cons_self ..)) (List.append_eq_nil_iff.1 e).1
    rw [List.map_cons, F.jl_cons (by simp), ih, List.flatten_cons (l := ws), F.jl_app (h ws (List.mem_cons_self ..)) hne, F.join_jl]

theorem F.LW_all {ls : List ByteArray} {Ws : List (List ByteArray)} (h : F.LW ls Ws) (hn : Ws ≠ []) : F.split (F.join ls F.sp) F.sp = Ws.flatten := by
  obtain ⟨rfl, h2⟩ := h
  rw [F.join_ext (F.jl_flat fun ws hw => (h2 ws hw).1)]
  refine F.split_join ?_ ?_
  · obtain ⟨v, V, rfl⟩ := List.exists_cons_of_ne_nil hn
    rw [List.flatten_cons]
    intro e
    exact (h2 v (List.mem_cons_self ..)).1 (List.append_eq_nil_iff.1 e).1
  · intro x hx
    obtain ⟨ws, hw, hx⟩ := List.mem_flatten.1 hx
    exact (h2 ws hw).2 x hx

theorem F.LW_drop {ls : List ByteArray} {Ws : List (List ByteArray)} (h : F.LW ls Ws) (m : Nat) : F.LW (ls.drop m) (Ws.drop m) := by
  obtain ⟨rfl, h2⟩ := h
  exact ⟨(List.map_drop ..).symm, fun ws hw => h2 ws (List.mem_of_mem_drop hw)⟩

theorem F.LW_add {ls : List ByteArray} {Ws : List (List ByteArray)} (h : F.LW ls Ws) {w : Int} {t : ByteArray} (ht : F.noSp t) : ∃ Ws', F.LW (F.addW w ls t) Ws' ∧ Ws'.flatten = Ws.flatten ++ [t] ∧ Ws' ≠ [] := by
  obtain ⟨h1, h2⟩ := h
  unfold F.addW
  cases hf : F.fits w ls t
  · rw [cond_false]
    refine ⟨Ws ++ [[t]], ⟨?_, fun ws hw => ?_⟩, by simp, by simp⟩
    · have e : F.join [t] F.sp = t := F.bext (by rw [F.join_jl]; simp [F.jl, Lib.join_one])
      rw [List.map_append, ← h1, List.map_singleton, e]
    · rcases List.mem_append.1 hw with hw | hw
      · exact h2 ws hw
      · rcases List.mem_singleton.1 hw with rfl
        exact ⟨by simp, fun x hx => by rcases List.mem_singleton.1 hx with rfl; exact ht⟩
  · rw [cond_true]
    rcases List.eq_nil_or_concat Ws with rfl | ⟨W0, wl, rfl⟩
    · rw [h1] at hf; cases hf
    · rw [List.concat_eq_append] at h1 h2 ⊢
      have hwl := h2 wl (List.mem_append.2 (.inr (List.mem_singleton.2 rfl)))
      rw [List.map_append, List.map_singleton] at h1
      have hl : ls.length - 1 = (W0.map fun ws => F.join ws F.sp).length := by rw [h1]; simp
      have hla : F.lastL ls = F.join wl F.sp := by
        unfold F.lastL
        rw [hl, h1, List.getD_eq_getElem?_getD, List.getElem?_append_right (Nat.le_refl _), Nat.sub_self]
        rfl
      have hj : F.join (wl ++ [t]) F.sp = F.join wl F.sp ++ (F.sp ++ t) := F.bext (by
        rw [F.join_jl, F.jl_app hwl.1 (by simp)]
        have e : F.jl [t] = t.data.toList := by simp [F.jl, Lib.join_one]
        have e2 : F.sp.data.toList = [32] := rfl
        rw [e]
        simp [F.join_jl, e2])
      refine ⟨W0 ++ [wl ++ [t]], ⟨?_, fun ws hw => ?_⟩, by simp, by simp⟩
      · rw [hla, hl, h1, List.set_append_right _ _ (Nat.le_refl _), Nat.sub_self, List.set_cons_zero, List.map_append, List.map_singleton, hj]
      · rcases List.mem_append.1 hw with hw | hw
        · exact h2 ws (List.mem_append.2 (.inl hw))
        · rcases List.mem_singleton.1 hw with rfl
          refine ⟨by simp, fun x hx => ?_⟩
          rcases List.mem_append.1 hx with hx | hx
          · exact hwl.2 x hx
          · rcases List.mem_singleton.1 hx with rfl; exact ht

theorem F.suf_eq {α : Type} {A V T : List α} {n : Nat} (h : T = A ++ V) (hn : n ≤ V.length) : V.drop (V.length - n) = T.drop (T.length - n) := by
  subst h
  rw [List.length_append, show A.length + V.length - n = A.length + (V.length - n) by omega, ← List.drop_drop, List.drop_left]

/-- What is shown of a caption of words. -/
structure F.ShC (L : List Wrd) (r h : Int) (c : Cap) : Prop where
  len : (c.lines.length : Int) ≤ r
  hold : c.to - c.fr ≤ h
  ends : F.endsW c L r = true
  smj : F.smJ c = true
  fr0 : 0 ≤ c.fr ∧ c.fr ≤ 359999999
  to0 : 0 ≤ c.to ∧ c.to ≤ 719999998

theorem F.jl_size {B : Nat} : ∀ {xs : List ByteArray}, (∀ x ∈ xs, x.size ≤ B) → (F.jl xs).length ≤ xs.length * (B + 1)
  | [], _ => by simp [F.jl, Lib.join]
  | [x], h => by
    have := h x (List.mem_singleton.2 rfl)
    have e : F.jl [x] = x.data.toList := by simp [F.jl, Lib.join_one]
    rw [e, ← Lib.size_eq, List.length_singleton]; omega
  | x :: y :: l, h => by
    have ih := F.jl_size (xs := y :: l) fun z hz => h z (List.mem_cons_of_mem _ hz)
    have := h x (List.mem_cons_self ..)
    rw [F.jl_cons (by simp), List.length_append, List.length_cons, ← Lib.size_eq, List.length_cons (a := x), Nat.succ_mul]
    omega

theorem F.came_app {t : Int} {a b : List Wrd} : F.came t (a ++ b) = F.came t a ++ F.came t b := by unfold F.came; rw [List.filter_append, List.map_append]

theorem F.came_no {t : Int} {a : List Wrd} (h : ∀ w ∈ a, w.time ≠ t) : F.came t a = [] := by
  unfold F.came
  rw [List.filter_eq_nil_iff.2 fun w hw => by simpa using h w hw]
  rfl

theorem F.came_one (w : Wrd) : F.came w.time [w] = [w.text] := by simp [F.came]

theorem F.emit_ok {L : List Wrd} {r h : Int} (hr : 1 ≤ r ∧ r ≤ 15) (hh : 1 ≤ h ∧ h ≤ 359999999) {ls : List ByteArray} {Ws : List (List ByteArray)} {U : List ByteArray} {c : Wrd} {nx : Option Wrd} {k : Nat} (hL : F.LW ls Ws) (hW : Ws ≠ [])
    (hT : Ws.flatten = U ++ F.came c.time L) (hG : F.came c.time L ≠ []) (hc : 0 ≤ c.time ∧ c.time ≤ 359999999) (hB : F.lnsB k ls) (hk : k ≤ 1000) (hx : ∀ v, nx = some v → c.time ≤ v.time) : F.ShC L r h (F.rollC h r ls c nx) := by
  have hlen : ls.length = Ws.length := by rw [hL.1, List.length_map]
  have hl1 : (F.rollC h r ls c nx).lines = ls.drop (ls.length - r.toNat) := rfl
  have hfr : (F.rollC h r ls c nx).fr = c.time := rfl
  have hto : (F.rollC h r ls c nx).to = F.toN (c.time + h) nx := rfl
  have hW0 : 0 < Ws.length := List.length_pos_iff.2 hW
  have hdn : Ws.drop (ls.length - r.toNat) ≠ [] := by
    intro e
    have := congrArg List.length e
    rw [List.length_drop, List.length_nil] at this
    omega
  have hall : F.all (F.rollC h r ls c nx) = (Ws.drop (ls.length - r.toNat)).flatten := by
    unfold F.all
    rw [hl1]
    exact F.LW_all (F.LW_drop hL _) hdn
  have hsp : Ws.flatten = (Ws.take (ls.length - r.toNat)).flatten ++ (Ws.drop (ls.length - r.toNat)).flatten := by rw [← List.flatten_append, List.take_append_drop]
  have hV0 : 0 < (Ws.drop (ls.length - r.toNat)).flatten.length := by
    obtain ⟨v, V, e⟩ := List.exists_cons_of_ne_nil hdn
    rw [e, List.flatten_cons, List.length_append]
    have := List.length_pos_iff.2 (hL.2 v (List.mem_of_mem_drop (i := ls.length - r.toNat) (by rw [e]; exact List.mem_cons_self ..))).1
    omega
  have hG0 : 0 < (F.came c.time L).length := List.length_pos_iff.2 hG
  have hto2 : c.time ≤ F.toN (c.time + h) nx ∧ F.toN (c.time + h) nx ≤ c.time + h := by
    unfold F.toN
    cases nx with
    | none => exact ⟨by simp only; omega, Int.le_refl _⟩
    | some v =>
      have := hx v rfl
      simp only
      omega
  have hll : (F.rollC h r ls c nx).lines.length = ls.length - (ls.length - r.toNat) := by rw [hl1, List.length_drop]
  refine ⟨by rw [hll]; omega, by rw [hto, hfr]; omega, ?_, ?_, by rw [hfr]; exact hc, by rw [hto]; omega⟩
  · have key : ∀ n, 0 < n → n ≤ (F.all (F.rollC h r ls c nx)).length → n ≤ (F.came c.time L).length → (decide (0 < n) && decide (n ≤ (F.all (F.rollC h r ls c nx)).length) && F.sameSL ((F.all (F.rollC h r ls c nx)).drop ((F.all (F.rollC h r ls c nx)).length - n)) ((F.came c.time L).drop ((F.came c.time L).length - n))) = true := fun n h0 h1 h2 => by
      rw [decide_eq_true h0, decide_eq_true h1, F.suf_eq (T := Ws.flatten) (by rw [hall]; exact hsp) h1, F.suf_eq (T := Ws.flatten) hT h2, F.sameSL_refl]; rfl
    unfold F.endsW F.endN
    rw [hfr]
    by_cases hlt : (F.all (F.rollC h r ls c nx)).length < (F.came c.time L).length
    · cases heq : (((F.rollC h r ls c nx).lines.length : Int) == r)
      · exfalso
        have hne : ((F.rollC h r ls c nx).lines.length : Int) ≠ r := by simpa using heq
        rw [hll] at hne
        have h0 : ls.length - r.toNat = 0 := by omega
        rw [hall, h0, List.drop_zero, hT, List.length_append] at hlt
        omega
      · rw [decide_eq_true hlt, Bool.and_self, cond_true]
        exact key _ (by rw [hall]; exact hV0) (Nat.le_refl _) (by omega)
    · rw [decide_eq_false hlt, Bool.false_and, cond_false]
      exact key _ hG0 (by omega) (Nat.le_refl _)
  · unfold F.smJ
    have h1 : (F.rollC h r ls c nx).lines.length ≤ 1000 := by have := hB.1; omega
    have h2 := F.jl_size (xs := (F.rollC h r ls c nx).lines) (B := 201000) fun x hx => by
      have := hB.2 x (List.mem_of_mem_drop hx)
      have : 201 * k ≤ 201 * 1000 := Nat.mul_le_mul_left _ hk
      omega
    have h3 : (F.join (F.rollC h r ls c nx).lines F.sp).size = (F.jl (F.rollC h r ls c nx).lines).length := by rw [Lib.size_eq, F.join_jl]
    have h4 : (F.rollC h r ls c nx).lines.length * (201000 + 1) ≤ 1000 * (201000 + 1) := Nat.mul_le_mul_right _ h1
    rw [h3, decide_eq_true (by omega), decide_eq_true h1]
    rfl

/-- The words' faults that do not come. -/
theorem F.words_srt {w : Int} : ∀ {l : List Wrd} {p : Option Wrd}, F.chkP (F.wrdF w) p l = 0 → (l.Pairwise fun x y => x.time ≤ y.time) ∧ (∀ q, p = some q → ∀ x ∈ l, q.time ≤ x.time) ∧ ∀ x ∈ l, F.noSp x.text
  | [], _, _ => ⟨List.Pairwise.nil, (fun _ _ _ h => by cases h), (fun _ h => by cases h)⟩
  | c :: l, p, h => by
    rw [F.chkP] at h
    by_cases h1 : F.wrdF w p c = 0
    · rw [M.bne0 h1, cond_false] at h
      obtain ⟨h2, h3, h4⟩ := F.words_srt h
      have hf : F.wLt p c = false ∧ F.cont c.text F.sp = false := by
        unfold F.wrdF at h1
        cases g1 : F.noTime c.time <;> rw [g1] at h1
        · cases g2 : F.cont c.text F.sp <;> rw [g2] at h1
          · cases g3 : F.line c.text <;> rw [g3] at h1
            · cases h1
            · cases g4 : F.lt w (F.runes c.text) <;> rw [g4] at h1
              · cases g5 : F.wLt p c <;> rw [g5] at h1
                · exact ⟨rfl, rfl⟩
                · cases h1
              · cases h1
          · rw [Bool.or_true] at h1; cases h1
        · cases h1
      refine ⟨List.Pairwise.cons (fun x hx => h3 c rfl x hx) h2, fun q hq x hx => ?_, fun x hx => ?_⟩
      · have hqc : q.time ≤ c.time := by
          subst hq
          have := hf.1
          unfold F.wLt F.lt at this
          simp only [decide_eq_false_iff_not] at this
          omega
        rcases List.mem_cons.1 hx with rfl | hx
        · exact hqc
        · have := h3 c rfl x hx; omega
      · rcases List.mem_cons.1 hx with rfl | hx
        · exact F.noSp_of hf.2
        · exact h4 x hx
    · rw [M.bne1 h1, cond_true] at h
      exact absurd h h1

theorem F.sameT_of {c : Wrd} {l : List Wrd} {L pre : List Wrd} (hL : L = pre ++ c :: l) (hs : L.Pairwise fun x y => x.time ≤ y.time) (h : F.sameT c l.head? = false) : ∀ x ∈ l, x.time ≠ c.time := by
  subst hL
  have h1 := (List.pairwise_append.1 hs).2.1
  obtain ⟨h2, h3⟩ := List.pairwise_cons.1 h1
  cases l with
  | nil => intro x hx; cases hx
  | cons v l =>
    have hv : v.time ≠ c.time := by simpa [F.sameT] using h
    have h4 := h2 v (List.mem_cons_self ..)
    intro x hx
    rcases List.mem_cons.1 hx with rfl | hx
    · exact hv
    · have := (List.pairwise_cons.1 h3).1 x hx; omega

theorem F.roll_sh {L : List Wrd} {w r h : Int} (hr : 1 ≤ r ∧ r ≤ 15) (hh : 1 ≤ h ∧ h ≤ 359999999) (hs : L.Pairwise fun x y => x.time ≤ y.time) (hn : ∀ x ∈ L, F.noSp x.text) (hw : F.wrdsOK L = true) (h5 : L.length ≤ 500) :
    ∀ (l pre : List Wrd) (p : Option Wrd) (ls : List ByteArray) (Ws : List (List ByteArray)), L = pre ++ l → F.LW ls Ws → F.lnsB pre.length ls → (p = none → pre = []) → (∀ o, p = some o → (∃ pre', pre = pre' ++ [o]) ∧ ∃ U, Ws.flatten = U ++ F.came o.time pre) →
      ∀ x ∈ F.rollP w r h p ls l, F.ShC L r h x
  | [], _, _, _, _, _, _, _, _, _ => fun x hx => by cases hx
  | c :: l, pre, p, ls, Ws, hL, hLW, hB, hp0, hp1 => by
    have hcL : c ∈ L := by rw [hL]; exact List.mem_append.2 (.inr (List.mem_cons_self ..))
    have hco := F.wrdOK_iff.1 (List.all_eq_true.1 hw c hcL)
    have hB2 : F.lnsB (pre.length + 1) (F.rollS h w p ls c) := F.lnsB_next hB hco.2
    have hpl : pre.length + 1 ≤ 500 := by
      have := congrArg List.length hL
      rw [List.length_append, List.length_cons] at this
      omega
    have hstep : ∃ Ws2, F.LW (F.rollS h w p ls c) Ws2 ∧ Ws2 ≠ [] ∧ ∃ U, Ws2.flatten = U ++ F.came c.time (pre ++ [c]) := by
      have hcame : F.came c.time (pre ++ [c]) = F.came c.time pre ++ [c.text] := by rw [F.came_app, F.came_one]
      unfold F.rollS
      cases hp : p with
      | none =>
        have := hp0 hp
        subst this
        have hg : F.gap h none c = false := rfl
        rw [hg, cond_false]
        obtain ⟨W2, g1, g2, g3⟩ := F.LW_add (w := w) hLW (hn c hcL)
        refine ⟨W2, g1, g3, Ws.flatten, ?_⟩
        rw [g2, hcame]
        rfl
      | some o =>
        obtain ⟨⟨pre', hpre⟩, U, hU⟩ := hp1 o hp
        by_cases ht : o.time = c.time
        · have hg : F.gap h (some o) c = false := by
            unfold F.gap F.lt
            exact decide_eq_false (by omega)
          rw [hg, cond_false]
          obtain ⟨W2, g1, g2, g3⟩ := F.LW_add (w := w) hLW (hn c hcL)
          refine ⟨W2, g1, g3, U, ?_⟩
          rw [g2, hU, hcame, ht, List.append_assoc]
        · have hno : F.came c.time pre = [] := F.came_no fun x hx => by
            rw [hL, hpre] at hs
            obtain ⟨s1, s2, s3⟩ := List.pairwise_append.1 hs
            have a1 : o.time ≤ c.time := s3 o (List.mem_append.2 (.inr (List.mem_singleton.2 rfl))) c (List.mem_cons_self ..)
            rw [hpre] at hx
            rcases List.mem_append.1 hx with hx | hx
            · have := (List.pairwise_append.1 s1).2.2 x hx o (List.mem_singleton.2 rfl)
              omega
            · rcases List.mem_singleton.1 hx with rfl; omega
          have hW0 : ∃ Ws0, F.LW (bif F.gap h (some o) c then [] else ls) Ws0 := by
            cases F.gap h (some o) c
            · exact ⟨Ws, hLW⟩
            · exact ⟨[], rfl, fun ws hw => by cases hw⟩
          obtain ⟨Ws0, hW0⟩ := hW0
          obtain ⟨W2, g1, g2, g3⟩ := F.LW_add (w := w) hW0 (hn c hcL)
          exact ⟨W2, g1, g3, Ws0.flatten, by rw [g2, hcame, hno, List.nil_append]⟩
    obtain ⟨Ws2, g1, g2, U, g3⟩ := hstep
    have ih := F.roll_sh (w := w) hr hh hs hn hw h5 l (pre ++ [c]) (some c) (F.rollS h w p ls c) Ws2 (by rw [hL]; simp) g1 (by rw [List.length_append, List.length_singleton]; exact hB2) (fun e => by cases e) (fun o ho => by cases ho; exact ⟨⟨pre, rfl⟩, U, g3⟩)
    rw [F.rollP]
    cases hst : F.sameT c l.head?
    · rw [cond_false]
      intro x hx
      rcases List.mem_cons.1 hx with rfl | hx
      · have hne := F.sameT_of hL hs hst
        have hcL2 : F.came c.time L = F.came c.time (pre ++ [c]) := by
          rw [hL, show pre ++ c :: l = (pre ++ [c]) ++ l by simp, F.came_app, F.came_no hne, List.append_nil]
        refine F.emit_ok hr hh g1 g2 (U := U) (k := pre.length + 1) (by rw [hcL2]; exact g3) ?_ hco.1 hB2 (by omega) ?_
        · rw [hcL2, F.came_app, F.came_one]; simp
        · intro v hv
          rw [hL] at hs
          exact (List.pairwise_cons.1 (List.pairwise_append.1 hs).2.1).1 v (List.mem_of_mem_head? hv)
      · exact ih x hx
    · exact ih

/-- Captions that do not overlap. -/
def F.apR : List Cap → Prop
  | a :: b :: l => a.to ≤ b.fr ∧ F.apR (b :: l)
  | _ => True

theorem F.apR_at : ∀ {l : List Cap} {i : Nat} {a b : Cap}, F.apR l → l[i]? = some a → l[i + 1]? = some b → a.to ≤ b.fr
  | [], _, _, _, _, h, _ => by cases h
  | [x], i, a, b, _, h1, h2 => by cases i <;> cases h2
  | x :: y :: l, 0, a, b, h, h1, h2 => by cases h1; cases h2; exact h.1
  | x :: y :: l, i + 1, a, b, h, h1, h2 => F.apR_at (l := y :: l) (i := i) h.2 h1 h2

theorem F.roll_ap {w r h : Int} : ∀ (l : List Wrd) (p : Option Wrd) (ls : List ByteArray), (l.Pairwise fun x y => x.time ≤ y.time) → F.apR (F.rollP w r h p ls l) ∧ ∀ v x, l.head? = some v → (F.rollP w r h p ls l).head? = some x → v.time ≤ x.fr
  | [], _, _, _ => ⟨trivial, fun _ _ h => by cases h⟩
  | c :: l, p, ls, hs => by
    obtain ⟨h1, h2⟩ := List.pairwise_cons.1 hs
    obtain ⟨i1, i2⟩ := F.roll_ap (w := w) (r := r) (h := h) l (some c) (F.rollS h w p ls c) h2
    rw [F.rollP]
    cases hst : F.sameT c l.head?
    · rw [cond_false]
      refine ⟨?_, fun v x hv hx => by cases hv; cases hx; exact Int.le_refl _⟩
      generalize hR : F.rollP w r h (some c) (F.rollS h w p ls c) l = R at i1 i2
      cases R with
      | nil => trivial
      | cons b R =>
        refine ⟨?_, i1⟩
        cases l with
        | nil => cases hR
        | cons v l =>
          have := i2 v b rfl rfl
          show F.toN (c.time + h) (some v) ≤ b.fr
          unfold F.toN
          simp only
          omega
    · rw [cond_true]
      refine ⟨i1, fun v x hv hx => ?_⟩
      cases hv
      cases l with
      | nil => cases hst
      | cons u l =>
        have := i2 u x rfl hx
        have hu : u.time = c.time := by simpa [F.sameT] using hst
        omega

theorem F.roll_bg {w r h : Int} : ∀ (l : List Wrd) (p : Option Wrd) (ls : List ByteArray), ∀ x ∈ l, ∃ y ∈ F.rollP w r h p ls l, y.fr = x.time
  | [], _, _, x, hx => by cases hx
  | c :: l, p, ls, x, hx => by
    have ih := F.roll_bg (w := w) (r := r) (h := h) l (some c) (F.rollS h w p ls c)
    rw [F.rollP]
    cases hst : F.sameT c l.head?
    · rw [cond_false]
      rcases List.mem_cons.1 hx with rfl | hx
      · exact ⟨_, List.mem_cons_self .., rfl⟩
      · obtain ⟨y, hy, e⟩ := ih x hx
        exact ⟨y, List.mem_cons_of_mem _ hy, e⟩
    · rw [cond_true]
      rcases List.mem_cons.1 hx with rfl | hx
      · cases l with
        | nil => cases hst
        | cons u l =>
          have hu : u.time = x.time := by simpa [F.sameT] using hst
          obtain ⟨y, hy, e⟩ := ih u (List.mem_cons_self ..)
          exact ⟨y, hy, by omega⟩
      · exact ih x hx

theorem F.roll_len {w r h : Int} : ∀ (l : List Wrd) (p : Option Wrd) (ls : List ByteArray), (F.rollP w r h p ls l).length ≤ l.length
  | [], _, _ => Nat.le_refl _
  | c :: l, p, ls => by
    have ih := F.roll_len (w := w) (r := r) (h := h) l (some c) (F.rollS h w p ls c)
    rw [F.rollP]
    cases F.sameT c l.head? <;> simp <;> omega

theorem F.roll_no {l : List Wrd} {w r h : Int} (hf : (F.roll l w r h).2 ≠ 0) : (F.roll l w r h).1 = [] := by
  unfold F.roll at hf ⊢
  cases h1 : F.rollB w r h <;> rw [h1] at hf
  · cases h2 : F.wordsF l w != 0 <;> rw [h2] at hf
    · unfold F.fin at hf ⊢
      cases h3 : F.chkC (F.rollP w r h none [] l) != 0
      · simp only [cond_false, h3] at hf
        exact absurd rfl hf
      · simp only [cond_false, cond_true, h3]
    · rfl
  · rfl

theorem F.roll_yes {l : List Wrd} {w r h : Int} (hf : (F.roll l w r h).2 = 0) : (F.roll l w r h).1 = F.rollP w r h none [] l ∧ F.rollB w r h = false ∧ F.wordsF l w = 0 := by
  unfold F.roll at hf ⊢
  cases h1 : F.rollB w r h <;> rw [h1] at hf
  · by_cases h2 : F.wordsF l w = 0
    · rw [M.bne0 h2] at hf ⊢
      unfold F.fin at hf ⊢
      by_cases h3 : F.chkC (F.rollP w r h none [] l) = 0
      · simp only [cond_false, M.bne0 h3]
        exact ⟨trivial, trivial, h2⟩
      · simp only [cond_false, cond_true, M.bne1 h3] at hf
        exact absurd hf h3
    · rw [M.bne1 h2] at hf
      exact absurd hf h2
  · cases hf

theorem F.roll_all {l : List Wrd} {w r h : Int} (hf : (F.roll l w r h).2 = 0) : l.length ≤ 500 ∧ (F.roll l w r h).1.length ≤ 500 ∧ (∀ x ∈ (F.roll l w r h).1, F.ShC l r h x) ∧ F.apR (F.roll l w r h).1 ∧ (∀ x ∈ l, ((F.roll l w r h).1.any fun c => c.fr == x.time) = true) ∧ (1 ≤ r ∧ r ≤ 15) ∧ 1 ≤ h ∧ h ≤ 359999999 := by
  obtain ⟨h1, h2, h3⟩ := F.roll_yes hf
  obtain ⟨c1, c2⟩ := F.words_ok h3
  obtain ⟨_, hr, hh⟩ := F.roll_bd h2
  have h4 : F.chkP (F.wrdF w) none l = 0 := by
    unfold F.wordsF at h3
    rw [decide_eq_false (by omega), cond_false] at h3
    exact h3
  obtain ⟨s1, _, s3⟩ := F.words_srt h4
  rw [h1]
  have hb0 : F.lnsB ([] : List Wrd).length ([] : List ByteArray) := ⟨Nat.le_refl _, fun s hs => by cases hs⟩
  refine ⟨c1, Nat.le_trans (F.roll_len ..) c1, F.roll_sh hr hh s1 s3 c2 c1 l [] none [] [] rfl ⟨rfl, fun ws hw => by cases hw⟩ hb0 (fun _ => rfl) (fun o ho => by cases ho), (F.roll_ap l none [] s1).1, fun x hx => ?_, hr, hh⟩
  obtain ⟨y, hy, e⟩ := F.roll_bg (w := w) (r := r) (h := h) l none [] x hx
  exact List.any_eq_true.2 ⟨y, hy, by simpa using e⟩

end Go.Proofs.YtdmccifaggmmkaaDoor
