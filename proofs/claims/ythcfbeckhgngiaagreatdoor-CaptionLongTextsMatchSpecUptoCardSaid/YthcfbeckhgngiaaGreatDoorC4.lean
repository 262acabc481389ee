/- What is proved here: what strings.Split and strings.Join return on plain data (no statement of the seat). -/
import Derived.Test.YthcfbeckhgngiaaGreatDoorC3
namespace Go.Proofs.YthcfbeckhgngiaaGreatDoor
open Go Go.RowKit
set_option linter.unusedVariables false
set_option linter.unusedSimpArgs false

theorem F.ext_size (s : ByteArray) (a b : Nat) : (s.extract a b).size ≤ s.size := by
  rw [ByteArray.size_extract]; omega

theorem F.splitB_size (sep : ByteArray) : ∀ (k : Nat) (s : ByteArray), ∀ x ∈ Lib.splitB sep 0 k s, x.size ≤ s.size
  | 0, s, x, h => by
    rw [Lib.splitB_zero, List.mem_singleton] at h
    rw [h]; exact Nat.le_refl _
  | k + 1, s, x, h => by
    unfold Lib.splitB at h
    split at h
    · rw [List.mem_singleton] at h
      rw [h]; exact Nat.le_refl _
    · rcases List.mem_cons.1 h with rfl | h
      · exact F.ext_size _ _ _
      · exact Nat.le_trans (F.splitB_size sep k _ x h) (F.ext_size _ _ _)

theorem F.split_size {s sep x : ByteArray} (h : x ∈ F.split s sep) : x.size ≤ s.size := F.splitB_size sep _ s x h

theorem F.split_len {s sep : ByteArray} (h1 : 1 ≤ sep.size) : (F.split s sep).length = Lib.countB s sep + 1 := Lib.splitB_all sep h1 0 _ s rfl

namespace M

theorem below_alloc (w : World) (o : Obj) : Below w.heap.size w (w.alloc o) :=
  ⟨rfl, rfl, rfl, by simp, fun k hk => by
    show (w.heap.push _)[k]? = _
    rw [Array.getElem?_push, if_neg (by omega)]⟩

/-- A new slice of strings reads as plain data. -/
theorem rv_strs (w : World) (S : Nat → Prop) (xs : List ByteArray) (t : TypeId) (hs : ∀ x ∈ xs, x.size ≤ 9223372036854775807) (hl : xs.length ≤ 9223372036854775807) :
    RV (w.alloc (.cells (xs.map Value.string).toArray t)) (fun b => S b ∨ b = w.heap.size) noKeys (.sl (xs.map eStr)) (.slice (some ⟨w.heap.size, 0, none⟩) xs.length xs.length) := by
  have hlen : (xs.map eStr).length = xs.length := by simp
  have hcell : ∀ (i : Nat) (x : ByteArray), xs[i]? = some x → (w.alloc (.cells (xs.map Value.string).toArray t)).cell? ⟨w.heap.size, i, none⟩ = some (.string x) := by
    intro i x hx
    have : (w.alloc (.cells (xs.map Value.string).toArray t)).heap[w.heap.size]? = some (.cells (xs.map Value.string).toArray t) := by
      show (w.heap.push _)[w.heap.size]? = _
      simp
    simp only [World.cell?, this]
    simp [hx]
  have := R0.sl (w := w.alloc (.cells (xs.map Value.string).toArray t)) (S := fun b => S b ∨ b = w.heap.size) (rows := xs.map eStr) (A := some ⟨w.heap.size, 0, none⟩) (cap := xs.length) (size := 1) (b := w.heap.size) (off := 0) (vals := fun i _ => .string (xs.getD i ⟨#[]⟩))
    (by rw [hlen]; exact Nat.le_refl _) hl (fun _ => ⟨rfl, .inr rfl⟩)
    (fun i row hi => by
      simp only [List.getElem?_map, Option.map_eq_some_iff] at hi
      obtain ⟨x, _, rfl⟩ := hi
      rfl)
    (fun i j row a hi hj => by
      simp only [List.getElem?_map, Option.map_eq_some_iff] at hi
      obtain ⟨x, hx, rfl⟩ := hi
      have hj0 : j = 0 := by
        have := (List.getElem?_eq_some_iff.1 hj).1
        simp [eStr] at this; omega
      subst hj0
      rw [getD_at hx, show 0 + i * 1 + 0 = i by omega]
      exact hcell i x hx)
    (fun i j row a hi hj => by
      simp only [List.getElem?_map, Option.map_eq_some_iff] at hi
      obtain ⟨x, hx, rfl⟩ := hi
      have hj0 : j = 0 := by
        have := (List.getElem?_eq_some_iff.1 hj).1
        simp [eStr] at this; omega
      subst hj0
      simp only [eStr, List.getElem?_cons_zero, Option.some.injEq] at hj
      subst hj
      rw [getD_at hx]
      exact .v (hs x (List.mem_of_getElem? hx)))
  rw [hlen] at this
  exact this

def encSpl1 (s : ByteArray) (sep : ByteArray) : List AV := [vS s, vS sep]

def encSpl (a : ByteArray × ByteArray) : List AV := encSpl1 a.1 a.2

theorem encSpl_inj (a a' : ByteArray × ByteArray) (h : encSpl a = encSpl a') : a = a' := by
  simp only [encSpl, encSpl1] at h
  try simp [strs_inj, ints_inj, bools_inj, eL_eIs_inj, eCaps_inj, eCap_iff, eL_eCaps_inj, eMchs_inj, eMch_iff, eWrds_inj, eWrd_iff, eFnds_inj, eFnd_iff, eRatios_inj, eRatio_iff, eWays_inj, eWay_iff] at h
  grind

theorem unSpl (s : ByteArray) (sep : ByteArray) : unenc encSpl ([(vS s), (vS sep)]) = some (s, sep) := unenc_of encSpl_inj (s, sep) rfl

def resSpl1 (s : ByteArray) (sep : ByteArray) : AV × Heap := (.sl ((F.split s sep).map eStr), [])

def preSpl1 (s : ByteArray) (sep : ByteArray) : Bool := decide (s.size ≤ 4294967280) && decide (1 ≤ sep.size)

noncomputable def oSpl : Orc := orc 38 false encSpl (fun a => preSpl1 a.1 a.2) fun a => resSpl1 a.1 a.2

theorem okSpl : OrcOK Tryz.prog noG oSpl := by
  refine orc_ok ⟨Tryz.f38, by kernel_rfl, by kernel_rfl, by kernel_rfl⟩ (fun x hp _ => ?_) (by intro h; cases h)
  obtain ⟨s, sep⟩ := x
  simp only [preSpl1, Bool.and_eq_true, decide_eq_true_eq] at hp
  intro w S cargs hlt hg hargs
  match cargs, hargs with
  | [u, v], ⟨h1, h2, _⟩ =>
    obtain ⟨rfl, k1⟩ := rv_v h1
    obtain ⟨rfl, k2⟩ := rv_v h2
    obtain ⟨m, hm⟩ := maxLen_of hg
    refine (Tryz.strings_Split s sep m w (by omega) hm hp.2).mono ?_
    rintro e w' ⟨rfl, rfl⟩
    have hl := F.split_len (s := s) hp.2
    have hc := Lib.countB_le sep hp.2 s.size s (Nat.le_refl _)
    have hr := rv_strs w S (F.split s sep) 9 (fun x hx => by have := F.split_size hx; omega) (by rw [hl]; omega)
    rw [hl] at hr
    exact ⟨_, fun b => S b ∨ b = w.heap.size, noKeys, rfl, below_alloc _ _, fun _ h => .inl h, fun b h => h.imp id (fun e => by omega), fun b h => by
      have : (w.alloc (.cells ((Lib.splitB sep 0 (Lib.countB s sep) s).map Value.string).toArray 9)).heap.size = w.heap.size + 1 := by simp
      rcases h with h | h
      · have := hlt b h; omega
      · omega, (fun _ _ _ _ h => by cases h), (fun _ _ h => by cases h), (fun _ _ h => by cases h), (fun _ _ h => by cases h), hr⟩

def encJoi1 (xs : List ByteArray) (sep : ByteArray) : List AV := [.sl (xs.map eStr), vS sep]

def encJoi (a : (List ByteArray) × ByteArray) : List AV := encJoi1 a.1 a.2

theorem encJoi_inj (a a' : (List ByteArray) × ByteArray) (h : encJoi a = encJoi a') : a = a' := by
  simp only [encJoi, encJoi1] at h
  try simp [strs_inj, ints_inj, bools_inj, eL_eIs_inj, eCaps_inj, eCap_iff, eL_eCaps_inj, eMchs_inj, eMch_iff, eWrds_inj, eWrd_iff, eFnds_inj, eFnd_iff, eRatios_inj, eRatio_iff, eWays_inj, eWay_iff] at h
  grind

theorem unJoi (xs : List ByteArray) (sep : ByteArray) : unenc encJoi ([AV.sl (List.map eStr xs), (vS sep)]) = some (xs, sep) := unenc_of encJoi_inj (xs, sep) rfl

def resJoi1 (xs : List ByteArray) (sep : ByteArray) : AV × Heap := (vS (F.join xs sep), [])

def preJoi1 (xs : List ByteArray) (sep : ByteArray) : Bool := decide ((F.join xs sep).size ≤ 140737488355328) && decide (xs.length ≤ 140737488355328)

noncomputable def oJoi : Orc := orc 54 true encJoi (fun a => preJoi1 a.1 a.2) fun a => resJoi1 a.1 a.2

theorem join_size (xs : List ByteArray) (sep : ByteArray) : (F.join xs sep).size = (Lib.join (xs.map (·.data.toList)) sep.data.toList).length := by
  show (Lib.join (xs.map (·.data.toList)) sep.data.toList).toArray.size = _
  simp

theorem okJoi : OrcOK Tryz.prog noG oJoi := by
  refine orc_ok ⟨Tryz.f54, by kernel_rfl, by kernel_rfl, by kernel_rfl⟩ (fun x hp _ => ?_) (fun _ _ => ⟨rfl, rfl⟩)
  obtain ⟨xs, sep⟩ := x
  simp only [preJoi1, Bool.and_eq_true, decide_eq_true_eq] at hp
  obtain ⟨hp1, hp2⟩ := hp
  rw [join_size] at hp1
  have hok : okAtom (.string (F.join xs sep)) := by show (F.join xs sep).size ≤ _; rw [join_size]; omega
  intro w S cargs hlt hg hargs
  match cargs, hargs with
  | [u, v], ⟨h1, h2, _⟩ =>
    obtain ⟨rfl, k2⟩ := rv_v h2
    have h1' : R0 w S (.sl (xs.map eStr)) u := rv_sl h1
    cases h1' with
    | @sl _ A cap size b off vals hc hm hA hl hcell hr =>
      have hlen : (xs.map eStr).length = xs.length := by simp
      rw [hlen] at hc ⊢
      have done : ∀ w', Below w.heap.size w w' → ∃ v S' β', Ending.returned (.string (F.join xs sep)) = .returned v ∧ Below w.heap.size w w' ∧ (∀ b, S b → S' b) ∧ (∀ b, S' b → S b ∨ w.heap.size ≤ b) ∧ (∀ b, S' b → b < w'.heap.size) ∧
          (∀ k k' x x', β' k = some x → β' k' = some x' → x.real = true → x'.real = true → x.b = x'.b → k = k') ∧ (∀ k x, β' k = some x → x.real = true → w.heap.size ≤ x.b ∧ x.b < w'.heap.size ∧ ¬ S' x.b) ∧
          (∀ k x, β' k = some x → ∃ bl, mget ([] : Heap) k = some bl ∧ bl.box = false ∧ (x.real = true → BlkOK w' S' noKeys bl x) ∧ (x.real = false → bl.rows = [])) ∧ (∀ k bl, mget ([] : Heap) k = some bl → ∃ x, β' k = some x) ∧ RV w' S' β' (vS (F.join xs sep)) v :=
        fun w' hb => ⟨_, S, noKeys, rfl, hb, fun _ h => h, fun _ h => .inl h, fun b h => Nat.lt_of_lt_of_le (hlt b h) hb.size, (fun _ _ _ _ h => by cases h), (fun _ _ h => by cases h), (fun _ _ h => by cases h), (fun _ _ h => by cases h), rv_mk hok⟩
      by_cases hx : xs = []
      · subst hx
        refine (Tryz.strings_Join_none A cap sep w).mono ?_
        rintro e w' ⟨rfl, rfl⟩
        exact done w' (Below.refl _ _)
      · obtain ⟨hA1, hSb⟩ := hA (by simpa using hx)
        subst hA1
        have hsz : size = 1 := by
          obtain ⟨x, l, rfl⟩ := List.exists_cons_of_ne_nil hx
          have := hl 0 (eStr x) rfl
          simpa [eStr] using this.symm
        subst hsz
        refine (Tryz.strings_Join b off cap xs sep w (fun j x hj => ?_) (hlt b hSb) hp2 hc hp1).mono ?_
        · have hrow : (xs.map eStr)[j]? = some (eStr x) := by simp [hj]
          have h3 := hcell j 0 _ _ hrow rfl
          have h4 := hr j 0 _ _ hrow rfl
          have h5 : RV w S noKeys (vS x) (vals j 0) := h4
          obtain ⟨e, _⟩ := rv_v h5
          rw [show off + j * 1 + 0 = off + j by omega, e] at h3
          exact h3
        · rintro e w' ⟨rfl, hb⟩
          exact done w' hb

end M
end Go.Proofs.YthcfbeckhgngiaaGreatDoor
