/- What is proved here: contracts of slices.Sort and slices.Compact at integers (no statement of the seat). -/
import Derived.Test.YtdmccifaggmmkaaDoorC52
import Derived.Test.YtdmccifaggmmkaaDoorShelf2
namespace Go.Proofs.YtdmccifaggmmkaaDoor
open Go Go.RowKit Go.Sort
set_option linter.unusedVariables false
set_option linter.unusedSimpArgs false

namespace M

theorem rv_ownk {w : World} {S : Nat → Prop} {β : Nat → Option BI} {k : Nat} {v : Value} (h : RV w S β (.own k) v) : ∃ x, β k = some x ∧ (x.real = true → v = .slice (some ⟨x.b, 0, none⟩) x.len x.cap) ∧ (x.real = false → ∃ A, v = .slice A 0 0) := h

theorem ints_in {G : Nat → Option GR} {B : Nat → Prop} {w : World} {S : Nat → Prop} {β : Nat → Option BI} {t : TypeId} {xs : List Int} {X : BI} (inv : InvG G B w S β [(900, ⟨false, t, 1, xs.map eI⟩)]) (hX : β 900 = some X) (hr : X.real = true) :
    Holds (Value.int .i64) w X.b 0 xs.toArray ∧ X.b < w.heap.size ∧ X.len = xs.length ∧ X.len ≤ X.cap ∧ X.cap ≤ 9223372036854775807 ∧ X.size = 1 := by
  obtain ⟨bl, hb, h3, h4⟩ := inv.dom 900 X hX
  have hb0 : some (⟨false, t, 1, xs.map eI⟩ : Blk) = some bl := hb
  cases hb0
  obtain ⟨cs, ty, c1, c2, c3, c4, c5, c6, c7, c8⟩ := h3 hr
  have hS1 : X.size = 1 := (c6 rfl).2
  have c3 : X.len = xs.length := by rw [← c3]; simp
  refine ⟨fun j hj => ?_, (inv.new 900 X hX hr).2.1, c3, c4, c5, hS1⟩
  have hj : j < xs.length := by simpa using hj
  have hx : xs[j]? = some xs[j] := List.getElem?_eq_getElem hj
  obtain ⟨_, c9⟩ := c8 j (eI xs[j]) (by simp [hx])
  obtain ⟨v, hv, hrv⟩ := c9 0 (vI xs[j]) rfl
  rw [hS1, Nat.mul_one, Nat.add_zero] at hv
  have hv2 : v = .int .i64 xs[j] := by
    have : R0 w S (vI xs[j]) v := hrv
    cases this; rfl
  subst hv2
  rw [getD_ints xs j _ hx, Nat.zero_add]
  refine ⟨by simp [World.cell?, c1, hv], by simp [World.frozen?, c1]⟩

theorem ints_nil {G : Nat → Option GR} {B : Nat → Prop} {w : World} {S : Nat → Prop} {β : Nat → Option BI} {t : TypeId} {xs : List Int} {X : BI} (inv : InvG G B w S β [(900, ⟨false, t, 1, xs.map eI⟩)]) (hX : β 900 = some X) (hr : X.real = false) : xs = [] := by
  obtain ⟨bl, hb, h3, h4⟩ := inv.dom 900 X hX
  have hb0 : some (⟨false, t, 1, xs.map eI⟩ : Blk) = some bl := hb
  cases hb0
  simpa using (h4 hr).1

theorem ok_ints {t : TypeId} {xs : List Int} (h : ∀ k bl, mget ([(900, ⟨false, t, 1, xs.map eI⟩)] : Heap) k = some bl → OkK bl) : ∀ y ∈ xs, okAtom (.int .i64 y) := by
  intro y hy
  obtain ⟨_, h2⟩ := h 900 _ rfl
  exact okA_v (h2 (eI y) (List.mem_map.2 ⟨y, hy, rfl⟩) (vI y) (List.mem_singleton.2 rfl))

def encSo1 (xs : List Int) : List AV × Heap := ([.own 900], [(900, ⟨false, 3, 1, xs.map eI⟩)])

def encSo (a : (List Int)) : List AV × Heap := encSo1 a

theorem encSo_inj (a a' : (List Int)) (h : encSo a = encSo a') : a = a' := by
  simp only [encSo, encSo1] at h
  try simp [strs_inj, ints_inj, bools_inj, eCaps_inj, eCap_iff, eL_eCaps_inj, eMchs_inj, eMch_iff, eWrds_inj, eWrd_iff, eFnds_inj, eFnd_iff, eRatios_inj, eRatio_iff, eWays_inj, eWay_iff] at h
  grind

theorem unSo (xs : List Int) : unenc encSo (([.own 900], [(900, Blk.mk false 3 1 (List.map eI xs))])) = some (xs) := unenc_of encSo_inj (xs) rfl

def resSo1 (xs : List Int) : AV × Heap × List Nat := (.tup [], [(900, ⟨false, 3, 1, (F.srtI xs).map eI⟩)], [])

def preSo1 (xs : List Int) : Bool := decide (xs.length ≤ 100000)

noncomputable def oSo : OrcH := orcH 36 encSo (fun a => preSo1 a) fun a => resSo1 a

def encCpt1 (xs : List Int) : List AV × Heap := ([.own 900], [(900, ⟨false, 3, 1, xs.map eI⟩)])

def encCpt (a : (List Int)) : List AV × Heap := encCpt1 a

theorem encCpt_inj (a a' : (List Int)) (h : encCpt a = encCpt a') : a = a' := by
  simp only [encCpt, encCpt1] at h
  try simp [strs_inj, ints_inj, bools_inj, eCaps_inj, eCap_iff, eL_eCaps_inj, eMchs_inj, eMch_iff, eWrds_inj, eWrd_iff, eFnds_inj, eFnd_iff, eRatios_inj, eRatio_iff, eWays_inj, eWay_iff] at h
  grind

theorem unCpt (xs : List Int) : unenc encCpt (([.own 900], [(900, Blk.mk false 3 1 (List.map eI xs))])) = some (xs) := unenc_of encCpt_inj (xs) rfl

def resCpt1 (xs : List Int) : AV × Heap × List Nat := (.win 900 0 (F.cmpI xs).length, [(900, ⟨false, 3, 1, (F.cmpI xs ++ List.replicate (xs.length - (F.cmpI xs).length) 0).map eI⟩)], [])

def preCpt1 (xs : List Int) : Bool := decide (xs.length ≤ 100000)

noncomputable def oCpt : OrcH := orcH 37 encCpt (fun a => preCpt1 a) fun a => resCpt1 a

theorem okSo : OrcHOK Tryd.prog noG oSo := by
  refine orcH_ok ⟨Tryd.f36, by kernel_rfl, by kernel_rfl, by kernel_rfl⟩ (fun xs hp _ hk => ?_)
  have hp : xs.length ≤ 100000 := of_decide_eq_true hp
  have hk := ok_ints hk
  have hk2 : ∀ y ∈ F.srtI xs, okAtom (.int .i64 y) := fun y hy => hk y ((List.mergeSort_perm ..).subset hy)
  intro w S β cargs inv hargs
  match cargs, hargs with
  | [u], ⟨h1, _⟩ =>
    obtain ⟨X, hX, hr1, hr2⟩ := rv_ownk h1
    cases hr : X.real
    · obtain ⟨A, rfl⟩ := hr2 hr
      have := ints_nil inv hX hr
      subst this
      refine (Tryd.slices_Sort_int_none A 0 w).mono ?_
      rintro e w' ⟨rfl, rfl⟩
      have e0 : F.srtI [] = [] := by simp [F.srtI]
      have e1 : (resSo1 []).2.1 = [(900, ⟨false, 3, 1, ([] : List Int).map eI⟩)] := by unfold resSo1; rw [e0]
      exact ⟨_, S, β, rfl, Blw.refl _ _, fun _ h => h, fun _ h => .inl h, by rw [e1]; exact inv, fun _ _ _ _ h => h, [], rfl, trivial⟩
    · obtain ⟨g1, g2, g3, g4, g5, g6⟩ := ints_in inv hX hr
      rw [hr1 hr, g3]
      refine (Tryd.slices_Sort_int X.b 0 X.cap xs w g1 g2 (by omega)).mono ?_
      rintro e w' ⟨rfl, n, os, rfl⟩
      obtain ⟨k1, k2⟩ := ints_put (ys := F.srtI xs) inv hX hr (F.srtI_len xs) hk2 n os
      exact ⟨_, S, β, rfl, k1, fun _ h => h, fun _ h => .inl h, k2, fun _ _ _ _ h => h, [], rfl, trivial⟩

theorem mem_cmpI {xs : List Int} {y : Int} (h : y ∈ F.cmpI xs) : y ∈ xs := by
  unfold F.cmpI Lib.compact Lib.compactUpTo at h
  obtain ⟨i, hi, rfl⟩ := List.mem_map.1 h
  have hi := List.mem_range.1 (List.mem_filter.1 hi).1
  rw [getElem!_pos _ i (by simpa using hi)]
  simp

theorem okCpt : OrcHOK Tryd.prog noG oCpt := by
  refine orcH_ok ⟨Tryd.f37, by kernel_rfl, by kernel_rfl, by kernel_rfl⟩ (fun xs hp _ hk => ?_)
  have hp : xs.length ≤ 100000 := of_decide_eq_true hp
  have hk := ok_ints hk
  have hl := F.cmpI_len xs
  have hk2 : ∀ y ∈ F.cmpI xs ++ List.replicate (xs.length - (F.cmpI xs).length) 0, okAtom (.int .i64 y) := fun y hy => by
    rcases List.mem_append.1 hy with hy | hy
    · exact hk y (mem_cmpI hy)
    · rw [(List.mem_replicate.1 hy).2]; exact ⟨by decide, by decide⟩
  intro w S β cargs inv hargs
  match cargs, hargs with
  | [u], ⟨h1, _⟩ =>
    obtain ⟨X, hX, hr1, hr2⟩ := rv_ownk h1
    cases hr : X.real
    · obtain ⟨A, rfl⟩ := hr2 hr
      have := ints_nil inv hX hr
      subst this
      refine (Tryd.slices_Compact_int_empty A 0 w).mono ?_
      rintro e w' ⟨rfl, rfl⟩
      exact ⟨_, S, β, rfl, Blw.refl _ _, fun _ h => h, fun _ h => .inl h, inv, fun _ _ _ _ h => h, X, hX, A, 0, rfl, Nat.le_refl _, by omega, fun h => absurd rfl h⟩
    · obtain ⟨g1, g2, g3, g4, g5, g6⟩ := ints_in inv hX hr
      rw [hr1 hr, g3]
      refine (Tryd.slices_Compact_int X.b 0 X.cap xs w g1 (by omega) (by omega)).mono ?_
      rintro e w' ⟨rfl, n, rfl⟩
      obtain ⟨k1, k2⟩ := ints_put (ys := F.cmpI xs ++ List.replicate (xs.length - (F.cmpI xs).length) 0) inv hX hr (by rw [List.length_append, List.length_replicate]; omega) hk2 n #[]
      rw [grow_empty] at k1 k2
      refine ⟨_, S, β, rfl, k1, fun _ h => h, fun _ h => .inl h, k2, fun _ _ _ _ h => h, X, hX, _, _, rfl, ?_, g5, fun _ => ⟨hr, ?_, ?_⟩⟩
      · show (F.cmpI xs).length ≤ X.cap; omega
      · rw [Nat.zero_mul]
      · show 0 + (F.cmpI xs).length ≤ X.len; omega

end M
end Go.Proofs.YtdmccifaggmmkaaDoor
