/- What is proved here: the contract of slices.Compact at integers (no statement of the seat). -/
import Derived.Test.YtnkaadiofjoacaaB101
namespace Go.Proofs.Ytnkaadiofjoacaa
open Go Go.RowKit Go.Sort
set_option linter.unusedVariables false
set_option linter.unusedSimpArgs false

/-- Without repeats. -/
def F.cmpI (xs : List Int) : List Int := Lib.compact xs

theorem F.cmpI_len (xs : List Int) : (F.cmpI xs).length ≤ xs.length := by
  unfold F.cmpI Lib.compact Lib.compactUpTo
  rw [List.length_map]
  refine Nat.le_trans (List.length_filter_le ..) ?_
  simp

namespace M

def encCpt1 (xs : List Int) : List AV × Heap := ([.own 900], [(900, ⟨false, 3, 1, xs.map eI⟩)])

def encCpt (a : (List Int)) : List AV × Heap := encCpt1 a

theorem encCpt_inj (a a' : (List Int)) (h : encCpt a = encCpt a') : a = a' := by
  simp only [encCpt, encCpt1] at h
  try simp [strs_inj, ints_inj, bools_inj, eL_eIs_inj, eBeats_inj, eBeat_iff, eL_eBeats_inj, eSpans_inj, eSpan_iff, eHoles_inj, eHole_iff, eLevels_inj, eLevel_iff, eFigss_inj, eFigs_iff, eRatios_inj, eRatio_iff, eReps_inj, eRep_iff, eStays_inj, eStay_iff] at h
  grind

theorem unCpt (xs : List Int) : unenc encCpt (([.own 900], [(900, Blk.mk false 3 1 (List.map eI xs))])) = some (xs) := unenc_of encCpt_inj (xs) rfl

def resCpt1 (xs : List Int) : AV × Heap × List Nat := (.win 900 0 (F.cmpI xs).length, [(900, ⟨false, 3, 1, (F.cmpI xs ++ List.replicate (xs.length - (F.cmpI xs).length) 0).map eI⟩)], [])

def preCpt1 (xs : List Int) : Bool := decide (xs.length ≤ 100000)

noncomputable def oCpt : OrcH := orcH 51 encCpt (fun a => preCpt1 a) fun a => resCpt1 a

theorem mem_cmpI {xs : List Int} {y : Int} (h : y ∈ F.cmpI xs) : y ∈ xs := by
  unfold F.cmpI Lib.compact Lib.compactUpTo at h
  obtain ⟨i, hi, rfl⟩ := List.mem_map.1 h
  have hi := List.mem_range.1 (List.mem_filter.1 hi).1
  rw [getElem!_pos _ i (by simpa using hi)]
  simp

theorem okCpt : OrcHOK Try.prog noG oCpt := by
  refine orcH_ok ⟨Try.f51, by kernel_rfl, by kernel_rfl, by kernel_rfl⟩ (fun xs hp _ hk => ?_)
  have hp : xs.length ≤ 100000 := of_decide_eq_true hp
  have hk := ok_ints hk
  have hl := F.cmpI_len xs
  have hk2 : ∀ y ∈ F.cmpI xs ++ List.replicate (xs.length - (F.cmpI xs).length) 0, okAtom (.int .i64 y) := fun y hy => by
    rcases List.mem_append.1 hy with hy | hy
    · exact hk y (mem_cmpI hy)
    · rw [(List.mem_replicate.1 hy).2]; exact ⟨by decide, by decide⟩
  intro w S β cargs inv hargs
  match cargs, hargs with
  | [u], ⟨h1, _⟩ =>
    obtain ⟨X, hX, hr1, hr2⟩ := rv_ownk h1
    cases hr : X.real
    · obtain ⟨A, rfl⟩ := hr2 hr
      have := ints_nil inv hX hr
      subst this
      refine (Try.slices_Compact_int_empty A 0 w).mono ?_
      rintro e w' ⟨rfl, rfl⟩
      exact ⟨_, S, β, rfl, Blw.refl _ _, fun _ h => h, fun _ h => .inl h, inv, fun _ _ _ _ h => h, X, hX, A, 0, rfl, Nat.le_refl _, by omega, fun h => absurd rfl h⟩
    · obtain ⟨g1, g2, g3, g4, g5, g6⟩ := ints_in inv hX hr
      rw [hr1 hr, g3]
      refine (Try.slices_Compact_int X.b 0 X.cap xs w g1 (by omega) (by omega)).mono ?_
      rintro e w' ⟨rfl, n, rfl⟩
      obtain ⟨k1, k2⟩ := ints_put (ys := F.cmpI xs ++ List.replicate (xs.length - (F.cmpI xs).length) 0) inv hX hr (by rw [List.length_append, List.length_replicate]; omega) hk2 n #[]
      rw [grow_empty] at k1 k2
      refine ⟨_, S, β, rfl, k1, fun _ h => h, fun _ h => .inl h, k2, fun _ _ _ _ h => h, X, hX, _, _, rfl, ?_, g5, fun _ => ⟨hr, ?_, ?_⟩⟩
      · show (F.cmpI xs).length ≤ X.cap; omega
      · rw [Nat.zero_mul]
      · show 0 + (F.cmpI xs).length ≤ X.len; omega

end M
end Go.Proofs.Ytnkaadiofjoacaa
