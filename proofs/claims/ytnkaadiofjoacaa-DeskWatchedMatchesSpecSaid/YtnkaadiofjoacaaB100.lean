/- What is proved here: the contract of slices.Grow of the nil slice, at integers (no statement of the seat). -/
import Derived.Test.YtnkaadiofjoacaaB91
import Derived.WalkKit
import Derived.Lib.Walk
import Derived.Lib.SliceRun
import Derived.Lib.AppendZeros
import Derived.Lib.AppendZerosOnto
import Derived.Laws.Externs
namespace Go.Proofs.Ytnkaadiofjoacaa
open Go Go.RowKit Go.Lib
set_option linter.unusedVariables false
set_option linter.unusedSimpArgs false
set_option maxHeartbeats 4000000
set_option maxRecDepth 100000

theorem growI_zero (A : Option Addr) (w : World) :
    Calls Try.prog 60 #[.slice A 0 0, .int .i64 0] w fun e w' => e = .returned (.slice A 0 0) ∧ w' = w := by
  go_enter Try.func60, Try.ntmps60
  go_wp2
  go_ret
  exact ⟨rfl, rfl⟩

theorem growI_nil (A : Option Addr) (n : Nat) (h0 : 0 < n) (hn : n ≤ 100000) (w : World) :
    Calls Try.prog 60 #[.slice A 0 0, .int .i64 n] w fun e w' =>
      ∃ (G : Nat) (R : List Value), G ≤ 9223372036854775807 ∧ R.length = G ∧ e = .returned (.slice (some ⟨w.heap.size, 0, none⟩) 0 G) ∧ w' = w.drew.alloc (.cells R.toArray 3) := by
  obtain ⟨i0, hi0, hz0, hzs, hzb⟩ := info_parts (show (Try.prog.info? 3).map (fun i => (i.zero, i.size, i.bytes)) = some (some (.int .i64 0), 1, 8) by kernel_rfl)
  have h1 : ¬ ((n : Int) < 0) := by omega
  have h3 : IntKind.i64.wrap (n : Int) = (n : Int) := by rw [IntKind.wrap_i64]; omega
  have h4 : (n : Int) > 0 := by omega
  have hold : (Builtin.firstCells i0.size 0 (.slice A 0 0)).run Try.prog w.drew = .ok #[] w.drew := by
    cases A with
    | none => exact run_firstCells_none _ _ _ _ _
    | some a => exact run_firstCells_some _ i0.size 0 a 0 0 [] (by simp) (fun j v hj => by simp at hj)
  have hrz : ∀ ty, (Builtin.append_ #[75, 3] ty #[.slice A 0 0, .int .i64 (n : Int)]).run Try.prog w =
      .ok (.slice (some ⟨w.heap.size, 0, none⟩) n (grownCap w n 0 3)) (w.drew.alloc (.cells (#[] ++ Builtin.zeroCells (Value.cells (.int .i64 0)) n ++ Builtin.zeroCells (Value.cells (.int .i64 0)) (grownCap w n 0 3 - n)) 3)) := fun ty => by
    have h := Lib.run_append_grow_zeros w 75 3 ty 3 i0 _ .i64 .i64 lv_undSI (by kernel_rfl) hi0 hz0 A 0 0 [] hold n h0 (by rw [hzs]; decide) (by omega) (by omega) (by rw [hzb]; omega) (by rw [hzb, Nat.zero_add]; exact growslice_fits h0 (by omega))
    rw [Nat.zero_add] at h
    exact h
  have hGn : n ≤ grownCap w n 0 3 := grownCap_ge w _ _ _
  have hG63 : grownCap w n 0 3 ≤ 9223372036854775807 := by
    have := grownCap_le_maxLen w n 0 3 (by unfold maxLen; omega)
    unfold maxLen at this
    omega
  generalize grownCap w n 0 3 = G at hrz hGn hG63
  obtain ⟨R, hR⟩ : ∃ R : List Value, R = (#[] ++ Builtin.zeroCells (Value.cells (.int .i64 0)) n ++ Builtin.zeroCells (Value.cells (.int .i64 0)) (G - n)).toList := ⟨_, rfl⟩
  have hRl : R.length = G := by
    rw [hR]
    have e : (Value.cells (.int .i64 0)).size = 1 := by rfl
    simp only [Array.toList_append, List.length_append, Array.length_toList, size_zeroCells, e]
    simp
    omega
  rw [show #[] ++ Builtin.zeroCells (Value.cells (.int .i64 0)) n ++ Builtin.zeroCells (Value.cells (.int .i64 0)) (G - n) = R.toArray by rw [hR, Array.toArray_toList]] at hrz
  clear hR
  go_enter Try.func60, Try.ntmps60
  cases A with
  | none =>
    go_wp2_with (at_builtin; refine Lib.wpList_append_run _ rfl _ _ _ _ rfl _ _ rfl rfl _ _ (hrz _) ?_)
    all_goals (go_ret; exact ⟨G, hG63, R, hRl, rfl, rfl⟩)
  | some a =>
    obtain ⟨ab, ao, asp⟩ := a
    go_wp2_with (at_builtin; refine Lib.wpList_append_run _ rfl _ _ _ _ rfl _ _ rfl rfl _ _ (hrz _) ?_)
    all_goals (go_ret; exact ⟨G, hG63, R, hRl, rfl, rfl⟩)

namespace M

def encGrI1 (n : Nat) : List AV × Heap := ([.e0, vI n], [])

def encGrI (a : Nat) : List AV × Heap := encGrI1 a

theorem encGrI_inj (a a' : Nat) (h : encGrI a = encGrI a') : a = a' := by
  simp only [encGrI, encGrI1] at h
  try simp [strs_inj, ints_inj, bools_inj, eL_eIs_inj, eBeats_inj, eBeat_iff, eL_eBeats_inj, eSpans_inj, eSpan_iff, eHoles_inj, eHole_iff, eLevels_inj, eLevel_iff, eFigss_inj, eFigs_iff, eRatios_inj, eRatio_iff, eReps_inj, eRep_iff, eStays_inj, eStay_iff] at h
  grind

theorem unGrI (n : Nat) : unenc encGrI (([AV.e0, (vI (↑n : Int))], [])) = some (n) := unenc_of encGrI_inj (n) rfl

def resGrI1 (n : Nat) : AV × Heap × List Nat := (.own 0, [(0, ⟨false, 3, 1, []⟩)], [])

def preGrI1 (n : Nat) : Bool := decide (n ≤ 100000)

noncomputable def oGrI : OrcH := orcH 60 encGrI (fun a => preGrI1 a) fun a => resGrI1 a

theorem inK_neI {k : Nat} (h : inK k) : k ≠ 0 := by
  intro e; subst e; simp [inK] at h

theorem okGrI : OrcHOK Try.prog noG oGrI := by
  refine orcH_ok ⟨Try.f60, by kernel_rfl, by kernel_rfl, by kernel_rfl⟩ (fun n hp _ _ => ?_)
  have hp : n ≤ 100000 := of_decide_eq_true hp
  intro w S β cargs inv hargs
  match cargs, hargs with
  | [u, vn], ⟨h1, h2, _⟩ =>
    obtain ⟨A, rfl⟩ : ∃ A, u = .slice A 0 0 := h1
    have hvn : vn = .int .i64 n := (rv_v h2).1
    subst hvn
    have hβ : ∀ k x, β k = some x → False := fun k x hx => by
      obtain ⟨bl, hb, _⟩ := inv.dom k x hx
      cases hb
    by_cases h0 : n = 0
    · subst h0
      refine (growI_zero A w).mono ?_
      rintro e w' ⟨rfl, rfl⟩
      obtain ⟨i1, g1⟩ := inv_virt (E := enSty) inv (d := 0) ⟨rfl, by decide⟩ 3 1
      exact ⟨_, S, _, rfl, Blw.refl _ _, fun _ h => h, fun _ h => .inl h, i1, fun k x hk _ hx => by rw [upd_ne β _ (inK_neI hk)] at hx; exact hx, _, upd_self _ _ _, fun h => (by cases h), fun _ => ⟨A, rfl⟩⟩
    · refine (growI_nil A n (by omega) hp w).mono ?_
      rintro e w' ⟨G, R, g1, g2, rfl, rfl⟩
      have hsz : (w.drew.alloc (.cells R.toArray 3)).heap.size = w.heap.size + 1 := by
        show (w.heap.push _).size = _
        simp
      have hO : ∀ b, b < w.heap.size → (w.drew.alloc (.cells R.toArray 3)).heap[b]? = w.heap[b]? := fun b hb => by
        show (w.heap.push _)[b]? = _
        rw [Array.getElem?_push, if_neg (by omega)]
      have hN : (w.drew.alloc (.cells R.toArray 3)).heap[w.heap.size]? = some (.cells R.toArray 3 (0, 0)) := by
        show (w.heap.push _)[w.heap.size]? = _
        simp
      have hB : Blw (ownFree w β) w (w.drew.alloc (.cells R.toArray 3)) := ⟨rfl, rfl, rfl, by rw [hsz]; omega, fun b hb => hO b hb.1⟩
      generalize w.drew.alloc (.cells R.toArray 3) = w' at hsz hO hN hB
      have g : GrK (ownFree w β) [0] w S β w' S (upd β 0 ⟨true, w.heap.size, 0, G, 1⟩) := ⟨hB, fun b hb => hO b (inv.lt b hb), fun _ h => h, fun _ h => .inl h, fun k x hk hx => (hβ k x hx).elim, fun k x _ hk hx => by rw [upd_ne β _ (by simpa using hk)] at hx; exact hx⟩
      have fin := inv_put (E := enSty) inv (j := 0) ⟨true, w.heap.size, 0, G, 1⟩ ⟨false, 3, 1, []⟩ rfl g (fun k y hk hy hyr => (hβ k y hy).elim) (.inr (Nat.le_refl _)) (by rw [hsz]; exact Nat.lt_succ_self _)
        ⟨R.toArray, 3, hN, by rw [List.size_toArray, g2, Nat.mul_one], rfl, Nat.zero_le _, g1, fun _ => ⟨rfl, rfl⟩, (fun h => by cases h), fun q row hq => absurd hq (by simp)⟩
      exact ⟨_, S, _, rfl, hB, fun _ h => h, fun _ h => .inl h, fin, fun k x hk _ hx => by rw [upd_ne β _ (inK_neI hk)] at hx; exact hx, _, upd_self _ _ _, fun _ => rfl, fun h => (by cases h)⟩

end M
end Go.Proofs.Ytnkaadiofjoacaa
