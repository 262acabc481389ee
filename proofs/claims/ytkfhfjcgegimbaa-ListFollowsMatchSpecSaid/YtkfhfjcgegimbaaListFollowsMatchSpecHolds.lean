/- What is proved here: the statement ListFollowsMatchSpec: for every input the law returns true, and each argument reads as it did. -/
import Derived.Test.YtkfhfjcgegimbaaFollows4
import Derived.Test.YtkfhfjcgegimbaaOpenList
import Derived.JoinedTies
namespace Go.Proofs.Ytkfhfjcgegimbaa
open Go.ChangeShapes Go.WideShapes Go.ChangeAt Go.RowKit Go.Deep
open Go.ChangeMaps (open_string shut_string)
set_option linter.unusedVariables false

set_option maxRecDepth 100000 in
theorem listFollowsMatchSpec_lifted (os : Os) (started : os.Started) (H : Type) (enc : TypeId × Value → H) :
    ReturnsInHanded {} Try.checked os 5 .any (Rows.listFollowsMatchSpecSpec.pre6 enc Try.prog Try.f5 Rows.listFollowsMatchSpecRow.domain false) (Rows.listFollowsMatchSpecSpec.post enc Try.prog Try.f5 false true false false) := by
  refine returnsInHanded_of_change_sized (C := Try.checked) own started (by kernel_rfl) Try.func5
    (ChangeSpec.witness6 (enc := enc) (C := Try.checked) false ⟨#[], #[.agg #[.int .i64 0, .int .i64 0, .int .i64 0, .slice none 0 0, .bool false], .agg #[.int .i64 0, .int .i64 0, .int .i64 0, .slice none 0 0, .bool false]], []⟩ 8 (by kernel_rfl) (by kernel_rfl) (by kernel_rfl) (by kernel_rfl)) ?_
  intro W base args ds gs before hval0 hW hcnd hsz0 _
  have hval : ∀ (j : Nat) t v, Try.f5.params[j]? = some t → args[j]? = some v → Value.okWide Try.prog W .any base t v := hval0
  have hW' := hW
  obtain ⟨p, q, hA0, hV, rfl, hfz, hnd⟩ := hW
  have hA : DataW.TrodAll enc Try.prog W 0 (fun _ => true) true Try.f5.params.toList args.toList ds p := hA0
  have hsz : ∀ n ∈ DataW.weightsEach Try.prog (Try.f5.params.toList ++ Rows.listFollowsMatchSpecSpec.plain.varTypes Try.prog) (ds ++ gs), n ≤ reachBytes := by
    intro n hn; have := List.all_eq_true.1 hsz0 n hn; simpa using this
  rw [Try.params5] at hA hval hsz
  obtain ⟨v0, vs0, d0, ds0, p0, q0, hargs, rfl, rfl, h0, r0⟩ := trodAll_cons hA
  obtain ⟨v1, vs1, d1, ds1, p1, q1, rfl, rfl, rfl, h1, r1⟩ := trodAll_cons r0
  obtain ⟨rfl, rfl, rfl⟩ := trodAll_nil r1
  obtain rfl : args = #[v0, v1] := by cases args; simp_all
  obtain ⟨rfl, rfl⟩ := trodVars_none hV
  obtain ⟨cs0, rfl, _⟩ := okWide_struct Try.underlying24 (hval 0 24 v0 rfl rfl)
  have k0 := h0
  have lt0 : ∀ x ∈ p0, x.block < W.heap.size := by obtain ⟨m, hm⟩ := k0; exact DataW.trod_lt m _ _ _ hm
  obtain ⟨x0, hx0⟩ : ∃ x, lstR W (In W) x (Value.cells (.agg cs0)).toList := by
    obtain ⟨fuel, hf⟩ := h0
    exact opLst H enc W fuel _ _ _ hf fun n hn => hsz n (weights_each (j := 0) rfl rfl n hn)
  obtain ⟨cs1, rfl, _⟩ := okWide_struct Try.underlying24 (hval 1 24 v1 rfl rfl)
  have k1 := h1
  have lt1 : ∀ x ∈ p1, x.block < W.heap.size := by obtain ⟨m, hm⟩ := k1; exact DataW.trod_lt m _ _ _ hm
  obtain ⟨x1, hx1⟩ : ∃ x, lstR W (In W) x (Value.cells (.agg cs1)).toList := by
    obtain ⟨fuel, hf⟩ := h1
    exact opLst H enc W fuel _ _ _ hf fun n hn => hsz n (weights_each (j := 1) rfl rfl n hn)
  clear hA0 hval0
  obtain ⟨vv, hcs, i1, i2, i3, A, c, rfl, l1, l2, l3, hS⟩ := hx0
  obtain rfl : cs0 = #[.int .i64 x0.target, .int .i64 x0.first, .int .i64 x0.breaks, .slice A x0.entries.length c, .bool x0.ended] := by
    cases cs0; simpa [Value.cells] using hcs
  obtain ⟨vv, hcs1, j1, j2, j3, A1, c1, rfl, m1, m2, m3, hS1⟩ := hx1
  obtain rfl : cs1 = #[.int .i64 x1.target, .int .i64 x1.first, .int .i64 x1.breaks, .slice A1 x1.entries.length c1, .bool x1.ended] := by
    cases cs1; simpa [Value.cells] using hcs1
  refine (listFollows_walk x0 x1 A A1 c c1 W (by omega) (by omega) hS hS1).mono fun e W1 ⟨he, bel⟩ => ?_
  subst he
  exact ⟨_, rfl, _, _, _, [], _, [], hW', trodAll_mk1 (shut_bool Try.underlying4 _), (trodAll_cons_mk (Below.trod laidOut (by kernel_rfl) (of_decide_eq_true (by kernel_rfl)) k0 bel lt0) (trodAll_cons_mk (Below.trod laidOut (by kernel_rfl) (of_decide_eq_true (by kernel_rfl)) k1 bel lt1) trodAll_mk0)), rfl, bel.frame _, fun h => by cases h⟩

theorem listFollowsMatchSpec_holds : Rows.ListFollowsMatchSpecSaid :=
  OpenClaim.holds_of_wide 5 Try.f5 rfl rfl rfl rfl rfl rfl rfl ⟨rfl, rfl, rfl, rfl, rfl⟩ rfl rfl rfl rfl rfl (by kernel_rfl) Try.func5 (by kernel_rfl)
    (of_decide_eq_true (by kernel_rfl)) (by unfold Func.isWrapper; first | (rw [if_pos (by decide +kernel)]; kernel_rfl) | (rw [if_neg (by decide +kernel)]; exact ⟨rfl, rfl⟩))
    (fun os started H enc _ => listFollowsMatchSpec_lifted os started H enc)
#print axioms listFollowsMatchSpec_holds
end Go.Proofs.Ytkfhfjcgegimbaa
