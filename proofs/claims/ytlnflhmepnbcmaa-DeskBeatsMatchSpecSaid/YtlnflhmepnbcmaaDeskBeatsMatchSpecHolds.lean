/- What is proved here: the statement DeskBeatsMatchSpec: for every input the law returns true, and each argument reads as it did. -/
import Derived.Test.YtlnflhmepnbcmaaB77
import Derived.Test.YtlnflhmepnbcmaaBOp
import Derived.Test.YtlnflhmepnbcmaaRows
import Derived.Test.YtlnflhmepnbcmaaChecked
namespace Go.Proofs.Ytlnflhmepnbcmaa
open Go.ChangeShapes Go.WideShapes Go.ChangeAt Go.RowKit Go.Deep M
open Go.ChangeMaps (open_string shut_string)
set_option linter.unusedVariables false

set_option maxRecDepth 100000 in
theorem deskBeatsMatchSpec_lifted (os : Os) (started : os.Started) (H : Type) (enc : TypeId × Value → H) :
    ReturnsInHanded {} Try.checked os 3 .any (Rows.deskBeatsMatchSpecSpec.pre6 enc Try.prog Try.f3 Rows.deskBeatsMatchSpecRow.domain false) (Rows.deskBeatsMatchSpecSpec.post enc Try.prog Try.f3 false true false false) := by
  refine returnsInHanded_of_change_sized (C := Try.checked) own started (by kernel_rfl) Try.func3
    (ChangeSpec.witness6 (enc := enc) (C := Try.checked) false ⟨#[], #[.slice none 0 0, .slice none 0 0], []⟩ 8 (by kernel_rfl) (by kernel_rfl) (by kernel_rfl) (by kernel_rfl)) ?_
  intro W base args ds gs before hval0 hW hcnd hsz0 _
  have hval : ∀ (j : Nat) t v, Try.f3.params[j]? = some t → args[j]? = some v → Value.okWide Try.prog W .any base t v := hval0
  have hW' := hW
  obtain ⟨p, q, hA0, hV, rfl, hfz, hnd⟩ := hW
  have hA : DataW.TrodAll enc Try.prog W 0 (fun _ => true) true Try.f3.params.toList args.toList ds p := hA0
  have hsz : ∀ n ∈ DataW.weightsEach Try.prog (Try.f3.params.toList ++ Rows.deskBeatsMatchSpecSpec.plain.varTypes Try.prog) (ds ++ gs), n ≤ reachBytes := by
    intro n hn; have := List.all_eq_true.1 hsz0 n hn; simpa using this
  rw [Try.params3] at hA hval hsz
  obtain ⟨v0, vs0, d0, ds0, p0, q0, hargs, rfl, rfl, h0, r0⟩ := trodAll_cons hA
  obtain ⟨v1, vs1, d1, ds1, p1, q1, rfl, rfl, rfl, h1, r1⟩ := trodAll_cons r0
  obtain ⟨rfl, rfl, rfl⟩ := trodAll_nil r1
  obtain rfl : args = #[v0, v1] := by cases args; simp_all
  obtain ⟨rfl, rfl⟩ := trodVars_none hV
  obtain ⟨A0, len0, cap0, rfl⟩ := okWide_slice Try.underlying22 (hval 0 22 v0 rfl rfl)
  have b0 := h0
  have lt0 : ∀ x ∈ p0, x.block < W.heap.size := by obtain ⟨m, hm⟩ := b0; exact DataW.trod_lt m _ _ _ hm
  obtain ⟨fuel0, hf0⟩ := h0
  obtain ⟨x0, e0, k0⟩ := op_sBeat H enc W fuel0 (Value.cells (.slice A0 len0 cap0)).toList _ _ hf0 fun n hn => hsz n (weights_each (j := 0) rfl rfl n hn)
  obtain ⟨A1, len1, cap1, rfl⟩ := okWide_slice Try.underlying22 (hval 1 22 v1 rfl rfl)
  have b1 := h1
  have lt1 : ∀ x ∈ p1, x.block < W.heap.size := by obtain ⟨m, hm⟩ := b1; exact DataW.trod_lt m _ _ _ hm
  obtain ⟨fuel1, hf1⟩ := h1
  obtain ⟨x1, e1, k1⟩ := op_sBeat H enc W fuel1 (Value.cells (.slice A1 len1 cap1)).toList _ _ hf1 fun n hn => hsz n (weights_each (j := 1) rfl rfl n hn)
  clear hA0 hval0
  have hpre : preLBs1 x0 x1 = true := by rfl
  have hspec := orc_at okLBs encLBs_inj (x0, x1) hpre
  refine (law_calls (W := W) (cargs := [.slice A0 len0 cap0, .slice A1 len1 cap1]) hspec (fun _ _ h => by cases h) ⟨rv_sl_of e0, rv_sl_of e1, trivial⟩).mono fun e W1 ⟨he, bel⟩ => ?_
  subst he
  exact ⟨_, rfl, _, _, _, [], _, [], hW', trodAll_mk1 (shut_bool Try.underlying4 _), (trodAll_cons_mk (Below.trod laidOut (by kernel_rfl) (of_decide_eq_true (by kernel_rfl)) b0 bel lt0) (trodAll_cons_mk (Below.trod laidOut (by kernel_rfl) (of_decide_eq_true (by kernel_rfl)) b1 bel lt1) trodAll_mk0)), rfl, bel.frame _, fun h => by cases h⟩

theorem deskBeatsMatchSpec_holds : Rows.DeskBeatsMatchSpecSaid :=
  OpenClaim.holds_of_wide 3 Try.f3 rfl rfl rfl rfl rfl rfl rfl ⟨rfl, rfl, rfl, rfl, rfl⟩ rfl rfl rfl rfl rfl (by kernel_rfl) Try.func3 (by kernel_rfl)
    (of_decide_eq_true (by kernel_rfl)) (by unfold Func.isWrapper; first | (rw [if_pos (by decide +kernel)]; kernel_rfl) | (rw [if_neg (by decide +kernel)]; exact ⟨rfl, rfl⟩))
    (fun os started H enc _ => deskBeatsMatchSpec_lifted os started H enc)
#print axioms deskBeatsMatchSpec_holds
end Go.Proofs.Ytlnflhmepnbcmaa
