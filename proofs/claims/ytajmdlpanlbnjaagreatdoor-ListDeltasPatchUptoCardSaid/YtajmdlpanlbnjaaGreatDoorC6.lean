/- What is proved here: the statement ListDeltasPatch where what it reads is of bulk at most 1048576: the law returns true, and each argument reads as it did; tied to the program's text where variables are listed. -/
import Derived.Test.YtajmdlpanlbnjaaGreatDoorRows
import Derived.Test.YtajmdlpanlbnjaaGreatDoorChecked
import Derived.Test.YtajmdlpanlbnjaaGreatDoorCards
import Derived.Test.YtajmdlpanlbnjaaGreatDoorTie
import Derived.SevenTiedAt
import Derived.Lay
import Derived.Test.YtajmdlpanlbnjaaGreatDoorC5

namespace Go.Proofs.YtajmdlpanlbnjaaGreatDoor
open Go.ChangeShapes Go.WideShapes Go.ChangeAt Go.RowKit Go.Deep M
open Go.ChangeMaps (open_string shut_string)
set_option linter.unusedVariables false

set_option maxRecDepth 100000 in
theorem listDeltasPatch_contract (H : Type) (enc : TypeId × Value → H) (W : World) (base : Nat) (args : Array Value) (ds gs : List (DataW H)) (before : List MemPlace)
    (hval0 : ∀ (j : Nat) t v, Tryz.f5.params[j]? = some t → args[j]? = some v → Value.okWide Tryz.prog W .any base t v)
    (hW : DataW.Whole enc Tryz.prog Tryz.f5.params.toList Rows.listDeltasPatchSpec.vars false W args.toList ds gs before) (hbulk : Rows.uptoBulkAll (ds ++ gs) ≤ 1048576)
    (hsz0 : (DataW.weightsEach Tryz.prog (Tryz.f5.params.toList ++ Rows.listDeltasPatchSpec.plain.varTypes Tryz.prog) (ds ++ gs)).all (· ≤ reachBytes) = true)
    (hL : laidMetH Tryz.prog Rows.listDeltasPatchUptoRow.laid W) (hsh : W.ShapedOpen Tryz.prog) :
    Calls Tryz.prog 5 args W fun e W' => ∃ v, e = .returned v ∧ Rows.listDeltasPatchSpec.post enc Tryz.prog Tryz.f5 false true false false W args v W' := by
  have hval : ∀ (j : Nat) t v, Tryz.f5.params[j]? = some t → args[j]? = some v → Value.okWide Tryz.prog W .any base t v := hval0
  have hW' := hW
  obtain ⟨p, q, hA0, hV, rfl, hfz, hnd⟩ := hW
  have hA : DataW.TrodAll enc Tryz.prog W 0 (fun _ => true) true Tryz.f5.params.toList args.toList ds p := hA0
  have hsz : ∀ n ∈ DataW.weightsEach Tryz.prog (Tryz.f5.params.toList ++ Rows.listDeltasPatchSpec.plain.varTypes Tryz.prog) (ds ++ gs), n ≤ reachBytes := by
    intro n hn; have := List.all_eq_true.1 hsz0 n hn; simpa using this
  rw [Tryz.params5] at hA hval hsz
  obtain ⟨v0, vs0, d0, ds0, p0, q0, hargs, rfl, rfl, h0, r0⟩ := trodAll_cons hA
  obtain ⟨v1, vs1, d1, ds1, p1, q1, rfl, rfl, rfl, h1, r1⟩ := trodAll_cons r0
  obtain ⟨rfl, rfl, rfl⟩ := trodAll_nil r1
  obtain rfl : args = #[v0, v1] := by cases args; simp_all
  obtain ⟨rfl, rfl⟩ := trodVars_none hV
  have bk0 : Rows.uptoBulk d0 ≤ 1048576 := Nat.le_trans (bulks.part_le (by simp)) hbulk
  obtain ⟨cs0, rfl, _⟩ := okWide_struct Tryz.underlying24 (hval 0 24 v0 rfl rfl)
  have b0 := h0
  have lt0 : ∀ x ∈ p0, x.block < W.heap.size := by obtain ⟨m, hm⟩ := b0; exact DataW.trod_lt m _ _ _ hm
  obtain ⟨fuel0, hf0⟩ := h0
  obtain ⟨x0, e0, k0⟩ := op_Lst H enc W fuel0 (Value.cells (.agg cs0)).toList _ _ hf0 (fun n hn => hsz n (weights_each (j := 0) rfl rfl n hn)) bk0
  have bk1 : Rows.uptoBulk d1 ≤ 1048576 := Nat.le_trans (bulks.part_le (by simp)) hbulk
  obtain ⟨A1, len1, cap1, rfl⟩ := okWide_slice Tryz.underlying46 (hval 1 46 v1 rfl rfl)
  have b1 := h1
  have lt1 : ∀ x ∈ p1, x.block < W.heap.size := by obtain ⟨m, hm⟩ := b1; exact DataW.trod_lt m _ _ _ hm
  obtain ⟨fuel1, hf1⟩ := h1
  obtain ⟨x1, e1, k1⟩ := op_sTrn H enc W fuel1 (Value.cells (.slice A1 len1 cap1)).toList _ _ hf1 (fun n hn => hsz n (weights_each (j := 1) rfl rfl n hn)) bk1
  clear hA0 hval0
  have hpre : preLDP1 x0 x1 = true := by exact List.all_eq_true.2 fun t ht => decide_eq_true (by have := k1; have h2 := k1.2 t ht; unfold kTrn kEnt at h2; simp only [KU] at h2; omega)
  have hspec := orc_at okLDP encLDP_inj (x0, x1) hpre
  refine (law_calls (W := W) (cargs := [.agg cs0, .slice A1 len1 cap1]) hspec (noG_at hsh hL) ⟨rv_agg_of e0, rv_sl_of e1, trivial⟩).mono fun e W1 ⟨he, bel⟩ => ?_
  subst he
  exact ⟨_, rfl, _, _, _, [], _, [], hW', trodAll_mk1 (shut_bool Tryz.underlying4 _), (trodAll_cons_mk (Below.trod laidOut (by kernel_rfl) (of_decide_eq_true (by kernel_rfl)) b0 bel lt0) (trodAll_cons_mk (Below.trod laidOut (by kernel_rfl) (of_decide_eq_true (by kernel_rfl)) b1 bel lt1) trodAll_mk0)), rfl, bel.frame _, fun h => by cases h⟩

theorem listDeltasPatch_reads (os : Os) {H : Type} (enc : TypeId × Value → H) : ∃ places, DataW.whole enc Tryz.prog ((World.laidAll Tryz.prog os Rows.listDeltasPatchUptoRow.laid).forCall (fun _ _ => 0) ⟨#[], #[.agg #[.int .i64 0, .int .i64 0, .int .i64 0, .slice none 0 0, .bool false], .slice none 0 0], []⟩).memory Tryz.f5.params.toList Rows.listDeltasPatchSpec.vars false (#[.agg #[.int .i64 0, .int .i64 0, .int .i64 0, .slice none 0 0, .bool false], .slice none 0 0] : Array Value).toList 8 = some ([.agg [.lit (.int .i64 0), .lit (.int .i64 0), .lit (.int .i64 0), .nil, .lit (.bool false)], .nil], [], places) :=
  ⟨[], by kernel_rfl⟩

theorem listDeltasPatch_met (os : Os) : laidMet Tryz.prog Rows.listDeltasPatchUptoRow.laid ((World.laidAll Tryz.prog os Rows.listDeltasPatchUptoRow.laid).forCall (fun _ _ => 0) ⟨#[], #[.agg #[.int .i64 0, .int .i64 0, .int .i64 0, .slice none 0 0, .bool false], .slice none 0 0], []⟩).memory := laidMet_laidAll _ (by kernel_rfl) (by kernel_rfl)

set_option maxRecDepth 100000 in
theorem listDeltasPatch_lifted (os : Os) (started : os.Started) (H : Type) (enc : TypeId × Value → H) (F : Stop.Interp) :
    ReturnsInHanded {} Tryz.checked os 5 .any ((Rows.OpenSpec.upto Rows.listDeltasPatchSpec).preRow enc Tryz.prog Tryz.f5 Rows.listDeltasPatchUptoRow.domain false Rows.listDeltasPatchUptoRow.laid) (((Rows.OpenSpec.upto Rows.listDeltasPatchSpec).at F).post enc Tryz.prog Tryz.f5 false true false false) := by
  obtain ⟨places, hx⟩ := listDeltasPatch_reads os enc
  refine returnsInHanded_of_row (C := Tryz.checked) (s := Rows.OpenSpec.upto Rows.listDeltasPatchSpec) own started (by kernel_rfl) Tryz.func5
    (witness_row_at (enc := enc) (C := Tryz.checked) false (World.laidAll Tryz.prog os Rows.listDeltasPatchUptoRow.laid) #[.agg #[.int .i64 0, .int .i64 0, .int .i64 0, .slice none 0 0, .bool false], .slice none 0 0] (World.laidAll_os _ _ _) (by kernel_rfl) (by kernel_rfl) (by kernel_rfl)
      (OpenSpec.preRow_of_cond 8 hx (by kernel_rfl) (fun k hk => by cases hk; kernel_rfl) (by kernel_rfl) (listDeltasPatch_met os))) ?_
  intro W base args ds gs before hval hW _ hcond hsz hL hsh _
  exact listDeltasPatch_contract H enc W base args ds gs before hval hW (bulks.bound (hcond _ rfl)) hsz hL hsh

theorem listDeltasPatch_upto : Rows.ListDeltasPatchUptoSaid :=
  OpenClaim.holds_of_cond 5 Tryz.f5 rfl rfl rfl rfl rfl rfl rfl ⟨rfl, rfl, rfl, rfl, rfl⟩ rfl rfl rfl rfl rfl (by kernel_rfl) Tryz.func5 (by kernel_rfl)
    (of_decide_eq_true (by kernel_rfl)) (by unfold Func.isWrapper; first | (rw [if_pos (by decide +kernel)]; kernel_rfl) | (rw [if_neg (by decide +kernel)]; exact ⟨rfl, rfl⟩))
    (fun os started H enc _ F => by rw [OpenClaim.pre_eq_preRow]; exact listDeltasPatch_lifted os started H enc F)
#print axioms listDeltasPatch_upto

theorem listDeltasPatch_plain (f : FuncId) (fn : Func) (hf : Tryz.pinned.checked.prog.funcNamed "headend/headendlaw6.ListDeltasPatch" = some f) (hfn : Tryz.pinned.checked.prog.funcs[f]? = some fn) :
    true = Tryz.pinned.checked.prog.looks [] ∧ ∀ (j : Nat) t, fn.params[j]? = some t → Tryz.pinned.checked.prog.wantsStandIn t = false := by
  obtain rfl : f = 5 := Option.some.inj ((show Tryz.prog.funcNamed "headend/headendlaw6.ListDeltasPatch" = some 5 by kernel_rfl).symm.trans hf) |>.symm
  obtain rfl : fn = Tryz.f5 := (Option.some.inj (Tryz.func5.symm.trans hfn)).symm
  refine ⟨by kernel_rfl, fun j t ht => ?_⟩
  rw [Tryz.params5] at ht
  have hm : t ∈ [24, 46] := by simpa using Array.mem_of_getElem? ht
  have hall : ([24, 46].all fun u => !Tryz.prog.wantsStandIn u) = true := by kernel_rfl
  exact (show Tryz.prog.wantsStandIn t = false by simpa using List.all_eq_true.1 hall t hm)

theorem listDeltasPatch_card : Rows.ListDeltasPatchUptoCardSaid :=
  Claim7.holds_tied_plain_at .later [] _ _ _ _ listDeltasPatch_upto (fun _ h => by cases h) (by kernel_rfl) (fun _ h => by cases h) listDeltasPatchUpto_row_tie rfl ⟨rfl, rfl⟩ (by kernel_rfl) rfl listDeltasPatch_plain (by kernel_rfl)
#print axioms listDeltasPatch_card
end Go.Proofs.YtajmdlpanlbnjaaGreatDoor
