/- What is proved here: the statement CaptionLongTextsMatchSpec where what it reads is of bulk at most 1048576: the law returns true, and each argument reads as it did; tied to the program's text where variables are listed. -/
import Derived.Test.YthcfbeckhgngiaaGreatDoorC154
import Derived.Test.YthcfbeckhgngiaaGreatDoorCOp
import Derived.Test.YthcfbeckhgngiaaGreatDoorCG4
import Derived.Test.YthcfbeckhgngiaaGreatDoorRows
import Derived.Test.YthcfbeckhgngiaaGreatDoorChecked
import Derived.Test.YthcfbeckhgngiaaGreatDoorCards
import Derived.Test.YthcfbeckhgngiaaGreatDoorTie
import Derived.SevenTiedAt
import Derived.Lay
namespace Go.Proofs.YthcfbeckhgngiaaGreatDoor
open Go.ChangeShapes Go.WideShapes Go.ChangeAt Go.RowKit Go.Deep M
open Go.ChangeMaps (open_string shut_string)
set_option linter.unusedVariables false

set_option maxRecDepth 100000 in
theorem captionLongTextsMatchSpec_contract (H : Type) (enc : TypeId × Value → H) (W : World) (base : Nat) (args : Array Value) (ds gs : List (DataW H)) (before : List MemPlace)
    (hval0 : ∀ (j : Nat) t v, Tryz.f4.params[j]? = some t → args[j]? = some v → Value.okWide Tryz.prog W .any base t v)
    (hW : DataW.Whole enc Tryz.prog Tryz.f4.params.toList Rows.captionLongTextsMatchSpecSpec.vars false W args.toList ds gs before) (hbulk : Rows.uptoBulkAll (ds ++ gs) ≤ 1048576)
    (hsz0 : (DataW.weightsEach Tryz.prog (Tryz.f4.params.toList ++ Rows.captionLongTextsMatchSpecSpec.plain.varTypes Tryz.prog) (ds ++ gs)).all (· ≤ reachBytes) = true)
    (hL : laidMetH Tryz.prog Rows.captionLongTextsMatchSpecUptoRow.laid W) (hsh : W.ShapedOpen Tryz.prog) :
    Calls Tryz.prog 4 args W fun e W' => ∃ v, e = .returned v ∧ Rows.captionLongTextsMatchSpecSpec.post enc Tryz.prog Tryz.f4 false true false false W args v W' := by
  have hval : ∀ (j : Nat) t v, Tryz.f4.params[j]? = some t → args[j]? = some v → Value.okWide Tryz.prog W .any base t v := hval0
  have hW' := hW
  obtain ⟨p, q, hA0, hV, rfl, hfz, hnd⟩ := hW
  have hA : DataW.TrodAll enc Tryz.prog W 0 (fun _ => true) true Tryz.f4.params.toList args.toList ds p := hA0
  have hsz : ∀ n ∈ DataW.weightsEach Tryz.prog (Tryz.f4.params.toList ++ Rows.captionLongTextsMatchSpecSpec.plain.varTypes Tryz.prog) (ds ++ gs), n ≤ reachBytes := by
    intro n hn; have := List.all_eq_true.1 hsz0 n hn; simpa using this
  rw [Tryz.params4] at hA hval hsz
  obtain ⟨v0, vs0, d0, ds0, p0, q0, hargs, rfl, rfl, h0, r0⟩ := trodAll_cons hA
  obtain ⟨rfl, rfl, rfl⟩ := trodAll_nil r0
  obtain rfl : args = #[v0] := by cases args; simp_all
  obtain ⟨rfl, rfl⟩ := trodVars_none hV
  have bk0 : Rows.uptoBulk d0 ≤ 1048576 := Nat.le_trans (bulks.part_le (by simp)) hbulk
  obtain ⟨A0, len0, cap0, rfl⟩ := okWide_slice Tryz.underlying22 (hval 0 22 v0 rfl rfl)
  have b0 := h0
  have lt0 : ∀ x ∈ p0, x.block < W.heap.size := by obtain ⟨m, hm⟩ := b0; exact DataW.trod_lt m _ _ _ hm
  obtain ⟨fuel0, hf0⟩ := h0
  obtain ⟨x0, e0, k0⟩ := op_sCap H enc W fuel0 (Value.cells (.slice A0 len0 cap0)).toList _ _ hf0 (fun n hn => hsz n (weights_each (j := 0) rfl rfl n hn)) bk0
  clear hA0 hval0
  have hpre : preLLt1 x0 = true := by exact List.all_eq_true.2 fun c hc => List.all_eq_true.2 fun s hs => (decide_eq_true (Nat.le_trans ((k0.2 c hc).2 s hs) (by decide)) : F.small s = true)
  have hspec := orc_at okLLt encLLt_inj x0 hpre
  refine (law_calls (W := W) (cargs := [.slice A0 len0 cap0]) hspec (noG_at hsh hL) ⟨rv_sl_of e0, trivial⟩).mono fun e W1 ⟨he, bel⟩ => ?_
  subst he
  exact ⟨_, rfl, _, _, _, [], _, [], hW', trodAll_mk1 (shut_bool Tryz.underlying4 _), (trodAll_cons_mk (Below.trod laidOut (by kernel_rfl) (of_decide_eq_true (by kernel_rfl)) b0 bel lt0) trodAll_mk0), rfl, bel.frame _, fun h => by cases h⟩

theorem captionLongTextsMatchSpec_reads (os : Os) {H : Type} (enc : TypeId × Value → H) : ∃ places, DataW.whole enc Tryz.prog ((World.laidAll Tryz.prog os Rows.captionLongTextsMatchSpecUptoRow.laid).forCall (fun _ _ => 0) ⟨#[], #[.slice none 0 0], []⟩).memory Tryz.f4.params.toList Rows.captionLongTextsMatchSpecSpec.vars false (#[.slice none 0 0] : Array Value).toList 8 = some ([.nil], [], places) :=
  ⟨[], by kernel_rfl⟩

theorem captionLongTextsMatchSpec_met (os : Os) : laidMet Tryz.prog Rows.captionLongTextsMatchSpecUptoRow.laid ((World.laidAll Tryz.prog os Rows.captionLongTextsMatchSpecUptoRow.laid).forCall (fun _ _ => 0) ⟨#[], #[.slice none 0 0], []⟩).memory := laidMet_laidAll _ (by kernel_rfl) (by kernel_rfl)

set_option maxRecDepth 100000 in
theorem captionLongTextsMatchSpec_lifted (os : Os) (started : os.Started) (H : Type) (enc : TypeId × Value → H) (F : Stop.Interp) :
    ReturnsInHanded {} Tryz.checked os 4 .any ((Rows.OpenSpec.upto Rows.captionLongTextsMatchSpecSpec).preRow enc Tryz.prog Tryz.f4 Rows.captionLongTextsMatchSpecUptoRow.domain false Rows.captionLongTextsMatchSpecUptoRow.laid) (((Rows.OpenSpec.upto Rows.captionLongTextsMatchSpecSpec).at F).post enc Tryz.prog Tryz.f4 false true false false) := by
  obtain ⟨places, hx⟩ := captionLongTextsMatchSpec_reads os enc
  refine returnsInHanded_of_row (C := Tryz.checked) (s := Rows.OpenSpec.upto Rows.captionLongTextsMatchSpecSpec) own started (by kernel_rfl) Tryz.func4
    (witness_row_at (enc := enc) (C := Tryz.checked) false (World.laidAll Tryz.prog os Rows.captionLongTextsMatchSpecUptoRow.laid) #[.slice none 0 0] (World.laidAll_os _ _ _) (by kernel_rfl) (by kernel_rfl) (by kernel_rfl)
      (OpenSpec.preRow_of_cond 8 hx (by kernel_rfl) (fun k hk => by cases hk; kernel_rfl) (by kernel_rfl) (captionLongTextsMatchSpec_met os))) ?_
  intro W base args ds gs before hval hW _ hcond hsz hL hsh _
  exact captionLongTextsMatchSpec_contract H enc W base args ds gs before hval hW (bulks.bound (hcond _ rfl)) hsz hL hsh

theorem captionLongTextsMatchSpec_upto : Rows.CaptionLongTextsMatchSpecUptoSaid :=
  OpenClaim.holds_of_cond 4 Tryz.f4 rfl rfl rfl rfl rfl rfl rfl ⟨rfl, rfl, rfl, rfl, rfl⟩ rfl rfl rfl rfl rfl (by kernel_rfl) Tryz.func4 (by kernel_rfl)
    (of_decide_eq_true (by kernel_rfl)) (by unfold Func.isWrapper; first | (rw [if_pos (by decide +kernel)]; kernel_rfl) | (rw [if_neg (by decide +kernel)]; exact ⟨rfl, rfl⟩))
    (fun os started H enc _ F => by rw [OpenClaim.pre_eq_preRow]; exact captionLongTextsMatchSpec_lifted os started H enc F)
#print axioms captionLongTextsMatchSpec_upto

theorem captionLongTextsMatchSpec_plain (f : FuncId) (fn : Func) (hf : Tryz.pinned.checked.prog.funcNamed "headend/headendlaw9.CaptionLongTextsMatchSpec" = some f) (hfn : Tryz.pinned.checked.prog.funcs[f]? = some fn) :
    true = Tryz.pinned.checked.prog.looks [] ∧ ∀ (j : Nat) t, fn.params[j]? = some t → Tryz.pinned.checked.prog.wantsStandIn t = false := by
  obtain rfl : f = 4 := Option.some.inj ((show Tryz.prog.funcNamed "headend/headendlaw9.CaptionLongTextsMatchSpec" = some 4 by kernel_rfl).symm.trans hf) |>.symm
  obtain rfl : fn = Tryz.f4 := (Option.some.inj (Tryz.func4.symm.trans hfn)).symm
  refine ⟨by kernel_rfl, fun j t ht => ?_⟩
  rw [Tryz.params4] at ht
  have hm : t ∈ [22] := by simpa using Array.mem_of_getElem? ht
  have hall : ([22].all fun u => !Tryz.prog.wantsStandIn u) = true := by kernel_rfl
  exact (show Tryz.prog.wantsStandIn t = false by simpa using List.all_eq_true.1 hall t hm)

theorem captionLongTextsMatchSpec_card : Rows.CaptionLongTextsMatchSpecUptoCardSaid :=
  Claim7.holds_tied_plain_at .later [] _ _ _ _ captionLongTextsMatchSpec_upto (fun _ h => by cases h) (by kernel_rfl) (fun _ h => by cases h) captionLongTextsMatchSpecUpto_row_tie rfl ⟨rfl, rfl⟩ (by kernel_rfl) rfl captionLongTextsMatchSpec_plain (by kernel_rfl)
#print axioms captionLongTextsMatchSpec_card
end Go.Proofs.YthcfbeckhgngiaaGreatDoor
