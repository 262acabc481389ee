/- What is proved here: the statement CaptionShortTextsMatchSpec where what it reads is of bulk at most 1048576: the law returns true, and each argument reads as it did; tied to the program's text where variables are listed. -/
import Derived.Test.YthcfbeckhgngiaaDoorC149
import Derived.Test.YthcfbeckhgngiaaDoorCOp
import Derived.Test.YthcfbeckhgngiaaDoorCG4
import Derived.Test.YthcfbeckhgngiaaDoorRows
import Derived.Test.YthcfbeckhgngiaaDoorChecked
import Derived.Test.YthcfbeckhgngiaaDoorCards
import Derived.Test.YthcfbeckhgngiaaDoorTie
import Derived.SevenTiedAt
import Derived.Lay
namespace Go.Proofs.YthcfbeckhgngiaaDoor
open Go.ChangeShapes Go.WideShapes Go.ChangeAt Go.RowKit Go.Deep M
open Go.ChangeMaps (open_string shut_string)
set_option linter.unusedVariables false

set_option maxRecDepth 100000 in
theorem captionShortTextsMatchSpec_contract (H : Type) (enc : TypeId × Value → H) (W : World) (base : Nat) (args : Array Value) (ds gs : List (DataW H)) (before : List MemPlace)
    (hval0 : ∀ (j : Nat) t v, Tryd.f4.params[j]? = some t → args[j]? = some v → Value.okWide Tryd.prog W .any base t v)
    (hW : DataW.Whole enc Tryd.prog Tryd.f4.params.toList Rows.captionShortTextsMatchSpecSpec.vars false W args.toList ds gs before) (hbulk : Rows.uptoBulkAll (ds ++ gs) ≤ 1048576)
    (hsz0 : (DataW.weightsEach Tryd.prog (Tryd.f4.params.toList ++ Rows.captionShortTextsMatchSpecSpec.plain.varTypes Tryd.prog) (ds ++ gs)).all (· ≤ reachBytes) = true)
    (hL : laidMetH Tryd.prog Rows.captionShortTextsMatchSpecUptoRow.laid W) (hsh : W.ShapedOpen Tryd.prog) :
    Calls Tryd.prog 4 args W fun e W' => ∃ v, e = .returned v ∧ Rows.captionShortTextsMatchSpecSpec.post enc Tryd.prog Tryd.f4 false true false false W args v W' := by
  have hval : ∀ (j : Nat) t v, Tryd.f4.params[j]? = some t → args[j]? = some v → Value.okWide Tryd.prog W .any base t v := hval0
  have hW' := hW
  obtain ⟨p, q, hA0, hV, rfl, hfz, hnd⟩ := hW
  have hA : DataW.TrodAll enc Tryd.prog W 0 (fun _ => true) true Tryd.f4.params.toList args.toList ds p := hA0
  have hsz : ∀ n ∈ DataW.weightsEach Tryd.prog (Tryd.f4.params.toList ++ Rows.captionShortTextsMatchSpecSpec.plain.varTypes Tryd.prog) (ds ++ gs), n ≤ reachBytes := by
    intro n hn; have := List.all_eq_true.1 hsz0 n hn; simpa using this
  rw [Tryd.params4] at hA hval hsz
  obtain ⟨v0, vs0, d0, ds0, p0, q0, hargs, rfl, rfl, h0, r0⟩ := trodAll_cons hA
  obtain ⟨rfl, rfl, rfl⟩ := trodAll_nil r0
  obtain rfl : args = #[v0] := by cases args; simp_all
  obtain ⟨rfl, rfl⟩ := trodVars_none hV
  have bk0 : Rows.uptoBulk d0 ≤ 1048576 := Nat.le_trans (bulks.part_le (by simp)) hbulk
  obtain ⟨A0, len0, cap0, rfl⟩ := okWide_slice Tryd.underlying22 (hval 0 22 v0 rfl rfl)
  have b0 := h0
  have lt0 : ∀ x ∈ p0, x.block < W.heap.size := by obtain ⟨m, hm⟩ := b0; exact DataW.trod_lt m _ _ _ hm
  obtain ⟨fuel0, hf0⟩ := h0
  obtain ⟨x0, e0, k0⟩ := op_sCap H enc W fuel0 (Value.cells (.slice A0 len0 cap0)).toList _ _ hf0 (fun n hn => hsz n (weights_each (j := 0) rfl rfl n hn)) bk0
  clear hA0 hval0
  have hpre : preLSt1 x0 = true := by exact List.all_eq_true.2 fun c hc => List.all_eq_true.2 fun s hs => (decide_eq_true (Nat.le_trans ((k0.2 c hc).2 s hs) (by decide)) : F.small s = true)
  have hspec := orc_at okLSt encLSt_inj x0 hpre
  refine (law_calls (W := W) (cargs := [.slice A0 len0 cap0]) hspec (noG_at hsh hL) ⟨rv_sl_of e0, trivial⟩).mono fun e W1 ⟨he, bel⟩ => ?_
  subst he
  exact ⟨_, rfl, _, _, _, [], _, [], hW', trodAll_mk1 (shut_bool Tryd.underlying4 _), (trodAll_cons_mk (Below.trod laidOut (by kernel_rfl) (of_decide_eq_true (by kernel_rfl)) b0 bel lt0) trodAll_mk0), rfl, bel.frame _, fun h => by cases h⟩

theorem captionShortTextsMatchSpec_reads (os : Os) {H : Type} (enc : TypeId × Value → H) : ∃ places, DataW.whole enc Tryd.prog ((World.laidAll Tryd.prog os Rows.captionShortTextsMatchSpecUptoRow.laid).forCall (fun _ _ => 0) ⟨#[], #[.slice none 0 0], []⟩).memory Tryd.f4.params.toList Rows.captionShortTextsMatchSpecSpec.vars false (#[.slice none 0 0] : Array Value).toList 8 = some ([.nil], [], places) :=
  ⟨[], by kernel_rfl⟩

theorem captionShortTextsMatchSpec_met (os : Os) : laidMet Tryd.prog Rows.captionShortTextsMatchSpecUptoRow.laid ((World.laidAll Tryd.prog os Rows.captionShortTextsMatchSpecUptoRow.laid).forCall (fun _ _ => 0) ⟨#[], #[.slice none 0 0], []⟩).memory := laidMet_laidAll _ (by kernel_rfl) (by kernel_rfl)

set_option maxRecDepth 100000 in
theorem captionShortTextsMatchSpec_lifted (os : Os) (started : os.Started) (H : Type) (enc : TypeId × Value → H) (F : Stop.Interp) :
    ReturnsInHanded {} Tryd.checked os 4 .any ((Rows.OpenSpec.upto Rows.captionShortTextsMatchSpecSpec).preRow enc Tryd.prog Tryd.f4 Rows.captionShortTextsMatchSpecUptoRow.domain false Rows.captionShortTextsMatchSpecUptoRow.laid) (((Rows.OpenSpec.upto Rows.captionShortTextsMatchSpecSpec).at F).post enc Tryd.prog Tryd.f4 false true false false) := by
  obtain ⟨places, hx⟩ := captionShortTextsMatchSpec_reads os enc
  refine returnsInHanded_of_row (C := Tryd.checked) (s := Rows.OpenSpec.upto Rows.captionShortTextsMatchSpecSpec) own started (by kernel_rfl) Tryd.func4
    (witness_row_at (enc := enc) (C := Tryd.checked) false (World.laidAll Tryd.prog os Rows.captionShortTextsMatchSpecUptoRow.laid) #[.slice none 0 0] (World.laidAll_os _ _ _) (by kernel_rfl) (by kernel_rfl) (by kernel_rfl)
      (OpenSpec.preRow_of_cond 8 hx (by kernel_rfl) (fun k hk => by cases hk; kernel_rfl) (by kernel_rfl) (captionShortTextsMatchSpec_met os))) ?_
  intro W base args ds gs before hval hW _ hcond hsz hL hsh _
  exact captionShortTextsMatchSpec_contract H enc W base args ds gs before hval hW (bulks.bound (hcond _ rfl)) hsz hL hsh

theorem captionShortTextsMatchSpec_upto : Rows.CaptionShortTextsMatchSpecUptoSaid :=
  OpenClaim.holds_of_cond 4 Tryd.f4 rfl rfl rfl rfl rfl rfl rfl ⟨rfl, rfl, rfl, rfl, rfl⟩ rfl rfl rfl rfl rfl (by kernel_rfl) Tryd.func4 (by kernel_rfl)
    (of_decide_eq_true (by kernel_rfl)) (by unfold Func.isWrapper; first | (rw [if_pos (by decide +kernel)]; kernel_rfl) | (rw [if_neg (by decide +kernel)]; exact ⟨rfl, rfl⟩))
    (fun os started H enc _ F => by rw [OpenClaim.pre_eq_preRow]; exact captionShortTextsMatchSpec_lifted os started H enc F)
#print axioms captionShortTextsMatchSpec_upto

theorem captionShortTextsMatchSpec_plain (f : FuncId) (fn : Func) (hf : Tryd.pinned.checked.prog.funcNamed "headend/headendlaw9.CaptionShortTextsMatchSpec" = some f) (hfn : Tryd.pinned.checked.prog.funcs[f]? = some fn) :
    false = Tryd.pinned.checked.prog.looks [] ∧ ∀ (j : Nat) t, fn.params[j]? = some t → Tryd.pinned.checked.prog.wantsStandIn t = false := by
  obtain rfl : f = 4 := Option.some.inj ((show Tryd.prog.funcNamed "headend/headendlaw9.CaptionShortTextsMatchSpec" = some 4 by kernel_rfl).symm.trans hf) |>.symm
  obtain rfl : fn = Tryd.f4 := (Option.some.inj (Tryd.func4.symm.trans hfn)).symm
  refine ⟨by kernel_rfl, fun j t ht => ?_⟩
  rw [Tryd.params4] at ht
  have hm : t ∈ [22] := by simpa using Array.mem_of_getElem? ht
  have hall : ([22].all fun u => !Tryd.prog.wantsStandIn u) = true := by kernel_rfl
  exact (show Tryd.prog.wantsStandIn t = false by simpa using List.all_eq_true.1 hall t hm)

theorem captionShortTextsMatchSpec_card : Rows.CaptionShortTextsMatchSpecUptoCardSaid :=
  Claim7.holds_tied_plain_at .later [] _ _ _ _ captionShortTextsMatchSpec_upto (fun _ h => by cases h) (by kernel_rfl) (fun _ h => by cases h) captionShortTextsMatchSpecUpto_row_tie rfl ⟨rfl, rfl⟩ (by kernel_rfl) rfl captionShortTextsMatchSpec_plain (by kernel_rfl)
#print axioms captionShortTextsMatchSpec_card
end Go.Proofs.YthcfbeckhgngiaaDoor
