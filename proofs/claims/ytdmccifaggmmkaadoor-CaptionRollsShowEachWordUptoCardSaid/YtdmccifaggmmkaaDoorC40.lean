/- What is proved here: the faults of words, of both (no statement of the seat). -/
import Derived.Test.YtdmccifaggmmkaaDoorC13
import Derived.Test.YtdmccifaggmmkaaDoorC33
import Derived.Test.YtdmccifaggmmkaaDoorM9
namespace Go.Proofs.YtdmccifaggmmkaaDoor
open Go Go.RowKit
set_option linter.unusedVariables false
set_option linter.unusedSimpArgs false

def F.wLt (p : Option Wrd) (c : Wrd) : Bool := match p with
  | none => false
  | some o => F.lt c.time o.time

def F.wrdF (w : Int) (p : Option Wrd) (c : Wrd) : Int :=
  bif F.noTime c.time then 1 else bif !F.line c.text || F.cont c.text F.sp then 3 else bif F.lt w (F.runes c.text) then 2 else bif F.wLt p c then 8 else 0

def F.wordsF (l : List Wrd) (w : Int) : Int := bif decide (500 < l.length) then 2 else F.chkP (F.wrdF w) none l

def F.smW (l : List Wrd) : Bool := l.all fun c => F.small c.text

theorem F.smW_at {l : List Wrd} (h : F.smW l = true) {c : Wrd} (hc : c ∈ l) : F.small c.text = true := List.all_eq_true.1 h c hc

namespace M

def stWdF (l : List Wrd) (w : Int) (k : Nat) : St := ⟨[(12, vI k), (11, vI l.length), (10, .sl (l.map eWrd)), (1, vI w), (0, .sl (l.map eWrd))], []⟩

def stWdF1 (a : (List Wrd) × Int × Nat) : St := stWdF a.1 a.2.1 a.2.2

theorem stWdF_inj (a a' : (List Wrd) × Int × Nat) (h : stWdF1 a = stWdF1 a') : a = a' := by
  simp only [stWdF1, stWdF] at h
  try simp [strs_inj, ints_inj, bools_inj, eCaps_inj, eCap_iff, eL_eCaps_inj, eMchs_inj, eMch_iff, eWrds_inj, eWrd_iff, eFnds_inj, eFnd_iff, eRatios_inj, eRatio_iff, eWays_inj, eWay_iff] at h
  grind

theorem unstWdF (l : List Wrd) (w : Int) (k : Nat) : unenc stWdF1 (St.mk [(12, (vI (↑k : Int))), (11, (vI (↑(List.length l) : Int))), (10, AV.sl (List.map eWrd l)), (1, (vI w)), (0, AV.sl (List.map eWrd l))] []) = some (l, w, k) := unenc_of stWdF_inj (l, w, k) rfl

theorem unstWdF0 (l : List Wrd) (w : Int)  : unenc stWdF1 (St.mk [(12, (vI (0 : Int))), (11, (vI (↑(List.length l) : Int))), (10, AV.sl (List.map eWrd l)), (1, (vI w)), (0, AV.sl (List.map eWrd l))] []) = some (l, w, 0) := unenc_of stWdF_inj (l, w, 0) rfl

def outWdF (l : List Wrd) (w : Int) (k : Nat) : T (Ex × St) := .ifB (decide (F.chkP (F.wrdF w) (F.prev l k) (l.drop k) = 0)) (.ret (.exit 0, ⟨[], []⟩)) (.ret (.ret, ⟨[(4, vI (F.chkP (F.wrdF w) (F.prev l k) (l.drop k)))], []⟩))

noncomputable def prlWdF (l : List Wrd) (w : Int) (k : Nat) : Bool := decide (l.length ≤ 500) && decide (k ≤ l.length) && F.smW l

noncomputable def lpWdF : Nat × (St → T (Ex × St)) := (4, lpo [12, 11, 10, 1, 0] [] stWdF1 (fun a => prlWdF a.1 a.2.1 a.2.2) fun a => outWdF a.1 a.2.1 a.2.2)

noncomputable def enWdF : Env := envH ty noG lks [oNoT, oLin, oCnt, oRun] [] [] [lpWdF]

theorem enWdF_ok : EnvOK Tryd.prog enWdF := by
  refine envH_ok lks_ok ty_ok ?_ ?_
  · simp only [List.forall_mem_cons]
    exact ⟨okNoT, okLin, okCnt, okRun, by simp⟩
  · simp

theorem evWdFL (l : List Wrd) (w : Int) (k : Nat) : ((exec enWdF (loopN Tryd.f20 0) (stWdF l w k)).bind (lessX ([12, 11, 10, 1, 0], []) ([], []) ([4], []))).val =
  bif decide ((↑k : Int) < (↑(List.length l) : Int)) then Option.bind (unenc (List.map eWrd) (List.map eWrd l)) fun (z : List Wrd) => bif decide (k < List.length z) then
  Option.bind (unenc encNoT [(vI (List.getD z k (Wrd.mk (0 : Int) (ByteArray.mk (Array.mk [])))).time)]) fun (z_1 : Int) => bif F.noTime z_1 then some (Ex.ret, St.mk [(4,
  (vI (1 : Int)))] []) else Option.bind (unenc encLin [(vS (List.getD z k (Wrd.mk (0 : Int) (ByteArray.mk (Array.mk [])))).text)]) fun (z_2 : ByteArray) => bif F.small z_2
  then bif !!F.line z_2 then Option.bind (unenc encCnt [(vS (List.getD z k (Wrd.mk (0 : Int) (ByteArray.mk (Array.mk [])))).text), (vS (ByteArray.mk (Array.mk [(32 :
  UInt8)])))]) fun (z_3 : ByteArray × ByteArray) => bif decide (ByteArray.size z_3.fst ≤ (4294967280 : Nat)) then bif F.cont z_3.fst z_3.snd then some (Ex.ret, St.mk [(4,
  (vI (3 : Int)))] []) else Option.bind (unenc encRun [(vS (List.getD z k (Wrd.mk (0 : Int) (ByteArray.mk (Array.mk [])))).text)]) fun (z_4 : ByteArray) => bif decide
  (ByteArray.size z_4 ≤ (4294967280 : Nat)) then bif decide (w < F.runes z_4) then some (Ex.ret, St.mk [(4, (vI (2 : Int)))] []) else bif decide ((0 : Int) < (↑k : Int))
  then Option.bind (idx (IntKind.wrap IntKind.i64 ((↑k : Int) - (1 : Int)))) fun (z_5 : Nat) => Option.bind (unenc (List.map eWrd) (List.map eWrd l)) fun (z_6 : List Wrd) =>
  bif decide (z_5 < List.length z_6) then bif decide ((List.getD z k (Wrd.mk (0 : Int) (ByteArray.mk (Array.mk [])))).time < (List.getD z_6 z_5 (Wrd.mk (0 : Int)
  (ByteArray.mk (Array.mk [])))).time) then some (Ex.ret, St.mk [(4, (vI (8 : Int)))] []) else some (Ex.normal, St.mk [(12, (vI (IntKind.wrap IntKind.i64 ((↑k : Int) + (1 :
  Int))))), (11, (vI (↑(List.length l) : Int))), (10, AV.sl (List.map eWrd l)), (1, (vI w)), (0, AV.sl (List.map eWrd l))] []) else none else some (Ex.normal, St.mk [(12,
  (vI (IntKind.wrap IntKind.i64 ((↑k : Int) + (1 : Int))))), (11, (vI (↑(List.length l) : Int))), (10, AV.sl (List.map eWrd l)), (1, (vI w)), (0, AV.sl (List.map eWrd l))]
  []) else none else none else some (Ex.ret, St.mk [(4, (vI (3 : Int)))] []) else none else none else some (Ex.exit (0 : Nat), St.mk [] []) := (execR_bind _ _ _).symm.trans (by kernel_rfl)

theorem lpWdF_ok (l : List Wrd) (w : Int) (k : Nat) (hp : prlWdF l w k = true) : ∀ ex s', (outWdF l w k).val = some (ex, s') → LoopOK enWdF (loopN Tryd.f20 0) (stWdF l w k) ex s' := by
  simp only [prlWdF, Bool.and_eq_true, decide_eq_true_eq] at hp
  obtain ⟨⟨h1, h2⟩, h3⟩ := hp
  refine loop_chkP (l := l) (f := F.wrdF w) (st := stWdF l w) (o := fun c => (.ret, ⟨[(4, vI c)], []⟩)) (n := ([12, 11, 10, 1, 0], [])) (e := ([], [])) (r := ([4], [])) ?_ ⟨by simp, rfl⟩ (fun _ => ⟨by simp, rfl⟩) (fun _ => rfl) ?_ k h2
  · rw [evWdFL]; simp
  · intro k y hy
    have hlt := lt_at hy
    have hsm := F.smW_at h3 (List.mem_of_getElem? hy)
    have hsm2 : decide (y.text.size ≤ 4294967280) = true := hsm
    have esp : (⟨⟨[32]⟩⟩ : ByteArray) = F.sp := rfl
    rw [evWdFL]
    cases k with
    | zero =>
      have hz : decide ((0 : Int) < ((0 : Nat) : Int)) = false := rfl
      simp only [unNoT, unLin, unCnt, unRun, preNoT1, preLin1, preCnt1, preRun1, unstWdF, unstWdF0, prlWdF, outWdF, etaCap, etaMch, etaWrd, etaFnd, etaRatio, etaWay, Option.bind_some, List.length_map, unStrs, unInts, unBools, unCaps, uneL_eCaps, unMchs, unWrds, unFnds, unRatios, unWays, F.lt, F.le, cond_true, cond_false, Bool.and_true, Bool.true_and, cast_lt hlt, decide_eq_true hlt, next_at hlt (by omega : l.length ≤ 9223372036854775807), getD_at hy, stWdF, hsm, hsm2, esp, F.prev, F.wrdF, F.wLt, hz, Bool.not_not]
      cases F.noTime y.time <;> cases F.line y.text <;> cases F.cont y.text F.sp <;> cases decide (w < F.runes y.text) <;> rfl
    | succ j =>
      have ho : l[j]? = some l[j] := List.getElem?_eq_getElem (by omega)
      generalize l[j] = o at ho
      have hlo := lt_at ho
      have hz : decide ((0 : Int) < ((j + 1 : Nat) : Int)) = true := decide_eq_true (by omega)
      simp only [unNoT, unLin, unCnt, unRun, preNoT1, preLin1, preCnt1, preRun1, unstWdF, unstWdF0, prlWdF, outWdF, etaCap, etaMch, etaWrd, etaFnd, etaRatio, etaWay, Option.bind_some, List.length_map, unStrs, unInts, unBools, unCaps, uneL_eCaps, unMchs, unWrds, unFnds, unRatios, unWays, F.lt, F.le, cond_true, cond_false, Bool.and_true, Bool.true_and, cast_lt hlt, decide_eq_true hlt, decide_eq_true hlo, next_at hlt (by omega : l.length ≤ 9223372036854775807), getD_at hy, getD_at ho, ho, stWdF, hsm, hsm2, esp, F.prev, F.wrdF, F.wLt, hz, idx_sub (by omega : j + 1 ≤ 9223372036854775807), Bool.not_not]
      cases F.noTime y.time <;> cases F.line y.text <;> cases F.cont y.text F.sp <;> cases decide (w < F.runes y.text) <;> cases decide (y.time < o.time) <;> rfl

theorem evWdF (l : List Wrd) (w : Int) : (runF enWdF false Tryd.f20 [.sl (l.map eWrd), vI w]).val =
  bif decide ((500 : Int) < (↑(List.length (List.map eWrd l)) : Int)) then some ((vI (2 : Int)), []) else Option.bind (unenc stWdF1 (St.mk [(12, (vI (0 : Int))), (11, (vI
  (↑(List.length (List.map eWrd l)) : Int))), (10, AV.sl (List.map eWrd l)), (1, (vI w)), (0, AV.sl (List.map eWrd l))] [])) fun (z : List Wrd × Int × Nat) => bif decide
  (List.length z.fst ≤ (500 : Nat)) && decide (z.snd.snd ≤ List.length z.fst) && F.smW z.fst && true then bif decide (F.chkP (F.wrdF z.snd.fst) (F.prev z.fst z.snd.snd)
  (List.drop z.snd.snd z.fst) = (0 : Int)) then some ((vI (0 : Int)), []) else some ((vI (F.chkP (F.wrdF z.snd.fst) (F.prev z.fst z.snd.snd) (List.drop z.snd.snd z.fst))),
  []) else none := (runFR_val).symm.trans (by kernel_rfl)

def encWdF1 (l : List Wrd) (w : Int) : List AV := [.sl (l.map eWrd), vI w]

def encWdF (a : (List Wrd) × Int) : List AV := encWdF1 a.1 a.2

theorem encWdF_inj (a a' : (List Wrd) × Int) (h : encWdF a = encWdF a') : a = a' := by
  simp only [encWdF, encWdF1] at h
  try simp [strs_inj, ints_inj, bools_inj, eCaps_inj, eCap_iff, eL_eCaps_inj, eMchs_inj, eMch_iff, eWrds_inj, eWrd_iff, eFnds_inj, eFnd_iff, eRatios_inj, eRatio_iff, eWays_inj, eWay_iff] at h
  grind

theorem unWdF (l : List Wrd) (w : Int) : unenc encWdF ([AV.sl (List.map eWrd l), (vI w)]) = some (l, w) := unenc_of encWdF_inj (l, w) rfl

def resWdF1 (l : List Wrd) (w : Int) : AV × Heap := (vI (F.wordsF l w), [])

def preWdF1 (l : List Wrd) (w : Int) : Bool := F.smW l

noncomputable def oWdF : Orc := orc 20 true encWdF (fun a => preWdF1 a.1 a.2) fun a => resWdF1 a.1 a.2

theorem okWdF : OrcOK Tryd.prog noG oWdF := by
  refine mk_ok Tryd.f20 (keep := false) (by kernel_rfl) (by kernel_rfl) enWdF_ok mixed (one_loop (x0 := loopN Tryd.f20 0) (by kernel_rfl) (lpo_ok ?_)) (by first | exact fun _ _ => ⟨rfl, rfl⟩ | (intro h; cases h)) ?_
  · rintro ⟨l, w, k⟩ hp
    exact lpWdF_ok l w k hp
  rintro ⟨l, w⟩ hpre hok
  show (runF enWdF false _ (encWdF1 _ _)).val = some (resWdF1 _ _)
  unfold encWdF1 resWdF1
  rw [evWdF]
  simp only [preWdF1] at hpre
  have e5 : decide ((500 : Int) < (l.length : Int)) = decide (500 < l.length) := cast_gt 500 _
  simp only [unNoT, unLin, unCnt, unRun, preNoT1, preLin1, preCnt1, preRun1, unstWdF, unstWdF0, prlWdF, outWdF, etaCap, etaMch, etaWrd, etaFnd, etaRatio, etaWay, Option.bind_some, List.length_map, unStrs, unInts, unBools, unCaps, uneL_eCaps, unMchs, unWrds, unFnds, unRatios, unWays, F.lt, F.le, cond_true, cond_false, Bool.and_true, Bool.true_and, hpre, List.drop_zero, Nat.zero_le, decide_true, F.wordsF, e5, F.prev]
  cases h5 : decide (500 < l.length)
  · have h5 := of_decide_eq_false h5
    simp only [cond_false, decide_eq_true (show l.length ≤ 500 by omega), Bool.true_and, cond_true]
    by_cases h : F.chkP (F.wrdF w) none l = 0
    · rw [decide_eq_true h, h]; rfl
    · rw [decide_eq_false h]; rfl
  · rfl

def stRWd (l : List Wrd) (w : Int) (k : Nat) : St := ⟨[(12, vI k), (11, vI l.length), (10, .sl (l.map eWrd)), (1, vI w), (0, .sl (l.map eWrd))], []⟩

def stRWd1 (a : (List Wrd) × Int × Nat) : St := stRWd a.1 a.2.1 a.2.2

theorem stRWd_inj (a a' : (List Wrd) × Int × Nat) (h : stRWd1 a = stRWd1 a') : a = a' := by
  simp only [stRWd1, stRWd] at h
  try simp [strs_inj, ints_inj, bools_inj, eCaps_inj, eCap_iff, eL_eCaps_inj, eMchs_inj, eMch_iff, eWrds_inj, eWrd_iff, eFnds_inj, eFnd_iff, eRatios_inj, eRatio_iff, eWays_inj, eWay_iff] at h
  grind

theorem unstRWd (l : List Wrd) (w : Int) (k : Nat) : unenc stRWd1 (St.mk [(12, (vI (↑k : Int))), (11, (vI (↑(List.length l) : Int))), (10, AV.sl (List.map eWrd l)), (1, (vI w)), (0, AV.sl (List.map eWrd l))] []) = some (l, w, k) := unenc_of stRWd_inj (l, w, k) rfl

theorem unstRWd0 (l : List Wrd) (w : Int)  : unenc stRWd1 (St.mk [(12, (vI (0 : Int))), (11, (vI (↑(List.length l) : Int))), (10, AV.sl (List.map eWrd l)), (1, (vI w)), (0, AV.sl (List.map eWrd l))] []) = some (l, w, 0) := unenc_of stRWd_inj (l, w, 0) rfl

def outRWd (l : List Wrd) (w : Int) (k : Nat) : T (Ex × St) := .ifB (decide (F.chkP (F.wrdF w) (F.prev l k) (l.drop k) = 0)) (.ret (.exit 0, ⟨[], []⟩)) (.ret (.ret, ⟨[(4, vI (F.chkP (F.wrdF w) (F.prev l k) (l.drop k)))], []⟩))

noncomputable def prlRWd (l : List Wrd) (w : Int) (k : Nat) : Bool := decide (l.length ≤ 500) && decide (k ≤ l.length) && F.smW l

noncomputable def lpRWd : Nat × (St → T (Ex × St)) := (4, lpo [12, 11, 10, 1, 0] [] stRWd1 (fun a => prlRWd a.1 a.2.1 a.2.2) fun a => outRWd a.1 a.2.1 a.2.2)

noncomputable def enRWd : Env := envH ty noG lks [oIsTm, oRLin, oCnt, oRCh] [] [] [lpRWd]

theorem enRWd_ok : EnvOK Tryd.prog enRWd := by
  refine envH_ok lks_ok ty_ok ?_ ?_
  · simp only [List.forall_mem_cons]
    exact ⟨okIsTm, okRLin, okCnt, okRCh, by simp⟩
  · simp

theorem evRWdL (l : List Wrd) (w : Int) (k : Nat) : ((exec enRWd (loopN Tryd.f25 0) (stRWd l w k)).bind (lessX ([12, 11, 10, 1, 0], []) ([], []) ([4], []))).val =
  bif decide ((↑k : Int) < (↑(List.length l) : Int)) then Option.bind (unenc (List.map eWrd) (List.map eWrd l)) fun (z : List Wrd) => bif decide (k < List.length z) then
  Option.bind (unenc encIsTm [(vI (List.getD z k (Wrd.mk (0 : Int) (ByteArray.mk (Array.mk [])))).time)]) fun (z_1 : Int) => bif !!F.noTime z_1 then some (Ex.ret, St.mk [(4,
  (vI (1 : Int)))] []) else Option.bind (unenc encRLin [(vS (List.getD z k (Wrd.mk (0 : Int) (ByteArray.mk (Array.mk [])))).text)]) fun (z_2 : ByteArray) => bif F.small z_2
  then bif !!F.line z_2 then Option.bind (unenc encCnt [(vS (List.getD z k (Wrd.mk (0 : Int) (ByteArray.mk (Array.mk [])))).text), (vS (ByteArray.mk (Array.mk [(32 :
  UInt8)])))]) fun (z_3 : ByteArray × ByteArray) => bif decide (ByteArray.size z_3.fst ≤ (4294967280 : Nat)) then bif F.cont z_3.fst z_3.snd then some (Ex.ret, St.mk [(4,
  (vI (3 : Int)))] []) else Option.bind (unenc encRCh [(vS (List.getD z k (Wrd.mk (0 : Int) (ByteArray.mk (Array.mk [])))).text)]) fun (z_4 : ByteArray) => bif decide
  (ByteArray.size z_4 ≤ (4294967280 : Nat)) then bif decide (w < F.runes z_4) then some (Ex.ret, St.mk [(4, (vI (2 : Int)))] []) else bif decide ((0 : Int) < (↑k : Int))
  then Option.bind (idx (IntKind.wrap IntKind.i64 ((↑k : Int) - (1 : Int)))) fun (z_5 : Nat) => Option.bind (unenc (List.map eWrd) (List.map eWrd l)) fun (z_6 : List Wrd) =>
  bif decide (z_5 < List.length z_6) then bif decide ((List.getD z k (Wrd.mk (0 : Int) (ByteArray.mk (Array.mk [])))).time < (List.getD z_6 z_5 (Wrd.mk (0 : Int)
  (ByteArray.mk (Array.mk [])))).time) then some (Ex.ret, St.mk [(4, (vI (8 : Int)))] []) else some (Ex.normal, St.mk [(12, (vI (IntKind.wrap IntKind.i64 ((↑k : Int) + (1 :
  Int))))), (11, (vI (↑(List.length l) : Int))), (10, AV.sl (List.map eWrd l)), (1, (vI w)), (0, AV.sl (List.map eWrd l))] []) else none else some (Ex.normal, St.mk [(12,
  (vI (IntKind.wrap IntKind.i64 ((↑k : Int) + (1 : Int))))), (11, (vI (↑(List.length l) : Int))), (10, AV.sl (List.map eWrd l)), (1, (vI w)), (0, AV.sl (List.map eWrd l))]
  []) else none else none else some (Ex.ret, St.mk [(4, (vI (3 : Int)))] []) else none else none else some (Ex.exit (0 : Nat), St.mk [] []) := (execR_bind _ _ _).symm.trans (by kernel_rfl)

theorem lpRWd_ok (l : List Wrd) (w : Int) (k : Nat) (hp : prlRWd l w k = true) : ∀ ex s', (outRWd l w k).val = some (ex, s') → LoopOK enRWd (loopN Tryd.f25 0) (stRWd l w k) ex s' := by
  simp only [prlRWd, Bool.and_eq_true, decide_eq_true_eq] at hp
  obtain ⟨⟨h1, h2⟩, h3⟩ := hp
  refine loop_chkP (l := l) (f := F.wrdF w) (st := stRWd l w) (o := fun c => (.ret, ⟨[(4, vI c)], []⟩)) (n := ([12, 11, 10, 1, 0], [])) (e := ([], [])) (r := ([4], [])) ?_ ⟨by simp, rfl⟩ (fun _ => ⟨by simp, rfl⟩) (fun _ => rfl) ?_ k h2
  · rw [evRWdL]; simp
  · intro k y hy
    have hlt := lt_at hy
    have hsm := F.smW_at h3 (List.mem_of_getElem? hy)
    have hsm2 : decide (y.text.size ≤ 4294967280) = true := hsm
    have esp : (⟨⟨[32]⟩⟩ : ByteArray) = F.sp := rfl
    rw [evRWdL]
    cases k with
    | zero =>
      have hz : decide ((0 : Int) < ((0 : Nat) : Int)) = false := rfl
      simp only [unIsTm, unRLin, unCnt, unRCh, preIsTm1, preRLin1, preCnt1, preRCh1, unstRWd, unstRWd0, prlRWd, outRWd, etaCap, etaMch, etaWrd, etaFnd, etaRatio, etaWay, Option.bind_some, List.length_map, unStrs, unInts, unBools, unCaps, uneL_eCaps, unMchs, unWrds, unFnds, unRatios, unWays, F.lt, F.le, cond_true, cond_false, Bool.and_true, Bool.true_and, cast_lt hlt, decide_eq_true hlt, next_at hlt (by omega : l.length ≤ 9223372036854775807), getD_at hy, stRWd, hsm, hsm2, esp, F.prev, F.wrdF, F.wLt, hz, Bool.not_not]
      cases F.noTime y.time <;> cases F.line y.text <;> cases F.cont y.text F.sp <;> cases decide (w < F.runes y.text) <;> rfl
    | succ j =>
      have ho : l[j]? = some l[j] := List.getElem?_eq_getElem (by omega)
      generalize l[j] = o at ho
      have hlo := lt_at ho
      have hz : decide ((0 : Int) < ((j + 1 : Nat) : Int)) = true := decide_eq_true (by omega)
      simp only [unIsTm, unRLin, unCnt, unRCh, preIsTm1, preRLin1, preCnt1, preRCh1, unstRWd, unstRWd0, prlRWd, outRWd, etaCap, etaMch, etaWrd, etaFnd, etaRatio, etaWay, Option.bind_some, List.length_map, unStrs, unInts, unBools, unCaps, uneL_eCaps, unMchs, unWrds, unFnds, unRatios, unWays, F.lt, F.le, cond_true, cond_false, Bool.and_true, Bool.true_and, cast_lt hlt, decide_eq_true hlt, decide_eq_true hlo, next_at hlt (by omega : l.length ≤ 9223372036854775807), getD_at hy, getD_at ho, ho, stRWd, hsm, hsm2, esp, F.prev, F.wrdF, F.wLt, hz, idx_sub (by omega : j + 1 ≤ 9223372036854775807), Bool.not_not]
      cases F.noTime y.time <;> cases F.line y.text <;> cases F.cont y.text F.sp <;> cases decide (w < F.runes y.text) <;> cases decide (y.time < o.time) <;> rfl

theorem evRWd (l : List Wrd) (w : Int) : (runF enRWd false Tryd.f25 [.sl (l.map eWrd), vI w]).val =
  bif decide ((500 : Int) < (↑(List.length (List.map eWrd l)) : Int)) then some ((vI (2 : Int)), []) else Option.bind (unenc stRWd1 (St.mk [(12, (vI (0 : Int))), (11, (vI
  (↑(List.length (List.map eWrd l)) : Int))), (10, AV.sl (List.map eWrd l)), (1, (vI w)), (0, AV.sl (List.map eWrd l))] [])) fun (z : List Wrd × Int × Nat) => bif decide
  (List.length z.fst ≤ (500 : Nat)) && decide (z.snd.snd ≤ List.length z.fst) && F.smW z.fst && true then bif decide (F.chkP (F.wrdF z.snd.fst) (F.prev z.fst z.snd.snd)
  (List.drop z.snd.snd z.fst) = (0 : Int)) then some ((vI (0 : Int)), []) else some ((vI (F.chkP (F.wrdF z.snd.fst) (F.prev z.fst z.snd.snd) (List.drop z.snd.snd z.fst))),
  []) else none := (runFR_val).symm.trans (by kernel_rfl)

def encRWd1 (l : List Wrd) (w : Int) : List AV := [.sl (l.map eWrd), vI w]

def encRWd (a : (List Wrd) × Int) : List AV := encRWd1 a.1 a.2

theorem encRWd_inj (a a' : (List Wrd) × Int) (h : encRWd a = encRWd a') : a = a' := by
  simp only [encRWd, encRWd1] at h
  try simp [strs_inj, ints_inj, bools_inj, eCaps_inj, eCap_iff, eL_eCaps_inj, eMchs_inj, eMch_iff, eWrds_inj, eWrd_iff, eFnds_inj, eFnd_iff, eRatios_inj, eRatio_iff, eWays_inj, eWay_iff] at h
  grind

theorem unRWd (l : List Wrd) (w : Int) : unenc encRWd ([AV.sl (List.map eWrd l), (vI w)]) = some (l, w) := unenc_of encRWd_inj (l, w) rfl

def resRWd1 (l : List Wrd) (w : Int) : AV × Heap := (vI (F.wordsF l w), [])

def preRWd1 (l : List Wrd) (w : Int) : Bool := F.smW l

noncomputable def oRWd : Orc := orc 25 true encRWd (fun a => preRWd1 a.1 a.2) fun a => resRWd1 a.1 a.2

theorem okRWd : OrcOK Tryd.prog noG oRWd := by
  refine mk_ok Tryd.f25 (keep := false) (by kernel_rfl) (by kernel_rfl) enRWd_ok mixed (one_loop (x0 := loopN Tryd.f25 0) (by kernel_rfl) (lpo_ok ?_)) (by first | exact fun _ _ => ⟨rfl, rfl⟩ | (intro h; cases h)) ?_
  · rintro ⟨l, w, k⟩ hp
    exact lpRWd_ok l w k hp
  rintro ⟨l, w⟩ hpre hok
  show (runF enRWd false _ (encRWd1 _ _)).val = some (resRWd1 _ _)
  unfold encRWd1 resRWd1
  rw [evRWd]
  simp only [preRWd1] at hpre
  have e5 : decide ((500 : Int) < (l.length : Int)) = decide (500 < l.length) := cast_gt 500 _
  simp only [unIsTm, unRLin, unCnt, unRCh, preIsTm1, preRLin1, preCnt1, preRCh1, unstRWd, unstRWd0, prlRWd, outRWd, etaCap, etaMch, etaWrd, etaFnd, etaRatio, etaWay, Option.bind_some, List.length_map, unStrs, unInts, unBools, unCaps, uneL_eCaps, unMchs, unWrds, unFnds, unRatios, unWays, F.lt, F.le, cond_true, cond_false, Bool.and_true, Bool.true_and, hpre, List.drop_zero, Nat.zero_le, decide_true, F.wordsF, e5, F.prev]
  cases h5 : decide (500 < l.length)
  · have h5 := of_decide_eq_false h5
    simp only [cond_false, decide_eq_true (show l.length ≤ 500 by omega), Bool.true_and, cond_true]
    by_cases h : F.chkP (F.wrdF w) none l = 0
    · rw [decide_eq_true h, h]; rfl
    · rw [decide_eq_false h]; rfl
  · rfl

end M
end Go.Proofs.YtdmccifaggmmkaaDoor
