/- What is proved here: what headendref1.Plus, Times and Over return (no statement of the seat). -/
import Derived.Test.YtlemjphdhapfpaaGreatDoorD95
namespace Go.Proofs.YtlemjphdhapfpaaGreatDoor
open Go Go.RowKit
set_option linter.unusedVariables false
set_option linter.unusedSimpArgs false

/-- What a number in lowest terms has above and below. -/
def F.lowT (t b : Nat) : List Int := F.lb (t / Nat.gcd b t)

def F.lowB (t b : Nat) : List Int := F.lb (b / Nat.gcd b t)

def F.plT (xn yn : Bool) (a b : Nat) : Nat := bif xn == yn then a + b else bif decide (b ≤ a) then a - b else b - a

def F.plN (xn yn : Bool) (a b : Nat) : Bool := bif xn == yn then xn else bif decide (b ≤ a) then xn else yn

namespace M

theorem nk_le {j k n : Nat} (h : n < 10000 ^ j) (hjk : j ≤ k) : F.nk k (F.lb n) = true := F.nk_lb (F.lb_lt h hjk)

noncomputable def enNum : Env := envH ty noG lks [oTmz, oAdd, oLes, oCpr, oLow] [] [] []

theorem enNum_ok : EnvOK Tryz.prog enNum := by
  refine envH_ok lks_ok ty_ok ?_ ?_
  · simp only [List.forall_mem_cons]
    exact ⟨okTmz, okAdd, okLes, okCpr, okLow, by simp⟩
  · simp

theorem evTms (xn : Bool) (xt : List Int) (xb : List Int) (yn : Bool) (yt : List Int) (yb : List Int) : (runF enNum false Tryz.f42 [.agg [vB xn, .sl (xt.map eI), .sl (xb.map eI)], .agg [vB yn, .sl (yt.map eI), .sl (yb.map eI)]]).val =
  Option.bind (unenc encTmz [AV.sl (List.map eI xt), AV.sl (List.map eI yt)]) fun (z : List Int × List Int) => bif F.nk (400 : Nat) z.fst && F.nk (400 : Nat) z.snd then
  Option.bind (unenc encTmz [AV.sl (List.map eI xb), AV.sl (List.map eI yb)]) fun (z_1 : List Int × List Int) => bif F.nk (400 : Nat) z_1.fst && F.nk (400 : Nat) z_1.snd
  then Option.bind (unenc encLow [(vB !xn == yn), AV.sl (List.map eI (F.lb (F.nv z.fst * F.nv z.snd))), AV.sl (List.map eI (F.lb (F.nv z_1.fst * F.nv z_1.snd)))]) fun (z :
  Bool × List Int × List Int) => bif F.nk (200 : Nat) z.snd.fst && F.nk (200 : Nat) z.snd.snd && decide ((0 : Nat) < F.nv z.snd.snd) then some (AV.agg [(vB (z.fst && decide
  ((0 : Nat) < F.nv z.snd.fst))), AV.sl (List.map eI (F.lb (Nat.div (F.nv z.snd.fst) (Nat.gcd (F.nv z.snd.snd) (F.nv z.snd.fst))))), AV.sl (List.map eI (F.lb (Nat.div (F.nv
  z.snd.snd) (Nat.gcd (F.nv z.snd.snd) (F.nv z.snd.fst)))))], []) else none else none else none := (runFR_val).symm.trans (by kernel_rfl)

def encTms1 (xn : Bool) (xt : List Int) (xb : List Int) (yn : Bool) (yt : List Int) (yb : List Int) : List AV := [.agg [vB xn, .sl (xt.map eI), .sl (xb.map eI)], .agg [vB yn, .sl (yt.map eI), .sl (yb.map eI)]]

def encTms (a : Bool × (List Int) × (List Int) × Bool × (List Int) × (List Int)) : List AV := encTms1 a.1 a.2.1 a.2.2.1 a.2.2.2.1 a.2.2.2.2.1 a.2.2.2.2.2

theorem encTms_inj (a a' : Bool × (List Int) × (List Int) × Bool × (List Int) × (List Int)) (h : encTms a = encTms a') : a = a' := by
  simp only [encTms, encTms1] at h
  try simp [strs_inj, ints_inj, bools_inj, u8s_inj, eEnts_inj, eEnt_iff, eLsts_inj, eLst_iff, eSegs_inj, eSeg_iff, eRots_inj, eRot_iff, eBeats_inj, eBeat_iff, eSpans_inj, eSpan_iff, eHoles_inj, eHole_iff] at h
  grind

theorem unTms (xn : Bool) (xt : List Int) (xb : List Int) (yn : Bool) (yt : List Int) (yb : List Int) : unenc encTms ([AV.agg [(vB xn), AV.sl (List.map eI xt), AV.sl (List.map eI xb)], AV.agg [(vB yn), AV.sl (List.map eI yt), AV.sl (List.map eI yb)]]) = some (xn, xt, xb, yn, yt, yb) := unenc_of encTms_inj (xn, xt, xb, yn, yt, yb) rfl

def resTms1 (xn : Bool) (xt : List Int) (xb : List Int) (yn : Bool) (yt : List Int) (yb : List Int) : AV × Heap := (.agg [vB ((xn != yn) && decide (0 < F.nv xt * F.nv yt)), .sl ((F.lowT (F.nv xt * F.nv yt) (F.nv xb * F.nv yb)).map eI), .sl ((F.lowB (F.nv xt * F.nv yt) (F.nv xb * F.nv yb)).map eI)], [])

def preTms1 (xn : Bool) (xt : List Int) (xb : List Int) (yn : Bool) (yt : List Int) (yb : List Int) : Bool := F.nk 90 xt && F.nk 90 xb && F.nk 90 yt && F.nk 90 yb && decide (0 < F.nv xb) && decide (0 < F.nv yb)

noncomputable def oTms : Orc := orc 42 false encTms (fun a => preTms1 a.1 a.2.1 a.2.2.1 a.2.2.2.1 a.2.2.2.2.1 a.2.2.2.2.2) fun a => resTms1 a.1 a.2.1 a.2.2.1 a.2.2.2.1 a.2.2.2.2.1 a.2.2.2.2.2

theorem okTms : OrcOK Tryz.prog noG oTms := by
  refine mk_ok Tryz.f42 (keep := false) (by kernel_rfl) (by kernel_rfl) enNum_ok mixed (no_loops (by kernel_rfl)) (by first | exact fun _ _ => ⟨rfl, rfl⟩ | (intro h; cases h)) ?_
  rintro ⟨xn, xt, xb, yn, yt, yb⟩ hpre hok
  show (runF enNum false _ (encTms1 _ _ _ _ _ _)).val = some (resTms1 _ _ _ _ _ _)
  unfold encTms1 resTms1
  rw [evTms]
  have hpre : (F.nk 90 xt && F.nk 90 xb && F.nk 90 yt && F.nk 90 yb && decide (0 < F.nv xb) && decide (0 < F.nv yb)) = true := hpre
  simp only [Bool.and_eq_true, decide_eq_true_eq] at hpre
  obtain ⟨⟨⟨⟨⟨p1, p2⟩, p3⟩, p4⟩, p5⟩, p6⟩ := hpre
  have k1 := nk_mul (l := 200) (nk_lt p1) (nk_lt p3) (by decide)
  have k2 := nk_mul (l := 200) (nk_lt p2) (nk_lt p4) (by decide)
  have hp : decide (0 < F.nv xb * F.nv yb) = true := decide_eq_true (Nat.mul_pos p5 p6)
  simp only [unTmz, unAdd, unLes, unCpr, unLow, preTmz1, preAdd1, preLes1, preCpr1, preLow1, etaEnt, etaLst, etaSeg, etaRot, etaBeat, etaSpan, etaHole, Option.bind_some, List.length_map, unStrs, unInts, unBools, unU8s, unEnts, unLsts, unSegs, unRots, unBeats, unSpans, unHoles, F.lt, F.le, cond_true, cond_false, Bool.and_true, Bool.true_and, nk_up p1 (by decide : 90 ≤ 400), nk_up p2 (by decide : 90 ≤ 400), nk_up p3 (by decide : 90 ≤ 400), nk_up p4 (by decide : 90 ≤ 400), F.nv_lb, k1, k2, hp]
  rfl

theorem evOvr (xn : Bool) (xt : List Int) (xb : List Int) (yn : Bool) (yt : List Int) (yb : List Int) : (runF enNum false Tryz.f41 [.agg [vB xn, .sl (xt.map eI), .sl (xb.map eI)], .agg [vB yn, .sl (yt.map eI), .sl (yb.map eI)]]).val =
  Option.bind (unenc encTmz [AV.sl (List.map eI xt), AV.sl (List.map eI yb)]) fun (z : List Int × List Int) => bif F.nk (400 : Nat) z.fst && F.nk (400 : Nat) z.snd then
  Option.bind (unenc encTmz [AV.sl (List.map eI xb), AV.sl (List.map eI yt)]) fun (z_1 : List Int × List Int) => bif F.nk (400 : Nat) z_1.fst && F.nk (400 : Nat) z_1.snd
  then Option.bind (unenc encLow [(vB !xn == yn), AV.sl (List.map eI (F.lb (F.nv z.fst * F.nv z.snd))), AV.sl (List.map eI (F.lb (F.nv z_1.fst * F.nv z_1.snd)))]) fun (z :
  Bool × List Int × List Int) => bif F.nk (200 : Nat) z.snd.fst && F.nk (200 : Nat) z.snd.snd && decide ((0 : Nat) < F.nv z.snd.snd) then some (AV.agg [(vB (z.fst && decide
  ((0 : Nat) < F.nv z.snd.fst))), AV.sl (List.map eI (F.lb (Nat.div (F.nv z.snd.fst) (Nat.gcd (F.nv z.snd.snd) (F.nv z.snd.fst))))), AV.sl (List.map eI (F.lb (Nat.div (F.nv
  z.snd.snd) (Nat.gcd (F.nv z.snd.snd) (F.nv z.snd.fst)))))], []) else none else none else none := (runFR_val).symm.trans (by kernel_rfl)

def encOvr1 (xn : Bool) (xt : List Int) (xb : List Int) (yn : Bool) (yt : List Int) (yb : List Int) : List AV := [.agg [vB xn, .sl (xt.map eI), .sl (xb.map eI)], .agg [vB yn, .sl (yt.map eI), .sl (yb.map eI)]]

def encOvr (a : Bool × (List Int) × (List Int) × Bool × (List Int) × (List Int)) : List AV := encOvr1 a.1 a.2.1 a.2.2.1 a.2.2.2.1 a.2.2.2.2.1 a.2.2.2.2.2

theorem encOvr_inj (a a' : Bool × (List Int) × (List Int) × Bool × (List Int) × (List Int)) (h : encOvr a = encOvr a') : a = a' := by
  simp only [encOvr, encOvr1] at h
  try simp [strs_inj, ints_inj, bools_inj, u8s_inj, eEnts_inj, eEnt_iff, eLsts_inj, eLst_iff, eSegs_inj, eSeg_iff, eRots_inj, eRot_iff, eBeats_inj, eBeat_iff, eSpans_inj, eSpan_iff, eHoles_inj, eHole_iff] at h
  grind

theorem unOvr (xn : Bool) (xt : List Int) (xb : List Int) (yn : Bool) (yt : List Int) (yb : List Int) : unenc encOvr ([AV.agg [(vB xn), AV.sl (List.map eI xt), AV.sl (List.map eI xb)], AV.agg [(vB yn), AV.sl (List.map eI yt), AV.sl (List.map eI yb)]]) = some (xn, xt, xb, yn, yt, yb) := unenc_of encOvr_inj (xn, xt, xb, yn, yt, yb) rfl

def resOvr1 (xn : Bool) (xt : List Int) (xb : List Int) (yn : Bool) (yt : List Int) (yb : List Int) : AV × Heap := (.agg [vB ((xn != yn) && decide (0 < F.nv xt * F.nv yb)), .sl ((F.lowT (F.nv xt * F.nv yb) (F.nv xb * F.nv yt)).map eI), .sl ((F.lowB (F.nv xt * F.nv yb) (F.nv xb * F.nv yt)).map eI)], [])

def preOvr1 (xn : Bool) (xt : List Int) (xb : List Int) (yn : Bool) (yt : List Int) (yb : List Int) : Bool := F.nk 90 xt && F.nk 90 xb && F.nk 90 yt && F.nk 90 yb && decide (0 < F.nv xb) && decide (0 < F.nv yt)

noncomputable def oOvr : Orc := orc 41 false encOvr (fun a => preOvr1 a.1 a.2.1 a.2.2.1 a.2.2.2.1 a.2.2.2.2.1 a.2.2.2.2.2) fun a => resOvr1 a.1 a.2.1 a.2.2.1 a.2.2.2.1 a.2.2.2.2.1 a.2.2.2.2.2

theorem okOvr : OrcOK Tryz.prog noG oOvr := by
  refine mk_ok Tryz.f41 (keep := false) (by kernel_rfl) (by kernel_rfl) enNum_ok mixed (no_loops (by kernel_rfl)) (by first | exact fun _ _ => ⟨rfl, rfl⟩ | (intro h; cases h)) ?_
  rintro ⟨xn, xt, xb, yn, yt, yb⟩ hpre hok
  show (runF enNum false _ (encOvr1 _ _ _ _ _ _)).val = some (resOvr1 _ _ _ _ _ _)
  unfold encOvr1 resOvr1
  rw [evOvr]
  have hpre : (F.nk 90 xt && F.nk 90 xb && F.nk 90 yt && F.nk 90 yb && decide (0 < F.nv xb) && decide (0 < F.nv yt)) = true := hpre
  simp only [Bool.and_eq_true, decide_eq_true_eq] at hpre
  obtain ⟨⟨⟨⟨⟨p1, p2⟩, p3⟩, p4⟩, p5⟩, p6⟩ := hpre
  have k1 := nk_mul (l := 200) (nk_lt p1) (nk_lt p4) (by decide)
  have k2 := nk_mul (l := 200) (nk_lt p2) (nk_lt p3) (by decide)
  have hp : decide (0 < F.nv xb * F.nv yt) = true := decide_eq_true (Nat.mul_pos p5 p6)
  simp only [unTmz, unAdd, unLes, unCpr, unLow, preTmz1, preAdd1, preLes1, preCpr1, preLow1, etaEnt, etaLst, etaSeg, etaRot, etaBeat, etaSpan, etaHole, Option.bind_some, List.length_map, unStrs, unInts, unBools, unU8s, unEnts, unLsts, unSegs, unRots, unBeats, unSpans, unHoles, F.lt, F.le, cond_true, cond_false, Bool.and_true, Bool.true_and, nk_up p1 (by decide : 90 ≤ 400), nk_up p2 (by decide : 90 ≤ 400), nk_up p3 (by decide : 90 ≤ 400), nk_up p4 (by decide : 90 ≤ 400), F.nv_lb, k1, k2, hp]
  rfl

theorem evPlu (xn : Bool) (xt : List Int) (xb : List Int) (yn : Bool) (yt : List Int) (yb : List Int) : (runF enNum false Tryz.f39 [.agg [vB xn, .sl (xt.map eI), .sl (xb.map eI)], .agg [vB yn, .sl (yt.map eI), .sl (yb.map eI)]]).val =
  Option.bind (unenc encTmz [AV.sl (List.map eI xt), AV.sl (List.map eI yb)]) fun (z : List Int × List Int) => bif F.nk (400 : Nat) z.fst && F.nk (400 : Nat) z.snd then
  Option.bind (unenc encTmz [AV.sl (List.map eI yt), AV.sl (List.map eI xb)]) fun (z_1 : List Int × List Int) => bif F.nk (400 : Nat) z_1.fst && F.nk (400 : Nat) z_1.snd
  then Option.bind (unenc encTmz [AV.sl (List.map eI xb), AV.sl (List.map eI yb)]) fun (z_2 : List Int × List Int) => bif F.nk (400 : Nat) z_2.fst && F.nk (400 : Nat)
  z_2.snd then bif xn == yn then Option.bind (unenc encAdd [AV.sl (List.map eI (F.lb (F.nv z.fst * F.nv z.snd))), AV.sl (List.map eI (F.lb (F.nv z_1.fst * F.nv z_1.snd)))])
  fun (z : List Int × List Int) => bif F.nk (1000 : Nat) z.fst && F.nk (1000 : Nat) z.snd then Option.bind (unenc encLow [(vB xn), AV.sl (List.map eI (F.lb (F.nv z.fst +
  F.nv z.snd))), AV.sl (List.map eI (F.lb (F.nv z_2.fst * F.nv z_2.snd)))]) fun (z : Bool × List Int × List Int) => bif F.nk (200 : Nat) z.snd.fst && F.nk (200 : Nat)
  z.snd.snd && decide ((0 : Nat) < F.nv z.snd.snd) then some (AV.agg [(vB (z.fst && decide ((0 : Nat) < F.nv z.snd.fst))), AV.sl (List.map eI (F.lb (Nat.div (F.nv z.snd.fst)
  (Nat.gcd (F.nv z.snd.snd) (F.nv z.snd.fst))))), AV.sl (List.map eI (F.lb (Nat.div (F.nv z.snd.snd) (Nat.gcd (F.nv z.snd.snd) (F.nv z.snd.fst)))))], []) else none else none
  else Option.bind (unenc encCpr [AV.sl (List.map eI (F.lb (F.nv z.fst * F.nv z.snd))), AV.sl (List.map eI (F.lb (F.nv z_1.fst * F.nv z_1.snd)))]) fun (z_3 : List Int × List
  Int) => bif F.nk (1000 : Nat) z_3.fst && F.nk (1000 : Nat) z_3.snd then bif decide ((0 : Int) ≤ F.sgn (↑(F.nv z_3.fst) : Int) (↑(F.nv z_3.snd) : Int)) then Option.bind
  (unenc encLes [AV.sl (List.map eI (F.lb (F.nv z.fst * F.nv z.snd))), AV.sl (List.map eI (F.lb (F.nv z_1.fst * F.nv z_1.snd)))]) fun (z : List Int × List Int) => bif F.nk
  (1000 : Nat) z.fst && F.nk (1000 : Nat) z.snd && decide (F.nv z.snd ≤ F.nv z.fst) then Option.bind (unenc encLow [(vB xn), AV.sl (List.map eI (F.lb (F.nv z.fst - F.nv
  z.snd))), AV.sl (List.map eI (F.lb (F.nv z_2.fst * F.nv z_2.snd)))]) fun (z : Bool × List Int × List Int) => bif F.nk (200 : Nat) z.snd.fst && F.nk (200 : Nat) z.snd.snd
  && decide ((0 : Nat) < F.nv z.snd.snd) then some (AV.agg [(vB (z.fst && decide ((0 : Nat) < F.nv z.snd.fst))), AV.sl (List.map eI (F.lb (Nat.div (F.nv z.snd.fst) (Nat.gcd
  (F.nv z.snd.snd) (F.nv z.snd.fst))))), AV.sl (List.map eI (F.lb (Nat.div (F.nv z.snd.snd) (Nat.gcd (F.nv z.snd.snd) (F.nv z.snd.fst)))))], []) else none else none else
  Option.bind (unenc encLes [AV.sl (List.map eI (F.lb (F.nv z_1.fst * F.nv z_1.snd))), AV.sl (List.map eI (F.lb (F.nv z.fst * F.nv z.snd)))]) fun (z : List Int × List Int)
  => bif F.nk (1000 : Nat) z.fst && F.nk (1000 : Nat) z.snd && decide (F.nv z.snd ≤ F.nv z.fst) then Option.bind (unenc encLow [(vB yn), AV.sl (List.map eI (F.lb (F.nv z.fst
  - F.nv z.snd))), AV.sl (List.map eI (F.lb (F.nv z_2.fst * F.nv z_2.snd)))]) fun (z : Bool × List Int × List Int) => bif F.nk (200 : Nat) z.snd.fst && F.nk (200 : Nat)
  z.snd.snd && decide ((0 : Nat) < F.nv z.snd.snd) then some (AV.agg [(vB (z.fst && decide ((0 : Nat) < F.nv z.snd.fst))), AV.sl (List.map eI (F.lb (Nat.div (F.nv z.snd.fst)
  (Nat.gcd (F.nv z.snd.snd) (F.nv z.snd.fst))))), AV.sl (List.map eI (F.lb (Nat.div (F.nv z.snd.snd) (Nat.gcd (F.nv z.snd.snd) (F.nv z.snd.fst)))))], []) else none else none
  else none else none else none else none := (runFR_val).symm.trans (by kernel_rfl)

def encPlu1 (xn : Bool) (xt : List Int) (xb : List Int) (yn : Bool) (yt : List Int) (yb : List Int) : List AV := [.agg [vB xn, .sl (xt.map eI), .sl (xb.map eI)], .agg [vB yn, .sl (yt.map eI), .sl (yb.map eI)]]

def encPlu (a : Bool × (List Int) × (List Int) × Bool × (List Int) × (List Int)) : List AV := encPlu1 a.1 a.2.1 a.2.2.1 a.2.2.2.1 a.2.2.2.2.1 a.2.2.2.2.2

theorem encPlu_inj (a a' : Bool × (List Int) × (List Int) × Bool × (List Int) × (List Int)) (h : encPlu a = encPlu a') : a = a' := by
  simp only [encPlu, encPlu1] at h
  try simp [strs_inj, ints_inj, bools_inj, u8s_inj, eEnts_inj, eEnt_iff, eLsts_inj, eLst_iff, eSegs_inj, eSeg_iff, eRots_inj, eRot_iff, eBeats_inj, eBeat_iff, eSpans_inj, eSpan_iff, eHoles_inj, eHole_iff] at h
  grind

theorem unPlu (xn : Bool) (xt : List Int) (xb : List Int) (yn : Bool) (yt : List Int) (yb : List Int) : unenc encPlu ([AV.agg [(vB xn), AV.sl (List.map eI xt), AV.sl (List.map eI xb)], AV.agg [(vB yn), AV.sl (List.map eI yt), AV.sl (List.map eI yb)]]) = some (xn, xt, xb, yn, yt, yb) := unenc_of encPlu_inj (xn, xt, xb, yn, yt, yb) rfl

def resPlu1 (xn : Bool) (xt : List Int) (xb : List Int) (yn : Bool) (yt : List Int) (yb : List Int) : AV × Heap := (.agg [vB (F.plN xn yn (F.nv xt * F.nv yb) (F.nv yt * F.nv xb) && decide (0 < F.plT xn yn (F.nv xt * F.nv yb) (F.nv yt * F.nv xb))), .sl ((F.lowT (F.plT xn yn (F.nv xt * F.nv yb) (F.nv yt * F.nv xb)) (F.nv xb * F.nv yb)).map eI), .sl ((F.lowB (F.plT xn yn (F.nv xt * F.nv yb) (F.nv yt * F.nv xb)) (F.nv xb * F.nv yb)).map eI)], [])

def prePlu1 (xn : Bool) (xt : List Int) (xb : List Int) (yn : Bool) (yt : List Int) (yb : List Int) : Bool := F.nk 90 xt && F.nk 90 xb && F.nk 90 yt && F.nk 90 yb && decide (0 < F.nv xb) && decide (0 < F.nv yb)

noncomputable def oPlu : Orc := orc 39 false encPlu (fun a => prePlu1 a.1 a.2.1 a.2.2.1 a.2.2.2.1 a.2.2.2.2.1 a.2.2.2.2.2) fun a => resPlu1 a.1 a.2.1 a.2.2.1 a.2.2.2.1 a.2.2.2.2.1 a.2.2.2.2.2

theorem okPlu : OrcOK Tryz.prog noG oPlu := by
  refine mk_ok Tryz.f39 (keep := false) (by kernel_rfl) (by kernel_rfl) enNum_ok mixed (no_loops (by kernel_rfl)) (by first | exact fun _ _ => ⟨rfl, rfl⟩ | (intro h; cases h)) ?_
  rintro ⟨xn, xt, xb, yn, yt, yb⟩ hpre hok
  show (runF enNum false _ (encPlu1 _ _ _ _ _ _)).val = some (resPlu1 _ _ _ _ _ _)
  unfold encPlu1 resPlu1
  rw [evPlu]
  have hpre : (F.nk 90 xt && F.nk 90 xb && F.nk 90 yt && F.nk 90 yb && decide (0 < F.nv xb) && decide (0 < F.nv yb)) = true := hpre
  simp only [Bool.and_eq_true, decide_eq_true_eq] at hpre
  obtain ⟨⟨⟨⟨⟨p1, p2⟩, p3⟩, p4⟩, p5⟩, p6⟩ := hpre
  have l1 := F.mul_lt (nk_lt p1) (nk_lt p4)
  have l2 := F.mul_lt (nk_lt p3) (nk_lt p2)
  have l3 := F.mul_lt (nk_lt p2) (nk_lt p4)
  have hp : decide (0 < F.nv xb * F.nv yb) = true := decide_eq_true (Nat.mul_pos p5 p6)
  have q1 := nk_up p1 (by decide : 90 ≤ 400)
  have q2 := nk_up p2 (by decide : 90 ≤ 400)
  have q3 := nk_up p3 (by decide : 90 ≤ 400)
  have q4 := nk_up p4 (by decide : 90 ≤ 400)
  simp only [unTmz, unAdd, unLes, unCpr, unLow, preTmz1, preAdd1, preLes1, preCpr1, preLow1, etaEnt, etaLst, etaSeg, etaRot, etaBeat, etaSpan, etaHole, Option.bind_some, List.length_map, unStrs, unInts, unBools, unU8s, unEnts, unLsts, unSegs, unRots, unBeats, unSpans, unHoles, F.lt, F.le, cond_true, cond_false, Bool.and_true, Bool.true_and, q1, q2, q3, q4, F.nv_lb, hp]
  generalize F.nv xt * F.nv yb = a at l1 ⊢
  generalize F.nv yt * F.nv xb = b at l2 ⊢
  generalize F.nv xb * F.nv yb = c at l3 hp ⊢
  have e180 : 90 + 90 = 180 := rfl
  rw [e180] at l1 l2 l3
  have k1 : F.nk 1000 (F.lb a) = true := nk_le l1 (by decide)
  have k2 : F.nk 1000 (F.lb b) = true := nk_le l2 (by decide)
  have k3 : F.nk 200 (F.lb c) = true := nk_le l3 (by decide)
  have k4 : F.nk 200 (F.lb (a + b)) = true := nk_le (F.add_lt l1 l2) (by decide)
  have k5 : F.nk 200 (F.lb (a - b)) = true := nk_le (Nat.lt_of_le_of_lt (Nat.sub_le a b) l1) (by decide)
  have k6 : F.nk 200 (F.lb (b - a)) = true := nk_le (Nat.lt_of_le_of_lt (Nat.sub_le b a) l2) (by decide)
  have hs := F.sgn_ge a b
  simp only [k1, k2, k3, k4, k5, k6, hs, F.plT, F.plN, Bool.true_and, cond_true, F.lowT, F.lowB]
  by_cases hx : (xn == yn) = true
  · simp only [hx, cond_true]
    rfl
  · have hx : (xn == yn) = false := by cases h : (xn == yn) <;> simp_all
    by_cases hab : b ≤ a
    · simp only [hx, decide_eq_true hab, cond_true, cond_false]
      rfl
    · have hab2 : a ≤ b := by omega
      simp only [hx, decide_eq_false hab, decide_eq_true hab2, cond_true, cond_false]
      rfl

end M
end Go.Proofs.YtlemjphdhapfpaaGreatDoor
