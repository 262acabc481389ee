/- What is proved here: what headendref1.round, Round, Whole, Int and Turned, and headendref12.border return (no statement of the seat). -/
import Derived.Test.YtlemjphdhapfpaaGreatDoorD111
namespace Go.Proofs.YtlemjphdhapfpaaGreatDoor
open Go Go.RowKit
set_option linter.unusedVariables false
set_option linter.unusedSimpArgs false

/-- Whether a quotient is rounded up. -/
def F.rndUp (way : Int) (xn : Bool) (t b : Nat) : Bool :=
  bif way == 1 then xn && decide (0 < t % b) else bif way == 3 then !xn && decide (0 < t % b) else bif way == 2 then decide (b ≤ t % b + t % b) else false

def F.rndU (way : Int) (xn : Bool) (t b : Nat) : Nat := bif F.rndUp way xn t b then t / b + 1 else t / b

/-- A number with its sign. -/
def F.sg (xn : Bool) (q : Nat) : Int := bif xn then -(q : Int) else q

theorem F.lb_gt (n : Nat) : decide ((0 : Int) < ((F.lb n).length : Int)) = decide (0 < n) := by
  have h := F.lb_emp n
  by_cases hz : n = 0
  · rw [decide_eq_false (by omega), decide_eq_false (by omega)]
  · rw [decide_eq_true (by omega), decide_eq_true (by omega)]

namespace M

theorem unAdd_1 (a : List Int) : unenc encAdd [.sl (a.map eI), .sl [[vI 1]]] = some (a, [1]) := unAdd a [1]

noncomputable def enRnd1 : Env := envH ty noG lks [oDv, oAdd, oCpr] [] [] []

theorem enRnd1_ok : EnvOK Tryz.prog enRnd1 := by
  refine envH_ok lks_ok ty_ok ?_ ?_
  · simp only [List.forall_mem_cons]
    exact ⟨okDv, okAdd, okCpr, by simp⟩
  · simp

theorem evRou (xn : Bool) (xt : List Int) (xb : List Int) (way : Int) : (runF enRnd1 false Tryz.f71 [.agg [vB xn, .sl (xt.map eI), .sl (xb.map eI)], vI way]).val =
  Option.bind (unenc encDv [AV.sl (List.map eI xt), AV.sl (List.map eI xb)]) fun (z : List Int × List Int) => bif F.nk (200 : Nat) z.fst && F.nk (200 : Nat) z.snd && decide
  ((0 : Nat) < F.nv z.snd) then bif way == (1 : Int) then bif bif xn then decide ((0 : Int) < (↑(List.length (List.map eI (F.lb (Nat.mod (F.nv z.fst) (F.nv z.snd))))) :
  Int)) else false then Option.bind (unenc encAdd [AV.sl (List.map eI (F.lb (Nat.div (F.nv z.fst) (F.nv z.snd)))), AV.sl [[(vI (1 : Int))]]]) fun (z : List Int × List Int)
  => bif F.nk (1000 : Nat) z.fst && F.nk (1000 : Nat) z.snd then some (AV.sl (List.map eI (F.lb (F.nv z.fst + F.nv z.snd))), []) else none else some (AV.sl (List.map eI
  (F.lb (Nat.div (F.nv z.fst) (F.nv z.snd)))), []) else bif way == (3 : Int) then bif bif !xn then decide ((0 : Int) < (↑(List.length (List.map eI (F.lb (Nat.mod (F.nv
  z.fst) (F.nv z.snd))))) : Int)) else false then Option.bind (unenc encAdd [AV.sl (List.map eI (F.lb (Nat.div (F.nv z.fst) (F.nv z.snd)))), AV.sl [[(vI (1 : Int))]]]) fun
  (z : List Int × List Int) => bif F.nk (1000 : Nat) z.fst && F.nk (1000 : Nat) z.snd then some (AV.sl (List.map eI (F.lb (F.nv z.fst + F.nv z.snd))), []) else none else
  some (AV.sl (List.map eI (F.lb (Nat.div (F.nv z.fst) (F.nv z.snd)))), []) else bif way == (2 : Int) then Option.bind (unenc encAdd [AV.sl (List.map eI (F.lb (Nat.mod (F.nv
  z.fst) (F.nv z.snd)))), AV.sl (List.map eI (F.lb (Nat.mod (F.nv z.fst) (F.nv z.snd))))]) fun (z_1 : List Int × List Int) => bif F.nk (1000 : Nat) z_1.fst && F.nk (1000 :
  Nat) z_1.snd then Option.bind (unenc encCpr [AV.sl (List.map eI (F.lb (F.nv z_1.fst + F.nv z_1.snd))), AV.sl (List.map eI xb)]) fun (z_2 : List Int × List Int) => bif F.nk
  (1000 : Nat) z_2.fst && F.nk (1000 : Nat) z_2.snd then bif decide ((0 : Int) ≤ F.sgn (↑(F.nv z_2.fst) : Int) (↑(F.nv z_2.snd) : Int)) then Option.bind (unenc encAdd [AV.sl
  (List.map eI (F.lb (Nat.div (F.nv z.fst) (F.nv z.snd)))), AV.sl [[(vI (1 : Int))]]]) fun (z : List Int × List Int) => bif F.nk (1000 : Nat) z.fst && F.nk (1000 : Nat)
  z.snd then some (AV.sl (List.map eI (F.lb (F.nv z.fst + F.nv z.snd))), []) else none else some (AV.sl (List.map eI (F.lb (Nat.div (F.nv z.fst) (F.nv z.snd)))), []) else
  none else none else some (AV.sl (List.map eI (F.lb (Nat.div (F.nv z.fst) (F.nv z.snd)))), []) else none := (runFR_val).symm.trans (by kernel_rfl)

def encRou1 (xn : Bool) (xt : List Int) (xb : List Int) (way : Int) : List AV := [.agg [vB xn, .sl (xt.map eI), .sl (xb.map eI)], vI way]

def encRou (a : Bool × (List Int) × (List Int) × Int) : List AV := encRou1 a.1 a.2.1 a.2.2.1 a.2.2.2

theorem encRou_inj (a a' : Bool × (List Int) × (List Int) × Int) (h : encRou a = encRou a') : a = a' := by
  simp only [encRou, encRou1] at h
  try simp [strs_inj, ints_inj, bools_inj, u8s_inj, eEnts_inj, eEnt_iff, eLsts_inj, eLst_iff, eSegs_inj, eSeg_iff, eRots_inj, eRot_iff, eBeats_inj, eBeat_iff, eSpans_inj, eSpan_iff, eHoles_inj, eHole_iff] at h
  grind

theorem unRou (xn : Bool) (xt : List Int) (xb : List Int) (way : Int) : unenc encRou ([AV.agg [(vB xn), AV.sl (List.map eI xt), AV.sl (List.map eI xb)], (vI way)]) = some (xn, xt, xb, way) := unenc_of encRou_inj (xn, xt, xb, way) rfl

def resRou1 (xn : Bool) (xt : List Int) (xb : List Int) (way : Int) : AV × Heap := (.sl ((F.lb (F.rndU way xn (F.nv xt) (F.nv xb))).map eI), [])

def preRou1 (xn : Bool) (xt : List Int) (xb : List Int) (way : Int) : Bool := F.nk 200 xt && F.nk 200 xb && decide (0 < F.nv xb)

noncomputable def oRou : Orc := orc 71 false encRou (fun a => preRou1 a.1 a.2.1 a.2.2.1 a.2.2.2) fun a => resRou1 a.1 a.2.1 a.2.2.1 a.2.2.2

theorem okRou : OrcOK Tryz.prog noG oRou := by
  refine mk_ok Tryz.f71 (keep := false) (by kernel_rfl) (by kernel_rfl) enRnd1_ok mixed (no_loops (by kernel_rfl)) (by first | exact fun _ _ => ⟨rfl, rfl⟩ | (intro h; cases h)) ?_
  rintro ⟨xn, xt, xb, way⟩ hpre hok
  show (runF enRnd1 false _ (encRou1 _ _ _ _)).val = some (resRou1 _ _ _ _)
  unfold encRou1 resRou1
  rw [evRou]
  have hpre : (F.nk 200 xt && F.nk 200 xb && decide (0 < F.nv xb)) = true := hpre
  simp only [Bool.and_eq_true, decide_eq_true_eq] at hpre
  obtain ⟨⟨p1, p2⟩, p3⟩ := hpre
  have hm : F.nv xt % F.nv xb < 10000 ^ 200 := Nat.lt_trans (Nat.mod_lt _ p3) (nk_lt p2)
  have hq : F.nv xt / F.nv xb < 10000 ^ 200 := Nat.lt_of_le_of_lt (Nat.div_le_self _ _) (nk_lt p1)
  have hdv : ∀ u v : Nat, Nat.div u v = u / v := fun _ _ => rfl
  have hmo : ∀ u v : Nat, Nat.mod u v = u % v := fun _ _ => rfl
  have k1 := nk_le (k := 1000) hm (by decide)
  have k2 := nk_le (k := 1000) hq (by decide)
  have k3 : F.nk 1000 (F.lb (F.nv xt % F.nv xb + F.nv xt % F.nv xb)) = true := nk_le (F.add_lt hm hm) (by decide)
  have k4 := nk_up p2 (by decide : 200 ≤ 1000)
  simp only [unDv, unAdd, unCpr, preDv1, preAdd1, preCpr1, etaEnt, etaLst, etaSeg, etaRot, etaBeat, etaSpan, etaHole, Option.bind_some, List.length_map, unStrs, unInts, unBools, unU8s, unEnts, unLsts, unSegs, unRots, unBeats, unSpans, unHoles, F.lt, F.le, cond_true, cond_false, Bool.and_true, Bool.true_and, p1, p2, decide_eq_true p3, hdv, hmo, F.lb_gt, k1, k2, k3, k4, F.nv_lb, F.sgn_ge, unAdd_1, nk_one (by decide : 1 ≤ 1000), nv_one]
  unfold F.rndU F.rndUp
  cases way == 1 <;> cases way == 3 <;> cases way == 2 <;> cases xn <;> (first | rfl | (cases decide (0 < F.nv xt % F.nv xb) <;> rfl) | (cases decide (F.nv xb ≤ F.nv xt % F.nv xb + F.nv xt % F.nv xb) <;> rfl))

noncomputable def enRnd2 : Env := envH ty noG lks [oRou, oIta, oLim, oCpr, oDig, oAto] [] [] []

theorem enRnd2_ok : EnvOK Tryz.prog enRnd2 := by
  refine envH_ok lks_ok ty_ok ?_ ?_
  · simp only [List.forall_mem_cons]
    exact ⟨okRou, okIta, okLim, okCpr, okDig, okAto, by simp⟩
  · simp

theorem evRon (xn : Bool) (xt : List Int) (xb : List Int) (way : Int) (most : Int) : (runF enRnd2 false Tryz.f38 [.agg [vB xn, .sl (xt.map eI), .sl (xb.map eI)], vI way, vI most]).val =
  Option.bind (unenc encRou [AV.agg [(vB xn), AV.sl (List.map eI xt), AV.sl (List.map eI xb)], (vI way)]) fun (z : Bool × List Int × List Int × Int) => bif F.nk (200 : Nat)
  z.snd.fst && F.nk (200 : Nat) z.snd.snd.fst && decide ((0 : Nat) < F.nv z.snd.snd.fst) then Option.bind (unenc encIta [(vI most)]) fun (z_1 : Int) => bif decide
  ((-9223372036854775808 : Int) ≤ z_1) && decide (z_1 ≤ (9223372036854775807 : Int)) then Option.bind (unenc encLim [(vS (F.itoa z_1))]) fun (z_2 : ByteArray) => bif
  List.all (F.bs z_2) F.dgB && decide (ByteArray.size z_2 ≤ (1000 : Nat)) then Option.bind (unenc encCpr [AV.sl (List.map eI (F.lb (F.rndU z.snd.snd.snd z.fst (F.nv
  z.snd.fst) (F.nv z.snd.snd.fst)))), AV.sl (List.map eI (F.lb (F.dv z_2)))]) fun (z_3 : List Int × List Int) => bif F.nk (1000 : Nat) z_3.fst && F.nk (1000 : Nat) z_3.snd
  then bif decide ((0 : Int) < F.sgn (↑(F.nv z_3.fst) : Int) (↑(F.nv z_3.snd) : Int)) then some (AV.tup [(vI (0 : Int)), (vB false)], []) else Option.bind (unenc encDig
  [AV.sl (List.map eI (F.lb (F.rndU z.snd.snd.snd z.fst (F.nv z.snd.fst) (F.nv z.snd.snd.fst))))]) fun (z : List Int) => bif F.nk (200 : Nat) z then Option.bind (unenc
  encAto [(vS (F.itoa (↑(F.nv z) : Int)))]) fun (z : ByteArray) => bif F.isD z && decide (ByteArray.size z ≤ (1000 : Nat)) then bif xn then some (AV.tup [(vI (IntKind.wrap
  IntKind.i64 ((0 : Int) - (↑(F.dv z) : Int)))), (vB true)], []) else some (AV.tup [(vI (↑(F.dv z) : Int)), (vB true)], []) else none else none else none else none else none
  else none := (runFR_val).symm.trans (by kernel_rfl)

def encRon1 (xn : Bool) (xt : List Int) (xb : List Int) (way : Int) (most : Int) : List AV := [.agg [vB xn, .sl (xt.map eI), .sl (xb.map eI)], vI way, vI most]

def encRon (a : Bool × (List Int) × (List Int) × Int × Int) : List AV := encRon1 a.1 a.2.1 a.2.2.1 a.2.2.2.1 a.2.2.2.2

theorem encRon_inj (a a' : Bool × (List Int) × (List Int) × Int × Int) (h : encRon a = encRon a') : a = a' := by
  simp only [encRon, encRon1] at h
  try simp [strs_inj, ints_inj, bools_inj, u8s_inj, eEnts_inj, eEnt_iff, eLsts_inj, eLst_iff, eSegs_inj, eSeg_iff, eRots_inj, eRot_iff, eBeats_inj, eBeat_iff, eSpans_inj, eSpan_iff, eHoles_inj, eHole_iff] at h
  grind

theorem unRon (xn : Bool) (xt : List Int) (xb : List Int) (way : Int) (most : Int) : unenc encRon ([AV.agg [(vB xn), AV.sl (List.map eI xt), AV.sl (List.map eI xb)], (vI way), (vI most)]) = some (xn, xt, xb, way, most) := unenc_of encRon_inj (xn, xt, xb, way, most) rfl

def resRon1 (xn : Bool) (xt : List Int) (xb : List Int) (way : Int) (most : Int) : AV × Heap := (.tup [vI (bif decide (most < F.rndU way xn (F.nv xt) (F.nv xb)) then 0 else F.sg xn (F.rndU way xn (F.nv xt) (F.nv xb))), vB (!decide (most < F.rndU way xn (F.nv xt) (F.nv xb)))], [])

def preRon1 (xn : Bool) (xt : List Int) (xb : List Int) (way : Int) (most : Int) : Bool := F.nk 150 xt && F.nk 150 xb && decide (0 < F.nv xb) && decide (0 ≤ most) && decide (most ≤ 9223372036854775807)

noncomputable def oRon : Orc := orc 38 true encRon (fun a => preRon1 a.1 a.2.1 a.2.2.1 a.2.2.2.1 a.2.2.2.2) fun a => resRon1 a.1 a.2.1 a.2.2.1 a.2.2.2.1 a.2.2.2.2

theorem okRon : OrcOK Tryz.prog noG oRon := by
  refine mk_ok Tryz.f38 (keep := false) (by kernel_rfl) (by kernel_rfl) enRnd2_ok mixed (no_loops (by kernel_rfl)) (by first | exact fun _ _ => ⟨rfl, rfl⟩ | (intro h; cases h)) ?_
  rintro ⟨xn, xt, xb, way, most⟩ hpre hok
  show (runF enRnd2 false _ (encRon1 _ _ _ _ _)).val = some (resRon1 _ _ _ _ _)
  unfold encRon1 resRon1
  rw [evRon]
  have hpre : (F.nk 150 xt && F.nk 150 xb && decide (0 < F.nv xb) && decide (0 ≤ most) && decide (most ≤ 9223372036854775807)) = true := hpre
  simp only [Bool.and_eq_true, decide_eq_true_eq] at hpre
  obtain ⟨⟨⟨⟨p1, p2⟩, p3⟩, p4⟩, p5⟩ := hpre
  have r1 := nk_up p1 (by decide : 150 ≤ 200)
  have r2 := nk_up p2 (by decide : 150 ≤ 200)
  have hq : F.nv xt / F.nv xb < 10000 ^ 150 := Nat.lt_of_le_of_lt (Nat.div_le_self _ _) (nk_lt p1)
  have hR : F.rndU way xn (F.nv xt) (F.nv xb) < 10000 ^ (150 + 1) := by
    have h1 := F.add_lt hq (n := 1) (Nat.one_lt_pow (by decide) (by decide))
    unfold F.rndU
    cases F.rndUp way xn (F.nv xt) (F.nv xb)
    · exact Nat.lt_trans (Nat.lt_succ_self _) h1
    · exact h1
  generalize hRe : F.rndU way xn (F.nv xt) (F.nv xb) = R at hR
  obtain ⟨m, rfl⟩ : ∃ m : Nat, most = m := ⟨most.toNat, by omega⟩
  have hmb : m < 10000 ^ 5 := Nat.lt_of_le_of_lt (by omega : m ≤ 9223372036854775807) (by decide)
  have k1 := nk_le (k := 1000) hR (by decide)
  have k2 := nk_le (k := 1000) hmb (by decide)
  have k3 := nk_le (k := 200) hR (by decide)
  have hal := F.all_itoa m
  have hsz : (F.itoa (m : Int)).size ≤ 1000 := by have := F.itoa_size (n := m) (by omega) (by omega); omega
  have hs : decide ((0 : Int) < F.sgn (R : Int) (m : Int)) = decide ((m : Int) < (R : Int)) := by
    unfold F.sgn
    by_cases c : (m : Int) < (R : Int)
    · rw [decide_eq_true c, if_neg (by omega), if_pos c]; rfl
    · by_cases c2 : (R : Int) < (m : Int)
      · rw [decide_eq_false c, if_pos c2]; rfl
      · rw [decide_eq_false c, if_neg c2, if_neg c]; rfl
  simp only [unRou, unIta, unLim, unCpr, unDig, unAto, preRou1, preIta1, preLim1, preCpr1, preDig1, preAto1, etaEnt, etaLst, etaSeg, etaRot, etaBeat, etaSpan, etaHole, Option.bind_some, List.length_map, unStrs, unInts, unBools, unU8s, unEnts, unLsts, unSegs, unRots, unBeats, unSpans, unHoles, F.lt, F.le, cond_true, cond_false, Bool.and_true, Bool.true_and, r1, r2, decide_eq_true p3, decide_eq_true (by omega : (-9223372036854775808 : Int) ≤ (m : Int)), decide_eq_true p5, hal, decide_eq_true hsz, F.dv_itoa, hRe, k1, k2, k3, F.nv_lb, hs]
  by_cases c : (m : Int) < (R : Int)
  · rw [decide_eq_true c]; rfl
  · have hi : F.isD (F.itoa (R : Int)) = true := F.isD_itoa (by omega)
    have hsz2 : (F.itoa (R : Int)).size ≤ 1000 := by have := F.itoa_size (n := R) (by omega) (by omega); omega
    have hw : IntKind.i64.wrap (0 - (R : Int)) = -(R : Int) := by rw [wrap_id (by omega) (by omega)]; omega
    simp only [decide_eq_false c, hi, decide_eq_true hsz2, Bool.and_true, cond_true, cond_false, hw, F.sg, Bool.not_false]
    cases xn <;> rfl

/-- The whole number as far as it fits. -/
def _root_.Go.Proofs.YtlemjphdhapfpaaGreatDoor.F.whole (way : Int) (xn : Bool) (t b : Nat) : Int := bif decide ((4611686018427387904 : Int) < F.rndU way xn t b) then (bif xn then -4611686018427387904 else 4611686018427387904) else F.sg xn (F.rndU way xn t b)

noncomputable def enWhl : Env := envH ty noG lks [oRon] [] [] []

theorem enWhl_ok : EnvOK Tryz.prog enWhl := by
  refine envH_ok lks_ok ty_ok ?_ ?_
  · simp only [List.forall_mem_cons]
    exact ⟨okRon, by simp⟩
  · simp

theorem evWhl (xn : Bool) (xt : List Int) (xb : List Int) (way : Int) : (runF enWhl false Tryz.f21 [.agg [vB xn, .sl (xt.map eI), .sl (xb.map eI)], vI way]).val =
  Option.bind (unenc encRon [AV.agg [(vB xn), AV.sl (List.map eI xt), AV.sl (List.map eI xb)], (vI way), (vI (4611686018427387904 : Int))]) fun (z : Bool × List Int × List
  Int × Int × Int) => bif F.nk (150 : Nat) z.snd.fst && F.nk (150 : Nat) z.snd.snd.fst && decide ((0 : Nat) < F.nv z.snd.snd.fst) && decide ((0 : Int) ≤ z.snd.snd.snd.snd)
  && decide (z.snd.snd.snd.snd ≤ (9223372036854775807 : Int)) then bif !decide (z.snd.snd.snd.snd < (↑(F.rndU z.snd.snd.snd.fst z.fst (F.nv z.snd.fst) (F.nv z.snd.snd.fst))
  : Int)) then some ((vI (bif decide (z.snd.snd.snd.snd < (↑(F.rndU z.snd.snd.snd.fst z.fst (F.nv z.snd.fst) (F.nv z.snd.snd.fst)) : Int)) then (0 : Int) else F.sg z.fst
  (F.rndU z.snd.snd.snd.fst z.fst (F.nv z.snd.fst) (F.nv z.snd.snd.fst)))), []) else bif xn then some ((vI (-4611686018427387904 : Int)), []) else some ((vI
  (4611686018427387904 : Int)), []) else none := (runFR_val).symm.trans (by kernel_rfl)

def encWhl1 (xn : Bool) (xt : List Int) (xb : List Int) (way : Int) : List AV := [.agg [vB xn, .sl (xt.map eI), .sl (xb.map eI)], vI way]

def encWhl (a : Bool × (List Int) × (List Int) × Int) : List AV := encWhl1 a.1 a.2.1 a.2.2.1 a.2.2.2

theorem encWhl_inj (a a' : Bool × (List Int) × (List Int) × Int) (h : encWhl a = encWhl a') : a = a' := by
  simp only [encWhl, encWhl1] at h
  try simp [strs_inj, ints_inj, bools_inj, u8s_inj, eEnts_inj, eEnt_iff, eLsts_inj, eLst_iff, eSegs_inj, eSeg_iff, eRots_inj, eRot_iff, eBeats_inj, eBeat_iff, eSpans_inj, eSpan_iff, eHoles_inj, eHole_iff] at h
  grind

theorem unWhl (xn : Bool) (xt : List Int) (xb : List Int) (way : Int) : unenc encWhl ([AV.agg [(vB xn), AV.sl (List.map eI xt), AV.sl (List.map eI xb)], (vI way)]) = some (xn, xt, xb, way) := unenc_of encWhl_inj (xn, xt, xb, way) rfl

def resWhl1 (xn : Bool) (xt : List Int) (xb : List Int) (way : Int) : AV × Heap := (vI (F.whole way xn (F.nv xt) (F.nv xb)), [])

def preWhl1 (xn : Bool) (xt : List Int) (xb : List Int) (way : Int) : Bool := F.nk 150 xt && F.nk 150 xb && decide (0 < F.nv xb)

noncomputable def oWhl : Orc := orc 21 true encWhl (fun a => preWhl1 a.1 a.2.1 a.2.2.1 a.2.2.2) fun a => resWhl1 a.1 a.2.1 a.2.2.1 a.2.2.2

theorem okWhl : OrcOK Tryz.prog noG oWhl := by
  refine mk_ok Tryz.f21 (keep := false) (by kernel_rfl) (by kernel_rfl) enWhl_ok mixed (no_loops (by kernel_rfl)) (by first | exact fun _ _ => ⟨rfl, rfl⟩ | (intro h; cases h)) ?_
  rintro ⟨xn, xt, xb, way⟩ hpre hok
  show (runF enWhl false _ (encWhl1 _ _ _ _)).val = some (resWhl1 _ _ _ _)
  unfold encWhl1 resWhl1
  rw [evWhl]
  have hpre : (F.nk 150 xt && F.nk 150 xb && decide (0 < F.nv xb)) = true := hpre
  simp only [unRon, preRon1, etaEnt, etaLst, etaSeg, etaRot, etaBeat, etaSpan, etaHole, Option.bind_some, List.length_map, unStrs, unInts, unBools, unU8s, unEnts, unLsts, unSegs, unRots, unBeats, unSpans, unHoles, F.lt, F.le, cond_true, cond_false, Bool.and_true, Bool.true_and, hpre, (by decide : decide ((0 : Int) ≤ 4611686018427387904) = true), (by decide : decide ((4611686018427387904 : Int) ≤ 9223372036854775807) = true)]
  unfold F.whole
  cases decide ((4611686018427387904 : Int) < F.rndU way xn (F.nv xt) (F.nv xb)) <;> cases xn <;> rfl

theorem unLow_1 (ng : Bool) (t : List Int) : unenc encLow [vB ng, .sl (t.map eI), .sl [[vI 1]]] = some (ng, t, [1]) := unLow ng t [1]

noncomputable def enInt : Env := envH ty noG lks [oFmt, oLim, oLow] [] [] []

theorem enInt_ok : EnvOK Tryz.prog enInt := by
  refine envH_ok lks_ok ty_ok ?_ ?_
  · simp only [List.forall_mem_cons]
    exact ⟨okFmt, okLim, okLow, by simp⟩
  · simp

theorem evInt (n : Int) : (runF enInt false Tryz.f40 [vI n]).val =
  bif decide (n < (0 : Int)) then Option.bind (unenc encFmt [AV.v (Value.int IntKind.u64 (IntKind.wrap IntKind.u64 ((0 : Int) - IntKind.wrap IntKind.u64 n))), (vI (10 :
  Int))]) fun (z : Nat) => bif decide (z ≤ (18446744073709551615 : Nat)) then Option.bind (unenc encLim [(vS (F.itoa (↑z : Int)))]) fun (z : ByteArray) => bif List.all (F.bs
  z) F.dgB && decide (ByteArray.size z ≤ (1000 : Nat)) then Option.bind (unenc encLow [(vB (decide (n < (0 : Int)))), AV.sl (List.map eI (F.lb (F.dv z))), AV.sl [[(vI (1 :
  Int))]]]) fun (z : Bool × List Int × List Int) => bif F.nk (200 : Nat) z.snd.fst && F.nk (200 : Nat) z.snd.snd && decide ((0 : Nat) < F.nv z.snd.snd) then some (AV.agg
  [(vB (z.fst && decide ((0 : Nat) < F.nv z.snd.fst))), AV.sl (List.map eI (F.lb (Nat.div (F.nv z.snd.fst) (Nat.gcd (F.nv z.snd.snd) (F.nv z.snd.fst))))), AV.sl (List.map eI
  (F.lb (Nat.div (F.nv z.snd.snd) (Nat.gcd (F.nv z.snd.snd) (F.nv z.snd.fst)))))], []) else none else none else none else Option.bind (unenc encFmt [AV.v (Value.int
  IntKind.u64 (IntKind.wrap IntKind.u64 n)), (vI (10 : Int))]) fun (z : Nat) => bif decide (z ≤ (18446744073709551615 : Nat)) then Option.bind (unenc encLim [(vS (F.itoa (↑z
  : Int)))]) fun (z : ByteArray) => bif List.all (F.bs z) F.dgB && decide (ByteArray.size z ≤ (1000 : Nat)) then Option.bind (unenc encLow [(vB (decide (n < (0 : Int)))),
  AV.sl (List.map eI (F.lb (F.dv z))), AV.sl [[(vI (1 : Int))]]]) fun (z : Bool × List Int × List Int) => bif F.nk (200 : Nat) z.snd.fst && F.nk (200 : Nat) z.snd.snd &&
  decide ((0 : Nat) < F.nv z.snd.snd) then some (AV.agg [(vB (z.fst && decide ((0 : Nat) < F.nv z.snd.fst))), AV.sl (List.map eI (F.lb (Nat.div (F.nv z.snd.fst) (Nat.gcd
  (F.nv z.snd.snd) (F.nv z.snd.fst))))), AV.sl (List.map eI (F.lb (Nat.div (F.nv z.snd.snd) (Nat.gcd (F.nv z.snd.snd) (F.nv z.snd.fst)))))], []) else none else none else
  none := (runFR_val).symm.trans (by kernel_rfl)

def encInt1 (n : Int) : List AV := [vI n]

def encInt (a : Int) : List AV := encInt1 a

theorem encInt_inj (a a' : Int) (h : encInt a = encInt a') : a = a' := by
  simp only [encInt, encInt1] at h
  try simp [strs_inj, ints_inj, bools_inj, u8s_inj, eEnts_inj, eEnt_iff, eLsts_inj, eLst_iff, eSegs_inj, eSeg_iff, eRots_inj, eRot_iff, eBeats_inj, eBeat_iff, eSpans_inj, eSpan_iff, eHoles_inj, eHole_iff] at h
  grind

theorem unInt (n : Int) : unenc encInt ([(vI n)]) = some (n) := unenc_of encInt_inj (n) rfl

def resInt1 (n : Int) : AV × Heap := (.agg [vB (decide (n < 0)), .sl ((F.lb n.natAbs).map eI), .sl ((F.lb 1).map eI)], [])

def preInt1 (n : Int) : Bool := decide (-9223372036854775808 ≤ n) && decide (n ≤ 9223372036854775807)

noncomputable def oInt : Orc := orc 40 false encInt (fun a => preInt1 a) fun a => resInt1 a

theorem okInt : OrcOK Tryz.prog noG oInt := by
  refine mk_ok Tryz.f40 (keep := false) (by kernel_rfl) (by kernel_rfl) enInt_ok mixed (no_loops (by kernel_rfl)) (by first | exact fun _ _ => ⟨rfl, rfl⟩ | (intro h; cases h)) ?_
  rintro n hpre hok
  show (runF enInt false _ (encInt1 _)).val = some (resInt1 _)
  unfold encInt1 resInt1
  rw [evInt]
  have hpre : (decide (-9223372036854775808 ≤ n) && decide (n ≤ 9223372036854775807)) = true := hpre
  rw [Bool.and_eq_true, decide_eq_true_eq, decide_eq_true_eq] at hpre
  have hu : n.natAbs ≤ 9223372036854775808 := by omega
  have hlt : n.natAbs < 10000 ^ 5 := Nat.lt_of_le_of_lt hu (by decide)
  have k1 : F.nk 200 (F.lb n.natAbs) = true := nk_le hlt (by decide)
  have hsz : decide ((F.itoa ((n.natAbs : Nat) : Int)).size ≤ 1000) = true := decide_eq_true (by
    rw [← F.bs_len, F.itoa_n, Lib.decDigits_length]
    by_cases h : n.natAbs < 10
    · rw [Lib.nDigits_small h]; omega
    · have := Lib.numDigits_eq n.natAbs (by omega) (by omega)
      split at this <;> omega)
  have hdv : ∀ u v : Nat, Nat.div u v = u / v := fun _ _ => rfl
  have hp : decide (0 < F.nv [1]) = true := rfl
  have hw : n < 0 → IntKind.u64.wrap (0 - IntKind.u64.wrap n) = ((n.natAbs : Nat) : Int) := fun h => by rw [IntKind.wrap_u64, IntKind.wrap_u64]; omega
  have hw2 : ¬ n < 0 → IntKind.u64.wrap n = ((n.natAbs : Nat) : Int) := fun h => by rw [IntKind.wrap_u64]; omega
  by_cases hn : n < 0
  · have hn0 : decide (0 < n.natAbs) = true := decide_eq_true (by omega)
    simp only [unFmt, unLim, unLow, preFmt1, preLim1, preLow1, etaEnt, etaLst, etaSeg, etaRot, etaBeat, etaSpan, etaHole, Option.bind_some, List.length_map, unStrs, unInts, unBools, unU8s, unEnts, unLsts, unSegs, unRots, unBeats, unSpans, unHoles, F.lt, F.le, cond_true, cond_false, Bool.and_true, Bool.true_and, decide_eq_true hn, hw hn, decide_eq_true (by omega : n.natAbs ≤ 18446744073709551615), F.all_itoa, hsz, F.dv_itoa, unLow_1, k1, nk_one (by decide : 1 ≤ 200), hp, F.nv_lb, nv_one, hdv, Nat.gcd_one_left, Nat.div_one, hn0]
    rfl
  · simp only [unFmt, unLim, unLow, preFmt1, preLim1, preLow1, etaEnt, etaLst, etaSeg, etaRot, etaBeat, etaSpan, etaHole, Option.bind_some, List.length_map, unStrs, unInts, unBools, unU8s, unEnts, unLsts, unSegs, unRots, unBeats, unSpans, unHoles, F.lt, F.le, cond_true, cond_false, Bool.and_true, Bool.true_and, decide_eq_false hn, hw2 hn, decide_eq_true (by omega : n.natAbs ≤ 18446744073709551615), F.all_itoa, hsz, F.dv_itoa, unLow_1, k1, nk_one (by decide : 1 ≤ 200), hp, F.nv_lb, nv_one, hdv, Nat.gcd_one_left, Nat.div_one, Bool.false_and]
    rfl

end M

/-- The sum of two whole numbers by their absolute values. -/
theorem F.pl_add (x y : Int) : F.sg (F.plN (decide (x < 0)) (decide (y < 0)) x.natAbs y.natAbs && decide (0 < F.plT (decide (x < 0)) (decide (y < 0)) x.natAbs y.natAbs)) (F.plT (decide (x < 0)) (decide (y < 0)) x.natAbs y.natAbs) = x + y := by
  unfold F.plN F.plT F.sg
  by_cases hx : x < 0
  · by_cases hy : y < 0
    · simp only [decide_eq_true hx, decide_eq_true hy, BEq.rfl, cond_true]
      rw [decide_eq_true (by omega)]
      simp only [Bool.and_true, cond_true]
      omega
    · simp only [decide_eq_true hx, decide_eq_false hy]
      by_cases h : y.natAbs ≤ x.natAbs
      · simp only [decide_eq_true h]
        by_cases h0 : 0 < x.natAbs - y.natAbs
        · simp [h0]; omega
        · simp [h0]; omega
      · simp only [decide_eq_false h]
        simp; omega
  · by_cases hy : y < 0
    · simp only [decide_eq_false hx, decide_eq_true hy]
      by_cases h : y.natAbs ≤ x.natAbs
      · simp only [decide_eq_true h]
        simp; omega
      · simp only [decide_eq_false h]
        by_cases h0 : 0 < y.natAbs - x.natAbs
        · simp [h0]; omega
        · simp [h0]; omega
    · simp only [decide_eq_false hx, decide_eq_false hy]
      simp; omega

namespace M

theorem nk_abs {n : Int} (h1 : -9223372036854775808 ≤ n) (h2 : n ≤ 9223372036854775807) {k : Nat} (hk : 5 ≤ k) : F.nk k (F.lb n.natAbs) = true :=
  nk_le (Nat.lt_of_le_of_lt (by omega : n.natAbs ≤ 9223372036854775808) (by decide : 9223372036854775808 < 10000 ^ 5)) hk

theorem nk_lb1 {k : Nat} (h : 1 ≤ k) : F.nk k (F.lb 1) = true := F.nk_lb (F.lb_lt (m := 1) (by decide) h)

noncomputable def enTur : Env := envH ty noG lks [oInt, oTms, oOvr] [] [] []

theorem enTur_ok : EnvOK Tryz.prog enTur := by
  refine envH_ok lks_ok ty_ok ?_ ?_
  · simp only [List.forall_mem_cons]
    exact ⟨okInt, okTms, okOvr, by simp⟩
  · simp

theorem evTur (n : Int) (fr : Int) (tq : Int) : (runF enTur false Tryz.f22 [vI n, vI fr, vI tq]).val =
  Option.bind (unenc encInt [(vI n)]) fun (z : Int) => bif decide ((-9223372036854775808 : Int) ≤ z) && decide (z ≤ (9223372036854775807 : Int)) then Option.bind (unenc
  encInt [(vI tq)]) fun (z_1 : Int) => bif decide ((-9223372036854775808 : Int) ≤ z_1) && decide (z_1 ≤ (9223372036854775807 : Int)) then Option.bind (unenc encTms [AV.agg
  [(vB (decide (z < (0 : Int)))), AV.sl (List.map eI (F.lb (Int.natAbs z))), AV.sl (List.map eI (F.lb (1 : Nat)))], AV.agg [(vB (decide (z_1 < (0 : Int)))), AV.sl (List.map
  eI (F.lb (Int.natAbs z_1))), AV.sl (List.map eI (F.lb (1 : Nat)))]]) fun (z : Bool × List Int × List Int × Bool × List Int × List Int) => bif F.nk (90 : Nat) z.snd.fst &&
  F.nk (90 : Nat) z.snd.snd.fst && F.nk (90 : Nat) z.snd.snd.snd.snd.fst && F.nk (90 : Nat) z.snd.snd.snd.snd.snd && decide ((0 : Nat) < F.nv z.snd.snd.fst) && decide ((0 :
  Nat) < F.nv z.snd.snd.snd.snd.snd) then Option.bind (unenc encInt [(vI fr)]) fun (z_2 : Int) => bif decide ((-9223372036854775808 : Int) ≤ z_2) && decide (z_2 ≤
  (9223372036854775807 : Int)) then Option.bind (unenc encOvr [AV.agg [(vB (z.fst != z.snd.snd.snd.fst && decide ((0 : Nat) < F.nv z.snd.fst * F.nv z.snd.snd.snd.snd.fst))),
  AV.sl (List.map eI (F.lowT (F.nv z.snd.fst * F.nv z.snd.snd.snd.snd.fst) (F.nv z.snd.snd.fst * F.nv z.snd.snd.snd.snd.snd))), AV.sl (List.map eI (F.lowB (F.nv z.snd.fst *
  F.nv z.snd.snd.snd.snd.fst) (F.nv z.snd.snd.fst * F.nv z.snd.snd.snd.snd.snd)))], AV.agg [(vB (decide (z_2 < (0 : Int)))), AV.sl (List.map eI (F.lb (Int.natAbs z_2))),
  AV.sl (List.map eI (F.lb (1 : Nat)))]]) fun (z : Bool × List Int × List Int × Bool × List Int × List Int) => bif F.nk (90 : Nat) z.snd.fst && F.nk (90 : Nat) z.snd.snd.fst
  && F.nk (90 : Nat) z.snd.snd.snd.snd.fst && F.nk (90 : Nat) z.snd.snd.snd.snd.snd && decide ((0 : Nat) < F.nv z.snd.snd.fst) && decide ((0 : Nat) < F.nv
  z.snd.snd.snd.snd.fst) then some (AV.agg [(vB (z.fst != z.snd.snd.snd.fst && decide ((0 : Nat) < F.nv z.snd.fst * F.nv z.snd.snd.snd.snd.snd))), AV.sl (List.map eI (F.lowT
  (F.nv z.snd.fst * F.nv z.snd.snd.snd.snd.snd) (F.nv z.snd.snd.fst * F.nv z.snd.snd.snd.snd.fst))), AV.sl (List.map eI (F.lowB (F.nv z.snd.fst * F.nv z.snd.snd.snd.snd.snd)
  (F.nv z.snd.snd.fst * F.nv z.snd.snd.snd.snd.fst)))], []) else none else none else none else none else none := (runFR_val).symm.trans (by kernel_rfl)

def encTur1 (n : Int) (fr : Int) (tq : Int) : List AV := [vI n, vI fr, vI tq]

def encTur (a : Int × Int × Int) : List AV := encTur1 a.1 a.2.1 a.2.2

theorem encTur_inj (a a' : Int × Int × Int) (h : encTur a = encTur a') : a = a' := by
  simp only [encTur, encTur1] at h
  try simp [strs_inj, ints_inj, bools_inj, u8s_inj, eEnts_inj, eEnt_iff, eLsts_inj, eLst_iff, eSegs_inj, eSeg_iff, eRots_inj, eRot_iff, eBeats_inj, eBeat_iff, eSpans_inj, eSpan_iff, eHoles_inj, eHole_iff] at h
  grind

theorem unTur (n : Int) (fr : Int) (tq : Int) : unenc encTur ([(vI n), (vI fr), (vI tq)]) = some (n, fr, tq) := unenc_of encTur_inj (n, fr, tq) rfl

def resTur1 (n : Int) (fr : Int) (tq : Int) : AV × Heap := (.agg [vB (decide (n < 0) && decide (0 < n.natAbs * tq.natAbs)), .sl ((F.lowT (n.natAbs * tq.natAbs) fr.natAbs).map eI), .sl ((F.lowB (n.natAbs * tq.natAbs) fr.natAbs).map eI)], [])

def preTur1 (n : Int) (fr : Int) (tq : Int) : Bool := decide (-9223372036854775808 ≤ n) && decide (n ≤ 9223372036854775807) && decide (1 ≤ fr) && decide (fr ≤ 9223372036854775807) && decide (1 ≤ tq) && decide (tq ≤ 9223372036854775807)

noncomputable def oTur : Orc := orc 22 false encTur (fun a => preTur1 a.1 a.2.1 a.2.2) fun a => resTur1 a.1 a.2.1 a.2.2

theorem okTur : OrcOK Tryz.prog noG oTur := by
  refine mk_ok Tryz.f22 (keep := false) (by kernel_rfl) (by kernel_rfl) enTur_ok mixed (no_loops (by kernel_rfl)) (by first | exact fun _ _ => ⟨rfl, rfl⟩ | (intro h; cases h)) ?_
  rintro ⟨n, fr, tq⟩ hpre hok
  show (runF enTur false _ (encTur1 _ _ _)).val = some (resTur1 _ _ _)
  unfold encTur1 resTur1
  rw [evTur]
  have hpre : (decide (-9223372036854775808 ≤ n) && decide (n ≤ 9223372036854775807) && decide (1 ≤ fr) && decide (fr ≤ 9223372036854775807) && decide (1 ≤ tq) && decide (tq ≤ 9223372036854775807)) = true := hpre
  simp only [Bool.and_eq_true, decide_eq_true_eq] at hpre
  obtain ⟨⟨⟨⟨⟨p1, p2⟩, p3⟩, p4⟩, p5⟩, p6⟩ := hpre
  have k1 := nk_abs p1 p2 (by decide : 5 ≤ 90)
  have k2 := nk_abs (by omega : -9223372036854775808 ≤ fr) p4 (by decide : 5 ≤ 90)
  have k3 := nk_abs (by omega : -9223372036854775808 ≤ tq) p6 (by decide : 5 ≤ 90)
  have k4 := nk_lb1 (by decide : 1 ≤ 90)
  have hm : n.natAbs * tq.natAbs < 10000 ^ (5 + 5) := F.mul_lt (Nat.lt_of_le_of_lt (by omega : n.natAbs ≤ 9223372036854775808) (by decide)) (Nat.lt_of_le_of_lt (by omega : tq.natAbs ≤ 9223372036854775808) (by decide))
  have k5 := nk_le (k := 90) hm (by decide)
  have e1 : F.lowT (n.natAbs * tq.natAbs) 1 = F.lb (n.natAbs * tq.natAbs) := by unfold F.lowT; rw [Nat.gcd_one_left, Nat.div_one]
  have e2 : F.lowB (n.natAbs * tq.natAbs) 1 = F.lb 1 := by unfold F.lowB; rw [Nat.gcd_one_left, Nat.div_one]
  have d1 : decide (tq < 0) = false := decide_eq_false (by omega)
  have d2 : decide (fr < 0) = false := decide_eq_false (by omega)
  have d3 : decide (0 < fr.natAbs) = true := decide_eq_true (by omega)
  have d4 : decide (0 < 1) = true := rfl
  simp only [unInt, unTms, unOvr, preInt1, preTms1, preOvr1, etaEnt, etaLst, etaSeg, etaRot, etaBeat, etaSpan, etaHole, Option.bind_some, List.length_map, unStrs, unInts, unBools, unU8s, unEnts, unLsts, unSegs, unRots, unBeats, unSpans, unHoles, F.lt, F.le, cond_true, cond_false, Bool.and_true, Bool.true_and, decide_eq_true p1, decide_eq_true p2, decide_eq_true p4, decide_eq_true p6, decide_eq_true (by omega : -9223372036854775808 ≤ fr), decide_eq_true (by omega : -9223372036854775808 ≤ tq), k1, k2, k3, k4, k5, F.nv_lb, Nat.mul_one, Nat.one_mul, e1, e2, d1, d2, d3, d4]
  have hb2 : ∀ x y : Bool, (((x != false) && y) != false && y) = (x && y) := by decide
  rw [hb2]

theorem rndU_1 (xn : Bool) (t : Nat) : F.rndU 1 xn t 1 = t := by
  unfold F.rndU F.rndUp
  rw [Nat.mod_one, Nat.div_one]
  cases xn <;> rfl

theorem sg_abs {xn : Bool} {q : Nat} {z : Int} (h : F.sg xn q = z) : q = z.natAbs := by
  unfold F.sg at h
  cases xn
  · simp at h; omega
  · simp at h; omega

/-- Whether a segment's beginning is a time. -/
def _root_.Go.Proofs.YtlemjphdhapfpaaGreatDoor.F.brdOk (s : Seg) : Bool := !decide (1000000000000000 < ((s.begin + s.lead).natAbs : Int))

noncomputable def enBrd : Env := envH ty noG lks [oInt, oPlu, oRon] [] [] []

theorem enBrd_ok : EnvOK Tryz.prog enBrd := by
  refine envH_ok lks_ok ty_ok ?_ ?_
  · simp only [List.forall_mem_cons]
    exact ⟨okInt, okPlu, okRon, by simp⟩
  · simp

theorem evBrd (s : Seg) : (runF enBrd false Tryz.f20 [.agg (eSeg s)]).val =
  Option.bind (unenc encInt [(vI s.begin)]) fun (z : Int) => bif decide ((-9223372036854775808 : Int) ≤ z) && decide (z ≤ (9223372036854775807 : Int)) then Option.bind
  (unenc encInt [(vI s.lead)]) fun (z_1 : Int) => bif decide ((-9223372036854775808 : Int) ≤ z_1) && decide (z_1 ≤ (9223372036854775807 : Int)) then Option.bind (unenc
  encPlu [AV.agg [(vB (decide (z < (0 : Int)))), AV.sl (List.map eI (F.lb (Int.natAbs z))), AV.sl (List.map eI (F.lb (1 : Nat)))], AV.agg [(vB (decide (z_1 < (0 : Int)))),
  AV.sl (List.map eI (F.lb (Int.natAbs z_1))), AV.sl (List.map eI (F.lb (1 : Nat)))]]) fun (z : Bool × List Int × List Int × Bool × List Int × List Int) => bif F.nk (90 :
  Nat) z.snd.fst && F.nk (90 : Nat) z.snd.snd.fst && F.nk (90 : Nat) z.snd.snd.snd.snd.fst && F.nk (90 : Nat) z.snd.snd.snd.snd.snd && decide ((0 : Nat) < F.nv
  z.snd.snd.fst) && decide ((0 : Nat) < F.nv z.snd.snd.snd.snd.snd) then Option.bind (unenc encRon [AV.agg [(vB (F.plN z.fst z.snd.snd.snd.fst (F.nv z.snd.fst * F.nv
  z.snd.snd.snd.snd.snd) (F.nv z.snd.snd.snd.snd.fst * F.nv z.snd.snd.fst) && decide ((0 : Nat) < F.plT z.fst z.snd.snd.snd.fst (F.nv z.snd.fst * F.nv z.snd.snd.snd.snd.snd)
  (F.nv z.snd.snd.snd.snd.fst * F.nv z.snd.snd.fst)))), AV.sl (List.map eI (F.lowT (F.plT z.fst z.snd.snd.snd.fst (F.nv z.snd.fst * F.nv z.snd.snd.snd.snd.snd) (F.nv
  z.snd.snd.snd.snd.fst * F.nv z.snd.snd.fst)) (F.nv z.snd.snd.fst * F.nv z.snd.snd.snd.snd.snd))), AV.sl (List.map eI (F.lowB (F.plT z.fst z.snd.snd.snd.fst (F.nv z.snd.fst
  * F.nv z.snd.snd.snd.snd.snd) (F.nv z.snd.snd.snd.snd.fst * F.nv z.snd.snd.fst)) (F.nv z.snd.snd.fst * F.nv z.snd.snd.snd.snd.snd)))], (vI (1 : Int)), (vI
  (1000000000000000 : Int))]) fun (z : Bool × List Int × List Int × Int × Int) => bif F.nk (150 : Nat) z.snd.fst && F.nk (150 : Nat) z.snd.snd.fst && decide ((0 : Nat) <
  F.nv z.snd.snd.fst) && decide ((0 : Int) ≤ z.snd.snd.snd.snd) && decide (z.snd.snd.snd.snd ≤ (9223372036854775807 : Int)) then some (AV.tup [(vI (bif decide
  (z.snd.snd.snd.snd < (↑(F.rndU z.snd.snd.snd.fst z.fst (F.nv z.snd.fst) (F.nv z.snd.snd.fst)) : Int)) then (0 : Int) else F.sg z.fst (F.rndU z.snd.snd.snd.fst z.fst (F.nv
  z.snd.fst) (F.nv z.snd.snd.fst)))), (vB !decide (z.snd.snd.snd.snd < (↑(F.rndU z.snd.snd.snd.fst z.fst (F.nv z.snd.fst) (F.nv z.snd.snd.fst)) : Int)))], []) else none else
  none else none else none := (runFR_val).symm.trans (by kernel_rfl)

def encBrd1 (s : Seg) : List AV := [.agg (eSeg s)]

def encBrd (a : Seg) : List AV := encBrd1 a

theorem encBrd_inj (a a' : Seg) (h : encBrd a = encBrd a') : a = a' := by
  simp only [encBrd, encBrd1] at h
  try simp [strs_inj, ints_inj, bools_inj, u8s_inj, eEnts_inj, eEnt_iff, eLsts_inj, eLst_iff, eSegs_inj, eSeg_iff, eRots_inj, eRot_iff, eBeats_inj, eBeat_iff, eSpans_inj, eSpan_iff, eHoles_inj, eHole_iff] at h
  grind

theorem unBrd (s : Seg) : unenc encBrd ([AV.agg [(vI s.number), (vI s.fr), (vI s.to), (vI s.begin), (vI s.length), (vI s.bytes), (vI s.lead)]]) = some (s) := unenc_of encBrd_inj (s) rfl

theorem unBrdw (s_number : Int) (s_fr : Int) (s_to : Int) (s_begin : Int) (s_length : Int) (s_bytes : Int) (s_lead : Int) : unenc encBrd ([AV.agg [(vI s_number), (vI s_fr), (vI s_to), (vI s_begin), (vI s_length), (vI s_bytes), (vI s_lead)]]) = some ((Seg.mk s_number s_fr s_to s_begin s_length s_bytes s_lead)) := unenc_of encBrd_inj ((Seg.mk s_number s_fr s_to s_begin s_length s_bytes s_lead)) rfl

def resBrd1 (s : Seg) : AV × Heap := (.tup [vI (bif F.brdOk s then s.begin + s.lead else 0), vB (F.brdOk s)], [])

def preBrd1 (s : Seg) : Bool := true

noncomputable def oBrd : Orc := orc 20 true encBrd (fun a => preBrd1 a) fun a => resBrd1 a

theorem okBrd : OrcOK Tryz.prog noG oBrd := by
  refine mk_ok Tryz.f20 (keep := false) (by kernel_rfl) (by kernel_rfl) enBrd_ok mixed (no_loops (by kernel_rfl)) (by first | exact fun _ _ => ⟨rfl, rfl⟩ | (intro h; cases h)) ?_
  rintro s hpre hok
  show (runF enBrd false _ (encBrd1 _)).val = some (resBrd1 _)
  unfold encBrd1 resBrd1
  rw [evBrd]
  obtain ⟨g1, g2⟩ := seg_i64 (hok _ (List.mem_cons_self ..))
  simp only [F.i64B, Bool.and_eq_true, decide_eq_true_eq] at g1 g2
  have k1 := nk_abs g1.1 (by omega : s.begin ≤ 9223372036854775807) (by decide : 5 ≤ 90)
  have k2 := nk_abs g2.1 (by omega : s.lead ≤ 9223372036854775807) (by decide : 5 ≤ 90)
  have k4 := nk_lb1 (by decide : 1 ≤ 90)
  have k6 := nk_lb1 (by decide : 1 ≤ 150)
  have d4 : decide (0 < 1) = true := rfl
  have hs := F.pl_add s.begin s.lead
  have ha := sg_abs hs
  generalize hq : F.plT (decide (s.begin < 0)) (decide (s.lead < 0)) s.begin.natAbs s.lead.natAbs = q at hs ha
  generalize hx : F.plN (decide (s.begin < 0)) (decide (s.lead < 0)) s.begin.natAbs s.lead.natAbs = xn at hs
  have hql : q < 10000 ^ 6 := Nat.lt_of_le_of_lt (by omega : q ≤ 18446744073709551616) (by decide)
  have k5 := nk_le (k := 150) hql (by decide)
  have e1 : F.lowT q 1 = F.lb q := by unfold F.lowT; rw [Nat.gcd_one_left, Nat.div_one]
  have e2 : F.lowB q 1 = F.lb 1 := by unfold F.lowB; rw [Nat.gcd_one_left, Nat.div_one]
  simp only [unInt, unPlu, unRon, preInt1, prePlu1, preRon1, etaEnt, etaLst, etaSeg, etaRot, etaBeat, etaSpan, etaHole, Option.bind_some, List.length_map, unStrs, unInts, unBools, unU8s, unEnts, unLsts, unSegs, unRots, unBeats, unSpans, unHoles, F.lt, F.le, cond_true, cond_false, Bool.and_true, Bool.true_and, decide_eq_true g1.1, decide_eq_true g1.2, decide_eq_true g2.1, decide_eq_true g2.2, k1, k2, k4, k5, k6, F.nv_lb, Nat.mul_one, Nat.one_mul, hq, hx, e1, e2, d4, rndU_1, hs, (by decide : decide ((0 : Int) ≤ 1000000000000000) = true), (by decide : decide ((1000000000000000 : Int) ≤ 9223372036854775807) = true), F.brdOk, ← ha]
  cases decide ((1000000000000000 : Int) < (q : Int)) <;> rfl

end M

end Go.Proofs.YtlemjphdhapfpaaGreatDoor
