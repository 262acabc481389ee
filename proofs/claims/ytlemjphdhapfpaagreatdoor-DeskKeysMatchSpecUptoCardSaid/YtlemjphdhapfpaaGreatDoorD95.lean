/- What is proved here: what headendref1.common and lowest return on limbs (no statement of the seat). -/
import Derived.Test.YtlemjphdhapfpaaGreatDoorD94
namespace Go.Proofs.YtlemjphdhapfpaaGreatDoor
open Go Go.RowKit
set_option linter.unusedVariables false
set_option linter.unusedSimpArgs false

namespace M

def stCom (a : List Int) (b : List Int) : St := ⟨[(1, .sl (b.map eI)), (0, .sl (a.map eI))], []⟩

def stCom1 (a : (List Int) × (List Int)) : St := stCom a.1 a.2

theorem stCom_inj (a a' : (List Int) × (List Int)) (h : stCom1 a = stCom1 a') : a = a' := by
  simp only [stCom1, stCom] at h
  try simp [strs_inj, ints_inj, bools_inj, u8s_inj, eEnts_inj, eEnt_iff, eLsts_inj, eLst_iff, eSegs_inj, eSeg_iff, eRots_inj, eRot_iff, eBeats_inj, eBeat_iff, eSpans_inj, eSpan_iff, eHoles_inj, eHole_iff] at h
  grind

theorem unstCom (a : List Int) (b : List Int) : unenc stCom1 (St.mk [(1, AV.sl (List.map eI b)), (0, AV.sl (List.map eI a))] []) = some (a, b) := unenc_of stCom_inj (a, b) rfl

def outCom (a : List Int) (b : List Int) : T (Ex × St) := .ret (.exit 0, ⟨[(0, .sl ((F.lb (Nat.gcd (F.nv b) (F.nv a))).map eI))], []⟩)

noncomputable def prlCom (a : List Int) (b : List Int) : Bool := F.nk 200 a && F.nk 200 b

noncomputable def lpCom : Nat × (St → T (Ex × St)) := (1, lpo [1, 0] [] stCom1 (fun a => prlCom a.1 a.2) fun a => outCom a.1 a.2)

noncomputable def enCom : Env := envH ty noG lks [oDv] [] [] [lpCom]

theorem enCom_ok : EnvOK Tryz.prog enCom := by
  refine envH_ok lks_ok ty_ok ?_ ?_
  · simp only [List.forall_mem_cons]
    exact ⟨okDv, by simp⟩
  · simp

theorem evComL (a : List Int) (b : List Int) : ((exec enCom (loopN Tryz.f105 0) (stCom a b)).bind (lessX ([1, 0], []) ([0], []) ([], []))).val =
  bif decide ((0 : Int) < (↑(List.length (List.map eI b)) : Int)) then Option.bind (unenc encDv [AV.sl (List.map eI a), AV.sl (List.map eI b)]) fun (z : List Int × List Int)
  => bif F.nk (200 : Nat) z.fst && F.nk (200 : Nat) z.snd && decide ((0 : Nat) < F.nv z.snd) then some (Ex.normal, St.mk [(1, AV.sl (List.map eI (F.lb (Nat.mod (F.nv z.fst)
  (F.nv z.snd))))), (0, AV.sl (List.map eI b))] []) else none else some (Ex.exit (0 : Nat), St.mk [(0, AV.sl (List.map eI a))] []) := (execR_bind _ _ _).symm.trans (by kernel_rfl)

theorem lpCom_ok (a : List Int) (b : List Int) (hp : prlCom a b = true) : ∀ ex s', (outCom a b).val = some (ex, s') → LoopOK enCom (loopN Tryz.f105 0) (stCom a b) ex s' := by
  simp only [prlCom, Bool.and_eq_true, decide_eq_true_eq] at hp
  obtain ⟨h1, h2⟩ := hp
  obtain ⟨m, rfl, hm⟩ := F.nk_of h1
  obtain ⟨n, rfl, hn⟩ := F.nk_of h2
  clear h1 h2
  refine loop_gen (st := fun p : Nat × Nat => stCom (F.lb p.1) (F.lb p.2)) (out := fun p => outCom (F.lb p.1) (F.lb p.2)) (I := fun p => p.1 < 10000 ^ 200 ∧ p.2 < 10000 ^ 200) (n := ([1, 0], [])) (e := ([0], [])) (r := ([], [])) (fun p => p.2) ?_ (m, n) ⟨hm, hn⟩
  clear hm hn
  rintro ⟨m, n⟩ ⟨hm, hn⟩
  simp only at hm hn
  have k1 := F.nk_lb hm
  have k2 := F.nk_lb hn
  have hl := F.lb_emp n
  by_cases hz : n = 0
  · left
    refine ⟨(.exit 0, ⟨[(0, .sl ((F.lb m).map eI))], []⟩), ?_, ?_, by simp, rfl⟩
    · have c : ¬ (0 : Int) < ((F.lb n).length : Int) := by omega
      rw [evComL]
      simp only [unDv, preDv1, unstCom, prlCom, outCom, etaEnt, etaLst, etaSeg, etaRot, etaBeat, etaSpan, etaHole, Option.bind_some, List.length_map, unStrs, unInts, unBools, unU8s, unEnts, unLsts, unSegs, unRots, unBeats, unSpans, unHoles, F.lt, F.le, cond_true, cond_false, Bool.and_true, Bool.true_and, decide_eq_false c]
    · simp only [outCom, F.nv_lb, hz, Nat.gcd_zero_left]
      rfl
  · right
    have c : (0 : Int) < ((F.lb n).length : Int) := by omega
    have hm2 : m % n < n := Nat.mod_lt _ (by omega)
    refine ⟨(n, m % n), ?_, rfl, ⟨hn, Nat.lt_trans hm2 hn⟩, hm2, ?_⟩
    · have hp : decide (0 < n) = true := decide_eq_true (by omega)
      rw [evComL]
      simp only [unDv, preDv1, unstCom, prlCom, outCom, etaEnt, etaLst, etaSeg, etaRot, etaBeat, etaSpan, etaHole, Option.bind_some, List.length_map, unStrs, unInts, unBools, unU8s, unEnts, unLsts, unSegs, unRots, unBeats, unSpans, unHoles, F.lt, F.le, cond_true, cond_false, Bool.and_true, Bool.true_and, decide_eq_true c, k1, k2, F.nv_lb, hp, stCom]
      rfl
    · simp only [outCom, F.nv_lb]
      rw [← Nat.gcd_rec]

theorem evCom (a : List Int) (b : List Int) : (runF enCom false Tryz.f105 [.sl (a.map eI), .sl (b.map eI)]).val =
  Option.bind (unenc stCom1 (St.mk [(1, AV.sl (List.map eI b)), (0, AV.sl (List.map eI a))] [])) fun (z : List Int × List Int) => bif F.nk (200 : Nat) z.fst && F.nk (200 :
  Nat) z.snd && true then some (AV.sl (List.map eI (F.lb (Nat.gcd (F.nv z.snd) (F.nv z.fst)))), []) else none := (runFR_val).symm.trans (by kernel_rfl)

def encCom1 (a : List Int) (b : List Int) : List AV := [.sl (a.map eI), .sl (b.map eI)]

def encCom (a : (List Int) × (List Int)) : List AV := encCom1 a.1 a.2

theorem encCom_inj (a a' : (List Int) × (List Int)) (h : encCom a = encCom a') : a = a' := by
  simp only [encCom, encCom1] at h
  try simp [strs_inj, ints_inj, bools_inj, u8s_inj, eEnts_inj, eEnt_iff, eLsts_inj, eLst_iff, eSegs_inj, eSeg_iff, eRots_inj, eRot_iff, eBeats_inj, eBeat_iff, eSpans_inj, eSpan_iff, eHoles_inj, eHole_iff] at h
  grind

theorem unCom (a : List Int) (b : List Int) : unenc encCom ([AV.sl (List.map eI a), AV.sl (List.map eI b)]) = some (a, b) := unenc_of encCom_inj (a, b) rfl

def resCom1 (a : List Int) (b : List Int) : AV × Heap := (.sl ((F.lb (Nat.gcd (F.nv b) (F.nv a))).map eI), [])

def preCom1 (a : List Int) (b : List Int) : Bool := F.nk 200 a && F.nk 200 b

noncomputable def oCom : Orc := orc 105 false encCom (fun a => preCom1 a.1 a.2) fun a => resCom1 a.1 a.2

theorem okCom : OrcOK Tryz.prog noG oCom := by
  refine mk_ok Tryz.f105 (keep := false) (by kernel_rfl) (by kernel_rfl) enCom_ok mixed (one_loop (x0 := loopN Tryz.f105 0) (by kernel_rfl) (lpo_ok ?_)) (by first | exact fun _ _ => ⟨rfl, rfl⟩ | (intro h; cases h)) ?_
  · rintro ⟨a, b⟩ hp
    exact lpCom_ok a b hp
  rintro ⟨a, b⟩ hpre hok
  show (runF enCom false _ (encCom1 _ _)).val = some (resCom1 _ _)
  unfold encCom1 resCom1
  rw [evCom]
  have hpre : (F.nk 200 a && F.nk 200 b) = true := hpre
  simp only [unDv, preDv1, unstCom, prlCom, outCom, etaEnt, etaLst, etaSeg, etaRot, etaBeat, etaSpan, etaHole, Option.bind_some, List.length_map, unStrs, unInts, unBools, unU8s, unEnts, unLsts, unSegs, unRots, unBeats, unSpans, unHoles, F.lt, F.le, cond_true, cond_false, Bool.and_true, Bool.true_and, hpre]

theorem unCpr_1 (a : List Int) : unenc encCpr [.sl (a.map eI), .sl [[vI 1]]] = some (a, [1]) := unCpr a [1]

theorem nk_one {k : Nat} (h : 1 ≤ k) : F.nk k [1] = true := by
  have := F.nk_lb (k := k) (n := 1) (F.lb_lt (m := 1) (by decide) h)
  rwa [F.lb_one] at this

theorem nv_one : F.nv [1] = 1 := rfl

theorem len_nv {k : Nat} {l : List Int} (h : F.nk k l = true) : ((l.length : Int) == 0) = decide (F.nv l = 0) := by
  obtain ⟨m, rfl, hm⟩ := F.nk_of h
  rw [F.nv_lb]
  have := F.lb_emp m
  by_cases hz : m = 0
  · rw [decide_eq_true hz, this.2 hz]; rfl
  · rw [decide_eq_false hz]
    have : (F.lb m).length ≠ 0 := fun e => hz (this.1 e)
    simp; exact fun e => hz (F.lb_nil.1 e)

theorem lb_nv {k : Nat} {l : List Int} (h : F.nk k l = true) : F.lb (F.nv l) = l := by
  obtain ⟨m, rfl, hm⟩ := F.nk_of h
  rw [F.nv_lb]

noncomputable def enLow : Env := envH ty noG lks [oCom, oCpr, oDv] [] [] []

theorem enLow_ok : EnvOK Tryz.prog enLow := by
  refine envH_ok lks_ok ty_ok ?_ ?_
  · simp only [List.forall_mem_cons]
    exact ⟨okCom, okCpr, okDv, by simp⟩
  · simp

theorem evLow (ng : Bool) (tp : List Int) (bt : List Int) : (runF enLow false Tryz.f77 [vB ng, .sl (tp.map eI), .sl (bt.map eI)]).val =
  bif (↑(List.length (List.map eI tp)) : Int) == (0 : Int) then some (AV.agg [(vB false), AV.sl [], AV.sl [[(vI (1 : Int))]]], []) else Option.bind (unenc encCom [AV.sl
  (List.map eI tp), AV.sl (List.map eI bt)]) fun (z : List Int × List Int) => bif F.nk (200 : Nat) z.fst && F.nk (200 : Nat) z.snd then Option.bind (unenc encCpr [AV.sl
  (List.map eI (F.lb (Nat.gcd (F.nv z.snd) (F.nv z.fst)))), AV.sl [[(vI (1 : Int))]]]) fun (z_1 : List Int × List Int) => bif F.nk (1000 : Nat) z_1.fst && F.nk (1000 : Nat)
  z_1.snd then bif F.sgn (↑(F.nv z_1.fst) : Int) (↑(F.nv z_1.snd) : Int) == (0 : Int) then some (AV.agg [(vB ng), AV.sl (List.map eI tp), AV.sl (List.map eI bt)], []) else
  Option.bind (unenc encDv [AV.sl (List.map eI tp), AV.sl (List.map eI (F.lb (Nat.gcd (F.nv z.snd) (F.nv z.fst))))]) fun (z_2 : List Int × List Int) => bif F.nk (200 : Nat)
  z_2.fst && F.nk (200 : Nat) z_2.snd && decide ((0 : Nat) < F.nv z_2.snd) then Option.bind (unenc encDv [AV.sl (List.map eI bt), AV.sl (List.map eI (F.lb (Nat.gcd (F.nv
  z.snd) (F.nv z.fst))))]) fun (z : List Int × List Int) => bif F.nk (200 : Nat) z.fst && F.nk (200 : Nat) z.snd && decide ((0 : Nat) < F.nv z.snd) then some (AV.agg [(vB
  ng), AV.sl (List.map eI (F.lb (Nat.div (F.nv z_2.fst) (F.nv z_2.snd)))), AV.sl (List.map eI (F.lb (Nat.div (F.nv z.fst) (F.nv z.snd))))], []) else none else none else none
  else none := (runFR_val).symm.trans (by kernel_rfl)

def encLow1 (ng : Bool) (tp : List Int) (bt : List Int) : List AV := [vB ng, .sl (tp.map eI), .sl (bt.map eI)]

def encLow (a : Bool × (List Int) × (List Int)) : List AV := encLow1 a.1 a.2.1 a.2.2

theorem encLow_inj (a a' : Bool × (List Int) × (List Int)) (h : encLow a = encLow a') : a = a' := by
  simp only [encLow, encLow1] at h
  try simp [strs_inj, ints_inj, bools_inj, u8s_inj, eEnts_inj, eEnt_iff, eLsts_inj, eLst_iff, eSegs_inj, eSeg_iff, eRots_inj, eRot_iff, eBeats_inj, eBeat_iff, eSpans_inj, eSpan_iff, eHoles_inj, eHole_iff] at h
  grind

theorem unLow (ng : Bool) (tp : List Int) (bt : List Int) : unenc encLow ([(vB ng), AV.sl (List.map eI tp), AV.sl (List.map eI bt)]) = some (ng, tp, bt) := unenc_of encLow_inj (ng, tp, bt) rfl

def resLow1 (ng : Bool) (tp : List Int) (bt : List Int) : AV × Heap := (.agg [vB (ng && decide (0 < F.nv tp)), .sl ((F.lb (F.nv tp / Nat.gcd (F.nv bt) (F.nv tp))).map eI), .sl ((F.lb (F.nv bt / Nat.gcd (F.nv bt) (F.nv tp))).map eI)], [])

def preLow1 (ng : Bool) (tp : List Int) (bt : List Int) : Bool := F.nk 200 tp && F.nk 200 bt && decide (0 < F.nv bt)

noncomputable def oLow : Orc := orc 77 false encLow (fun a => preLow1 a.1 a.2.1 a.2.2) fun a => resLow1 a.1 a.2.1 a.2.2

theorem okLow : OrcOK Tryz.prog noG oLow := by
  refine mk_ok Tryz.f77 (keep := false) (by kernel_rfl) (by kernel_rfl) enLow_ok mixed (no_loops (by kernel_rfl)) (by first | exact fun _ _ => ⟨rfl, rfl⟩ | (intro h; cases h)) ?_
  rintro ⟨ng, tp, bt⟩ hpre hok
  show (runF enLow false _ (encLow1 _ _ _)).val = some (resLow1 _ _ _)
  unfold encLow1 resLow1
  rw [evLow]
  have hpre : (F.nk 200 tp && F.nk 200 bt && decide (0 < F.nv bt)) = true := hpre
  rw [Bool.and_eq_true, Bool.and_eq_true, decide_eq_true_eq] at hpre
  obtain ⟨⟨p1, p2⟩, p3⟩ := hpre
  have hdv : ∀ u v : Nat, Nat.div u v = u / v := fun _ _ => rfl
  have hg : 0 < Nat.gcd (F.nv bt) (F.nv tp) := Nat.gcd_pos_of_pos_left _ p3
  have hgl : Nat.gcd (F.nv bt) (F.nv tp) < 10000 ^ 200 := Nat.lt_of_le_of_lt (Nat.gcd_le_left _ p3) (nk_lt p2)
  have k1 := F.nk_lb hgl
  have k2 := nk_up k1 (by decide : 200 ≤ 1000)
  have hs := F.sgn_eq (Nat.gcd (F.nv bt) (F.nv tp)) 1
  have e1 := lb_nv p1
  have e2 := lb_nv p2
  simp only [unCom, unCpr, unDv, preCom1, preCpr1, preDv1, etaEnt, etaLst, etaSeg, etaRot, etaBeat, etaSpan, etaHole, Option.bind_some, List.length_map, unStrs, unInts, unBools, unU8s, unEnts, unLsts, unSegs, unRots, unBeats, unSpans, unHoles, F.lt, F.le, cond_true, cond_false, Bool.and_true, Bool.true_and, p1, p2, unCpr_1, len_nv p1, nk_one (by decide : 1 ≤ 1000), nv_one, F.nv_lb, k1, k2, hdv, decide_eq_true hg]
  by_cases hz : F.nv tp = 0
  · rw [decide_eq_true hz, hz, Nat.gcd_zero_right, Nat.zero_div, Nat.div_self p3, F.lb_zero, F.lb_one]
    simp
    rfl
  · have hp : decide (0 < F.nv tp) = true := decide_eq_true (by omega)
    rw [decide_eq_false hz, hp, Bool.and_true, cond_false]
    have hs : (F.sgn ((Nat.gcd (F.nv bt) (F.nv tp) : Nat) : Int) 1 == 0) = decide (Nat.gcd (F.nv bt) (F.nv tp) = 1) := hs
    simp only [Int.natCast_one]
    rw [hs]
    by_cases h1 : Nat.gcd (F.nv bt) (F.nv tp) = 1
    · rw [decide_eq_true h1, h1, Nat.div_one, Nat.div_one, e1, e2]; rfl
    · rw [decide_eq_false h1]; rfl

end M
end Go.Proofs.YtlemjphdhapfpaaGreatDoor
