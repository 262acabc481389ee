/- What is proved here: loops of headendref1.divide on limbs (no statement of the seat). -/
import Derived.Test.YtlemjphdhapfpaaGreatDoorD91
namespace Go.Proofs.YtlemjphdhapfpaaGreatDoor
open Go Go.RowKit
set_option linter.unusedVariables false
set_option linter.unusedSimpArgs false

namespace M

theorem nk_mul {j k l m n : Nat} (h1 : m < 10000 ^ j) (h2 : n < 10000 ^ k) (h : j + k ≤ l) : F.nk l (F.lb (m * n)) = true := F.nk_lb (F.lb_lt (F.mul_lt h1 h2) h)

theorem nk_lt {k : Nat} {l : List Int} (h : F.nk k l = true) : F.nv l < 10000 ^ k := by
  obtain ⟨m, rfl, hm⟩ := F.nk_of h
  rw [F.nv_lb]; exact hm

def stDvi (a : List Int) (b : List Int) (out : List Int) (r : List Int) (i : Int) (lo : Nat) (hi : Nat) : St := ⟨[(11, vI hi), (10, vI lo), (8, vI i), (7, .sl (r.map eI)), (6, .own 15), (1, .sl (b.map eI)), (0, .sl (a.map eI))], [(15, ⟨false, 3, 1, out.map eI⟩)]⟩

def stDvi1 (a : (List Int) × (List Int) × (List Int) × (List Int) × Int × Nat × Nat) : St := stDvi a.1 a.2.1 a.2.2.1 a.2.2.2.1 a.2.2.2.2.1 a.2.2.2.2.2.1 a.2.2.2.2.2.2

theorem stDvi_inj (a a' : (List Int) × (List Int) × (List Int) × (List Int) × Int × Nat × Nat) (h : stDvi1 a = stDvi1 a') : a = a' := by
  simp only [stDvi1, stDvi] at h
  try simp [strs_inj, ints_inj, bools_inj, u8s_inj, eEnts_inj, eEnt_iff, eLsts_inj, eLst_iff, eSegs_inj, eSeg_iff, eRots_inj, eRot_iff, eBeats_inj, eBeat_iff, eSpans_inj, eSpan_iff, eHoles_inj, eHole_iff] at h
  grind

theorem unstDvi (a : List Int) (b : List Int) (out : List Int) (r : List Int) (i : Int) (lo : Nat) (hi : Nat) : unenc stDvi1 (St.mk [(11, (vI (↑hi : Int))), (10, (vI (↑lo : Int))), (8, (vI i)), (7, AV.sl (List.map eI r)), (6, .own 15), (1, AV.sl (List.map eI b)), (0, AV.sl (List.map eI a))] [(15,
  Blk.mk false 3 1 (List.map eI out))]) = some (a, b, out, r, i, lo, hi) := unenc_of stDvi_inj (a, b, out, r, i, lo, hi) rfl

theorem unstDvi0 (a : List Int) (b : List Int) (out : List Int) (r : List Int) (i : Int)  : unenc stDvi1 (St.mk [(11, (vI (9999 : Int))), (10, (vI (0 : Int))), (8, (vI i)), (7, AV.sl (List.map eI r)), (6, .own 15), (1, AV.sl (List.map eI b)), (0, AV.sl (List.map eI a))] [(15,
  Blk.mk false 3 1 (List.map eI out))]) = some (a, b, out, r, i, 0, 9999) := unenc_of stDvi_inj (a, b, out, r, i, 0, 9999) rfl

def outDvi (a : List Int) (b : List Int) (out : List Int) (r : List Int) (i : Int) (lo : Nat) (hi : Nat) : T (Ex × St) := .ret (.exit 2, ⟨[(10, vI (F.nv r / F.nv b : Nat)), (8, vI i), (7, .sl (r.map eI)), (6, .own 15), (1, .sl (b.map eI)), (0, .sl (a.map eI))], [(15, ⟨false, 3, 1, out.map eI⟩)]⟩)

noncomputable def prlDvi (a : List Int) (b : List Int) (out : List Int) (r : List Int) (i : Int) (lo : Nat) (hi : Nat) : Bool := F.nk 200 b && decide (0 < F.nv b) && F.nk 201 r && decide (lo ≤ F.nv r / F.nv b) && decide (F.nv r / F.nv b ≤ hi) && decide (hi ≤ 9999)

noncomputable def lpDvi : Nat × (St → T (Ex × St)) := (10, lpo [11, 10, 8, 7, 6, 1, 0] [15] stDvi1 (fun a => prlDvi a.1 a.2.1 a.2.2.1 a.2.2.2.1 a.2.2.2.2.1 a.2.2.2.2.2.1 a.2.2.2.2.2.2) fun a => outDvi a.1 a.2.1 a.2.2.1 a.2.2.2.1 a.2.2.2.2.1 a.2.2.2.2.2.1 a.2.2.2.2.2.2)

def stDv (a : List Int) (b : List Int) (out : List Int) (i : Int) : St := ⟨[(8, vI i), (7, .own 7), (6, .own 15), (1, .sl (b.map eI)), (0, .sl (a.map eI))], [(15, ⟨false, 3, 1, out.map eI⟩), (7, ⟨false, 3, 1, []⟩)]⟩

def stDv1 (a : (List Int) × (List Int) × (List Int) × Int) : St := stDv a.1 a.2.1 a.2.2.1 a.2.2.2

theorem stDv_inj (a a' : (List Int) × (List Int) × (List Int) × Int) (h : stDv1 a = stDv1 a') : a = a' := by
  simp only [stDv1, stDv] at h
  try simp [strs_inj, ints_inj, bools_inj, u8s_inj, eEnts_inj, eEnt_iff, eLsts_inj, eLst_iff, eSegs_inj, eSeg_iff, eRots_inj, eRot_iff, eBeats_inj, eBeat_iff, eSpans_inj, eSpan_iff, eHoles_inj, eHole_iff] at h
  grind

theorem unstDv (a : List Int) (b : List Int) (out : List Int) (i : Int) : unenc stDv1 (St.mk [(8, (vI i)), (7, .own 7), (6, .own 15), (1, AV.sl (List.map eI b)), (0, AV.sl (List.map eI a))] [(15, Blk.mk false 3 1 (List.map eI out)), (7, Blk.mk false 3 1 [])]) = some (a, b, out, i) := unenc_of stDv_inj (a, b, out, i) rfl

def outDv (a : List Int) (b : List Int) (out : List Int) (i : Int) : T (Ex × St) := .ifB (decide (i < 0)) (.ret (.exit 0, ⟨[(7, .own 7), (6, .own 15)], [(15, ⟨false, 3, 1, []⟩), (7, ⟨false, 3, 1, []⟩)]⟩))
      (.ret (.exit 0, ⟨[(7, .sl ((F.lb (F.dqo (F.nv b) a).2).map eI)), (6, .own 15)], [(15, ⟨false, 3, 1, (F.dqo (F.nv b) a).1.map eI⟩)]⟩))

noncomputable def prlDv (a : List Int) (b : List Int) (out : List Int) (i : Int) : Bool := F.nk 200 a && F.nk 200 b && decide (0 < F.nv b) && decide (out = List.replicate a.length 0) && decide (i = (a.length : Int) - 1)

noncomputable def lpDv : Nat × (St → T (Ex × St)) := (4, lpo [8, 7, 6, 1, 0] [15, 7] stDv1 (fun a => prlDv a.1 a.2.1 a.2.2.1 a.2.2.2) fun a => outDv a.1 a.2.1 a.2.2.1 a.2.2.2)

noncomputable def enDv : Env := envH ty noG lks [oTrm, oSml, oCpr, oLes] [] [] [lpDv, lpDvi]

theorem enDv_ok : EnvOK Tryz.prog enDv := by
  refine envH_ok lks_ok ty_ok ?_ ?_
  · simp only [List.forall_mem_cons]
    exact ⟨okTrm, okSml, okCpr, okLes, by simp⟩
  · simp

theorem evDviL (a : List Int) (b : List Int) (out : List Int) (r : List Int) (i : Int) (lo : Nat) (hi : Nat) : ((exec enDv (loopN Tryz.f100 1) (stDvi a b out r i lo hi)).bind (lessX ([11, 10, 8, 7, 6, 1, 0], [15]) ([10, 8, 7, 6, 1, 0], [15]) ([], []))).val =
  bif decide ((↑lo : Int) < (↑hi : Int)) then Option.bind (unenc encSml [AV.sl (List.map eI b), (vI (IntKind.wrap IntKind.i64 (Int.tdiv (IntKind.wrap IntKind.i64
  (IntKind.wrap IntKind.i64 ((↑lo : Int) + (↑hi : Int)) + (1 : Int))) (2 : Int))))]) fun (z : List Int × Int) => bif F.nk (300 : Nat) z.fst && decide ((0 : Int) ≤ z.snd) &&
  decide (z.snd ≤ (9999 : Int)) then Option.bind (unenc encCpr [AV.sl (List.map eI (F.lb (F.nv z.fst * Int.toNat z.snd))), AV.sl (List.map eI r)]) fun (z : List Int × List
  Int) => bif F.nk (1000 : Nat) z.fst && F.nk (1000 : Nat) z.snd then bif decide (F.sgn (↑(F.nv z.fst) : Int) (↑(F.nv z.snd) : Int) ≤ (0 : Int)) then some (Ex.normal, St.mk
  [(11, (vI (↑hi : Int))), (10, (vI (IntKind.wrap IntKind.i64 (Int.tdiv (IntKind.wrap IntKind.i64 (IntKind.wrap IntKind.i64 ((↑lo : Int) + (↑hi : Int)) + (1 : Int))) (2 :
  Int))))), (8, (vI i)), (7, AV.sl (List.map eI r)), (6, .own 15), (1, AV.sl (List.map eI b)), (0, AV.sl (List.map eI a))] [(15, Blk.mk false 3 1 (List.map eI out))]) else
  some (Ex.normal, St.mk [(11, (vI (IntKind.wrap IntKind.i64 (IntKind.wrap IntKind.i64 (Int.tdiv (IntKind.wrap IntKind.i64 (IntKind.wrap IntKind.i64 ((↑lo : Int) + (↑hi :
  Int)) + (1 : Int))) (2 : Int)) - (1 : Int))))), (10, (vI (↑lo : Int))), (8, (vI i)), (7, AV.sl (List.map eI r)), (6, .own 15), (1, AV.sl (List.map eI b)), (0, AV.sl
  (List.map eI a))] [(15, Blk.mk false 3 1 (List.map eI out))]) else none else none else some (Ex.exit (2 : Nat), St.mk [(10, (vI (↑lo : Int))), (8, (vI i)), (7, AV.sl
  (List.map eI r)), (6, .own 15), (1, AV.sl (List.map eI b)), (0, AV.sl (List.map eI a))] [(15, Blk.mk false 3 1 (List.map eI out))]) := (execR_bind _ _ _).symm.trans (by kernel_rfl)

theorem lpDvi_ok (a : List Int) (b : List Int) (out : List Int) (r : List Int) (i : Int) (lo : Nat) (hi : Nat) (hp : prlDvi a b out r i lo hi = true) : ∀ ex s', (outDvi a b out r i lo hi).val = some (ex, s') → LoopOK enDv (loopN Tryz.f100 1) (stDvi a b out r i lo hi) ex s' := by
  simp only [prlDvi, Bool.and_eq_true, decide_eq_true_eq] at hp
  obtain ⟨⟨⟨⟨⟨h1, h2⟩, h3⟩, h4⟩, h5⟩, h6⟩ := hp
  have n1 := nk_up h1 (by decide : 200 ≤ 300)
  have n2 := nk_up h3 (by decide : 201 ≤ 1000)
  have hbv := nk_lt h1
  generalize hqe : F.nv r / F.nv b = q at h4 h5
  refine loop_gen (st := fun p : Nat × Nat => stDvi a b out r i p.1 p.2) (out := fun p => outDvi a b out r i p.1 p.2) (I := fun p => p.1 ≤ q ∧ q ≤ p.2 ∧ p.2 ≤ 9999) (n := ([11, 10, 8, 7, 6, 1, 0], [15])) (e := ([10, 8, 7, 6, 1, 0], [15])) (r := ([], [])) (fun p => p.2 - p.1) ?_ (lo, hi) ⟨h4, h5, h6⟩
  clear h4 h5 h6
  rintro ⟨lo, hi⟩ ⟨g1, g2, g3⟩
  simp only at g1 g2 g3
  by_cases hlt : lo < hi
  · right
    obtain ⟨m, hm⟩ : ∃ m, m = (lo + hi + 1) / 2 := ⟨_, rfl⟩
    have hm1 : lo < m := by omega
    have hm2 : m ≤ hi := by omega
    have w1 : IntKind.i64.wrap ((lo : Int) + (hi : Int)) = ((lo + hi : Nat) : Int) := by rw [wrap_id (by omega) (by omega)]; rfl
    have w2 : IntKind.i64.wrap (((lo + hi : Nat) : Int) + 1) = ((lo + hi + 1 : Nat) : Int) := by rw [wrap_id (by omega) (by omega)]; rfl
    have w3 : (((lo + hi + 1 : Nat) : Int)).tdiv 2 = ((m : Nat) : Int) := by rw [Int.tdiv_eq_ediv_of_nonneg (by omega)]; omega
    have w4 : IntKind.i64.wrap ((m : Nat) : Int) = (m : Int) := wrap_id (by omega) (by omega)
    have w5 : IntKind.i64.wrap ((m : Int) - 1) = ((m - 1 : Nat) : Int) := by rw [wrap_id (by omega) (by omega)]; omega
    have p1 : decide ((0 : Int) ≤ (m : Int)) = true := decide_eq_true (by omega)
    have p2 : decide ((m : Int) ≤ 9999) = true := decide_eq_true (by omega)
    have k1 : F.nk 1000 (F.lb (F.nv b * m)) = true := nk_mul (k := 1) hbv (by omega) (by decide)
    have hs := F.sgn_le (F.nv b * m) (F.nv r)
    have hd := F.div_le (b := F.nv b) (R := F.nv r) (mid := m) h2
    rw [hqe] at hd
    by_cases hc : m ≤ q
    · refine ⟨(m, hi), ?_, rfl, ⟨hc, g2, g3⟩, by simp only; omega, rfl⟩
      rw [decide_eq_true (hd.2 hc)] at hs
      rw [evDviL]
      simp only [unTrm, unSml, unCpr, unLes, preTrm1, preSml1, preCpr1, preLes1, unstDv, unstDvi, unstDvi0, prlDv, prlDvi, outDv, outDvi, etaEnt, etaLst, etaSeg, etaRot, etaBeat, etaSpan, etaHole, Option.bind_some, List.length_map, unStrs, unInts, unBools, unU8s, unEnts, unLsts, unSegs, unRots, unBeats, unSpans, unHoles, F.lt, F.le, cond_true, cond_false, Bool.and_true, Bool.true_and, cast_lt hlt, w1, w2, w3, w4, n1, n2, p1, p2, Int.toNat_natCast, k1, F.nv_lb, hs, stDvi]
    · refine ⟨(lo, m - 1), ?_, rfl, ⟨g1, by simp only; omega, by simp only; omega⟩, by simp only; omega, rfl⟩
      rw [decide_eq_false (fun h => hc (hd.1 h))] at hs
      rw [evDviL]
      simp only [unTrm, unSml, unCpr, unLes, preTrm1, preSml1, preCpr1, preLes1, unstDv, unstDvi, unstDvi0, prlDv, prlDvi, outDv, outDvi, etaEnt, etaLst, etaSeg, etaRot, etaBeat, etaSpan, etaHole, Option.bind_some, List.length_map, unStrs, unInts, unBools, unU8s, unEnts, unLsts, unSegs, unRots, unBeats, unSpans, unHoles, F.lt, F.le, cond_true, cond_false, Bool.and_true, Bool.true_and, cast_lt hlt, w1, w2, w3, w4, w5, n1, n2, p1, p2, Int.toNat_natCast, k1, F.nv_lb, hs, stDvi]
  · have hk : lo = q := by omega
    left
    refine ⟨(.exit 2, ⟨[(10, vI lo), (8, vI i), (7, .sl (r.map eI)), (6, .own 15), (1, .sl (b.map eI)), (0, .sl (a.map eI))], [(15, ⟨false, 3, 1, out.map eI⟩)]⟩), ?_, ?_, by simp, rfl⟩
    · have c2 : ¬ (lo : Int) < (hi : Int) := by omega
      rw [evDviL]
      simp only [unTrm, unSml, unCpr, unLes, preTrm1, preSml1, preCpr1, preLes1, unstDv, unstDvi, unstDvi0, prlDv, prlDvi, outDv, outDvi, etaEnt, etaLst, etaSeg, etaRot, etaBeat, etaSpan, etaHole, Option.bind_some, List.length_map, unStrs, unInts, unBools, unU8s, unEnts, unLsts, unSegs, unRots, unBeats, unSpans, unHoles, F.lt, F.le, cond_true, cond_false, Bool.and_true, Bool.true_and, decide_eq_false c2]
    · simp only [outDvi, hqe, hk]
      rfl

end M
end Go.Proofs.YtlemjphdhapfpaaGreatDoor
