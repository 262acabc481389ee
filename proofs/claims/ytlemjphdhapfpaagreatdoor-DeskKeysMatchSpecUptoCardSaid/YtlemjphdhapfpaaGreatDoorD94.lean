/- What is proved here: what headendref1.divide and common return on limbs (no statement of the seat). -/
import Derived.Test.YtlemjphdhapfpaaGreatDoorD93
namespace Go.Proofs.YtlemjphdhapfpaaGreatDoor
open Go Go.RowKit
set_option linter.unusedVariables false
set_option linter.unusedSimpArgs false

namespace M

theorem dq_nil (B : Nat) : F.dqo B [] = ([], 0) := rfl

theorem lpDv_ok (a : List Int) (b : List Int) (out : List Int) (i : Int) (hp : prlDv a b out i = true) : ∀ ex s', (outDv a b out i).val = some (ex, s') → LoopOK enDv (loopN Tryz.f100 0) (stDv a b out i) ex s' := by
  simp only [prlDv, Bool.and_eq_true, decide_eq_true_eq] at hp
  obtain ⟨⟨⟨⟨h1, h2⟩, h3⟩, h4⟩, h5⟩ := hp
  subst h4 h5
  have l1 := F.nk_len h1
  refine loop_gen (st := stDx a b) (out := outDx a b) (I := fun o => ∀ n, o = some n → n < a.length) (n := ([8, 7, 6, 1, 0], [15, 7])) (e := ([7, 6], [15, 7])) (r := ([], [])) (fun o => match o with | none => a.length + 1 | some n => n) ?_ none (fun n h => by cases h)
  intro o ho
  cases o with
  | none =>
    by_cases hz : a.length = 0
    · left
      have ha : a = [] := List.length_eq_zero_iff.1 hz
      subst ha
      refine ⟨(.exit 0, ⟨[(7, .own 7), (6, .own 15)], [(15, ⟨false, 3, 1, []⟩), (7, ⟨false, 3, 1, []⟩)]⟩), ?_, rfl, by simp, rfl⟩
      show ((exec enDv (loopN Tryz.f100 0) (stDv [] b (List.replicate 0 0) (-1))).bind _).val = _
      rw [evDvN]
      rfl
    · right
      obtain ⟨n, hn⟩ : ∃ n, a.length = n + 1 := ⟨a.length - 1, by omega⟩
      have hd : a.drop (n + 1) = [] := List.drop_eq_nil_of_le (by omega)
      have e1 : ([] : List Int) = F.lb (F.dqo (F.nv b) (a.drop (n + 1))).2 := by rw [hd, dq_nil, F.lb_zero]
      have e2 : List.replicate (n + 1) (0 : Int) = List.replicate (n + 1) 0 ++ (F.dqo (F.nv b) (a.drop (n + 1))).1 := by rw [hd, dq_nil]; exact (List.append_nil _).symm
      have hs := (dv_step h1 h2 h3 (n := n) (by omega) [] e1 _ e2).2 rfl
      refine ⟨some n, ?_, ?_, fun m h => by cases h; omega, by simp only; omega, ?_⟩
      · have e : stDx a b none = stDv a b (List.replicate (n + 1) 0) (n : Int) := by
          show stDv a b (List.replicate a.length 0) ((a.length : Int) - 1) = _
          rw [hn, show ((n + 1 : Nat) : Int) - 1 = (n : Int) by omega]
        rw [e]; exact hs
      · rfl
      · have hf : decide ((a.length : Int) - 1 < 0) = false := decide_eq_false (by omega)
        simp only [outDx, outDv, hf]
        rfl
  | some m =>
    have hm := ho m rfl
    cases m with
    | zero =>
      left
      refine ⟨(.exit 0, ⟨[(7, .sl ((F.lb (F.dqo (F.nv b) a).2).map eI)), (6, .own 15)], [(15, ⟨false, 3, 1, (F.dqo (F.nv b) a).1.map eI⟩)]⟩), ?_, rfl, by simp, rfl⟩
      show ((exec enDv (loopN Tryz.f100 0) (stDvS a b (List.replicate 0 0 ++ (F.dqo (F.nv b) (a.drop 0)).1) (F.lb (F.dqo (F.nv b) (a.drop 0)).2) (-1))).bind _).val = _
      rw [evDvS]
      rfl
    | succ n =>
      right
      have hs := (dv_step h1 h2 h3 (n := n) (by omega) _ rfl _ rfl).1
      refine ⟨some n, ?_, rfl, fun m h => by cases h; omega, by simp only; omega, rfl⟩
      have e : stDx a b (some (n + 1)) = stDvS a b (List.replicate (n + 1) 0 ++ (F.dqo (F.nv b) (a.drop (n + 1))).1) (F.lb (F.dqo (F.nv b) (a.drop (n + 1))).2) (n : Int) := by
        show stDvS a b _ _ (((n + 1 : Nat) : Int) - 1) = _
        rw [show ((n + 1 : Nat) : Int) - 1 = (n : Int) by omega]
      rw [e]; exact hs

theorem evDv (a : List Int) (b : List Int) : (runF enDv false Tryz.f100 [.sl (a.map eI), .sl (b.map eI)]).val =
  bif Nat.ble (List.length (List.map eI a)) (List.length (List.map eI a)) && Nat.ble (List.length (List.map eI a) * (8 : Nat)) (140737488355328 : Nat) then Option.bind
  (unenc stDv1 (St.mk [(8, (vI (IntKind.wrap IntKind.i64 ((↑(List.length (List.map eI a)) : Int) - (1 : Int))))), (7, .own 7), (6, .own 15), (1, AV.sl (List.map eI b)), (0,
  AV.sl (List.map eI a))] [(15, Blk.mk false 3 1 (List.replicate (List.length (List.map eI a)) [(vI (0 : Int))])), (7, Blk.mk false 3 1 [])])) fun (z : List Int × List Int ×
  List Int × Int) => bif F.nk (200 : Nat) z.fst && F.nk (200 : Nat) z.snd.fst && decide ((0 : Nat) < F.nv z.snd.fst) && decide (z.snd.snd.fst = List.replicate (List.length
  z.fst) (0 : Int)) && decide (z.snd.snd.snd = (↑(List.length z.fst) : Int) - (1 : Int)) && true then bif decide (z.snd.snd.snd < (0 : Int)) then Option.bind (unenc encTrm
  [AV.sl []]) fun (z : List Int) => bif decide (List.length z ≤ (100000 : Nat)) then some (AV.tup [AV.sl (List.map eI (F.trimL z)), AV.sl []], []) else none else Option.bind
  (unenc encTrm [AV.sl (List.map eI (F.dqo (F.nv z.snd.fst) z.fst).fst)]) fun (z_1 : List Int) => bif decide (List.length z_1 ≤ (100000 : Nat)) then some (AV.tup [AV.sl
  (List.map eI (F.trimL z_1)), AV.sl (List.map eI (F.lb (F.dqo (F.nv z.snd.fst) z.fst).snd))], []) else none else none else none := (runFR_val).symm.trans (by kernel_rfl)

def encDv1 (a : List Int) (b : List Int) : List AV := [.sl (a.map eI), .sl (b.map eI)]

def encDv (a : (List Int) × (List Int)) : List AV := encDv1 a.1 a.2

theorem encDv_inj (a a' : (List Int) × (List Int)) (h : encDv a = encDv a') : a = a' := by
  simp only [encDv, encDv1] at h
  try simp [strs_inj, ints_inj, bools_inj, u8s_inj, eEnts_inj, eEnt_iff, eLsts_inj, eLst_iff, eSegs_inj, eSeg_iff, eRots_inj, eRot_iff, eBeats_inj, eBeat_iff, eSpans_inj, eSpan_iff, eHoles_inj, eHole_iff] at h
  grind

theorem unDv (a : List Int) (b : List Int) : unenc encDv ([AV.sl (List.map eI a), AV.sl (List.map eI b)]) = some (a, b) := unenc_of encDv_inj (a, b) rfl

def resDv1 (a : List Int) (b : List Int) : AV × Heap := (.tup [.sl ((F.lb (F.nv a / F.nv b)).map eI), .sl ((F.lb (F.nv a % F.nv b)).map eI)], [])

def preDv1 (a : List Int) (b : List Int) : Bool := F.nk 200 a && F.nk 200 b && decide (0 < F.nv b)

noncomputable def oDv : Orc := orc 100 false encDv (fun a => preDv1 a.1 a.2) fun a => resDv1 a.1 a.2

theorem okDv : OrcOK Tryz.prog noG oDv := by
  refine mk_ok Tryz.f100 (keep := false) (by kernel_rfl) (by kernel_rfl) enDv_ok mixed (two_loops (x0 := loopN Tryz.f100 0) (x1 := loopN Tryz.f100 1) (by kernel_rfl) (lpo_ok ?_) (lpo_ok ?_)) (by first | exact fun _ _ => ⟨rfl, rfl⟩ | (intro h; cases h)) ?_
  · rintro ⟨a, b, out, i⟩ hp
    exact lpDv_ok a b out i hp
  · rintro ⟨a, b, out, r, i, lo, hi⟩ hp
    exact lpDvi_ok a b out r i lo hi hp
  rintro ⟨a, b⟩ hpre hok
  show (runF enDv false _ (encDv1 _ _)).val = some (resDv1 _ _)
  unfold encDv1 resDv1
  rw [evDv]
  have hpre : (F.nk 200 a && F.nk 200 b && decide (0 < F.nv b)) = true := hpre
  have hpre2 := hpre
  rw [Bool.and_eq_true, Bool.and_eq_true, decide_eq_true_eq] at hpre2
  obtain ⟨⟨p1, p2⟩, p3⟩ := hpre2
  have l1 := F.nk_len p1
  have hres : F.trimL (F.dqo (F.nv b) a).1 = F.lb (F.nv a / F.nv b) ∧ (F.dqo (F.nv b) a).2 = F.nv a % F.nv b := by
    obtain ⟨m, hm1, hm⟩ := F.nk_of p1
    rw [hm1, F.nv_lb]
    exact F.dqo_lb p3 m
  have hrep : ∀ n : Nat, List.replicate n [vI (0 : Int)] = (List.replicate n (0 : Int)).map eI := fun n => by rw [List.map_replicate]; rfl
  have w0 : IntKind.i64.wrap ((a.length : Int) - 1) = (a.length : Int) - 1 := wrap_id (by omega) (by omega)
  have hb1 : Nat.ble a.length a.length = true := ble_t (Nat.le_refl _)
  have hb2 : Nat.ble (a.length * 8) 140737488355328 = true := ble_t (by omega)
  have hdl := (F.dqo_eq p3 (F.nk_ok p1)).2.2.2
  have hl : decide ((F.dqo (F.nv b) a).1.length ≤ 100000) = true := decide_eq_true (by omega)
  have u0 : unenc encTrm [.sl []] = some [] := unTrm []
  simp only [unTrm, unSml, unCpr, unLes, preTrm1, preSml1, preCpr1, preLes1, unstDv, unstDvi, unstDvi0, prlDv, prlDvi, outDv, outDvi, etaEnt, etaLst, etaSeg, etaRot, etaBeat, etaSpan, etaHole, Option.bind_some, List.length_map, unStrs, unInts, unBools, unU8s, unEnts, unLsts, unSegs, unRots, unBeats, unSpans, unHoles, F.lt, F.le, cond_true, cond_false, Bool.and_true, Bool.true_and, p1, p2, w0, hrep, decide_eq_true p3, hb1, hb2, hl, decide_true, hres.1, hres.2, u0]
  by_cases hz : (a.length : Int) - 1 < 0
  · have ha : a = [] := List.length_eq_zero_iff.1 (by omega)
    subst ha
    rw [decide_eq_true hz, cond_true, show F.nv [] = 0 from rfl, Nat.zero_div, Nat.zero_mod, F.lb_zero]
    rfl
  · rw [decide_eq_false hz, cond_false]

end M
end Go.Proofs.YtlemjphdhapfpaaGreatDoor
