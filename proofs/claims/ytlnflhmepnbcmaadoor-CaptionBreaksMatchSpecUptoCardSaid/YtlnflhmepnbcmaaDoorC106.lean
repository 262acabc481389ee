/- What is proved here: Break of the reference on plain data (no statement of the seat). -/
import Derived.Test.YtlnflhmepnbcmaaDoorC105
import Derived.Test.YtlnflhmepnbcmaaDoorM9
namespace Go.Proofs.YtlnflhmepnbcmaaDoor
open Go Go.RowKit
set_option linter.unusedVariables false
set_option linter.unusedSimpArgs false
set_option maxHeartbeats 1000000

namespace F

theorem bj_rng {ws : List ByteArray} {w : Int} {k i : Nat} : ∀ (f j b : Nat), bj ws w k i f j b = b ∨ (j ≤ bj ws w k i f j b ∧ bj ws w k i f j b < j + f)
  | 0, _, _ => .inl rfl
  | f + 1, j, b => by
    rw [bj]
    rcases bj_rng f (j + 1) (bif tj ws w k i j then j else b) with e | e
    · rw [e]
      cases tj ws w k i j
      · exact .inl rfl
      · exact .inr (by simp only [cond_true]; omega)
    · exact .inr (by omega)

theorem bjx_rng {ws : List ByteArray} {w : Int} {k i : Nat} (h : i < ws.length) : i < bjx ws w k i ∧ bjx ws w k i ≤ ws.length := by
  unfold bjx
  rcases bj_rng (ws := ws) (w := w) (k := k) (i := i) (ws.length - i) (i + 1) (i + 1) with e | e <;> omega

theorem bj_some {ws : List ByteArray} {w : Int} {k i : Nat} : ∀ (f j b j' : Nat), j ≤ j' → j' < j + f → tj ws w k i j' = true → tj ws w k i (bj ws w k i f j b) = true
  | 0, j, b, j', h1, h2, _ => by omega
  | f + 1, j, b, j', h1, h2, ht => by
    rw [bj]
    by_cases hx : ∃ j2, j + 1 ≤ j2 ∧ j2 < j + 1 + f ∧ tj ws w k i j2 = true
    · obtain ⟨j2, q1, q2, q3⟩ := hx
      exact bj_some f (j + 1) _ j2 q1 q2 q3
    · have hno : ∀ j2, j + 1 ≤ j2 → j2 < j + 1 + f → tj ws w k i j2 = false := fun j2 q1 q2 => by
        cases hq : tj ws w k i j2
        · rfl
        · exact absurd ⟨j2, q1, q2, hq⟩ hx
      rw [bj_none f (j + 1) _ hno]
      by_cases e : j' = j
      · subst e; rw [ht, cond_true]; exact ht
      · have := hno j' (by omega) (by omega)
        rw [this] at ht; cases ht

theorem cj_att {ws : List ByteArray} {w : Int} (h : Txt ws w) {i k : Nat} : ∀ (f j : Nat) (a : Int), cj (fun j => lacks ws w i j) (fun j => cz ws w k j) f j a = a ∨
    ∃ j', j ≤ j' ∧ j' < j + f ∧ lacks ws w i j' ≠ far ∧ lacks ws w i j' + cz ws w k j' = cj (fun j => lacks ws w i j) (fun j => cz ws w k j) f j a
  | 0, _, _ => .inl rfl
  | f + 1, j, a => by
    by_cases hx : lacks ws w i j = far
    · exact .inl (cj_far (x := fun j => lacks ws w i j) hx)
    · rw [cj_next h hx]
      rcases cj_att h f (j + 1) (min a (lacks ws w i j + cz ws w k j)) with e | ⟨j', q1, q2, q3, q4⟩
      · rw [e]
        by_cases hm : a ≤ lacks ws w i j + cz ws w k j
        · exact .inl (by omega)
        · exact .inr ⟨j, Nat.le_refl _, by omega, hx, by omega⟩
      · exact .inr ⟨j', by omega, by omega, q3, q4⟩

/-- A line more. -/
theorem bjx_ok {ws : List ByteArray} {w : Int} (h : Txt ws w) {k i : Nat} (hi : i < ws.length) (hc : cz ws w k i < far) : 1 ≤ k ∧ (bjx ws w k i < ws.length → cz ws w (k - 1) (bjx ws w k i) < far) := by
  cases k with
  | zero =>
    rw [cz, beq_eq_false_iff_ne.2 (by omega), cond_false] at hc
    omega
  | succ k =>
    refine ⟨by omega, fun _ => ?_⟩
    have hc2 := hc
    rw [cz] at hc2
    rcases cj_att h (i := i) (k := k) (ws.length - i) (i + 1) far with e | ⟨j', q1, q2, q3, q4⟩
    · omega
    · have ht : tj ws w (k + 1) i j' = true := (tj_eq h (k + 1) i j').2 ⟨q3, by rw [Nat.add_sub_cancel, q4, cz]⟩
      have := bj_some (ws := ws) (w := w) (k := k + 1) (i := i) (ws.length - i) (i + 1) (i + 1) j' q1 q2 ht
      have := (tj_eq h (k + 1) i _).1 this
      unfold bjx
      generalize bj ws w (k + 1) i (ws.length - i) (i + 1) (i + 1) = N at *
      have hx : 0 ≤ lacks ws w i N := by
        rcases lacks_eq h i N with ⟨_, e⟩ | ⟨_, _, e1, e2⟩
        · exact absurd e this.1
        · exact e1
      omega

theorem rbO_fuel {ws : List ByteArray} {w : Int} : ∀ (f g i k : Nat), ws.length - i ≤ f → ws.length - i ≤ g → rbO ws w f i k = rbO ws w g i k
  | 0, 0, _, _, _, _ => rfl
  | 0, g + 1, i, k, h1, h2 => by rw [rbO, rbO, decide_eq_false (by omega), cond_false]
  | f + 1, 0, i, k, h1, h2 => by rw [rbO, rbO, decide_eq_false (by omega), cond_false]
  | f + 1, g + 1, i, k, h1, h2 => by
    rw [rbO, rbO]
    by_cases e : i < ws.length
    · have := bjx_rng (w := w) (k := k) e
      rw [rbO_fuel f g _ _ (by omega) (by omega)]
    · rw [decide_eq_false e, cond_false, cond_false]

/-- The rows of a matrix, less one. -/
def rc (C : List (List Int)) : Nat := (C.getD 0 []).length - 1

theorem rc_cost (ws : List ByteArray) (w : Int) (R : Nat) : rc (costM ws w R) = R := by
  unfold rc
  have : (costM ws w R).getD 0 [] = costR ws w R 0 := by simp [List.getD, costM_at (show 0 ≤ ws.length by omega)]
  rw [this]
  simp [costR]

/-- What a broken text is like, for the machine. -/
def txtB (ws : List ByteArray) (w : Int) : Bool := decide (1 ≤ w ∧ w ≤ 200 ∧ ws.length ≤ 1001 ∧ sizes ws ≤ 2000000) && smL ws

theorem txtB_iff {ws : List ByteArray} {w : Int} (h : txtB ws w = true) : Txt ws w ∧ smL ws = true := by
  simp only [txtB, Bool.and_eq_true, decide_eq_true_eq] at h
  exact ⟨⟨h.1.1, h.1.2.1, h.1.2.2.1, h.1.2.2.2⟩, h.2⟩

end F

namespace M

def stRb1 (C : List (List Int)) (ws : List ByteArray) (w : Int) (R : Nat) (k : Nat) : St := ⟨[(10, vI k), (9, .sl (C.map eL_eI)), (8, .sl (ws.map eStr)), (2, vI R), (1, vI w)], []⟩

def stRb11 (a : (List (List Int)) × (List ByteArray) × Int × Nat × Nat) : St := stRb1 a.1 a.2.1 a.2.2.1 a.2.2.2.1 a.2.2.2.2

theorem stRb1_inj (a a' : (List (List Int)) × (List ByteArray) × Int × Nat × Nat) (h : stRb11 a = stRb11 a') : a = a' := by
  simp only [stRb11, stRb1] at h
  try simp [strs_inj, ints_inj, bools_inj, eL_eIs_inj, eCaps_inj, eCap_iff, eL_eCaps_inj, eMchs_inj, eMch_iff, eWrds_inj, eWrd_iff, eFnds_inj, eFnd_iff, eRatios_inj, eRatio_iff, eWays_inj, eWay_iff] at h
  grind

theorem unstRb1 (C : List (List Int)) (ws : List ByteArray) (w : Int) (R : Nat) (k : Nat) : unenc stRb11 (St.mk [(10, (vI (↑k : Int))), (9, AV.sl (List.map eL_eI C)), (8, AV.sl (List.map eStr ws)), (2, (vI (↑R : Int))), (1, (vI w))] []) = some (C, ws, w, R, k) := unenc_of stRb1_inj (C, ws, w, R, k) rfl

theorem unstRb10 (C : List (List Int)) (ws : List ByteArray) (w : Int) (R : Nat)  : unenc stRb11 (St.mk [(10, (vI (1 : Int))), (9, AV.sl (List.map eL_eI C)), (8, AV.sl (List.map eStr ws)), (2, (vI (↑R : Int))), (1, (vI w))] []) = some (C, ws, w, R, 1) := unenc_of stRb1_inj (C, ws, w, R, 1) rfl

def outRb1 (C : List (List Int)) (ws : List ByteArray) (w : Int) (R : Nat) (k : Nat) : T (Ex × St) := .ret (.exit 0, ⟨[(10, vI (F.kf (fun k => F.cz ws w k 0) R (R + 1 - k) k)), (9, .sl (C.map eL_eI)), (8, .sl (ws.map eStr)), (2, vI R), (1, vI w)], []⟩)

noncomputable def prlRb1 (C : List (List Int)) (ws : List ByteArray) (w : Int) (R : Nat) (k : Nat) : Bool := decide (C = F.costM ws w R) && decide (k ≤ R + 1) && decide (R ≤ 15)

noncomputable def lpRb1 : Nat × (St → T (Ex × St)) := (10, lpo [10, 9, 8, 2, 1] [] stRb11 (fun a => prlRb1 a.1 a.2.1 a.2.2.1 a.2.2.2.1 a.2.2.2.2) fun a => outRb1 a.1 a.2.1 a.2.2.1 a.2.2.2.1 a.2.2.2.2)

def stRb2 (C : List (List Int)) (ws : List ByteArray) (w : Int) (out : List ByteArray) (i : Nat) (k : Nat) : St := ⟨[(12, vI i), (11, .own 11), (10, vI k), (9, .sl (C.map eL_eI)), (8, .sl (ws.map eStr)), (1, vI w)], [(11, ⟨false, 9, 1, out.map eStr⟩)]⟩

def stRb21 (a : (List (List Int)) × (List ByteArray) × Int × (List ByteArray) × Nat × Nat) : St := stRb2 a.1 a.2.1 a.2.2.1 a.2.2.2.1 a.2.2.2.2.1 a.2.2.2.2.2

theorem stRb2_inj (a a' : (List (List Int)) × (List ByteArray) × Int × (List ByteArray) × Nat × Nat) (h : stRb21 a = stRb21 a') : a = a' := by
  simp only [stRb21, stRb2] at h
  try simp [strs_inj, ints_inj, bools_inj, eL_eIs_inj, eCaps_inj, eCap_iff, eL_eCaps_inj, eMchs_inj, eMch_iff, eWrds_inj, eWrd_iff, eFnds_inj, eFnd_iff, eRatios_inj, eRatio_iff, eWays_inj, eWay_iff] at h
  grind

theorem unstRb2 (C : List (List Int)) (ws : List ByteArray) (w : Int) (out : List ByteArray) (i : Nat) (k : Nat) : unenc stRb21 (St.mk [(12, (vI (↑i : Int))), (11, .own 11), (10, (vI (↑k : Int))), (9, AV.sl (List.map eL_eI C)), (8, AV.sl (List.map eStr ws)), (1, (vI w))] [(11, Blk.mk false 9 1
  (List.map eStr out))]) = some (C, ws, w, out, i, k) := unenc_of stRb2_inj (C, ws, w, out, i, k) rfl

theorem unstRb20 (C : List (List Int)) (ws : List ByteArray) (w : Int) (k : Nat)  : unenc stRb21 (St.mk [(12, (vI (0 : Int))), (11, .own 11), (10, (vI (↑k : Int))), (9, AV.sl (List.map eL_eI C)), (8, AV.sl (List.map eStr ws)), (1, (vI w))] [(11, Blk.mk false 9 1 [])]) = some (C, ws, w, [], 0, k) := unenc_of stRb2_inj (C, ws, w, [], 0, k) rfl

def outRb2 (C : List (List Int)) (ws : List ByteArray) (w : Int) (out : List ByteArray) (i : Nat) (k : Nat) : T (Ex × St) := .ret (.exit 2, ⟨[(11, .own 11)], [(11, ⟨false, 9, 1, (out ++ F.rbO ws w (ws.length - i) i k).map eStr⟩)]⟩)

noncomputable def prlRb2 (C : List (List Int)) (ws : List ByteArray) (w : Int) (out : List ByteArray) (i : Nat) (k : Nat) : Bool := decide (C = F.costM ws w (F.rc C)) && F.txtB ws w && decide (k ≤ F.rc C ∧ F.rc C ≤ 15 ∧ i ≤ ws.length ∧ out.length ≤ i ∧ (i < ws.length → F.cz ws w k i < F.far))

noncomputable def lpRb2 : Nat × (St → T (Ex × St)) := (16, lpo [12, 11, 10, 9, 8, 1] [11] stRb21 (fun a => prlRb2 a.1 a.2.1 a.2.2.1 a.2.2.2.1 a.2.2.2.2.1 a.2.2.2.2.2) fun a => outRb2 a.1 a.2.1 a.2.2.1 a.2.2.2.1 a.2.2.2.2.1 a.2.2.2.2.2)

def stRb4 (C : List (List Int)) (ws : List ByteArray) (w : Int) (out : List ByteArray) (i : Nat) (k : Nat) (b : Nat) (j : Nat) : St := ⟨[(14, vI j), (13, vI b), (12, vI i), (11, .own 11), (10, vI k), (9, .sl (C.map eL_eI)), (8, .sl (ws.map eStr)), (1, vI w)], [(11, ⟨false, 9, 1, out.map eStr⟩)]⟩

def stRb41 (a : (List (List Int)) × (List ByteArray) × Int × (List ByteArray) × Nat × Nat × Nat × Nat) : St := stRb4 a.1 a.2.1 a.2.2.1 a.2.2.2.1 a.2.2.2.2.1 a.2.2.2.2.2.1 a.2.2.2.2.2.2.1 a.2.2.2.2.2.2.2

theorem stRb4_inj (a a' : (List (List Int)) × (List ByteArray) × Int × (List ByteArray) × Nat × Nat × Nat × Nat) (h : stRb41 a = stRb41 a') : a = a' := by
  simp only [stRb41, stRb4] at h
  try simp [strs_inj, ints_inj, bools_inj, eL_eIs_inj, eCaps_inj, eCap_iff, eL_eCaps_inj, eMchs_inj, eMch_iff, eWrds_inj, eWrd_iff, eFnds_inj, eFnd_iff, eRatios_inj, eRatio_iff, eWays_inj, eWay_iff] at h
  grind

theorem unstRb4 (C : List (List Int)) (ws : List ByteArray) (w : Int) (out : List ByteArray) (i : Nat) (k : Nat) (b : Nat) (j : Nat) : unenc stRb41 (St.mk [(14, (vI (↑j : Int))), (13, (vI (↑b : Int))), (12, (vI (↑i : Int))), (11, .own 11), (10, (vI (↑k : Int))), (9, AV.sl (List.map eL_eI C)), (8, AV.sl (List.map eStr
  ws)), (1, (vI w))] [(11, Blk.mk false 9 1 (List.map eStr out))]) = some (C, ws, w, out, i, k, b, j) := unenc_of stRb4_inj (C, ws, w, out, i, k, b, j) rfl

def outRb4 (C : List (List Int)) (ws : List ByteArray) (w : Int) (out : List ByteArray) (i : Nat) (k : Nat) (b : Nat) (j : Nat) : T (Ex × St) := .ret (.exit 4, ⟨[(13, vI (F.bj ws w k i (ws.length + 1 - j) j b)), (12, vI i), (11, .own 11), (10, vI k), (9, .sl (C.map eL_eI)), (8, .sl (ws.map eStr)), (1, vI w)], [(11, ⟨false, 9, 1, out.map eStr⟩)]⟩)

noncomputable def prlRb4 (C : List (List Int)) (ws : List ByteArray) (w : Int) (out : List ByteArray) (i : Nat) (k : Nat) (b : Nat) (j : Nat) : Bool := decide (C = F.costM ws w (F.rc C)) && F.txtB ws w && decide (1 ≤ k ∧ k ≤ F.rc C ∧ F.rc C ≤ 15 ∧ i < ws.length ∧ i < j ∧ j ≤ ws.length + 1)

noncomputable def lpRb4 : Nat × (St → T (Ex × St)) := (20, lpo [14, 13, 12, 11, 10, 9, 8, 1] [11] stRb41 (fun a => prlRb4 a.1 a.2.1 a.2.2.1 a.2.2.2.1 a.2.2.2.2.1 a.2.2.2.2.2.1 a.2.2.2.2.2.2.1 a.2.2.2.2.2.2.2) fun a => outRb4 a.1 a.2.1 a.2.2.1 a.2.2.2.1 a.2.2.2.2.1 a.2.2.2.2.2.1 a.2.2.2.2.2.2.1 a.2.2.2.2.2.2.2)

noncomputable def enRb : Env := envH ty noG lks [oWithin, oIsT, oCnt, oSpl, oCst, oLk, oJoi] [] [] [lpRb1, lpRb2, lpRb4]

theorem enRb_ok : EnvOK Tryd.prog enRb := by
  refine envH_ok lks_ok ty_ok ?_ ?_
  · simp only [List.forall_mem_cons]
    exact ⟨okWithin, okIsT, okCnt, okSpl, okCst, okLk, okJoi, by simp⟩
  · simp

theorem idx_sub1 {k : Nat} (h1 : 1 ≤ k) (h2 : k ≤ 9223372036854775807) : idx (IntKind.i64.wrap ((k : Int) - 1)) = some (k - 1) := by
  rw [wrap_id (by omega) (by omega), show (k : Int) - 1 = ((k - 1 : Nat) : Int) by omega]
  rfl

theorem evRb1L (C : List (List Int)) (ws : List ByteArray) (w : Int) (R : Nat) (k : Nat) : ((exec enRb (loopN Tryd.f10 0) (stRb1 C ws w R k)).bind (lessX ([10, 9, 8, 2, 1], []) ([10, 9, 8, 2, 1], []) ([], []))).val =
  bif decide ((↑k : Int) ≤ (↑R : Int)) then Option.bind (unenc (List.map eL_eI) (List.map eL_eI C)) fun (z : List (List Int)) => bif decide ((0 : Nat) < List.length z) then
  Option.bind (unenc (List.map eI) (List.map eI (List.getD z (0 : Nat) []))) fun (z : List Int) => bif decide (k < List.length z) then bif decide ((1099511627776 : Int) ≤
  List.getD z k (0 : Int)) then some (Ex.normal, St.mk [(10, (vI (IntKind.wrap IntKind.i64 ((↑k : Int) + (1 : Int))))), (9, AV.sl (List.map eL_eI C)), (8, AV.sl (List.map
  eStr ws)), (2, (vI (↑R : Int))), (1, (vI w))] []) else some (Ex.exit (0 : Nat), St.mk [(10, (vI (↑k : Int))), (9, AV.sl (List.map eL_eI C)), (8, AV.sl (List.map eStr ws)),
  (2, (vI (↑R : Int))), (1, (vI w))] []) else none else none else some (Ex.exit (0 : Nat), St.mk [(10, (vI (↑k : Int))), (9, AV.sl (List.map eL_eI C)), (8, AV.sl (List.map
  eStr ws)), (2, (vI (↑R : Int))), (1, (vI w))] []) := (execR_bind _ _ _).symm.trans (by kernel_rfl)

theorem lpRb1_ok (C : List (List Int)) (ws : List ByteArray) (w : Int) (R : Nat) (k : Nat) (hp : prlRb1 C ws w R k = true) : ∀ ex s', (outRb1 C ws w R k).val = some (ex, s') → LoopOK enRb (loopN Tryd.f10 0) (stRb1 C ws w R k) ex s' := by
  simp only [prlRb1, Bool.and_eq_true, decide_eq_true_eq] at hp
  obtain ⟨⟨hC, hk⟩, hR⟩ := hp
  subst hC
  refine loop_gen (st := fun k : Nat => stRb1 (F.costM ws w R) ws w R k) (out := fun k => outRb1 (F.costM ws w R) ws w R k) (I := fun k => k ≤ R + 1) (n := ([10, 9, 8, 2, 1], [])) (e := ([10, 9, 8, 2, 1], [])) (r := ([], [])) (fun k => R + 1 - k) ?_ k hk
  intro k hk
  have e0 : (F.costM ws w R)[0]? = some (F.costR ws w R 0) := F.costM_at (Nat.zero_le _)
  by_cases hkR : k ≤ R
  · have e1 : (F.costR ws w R 0)[k]? = some (F.cz ws w k 0) := F.costR_at hkR
    have l0 := lt_at e0
    have l1 := lt_at e1
    have hle : decide ((k : Int) ≤ (R : Int)) = true := decide_eq_true (by omega)
    have hkf : F.kf (fun k => F.cz ws w k 0) R (R + 1 - k) k = bif decide (F.far ≤ F.cz ws w k 0) then F.kf (fun k => F.cz ws w k 0) R (R + 1 - (k + 1)) (k + 1) else k := by
      rw [show R + 1 - k = (R + 1 - (k + 1)) + 1 by omega, F.kf, decide_eq_true hkR, Bool.true_and]
    have hw : IntKind.i64.wrap ((k : Int) + 1) = ((k + 1 : Nat) : Int) := wrap_id (by omega) (by omega)
    cases hf : decide (F.far ≤ F.cz ws w k 0)
    · left
      rw [hf, cond_false] at hkf
      have hf' : decide (1099511627776 ≤ F.cz ws w k 0) = false := hf
      refine ⟨_, ?_, rfl, by simp, rfl⟩
      rw [evRb1L]
      simp only [unWithin, unIsT, unCnt, unSpl, unCst, unLk, unJoi, preWithin1, preIsT1, preCnt1, preSpl1, preCst1, preLk1, preJoi1, unstRb1, unstRb2, unstRb4, unstRb10, unstRb20, prlRb1, prlRb2, prlRb4, outRb1, outRb2, outRb4, etaCap, etaMch, etaWrd, etaFnd, etaRatio, etaWay, Option.bind_some, List.length_map, unStrs, unInts, unBools, uneL_eIs, unCaps, uneL_eCaps, unMchs, unWrds, unFnds, unRatios, unWays, F.lt, F.le, cond_true, cond_false, Bool.and_true, Bool.true_and, hle, uneL_eIs, decide_eq_true l0, decide_eq_true l1, getD_at e0, getD_at e1, hf', hkf]
    · right
      rw [hf, cond_true] at hkf
      have hf' : decide (1099511627776 ≤ F.cz ws w k 0) = true := hf
      refine ⟨k + 1, ?_, rfl, by omega, by omega, ?_⟩
      · rw [evRb1L]
        simp only [unWithin, unIsT, unCnt, unSpl, unCst, unLk, unJoi, preWithin1, preIsT1, preCnt1, preSpl1, preCst1, preLk1, preJoi1, unstRb1, unstRb2, unstRb4, unstRb10, unstRb20, prlRb1, prlRb2, prlRb4, outRb1, outRb2, outRb4, etaCap, etaMch, etaWrd, etaFnd, etaRatio, etaWay, Option.bind_some, List.length_map, unStrs, unInts, unBools, uneL_eIs, unCaps, uneL_eCaps, unMchs, unWrds, unFnds, unRatios, unWays, F.lt, F.le, cond_true, cond_false, Bool.and_true, Bool.true_and, hle, uneL_eIs, decide_eq_true l0, decide_eq_true l1, getD_at e0, getD_at e1, hf', hw, stRb1]
      · simp only [outRb1, hkf]
  · left
    have hle : decide ((k : Int) ≤ (R : Int)) = false := decide_eq_false (by omega)
    have e : k = R + 1 := by omega
    subst e
    refine ⟨_, ?_, rfl, by simp, rfl⟩
    rw [evRb1L]
    simp only [hle, cond_false, Nat.sub_self, F.kf]

theorem evRb4L (C : List (List Int)) (ws : List ByteArray) (w : Int) (out : List ByteArray) (i : Nat) (k : Nat) (b : Nat) (j : Nat) : ((exec enRb (loopN Tryd.f10 2) (stRb4 C ws w out i k b j)).bind (lessX ([14, 13, 12, 11, 10, 9, 8, 1], [11]) ([13, 12, 11, 10, 9, 8, 1], [11]) ([], []))).val =
  bif decide ((↑j : Int) ≤ (↑(List.length (List.map eStr ws)) : Int)) then Option.bind (unenc encLk [AV.sl (List.map eStr ws), (vI (↑i : Int)), (vI (↑j : Int)), (vI w)]) fun
  (z : List ByteArray × Nat × Nat × Int) => bif decide (z.snd.fst ≤ z.snd.snd.fst ∧ z.snd.snd.fst ≤ List.length z.fst ∧ List.length z.fst ≤ (100000 : Nat)) && F.smL z.fst
  then bif F.lacks z.fst z.snd.snd.snd z.snd.fst z.snd.snd.fst != (1099511627776 : Int) then Option.bind (unenc (List.map eL_eI) (List.map eL_eI C)) fun (z_1 : List (List
  Int)) => bif decide (j < List.length z_1) then Option.bind (idx (IntKind.wrap IntKind.i64 ((↑k : Int) - (1 : Int)))) fun (z_2 : Nat) => Option.bind (unenc (List.map eI)
  (List.map eI (List.getD z_1 j []))) fun (z_3 : List Int) => bif decide (z_2 < List.length z_3) then Option.bind (unenc (List.map eL_eI) (List.map eL_eI C)) fun (z_4 : List
  (List Int)) => bif decide (i < List.length z_4) then Option.bind (unenc (List.map eI) (List.map eI (List.getD z_4 i []))) fun (z_5 : List Int) => bif decide (k <
  List.length z_5) then bif IntKind.wrap IntKind.i64 (F.lacks z.fst z.snd.snd.snd z.snd.fst z.snd.snd.fst + List.getD z_3 z_2 (0 : Int)) == List.getD z_5 k (0 : Int) then
  some (Ex.normal, St.mk [(14, (vI (IntKind.wrap IntKind.i64 ((↑j : Int) + (1 : Int))))), (13, (vI (↑j : Int))), (12, (vI (↑i : Int))), (11, .own 11), (10, (vI (↑k : Int))),
  (9, AV.sl (List.map eL_eI C)), (8, AV.sl (List.map eStr ws)), (1, (vI w))] [(11, Blk.mk false 9 1 (List.map eStr out))]) else some (Ex.normal, St.mk [(14, (vI
  (IntKind.wrap IntKind.i64 ((↑j : Int) + (1 : Int))))), (13, (vI (↑b : Int))), (12, (vI (↑i : Int))), (11, .own 11), (10, (vI (↑k : Int))), (9, AV.sl (List.map eL_eI C)),
  (8, AV.sl (List.map eStr ws)), (1, (vI w))] [(11, Blk.mk false 9 1 (List.map eStr out))]) else none else none else none else none else some (Ex.normal, St.mk [(14, (vI
  (IntKind.wrap IntKind.i64 ((↑j : Int) + (1 : Int))))), (13, (vI (↑b : Int))), (12, (vI (↑i : Int))), (11, .own 11), (10, (vI (↑k : Int))), (9, AV.sl (List.map eL_eI C)),
  (8, AV.sl (List.map eStr ws)), (1, (vI w))] [(11, Blk.mk false 9 1 (List.map eStr out))]) else none else some (Ex.exit (4 : Nat), St.mk [(13, (vI (↑b : Int))), (12, (vI
  (↑i : Int))), (11, .own 11), (10, (vI (↑k : Int))), (9, AV.sl (List.map eL_eI C)), (8, AV.sl (List.map eStr ws)), (1, (vI w))] [(11, Blk.mk false 9 1 (List.map eStr
  out))]) := (execR_bind _ _ _).symm.trans (by kernel_rfl)

theorem lpRb4_ok (C : List (List Int)) (ws : List ByteArray) (w : Int) (out : List ByteArray) (i : Nat) (k : Nat) (b : Nat) (j : Nat) (hp : prlRb4 C ws w out i k b j = true) : ∀ ex s', (outRb4 C ws w out i k b j).val = some (ex, s') → LoopOK enRb (loopN Tryd.f10 2) (stRb4 C ws w out i k b j) ex s' := by
  simp only [prlRb4, Bool.and_eq_true, decide_eq_true_eq] at hp
  obtain ⟨⟨hC, hT⟩, h1, h2, h3, h4, h5, h6⟩ := hp
  obtain ⟨hx, hsm⟩ := F.txtB_iff hT
  generalize F.rc C = R at *
  subst hC
  refine loop_gen (st := fun s : Nat × Nat => stRb4 (F.costM ws w R) ws w out i k s.1 s.2) (out := fun s => outRb4 (F.costM ws w R) ws w out i k s.1 s.2) (I := fun s => i < s.2 ∧ s.2 ≤ ws.length + 1) (n := ([14, 13, 12, 11, 10, 9, 8, 1], [11])) (e := ([13, 12, 11, 10, 9, 8, 1], [11])) (r := ([], [])) (fun s => ws.length + 1 - s.2) ?_ (b, j) ⟨h5, h6⟩
  rintro ⟨b, j⟩ ⟨i1, i2⟩
  simp only at i1 i2
  have hn := hx.n
  by_cases hj : j ≤ ws.length
  · right
    have ej : (F.costM ws w R)[j]? = some (F.costR ws w R j) := F.costM_at hj
    have ei : (F.costM ws w R)[i]? = some (F.costR ws w R i) := F.costM_at (by omega)
    have ek1 : (F.costR ws w R j)[k - 1]? = some (F.cz ws w (k - 1) j) := F.costR_at (by omega)
    have ek : (F.costR ws w R i)[k]? = some (F.cz ws w k i) := F.costR_at h2
    have hle : decide ((j : Int) ≤ (ws.length : Int)) = true := decide_eq_true (by omega)
    have hpre : decide (i ≤ j ∧ j ≤ ws.length ∧ ws.length ≤ 100000) = true := decide_eq_true ⟨by omega, hj, by omega⟩
    have hw : IntKind.i64.wrap ((j : Int) + 1) = ((j + 1 : Nat) : Int) := wrap_id (by omega) (by omega)
    have hbj : F.bj ws w k i (ws.length + 1 - j) j b = F.bj ws w k i (ws.length + 1 - (j + 1)) (j + 1) (bif F.tj ws w k i j then j else b) := by
      rw [show ws.length + 1 - j = (ws.length + 1 - (j + 1)) + 1 by omega, F.bj]
    refine ⟨(bif F.tj ws w k i j then j else b, j + 1), ?_, rfl, ⟨by simp only; omega, by simp only; omega⟩, by simp only; omega, ?_⟩
    · rw [evRb4L]
      simp only [unWithin, unIsT, unCnt, unSpl, unCst, unLk, unJoi, preWithin1, preIsT1, preCnt1, preSpl1, preCst1, preLk1, preJoi1, unstRb1, unstRb2, unstRb4, unstRb10, unstRb20, prlRb1, prlRb2, prlRb4, outRb1, outRb2, outRb4, etaCap, etaMch, etaWrd, etaFnd, etaRatio, etaWay, Option.bind_some, List.length_map, unStrs, unInts, unBools, uneL_eIs, unCaps, uneL_eCaps, unMchs, unWrds, unFnds, unRatios, unWays, F.lt, F.le, cond_true, cond_false, Bool.and_true, Bool.true_and, hle, uneL_eIs, hpre, hsm, decide_eq_true (lt_at ej), decide_eq_true (lt_at ei), decide_eq_true (lt_at ek1), decide_eq_true (lt_at ek), getD_at ej, getD_at ei, getD_at ek1, getD_at ek, idx_sub1 h1 (by omega : k ≤ 9223372036854775807), hw, stRb4, F.tj, F.far]
      cases (F.lacks ws w i j != 1099511627776) <;> cases (IntKind.i64.wrap (F.lacks ws w i j + F.cz ws w (k - 1) j) == F.cz ws w k i) <;> rfl
    · simp only [outRb4, hbj]
  · left
    have hle : decide ((j : Int) ≤ (ws.length : Int)) = false := decide_eq_false (by omega)
    have e : j = ws.length + 1 := by omega
    subst e
    refine ⟨_, ?_, rfl, by simp, rfl⟩
    rw [evRb4L]
    simp only [List.length_map, hle, cond_false, Nat.sub_self, F.bj]

theorem evRb2L (C : List (List Int)) (ws : List ByteArray) (w : Int) (out : List ByteArray) (i : Nat) (k : Nat) : ((exec enRb (loopN Tryd.f10 1) (stRb2 C ws w out i k)).bind (lessX ([12, 11, 10, 9, 8, 1], [11]) ([11], [11]) ([], []))).val =
  bif decide ((↑i : Int) < (↑(List.length (List.map eStr ws)) : Int)) then Option.bind (unenc stRb41 (St.mk [(14, (vI (IntKind.wrap IntKind.i64 ((↑i : Int) + (1 : Int))))),
  (13, (vI (IntKind.wrap IntKind.i64 ((↑i : Int) + (1 : Int))))), (12, (vI (↑i : Int))), (11, .own 11), (10, (vI (↑k : Int))), (9, AV.sl (List.map eL_eI C)), (8, AV.sl
  (List.map eStr ws)), (1, (vI w))] [(11, Blk.mk false 9 1 (List.map eStr out))])) fun (z : List (List Int) × List ByteArray × Int × List ByteArray × Nat × Nat × Nat × Nat)
  => bif decide (z.fst = F.costM z.snd.fst z.snd.snd.fst (F.rc z.fst)) && F.txtB z.snd.fst z.snd.snd.fst && decide ((1 : Nat) ≤ z.snd.snd.snd.snd.snd.fst ∧
  z.snd.snd.snd.snd.snd.fst ≤ F.rc z.fst ∧ F.rc z.fst ≤ (15 : Nat) ∧ z.snd.snd.snd.snd.fst < List.length z.snd.fst ∧ z.snd.snd.snd.snd.fst < z.snd.snd.snd.snd.snd.snd.snd ∧
  z.snd.snd.snd.snd.snd.snd.snd ≤ List.length z.snd.fst + (1 : Nat)) && true then bif Nat.ble z.snd.snd.snd.snd.fst (F.bj z.snd.fst z.snd.snd.fst z.snd.snd.snd.snd.snd.fst
  z.snd.snd.snd.snd.fst (List.length z.snd.fst + (1 : Nat) - z.snd.snd.snd.snd.snd.snd.snd) z.snd.snd.snd.snd.snd.snd.snd z.snd.snd.snd.snd.snd.snd.fst) && Nat.ble (F.bj
  z.snd.fst z.snd.snd.fst z.snd.snd.snd.snd.snd.fst z.snd.snd.snd.snd.fst (List.length z.snd.fst + (1 : Nat) - z.snd.snd.snd.snd.snd.snd.snd) z.snd.snd.snd.snd.snd.snd.snd
  z.snd.snd.snd.snd.snd.snd.fst) (List.length (List.map eStr z.snd.fst)) && List.all (List.map eStr z.snd.fst) fun (r : Row) => Nat.beq (List.length r) (1 : Nat) then
  Option.bind (unenc encJoi [AV.sl (List.drop z.snd.snd.snd.snd.fst (List.take (F.bj z.snd.fst z.snd.snd.fst z.snd.snd.snd.snd.snd.fst z.snd.snd.snd.snd.fst (List.length
  z.snd.fst + (1 : Nat) - z.snd.snd.snd.snd.snd.snd.snd) z.snd.snd.snd.snd.snd.snd.snd z.snd.snd.snd.snd.snd.snd.fst) (List.map eStr z.snd.fst))), (vS (ByteArray.mk
  (Array.mk [(32 : UInt8)])))]) fun (z_1 : List ByteArray × ByteArray) => bif decide (ByteArray.size (F.join z_1.fst z_1.snd) ≤ (140737488355328 : Nat)) && decide
  (List.length z_1.fst ≤ (140737488355328 : Nat)) then bif Nat.ble ((List.length (List.map eStr z.snd.snd.snd.fst) + (1 : Nat)) * (16 : Nat)) (140737488355328 : Nat) && true
  then some (Ex.normal, St.mk [(12, (vI (↑(F.bj z.snd.fst z.snd.snd.fst z.snd.snd.snd.snd.snd.fst z.snd.snd.snd.snd.fst (List.length z.snd.fst + (1 : Nat) -
  z.snd.snd.snd.snd.snd.snd.snd) z.snd.snd.snd.snd.snd.snd.snd z.snd.snd.snd.snd.snd.snd.fst) : Int))), (11, .own 11), (10, (vI (IntKind.wrap IntKind.i64
  ((↑z.snd.snd.snd.snd.snd.fst : Int) - (1 : Int))))), (9, AV.sl (List.map eL_eI z.fst)), (8, AV.sl (List.map eStr z.snd.fst)), (1, (vI z.snd.snd.fst))] [(11, Blk.mk false 9
  1 (List.map eStr z.snd.snd.snd.fst ++ [[(vS (F.join z_1.fst z_1.snd))]]))]) else none else none else none else none else some (Ex.exit (2 : Nat), St.mk [(11, .own 11)]
  [(11, Blk.mk false 9 1 (List.map eStr out))]) := (execR_bind _ _ _).symm.trans (by kernel_rfl)

theorem lpRb2_ok (C : List (List Int)) (ws : List ByteArray) (w : Int) (out : List ByteArray) (i : Nat) (k : Nat) (hp : prlRb2 C ws w out i k = true) : ∀ ex s', (outRb2 C ws w out i k).val = some (ex, s') → LoopOK enRb (loopN Tryd.f10 1) (stRb2 C ws w out i k) ex s' := by
  simp only [prlRb2, Bool.and_eq_true, decide_eq_true_eq] at hp
  obtain ⟨⟨hC, hT⟩, h1, h2, h3, h4, h5⟩ := hp
  obtain ⟨hx, hsm⟩ := F.txtB_iff hT
  have hn := hx.n
  have hsz := hx.sz
  refine loop_gen (st := fun s : Nat × Nat × List ByteArray => stRb2 C ws w s.2.2 s.1 s.2.1) (out := fun s => outRb2 C ws w s.2.2 s.1 s.2.1) (I := fun s => s.2.1 ≤ F.rc C ∧ s.1 ≤ ws.length ∧ s.2.2.length ≤ s.1 ∧ (s.1 < ws.length → F.cz ws w s.2.1 s.1 < F.far)) (n := ([12, 11, 10, 9, 8, 1], [11])) (e := ([11], [11])) (r := ([], [])) (fun s => ws.length - s.1) ?_ (i, k, out) ⟨h1, h3, h4, h5⟩
  rintro ⟨i, k, out⟩ ⟨i1, i2, i3, i4⟩
  simp only at i1 i2 i3 i4
  by_cases hlt : i < ws.length
  · right
    obtain ⟨hk1, hk2⟩ := F.bjx_ok hx hlt (i4 hlt)
    obtain ⟨hN1, hN2⟩ := F.bjx_rng (w := w) (k := k) hlt
    have hbx : F.bj ws w k i (ws.length + 1 - (i + 1)) (i + 1) (i + 1) = F.bjx ws w k i := by
      unfold F.bjx
      rw [show ws.length + 1 - (i + 1) = ws.length - i by omega]
    have hw : IntKind.i64.wrap ((i : Int) + 1) = ((i + 1 : Nat) : Int) := wrap_id (by omega) (by omega)
    have hwk : IntKind.i64.wrap ((k : Int) - 1) = ((k - 1 : Nat) : Int) := by rw [wrap_id (by omega) (by omega)]; omega
    have hpre : decide (1 ≤ k ∧ k ≤ F.rc C ∧ F.rc C ≤ 15 ∧ i < ws.length ∧ i < i + 1 ∧ i + 1 ≤ ws.length + 1) = true := decide_eq_true ⟨hk1, i1, h2, hlt, by omega, by omega⟩
    have hlt' : decide ((i : Int) < (ws.length : Int)) = true := decide_eq_true (by omega)
    have hst : F.rbO ws w (ws.length - i) i k = F.join ((ws.take (F.bjx ws w k i)).drop i) F.sp :: F.rbO ws w (ws.length - F.bjx ws w k i) (F.bjx ws w k i) (k - 1) := by
      rw [show ws.length - i = (ws.length - i - 1) + 1 by omega, F.rbO, decide_eq_true hlt, cond_true, F.rbO_fuel (ws.length - i - 1) (ws.length - F.bjx ws w k i) _ _ (by omega) (by omega)]
    generalize F.bjx ws w k i = N at *
    have e1 : (ws.map eStr).take N = (ws.take N).map eStr := by rw [List.map_take]
    have e2 : ((ws.take N).map eStr).drop i = ((ws.take N).drop i).map eStr := by rw [List.map_drop]
    have b1 : Nat.ble i N = true := ble_t (by omega)
    have b2 : Nat.ble N ws.length = true := ble_t hN2
    have b3 : Nat.ble ((out.length + 1) * 16) 140737488355328 = true := ble_t (by omega)
    have hj1 := F.join_le ((ws.take N).drop i)
    have hj2 := F.sum_sub ws N i
    have hl : ((ws.take N).drop i).length ≤ 140737488355328 := by rw [List.length_drop, List.length_take]; omega
    have d1 : decide ((F.join ((ws.take N).drop i) F.sp).size ≤ 140737488355328) = true := decide_eq_true (by omega)
    have d2 : decide (((ws.take N).drop i).length ≤ 140737488355328) = true := decide_eq_true hl
    have esp : (⟨⟨[32]⟩⟩ : ByteArray) = F.sp := rfl
    refine ⟨(N, k - 1, out ++ [F.join ((ws.take N).drop i) F.sp]), ?_, rfl, ⟨by simp only; omega, by simp only; omega, by simp only [List.length_append, List.length_cons, List.length_nil]; omega, hk2⟩, by simp only; omega, ?_⟩
    · rw [evRb2L]
      simp only [unWithin, unIsT, unCnt, unSpl, unCst, unLk, unJoi, preWithin1, preIsT1, preCnt1, preSpl1, preCst1, preLk1, preJoi1, unstRb1, unstRb2, unstRb4, unstRb10, unstRb20, prlRb1, prlRb2, prlRb4, outRb1, outRb2, outRb4, etaCap, etaMch, etaWrd, etaFnd, etaRatio, etaWay, Option.bind_some, List.length_map, unStrs, unInts, unBools, uneL_eIs, unCaps, uneL_eCaps, unMchs, unWrds, unFnds, unRatios, unWays, F.lt, F.le, cond_true, cond_false, Bool.and_true, Bool.true_and, hlt', hw, decide_eq_true hC, hT, hpre, hbx, b1, b2, all_strs, e1, e2, esp, d1, d2, b3, hwk, stRb2, appStrs']
    · simp only [outRb2, hst, List.append_assoc, List.singleton_append]
  · left
    have hlt' : decide ((i : Int) < (ws.length : Int)) = false := decide_eq_false (by omega)
    have e : i = ws.length := by omega
    subst e
    refine ⟨_, ?_, rfl, by simp, rfl⟩
    rw [evRb2L]
    simp only [List.length_map, hlt', cond_false, Nat.sub_self, F.rbO, List.append_nil]

theorem F.kf_or {c : Nat → Int} {R : Nat} : ∀ (f k : Nat), k + f = R + 1 → (R < F.kf c R f k ∨ (F.kf c R f k ≤ R ∧ c (F.kf c R f k) < F.far))
  | 0, k, hf => by rw [F.kf]; exact Or.inl (by omega)
  | f + 1, k, hf => by
    rw [F.kf, decide_eq_true (show k ≤ R by omega), Bool.true_and]
    by_cases h : F.far ≤ c k
    · rw [decide_eq_true h, cond_true]; exact F.kf_or f (k + 1) (by omega)
    · rw [decide_eq_false h, cond_false]; exact Or.inr ⟨by omega, by omega⟩

theorem evRb (s : ByteArray) (w : Int) (r : Int) : (runF enRb false Tryd.f10 [vS s, vI w, vI r]).val =
  Option.bind (unenc encWithin [(vI w), (vI (1 : Int)), (vI (200 : Int))]) fun (z : Int × Int × Int) => bif !!F.within z.fst z.snd.fst z.snd.snd then Option.bind (unenc
  encWithin [(vI r), (vI (1 : Int)), (vI (15 : Int))]) fun (z : Int × Int × Int) => bif !F.within z.fst z.snd.fst z.snd.snd then some (AV.tup [AV.sl [], (vI (1 : Int))], [])
  else Option.bind (unenc encIsT [(vS s)]) fun (z : ByteArray) => bif F.small z then bif !!F.clean z then Option.bind (unenc encCnt [(vS s), (vS (ByteArray.mk (Array.mk [(32
  : UInt8), (32 : UInt8)])))]) fun (z : ByteArray × ByteArray) => bif decide (ByteArray.size z.fst ≤ (4294967280 : Nat)) then bif F.cont z.fst z.snd then some (AV.tup [AV.sl
  [], (vI (3 : Int))], []) else bif decide ((1000 : Int) < (↑(ByteArray.size s) : Int)) then some (AV.tup [AV.sl [], (vI (2 : Int))], []) else Option.bind (unenc encSpl [(vS
  s), (vS (ByteArray.mk (Array.mk [(32 : UInt8)])))]) fun (z : ByteArray × ByteArray) => bif decide (ByteArray.size z.fst ≤ (4294967280 : Nat)) && decide ((1 : Nat) ≤
  ByteArray.size z.snd) then Option.bind (unenc encCst [AV.sl (List.map eStr (F.split z.fst z.snd)), (vI w), (vI r)]) fun (z_1 : List ByteArray × Int × Nat) => bif decide
  (List.length z_1.fst ≤ (2000 : Nat) ∧ z_1.snd.snd ≤ (15 : Nat)) && F.smL z_1.fst then Option.bind (unenc stRb11 (St.mk [(10, (vI (1 : Int))), (9, AV.sl (List.map eL_eI
  (F.costM z_1.fst z_1.snd.fst z_1.snd.snd))), (8, AV.sl (List.map eStr (F.split z.fst z.snd))), (2, (vI r)), (1, (vI w))] [])) fun (z : List (List Int) × List ByteArray ×
  Int × Nat × Nat) => bif decide (z.fst = F.costM z.snd.fst z.snd.snd.fst z.snd.snd.snd.fst) && decide (z.snd.snd.snd.snd ≤ z.snd.snd.snd.fst + (1 : Nat)) && decide
  (z.snd.snd.snd.fst ≤ (15 : Nat)) && true then bif decide ((↑z.snd.snd.snd.fst : Int) < (↑(F.kf (fun (k : Nat) => F.cz z.snd.fst z.snd.snd.fst k (0 : Nat))
  z.snd.snd.snd.fst (z.snd.snd.snd.fst + (1 : Nat) - z.snd.snd.snd.snd) z.snd.snd.snd.snd) : Int)) then some (AV.tup [AV.sl [], (vI (17 : Int))], []) else Option.bind (unenc
  stRb21 (St.mk [(12, (vI (0 : Int))), (11, .own 11), (10, (vI (↑(F.kf (fun (k : Nat) => F.cz z.snd.fst z.snd.snd.fst k (0 : Nat)) z.snd.snd.snd.fst (z.snd.snd.snd.fst + (1
  : Nat) - z.snd.snd.snd.snd) z.snd.snd.snd.snd) : Int))), (9, AV.sl (List.map eL_eI z.fst)), (8, AV.sl (List.map eStr z.snd.fst)), (1, (vI z.snd.snd.fst))] [(11, Blk.mk
  false 9 1 [])])) fun (z : List (List Int) × List ByteArray × Int × List ByteArray × Nat × Nat) => bif decide (z.fst = F.costM z.snd.fst z.snd.snd.fst (F.rc z.fst)) &&
  F.txtB z.snd.fst z.snd.snd.fst && decide (z.snd.snd.snd.snd.snd ≤ F.rc z.fst ∧ F.rc z.fst ≤ (15 : Nat) ∧ z.snd.snd.snd.snd.fst ≤ List.length z.snd.fst ∧ List.length
  z.snd.snd.snd.fst ≤ z.snd.snd.snd.snd.fst ∧ (z.snd.snd.snd.snd.fst < List.length z.snd.fst → F.cz z.snd.fst z.snd.snd.fst z.snd.snd.snd.snd.snd z.snd.snd.snd.snd.fst <
  F.far)) && true then some (AV.tup [AV.sl (List.map eStr (z.snd.snd.snd.fst ++ F.rbO z.snd.fst z.snd.snd.fst (List.length z.snd.fst - z.snd.snd.snd.snd.fst)
  z.snd.snd.snd.snd.fst z.snd.snd.snd.snd.snd)), (vI (0 : Int))], []) else none else none else none else none else none else some (AV.tup [AV.sl [], (vI (3 : Int))], [])
  else none else some (AV.tup [AV.sl [], (vI (1 : Int))], []) := (runFR_val).symm.trans (by kernel_rfl)

def encRb1 (s : ByteArray) (w : Int) (r : Int) : List AV := [vS s, vI w, vI r]

def encRb (a : ByteArray × Int × Int) : List AV := encRb1 a.1 a.2.1 a.2.2

theorem encRb_inj (a a' : ByteArray × Int × Int) (h : encRb a = encRb a') : a = a' := by
  simp only [encRb, encRb1] at h
  try simp [strs_inj, ints_inj, bools_inj, eL_eIs_inj, eCaps_inj, eCap_iff, eL_eCaps_inj, eMchs_inj, eMch_iff, eWrds_inj, eWrd_iff, eFnds_inj, eFnd_iff, eRatios_inj, eRatio_iff, eWays_inj, eWay_iff] at h
  grind

theorem unRb (s : ByteArray) (w : Int) (r : Int) : unenc encRb ([(vS s), (vI w), (vI r)]) = some (s, w, r) := unenc_of encRb_inj (s, w, r) rfl

def resRb1 (s : ByteArray) (w : Int) (r : Int) : AV × Heap := (.tup [.sl ((F.brk s w r).1.map eStr), vI (F.brk s w r).2], [])

def preRb1 (s : ByteArray) (w : Int) (r : Int) : Bool := F.small s

noncomputable def oRb : Orc := orc 10 false encRb (fun a => preRb1 a.1 a.2.1 a.2.2) fun a => resRb1 a.1 a.2.1 a.2.2

theorem okRb : OrcOK Tryd.prog noG oRb := by
  refine mk_ok Tryd.f10 (keep := false) (by kernel_rfl) (by kernel_rfl) enRb_ok mixed (three_loops (x0 := loopN Tryd.f10 0) (x1 := loopN Tryd.f10 1) (x2 := loopN Tryd.f10 2) (by kernel_rfl) (lpo_ok ?_) (lpo_ok ?_) (lpo_ok ?_)) (by first | exact fun _ _ => ⟨rfl, rfl⟩ | (intro h; cases h)) ?_
  · rintro ⟨C, ws, w, R, k⟩ hp
    exact lpRb1_ok C ws w R k hp
  · rintro ⟨C, ws, w, out, i, k⟩ hp
    exact lpRb2_ok C ws w out i k hp
  · rintro ⟨C, ws, w, out, i, k, b, j⟩ hp
    exact lpRb4_ok C ws w out i k b j hp
  rintro ⟨s, w, r⟩ hpre hok
  show (runF enRb false _ (encRb1 _ _ _)).val = some (resRb1 _ _ _)
  unfold encRb1 resRb1
  rw [evRb]
  simp only [preRb1] at hpre
  have hsm : decide (s.size ≤ 4294967280) = true := hpre
  simp only [unWithin, unIsT, unCnt, unSpl, unCst, unLk, unJoi, preWithin1, preIsT1, preCnt1, preSpl1, preCst1, preLk1, preJoi1, unstRb1, unstRb2, unstRb4, unstRb10, unstRb20, prlRb1, prlRb2, prlRb4, outRb1, outRb2, outRb4, etaCap, etaMch, etaWrd, etaFnd, etaRatio, etaWay, Option.bind_some, List.length_map, unStrs, unInts, unBools, uneL_eIs, unCaps, uneL_eCaps, unMchs, unWrds, unFnds, unRatios, unWays, F.lt, F.le, cond_true, cond_false, Bool.and_true, Bool.true_and, hpre, hsm, F.brk]
  have wo : ∀ n l h, F.within n l h = !F.out n l h := fun n l h => by
    unfold F.within F.out
    cases h1 : decide (n < l) <;> cases h2 : decide (h < n) <;> simp at h1 h2 ⊢ <;> omega
  rw [wo, wo]
  cases ho1 : F.out w 1 200
  case true => rfl
  cases ho2 : F.out r 1 15
  case true => rfl
  have hw : 1 ≤ w ∧ w ≤ 200 := by simp [F.out] at ho1; omega
  have hr : 1 ≤ r ∧ r ≤ 15 := by simp [F.out] at ho2; omega
  cases F.clean s
  case false => rfl
  have e2 : (⟨⟨[32, 32]⟩⟩ : ByteArray) = F.sp2 := rfl
  have e1 : (⟨⟨[32]⟩⟩ : ByteArray) = F.sp := rfl
  rw [e1, e2]
  cases F.cont s F.sp2
  case true => rfl
  by_cases hb : s.size ≤ 1000
  case neg =>
    have d1 : decide ((1000 : Int) < (s.size : Int)) = true := decide_eq_true (by omega)
    have d2 : F.lt 1000 s.size = true := d1
    simp only [d1, d2]; rfl
  have d1 : decide ((1000 : Int) < (s.size : Int)) = false := decide_eq_false (by omega)
  have d2 : F.lt 1000 s.size = false := d1
  obtain ⟨n1, n2⟩ := F.words_len s hb
  have hL := F.words_smL s hb
  have hS := F.words_sizes s hb
  obtain ⟨R, rfl⟩ := Int.eq_ofNat_of_zero_le (show 0 ≤ r by omega)
  have hR : R ≤ 15 := by omega
  have hT : F.Txt (F.split s F.sp) w := ⟨hw.1, hw.2, n2, hS⟩
  have hTB : F.txtB (F.split s F.sp) w = true := by
    simp only [F.txtB, Bool.and_eq_true, decide_eq_true_eq]
    exact ⟨⟨hw.1, hw.2, n2, hS⟩, hL⟩
  have heq := F.rbrkB_eq (R := R) hT (by omega)
  unfold F.rbrkB at heq
  have hkf : R < F.kf (fun k => F.cz (F.split s F.sp) w k 0) R R 1 ∨ (F.kf (fun k => F.cz (F.split s F.sp) w k 0) R R 1 ≤ R ∧ F.cz (F.split s F.sp) w (F.kf (fun k => F.cz (F.split s F.sp) w k 0) R R 1) 0 < F.far) := by
    exact F.kf_or _ _ (by omega)
  simp only [d1, d2, cond_false, Bool.not_true, Bool.not_false, cond_true, heq]
  generalize F.split s F.sp = ws at *
  have c1 : decide (1 ≤ F.sp.size) = true := by decide
  have c2 : decide (ws.length ≤ 2000 ∧ R ≤ 15) = true := decide_eq_true ⟨by omega, hR⟩
  have c3 : decide (1 ≤ R + 1) = true := decide_eq_true (by omega)
  have c4 : decide (R ≤ 15) = true := decide_eq_true hR
  simp only [unWithin, unIsT, unCnt, unSpl, unCst, unLk, unJoi, preWithin1, preIsT1, preCnt1, preSpl1, preCst1, preLk1, preJoi1, unstRb1, unstRb2, unstRb4, unstRb10, unstRb20, prlRb1, prlRb2, prlRb4, outRb1, outRb2, outRb4, etaCap, etaMch, etaWrd, etaFnd, etaRatio, etaWay, Option.bind_some, List.length_map, unStrs, unInts, unBools, uneL_eIs, unCaps, uneL_eCaps, unMchs, unWrds, unFnds, unRatios, unWays, F.lt, F.le, cond_true, cond_false, Bool.and_true, Bool.true_and, c1, c2, c3, c4, hL]
  simp only [Nat.add_sub_cancel, F.rc_cost, decide_true, hTB, cond_true, Nat.sub_zero, List.nil_append]
  generalize F.kf (fun k => F.cz ws w k 0) R R 1 = kk at *
  rcases hkf with h | ⟨h1, h2⟩
  · have d3 : decide ((R : Int) < (kk : Int)) = true := decide_eq_true (by omega)
    have d4 : decide (R < kk) = true := decide_eq_true h
    simp only [d3, d4, cond_true, List.map_nil]
  · have d3 : decide ((R : Int) < (kk : Int)) = false := decide_eq_false (by omega)
    have d4 : decide (R < kk) = false := decide_eq_false (by omega)
    have e : (kk ≤ R ∧ R ≤ 15 ∧ 0 ≤ ws.length ∧ ([] : List ByteArray).length ≤ 0 ∧ (0 < ws.length → F.cz ws w kk 0 < F.far)) := ⟨h1, hR, Nat.zero_le _, Nat.le_refl _, fun _ => h2⟩
    simp only [d3, d4, cond_false, decide_eq_true e, Bool.and_self, cond_true]

end M
end Go.Proofs.YtlnflhmepnbcmaaDoor
