/- What is proved here: the contract of slices.Compact at beats (no statement of the seat). -/
import Derived.Test.YtlnflhmepnbcmaaB60
namespace Go.Proofs.Ytlnflhmepnbcmaa
open Go Go.RowKit
set_option linter.unusedVariables false
set_option linter.unusedSimpArgs false
set_option maxHeartbeats 1000000

namespace F

/-- What of the rest of a list is kept behind an element. -/
def ddT (p : Beat) : List Beat → List Beat
  | [] => []
  | y :: r => bif M.eqBeat y p then ddT y r else y :: ddT y r

/-- A list without what is the same as what is before it. -/
def dd : List Beat → List Beat
  | [] => []
  | x :: r => x :: ddT x r

/-- No element is the same as the one before it. -/
def nd (p : Beat) : List Beat → Bool
  | [] => true
  | y :: r => !M.eqBeat y p && nd y r

theorem eqBeat_iff {a b : Beat} : M.eqBeat a b = true ↔ a = b := by
  constructor
  · intro h
    obtain ⟨a0, a1, a2, a3, a4⟩ := a
    obtain ⟨b0, b1, b2, b3, b4⟩ := b
    simp only [M.eqBeat, Bool.and_eq_true, Bool.and_true, beq_iff_eq] at h
    obtain ⟨h0, h1, h2, h3, h4⟩ := h
    have h0 : a0 = b0 := F.seq_iff.1 (by unfold F.seq; rw [h0]; exact beq_self_eq_true _)
    subst h0; subst h1; subst h2; subst h3; subst h4; rfl
  · intro h; subst h; exact M.eqBeat_refl _

theorem ddT_len : ∀ (r : List Beat) (p : Beat), (ddT p r).length ≤ r.length
  | [], _ => Nat.le_refl _
  | y :: r, p => by
    unfold ddT
    have := ddT_len r y
    cases M.eqBeat y p <;> simp only [cond_true, cond_false, List.length_cons] <;> omega

theorem ddT_nd : ∀ {r : List Beat} {p : Beat}, nd p r = true → ddT p r = r
  | [], _, _ => rfl
  | y :: r, p, h => by
    simp only [nd, Bool.and_eq_true, Bool.not_eq_true'] at h
    unfold ddT
    rw [h.1, cond_false, ddT_nd h.2]

/-- The inner rounds of Compact: fuel, the list, where to write, what is looked at. -/
def cpi (c : Nat) : Nat → List Beat → Nat → Nat → List Beat × Nat
  | 0, ys, k, _ => (ys, k)
  | f + 1, ys, k, j => bif M.eqBeat (ys.getD (c + j) default) (ys.getD (c + (j - 1)) default) then cpi c f ys k (j + 1)
    else cpi c f (ys.set k (ys.getD (c + j) default)) (k + 1) (j + 1)

theorem cpi_len (c : Nat) : ∀ (f : Nat) (ys : List Beat) (k j : Nat), (cpi c f ys k j).1.length = ys.length ∧ (cpi c f ys k j).2 ≤ k + f
  | 0, _, _, _ => ⟨rfl, Nat.le_refl _⟩
  | f + 1, ys, k, j => by
    unfold cpi
    cases M.eqBeat (ys.getD (c + j) default) (ys.getD (c + (j - 1)) default)
    · obtain ⟨h1, h2⟩ := cpi_len c f (ys.set k (ys.getD (c + j) default)) (k + 1) (j + 1)
      simp only [cond_false]
      exact ⟨by rw [h1, List.length_set], by omega⟩
    · obtain ⟨h1, h2⟩ := cpi_len c f ys k (j + 1)
      simp only [cond_true]
      exact ⟨h1, by omega⟩

theorem cpi_spec (c : Nat) : ∀ (R A D : List Beat) (p : Beat) (j : Nat), (A ++ D).length = c + (j - 1) → 1 ≤ j →
    (cpi c R.length (A ++ D ++ p :: R) A.length j).2 = (A ++ ddT p R).length ∧ (cpi c R.length (A ++ D ++ p :: R) A.length j).1.take (A ++ ddT p R).length = A ++ ddT p R
  | [], A, D, p, j, _, _ => by
    simp only [List.length_nil, cpi, ddT, List.append_nil, List.append_assoc, List.take_left', true_and]
  | y :: R, A, D, p, j, hl, hj => by
    have h1 : (A ++ D ++ p :: y :: R).getD (c + j) default = y := by
      rw [List.getD_eq_getElem?_getD, List.getElem?_append_right (by omega), show c + j - (A ++ D).length = 1 by omega]
      rfl
    have h2 : (A ++ D ++ p :: y :: R).getD (c + (j - 1)) default = p := by
      rw [List.getD_eq_getElem?_getD, List.getElem?_append_right (by omega), show c + (j - 1) - (A ++ D).length = 0 by omega]
      rfl
    rw [List.length_cons]
    unfold cpi ddT
    rw [h1, h2]
    cases hq : M.eqBeat y p
    · simp only [cond_false]
      obtain ⟨D', hD'⟩ : ∃ D', (A ++ D ++ p :: y :: R).set A.length y = (A ++ [y]) ++ D' ++ y :: R ∧ (A ++ [y] ++ D').length = c + j := by
        cases D with
        | nil =>
          refine ⟨[], ?_, ?_⟩
          · rw [List.append_nil, List.set_append_right _ _ (Nat.le_refl _), Nat.sub_self]; simp
          · simp only [List.append_nil, List.length_append, List.length_cons, List.length_nil] at hl ⊢; omega
        | cons d D =>
          refine ⟨D ++ [p], ?_, ?_⟩
          · rw [List.append_assoc, List.set_append_right _ _ (Nat.le_refl _), Nat.sub_self]; simp
          · simp only [List.length_append, List.length_cons, List.length_nil] at hl ⊢; omega
      rw [hD'.1]
      have := cpi_spec c R (A ++ [y]) D' y (j + 1) (by rw [hD'.2]; omega) (by omega)
      have e : A ++ [y] ++ ddT y R = A ++ y :: ddT y R := by simp
      rw [e, List.length_append, List.length_cons, List.length_nil] at this
      exact this
    · simp only [cond_true]
      have := cpi_spec c R A (D ++ [p]) y (j + 1) (by rw [← List.append_assoc, List.length_append, hl]; simp only [List.length_cons, List.length_nil]; omega) (by omega)
      have e : A ++ (D ++ [p]) ++ y :: R = A ++ D ++ p :: y :: R := by simp
      rw [e] at this
      exact this

theorem dd_nd {l : List Beat} (h : nd (l.getD 0 default) (l.drop 1) = true) : dd l = l := by
  cases l with
  | nil => rfl
  | cons x r =>
    have h : nd x r = true := h
    show x :: ddT x r = x :: r
    rw [ddT_nd h]

theorem dd_len (l : List Beat) : (dd l).length ≤ l.length := by
  cases l with
  | nil => exact Nat.le_refl _
  | cons x r => exact Nat.succ_le_succ (ddT_len r x)

end F

namespace M

def stCq1 (l : List Beat) (k : Nat) : St := ⟨[(3, vI k), (0, .own 900)], [(900, ⟨false, 29, 5, l.map eBeat⟩)]⟩

def stCq11 (a : (List Beat) × Nat) : St := stCq1 a.1 a.2

theorem stCq1_inj (a a' : (List Beat) × Nat) (h : stCq11 a = stCq11 a') : a = a' := by
  simp only [stCq11, stCq1] at h
  try simp [strs_inj, ints_inj, bools_inj, eBeats_inj, eBeat_iff, eL_eBeats_inj, eSpans_inj, eSpan_iff, eHoles_inj, eHole_iff, eLevels_inj, eLevel_iff, eFigss_inj, eFigs_iff, eRatios_inj, eRatio_iff, eReps_inj, eRep_iff, eStays_inj, eStay_iff] at h
  grind

theorem unstCq1 (l : List Beat) (k : Nat) : unenc stCq11 (St.mk [(3, (vI (↑k : Int))), (0, .own 900)] [(900, Blk.mk false 29 5 (List.map eBeat l))]) = some (l, k) := unenc_of stCq1_inj (l, k) rfl

theorem unstCq10 (l : List Beat)  : unenc stCq11 (St.mk [(3, (vI (1 : Int))), (0, .own 900)] [(900, Blk.mk false 29 5 (List.map eBeat l))]) = some (l, 1) := unenc_of stCq1_inj (l, 1) rfl

def outCq1 (l : List Beat) (k : Nat) : T (Ex × St) := .ifB (F.nd (l.getD (k - 1) default) (l.drop k)) (.ret (.exit 0, ⟨[(0, .own 900)], [(900, ⟨false, 29, 5, l.map eBeat⟩)]⟩)) (.ret (.ret, ⟨[(2, .win 900 0 (F.dd l).length)], [(900, ⟨false, 29, 5, (F.dd l ++ List.replicate (l.length - (F.dd l).length) default).map eBeat⟩)]⟩))

noncomputable def prlCq1 (l : List Beat) (k : Nat) : Bool := decide (l.length ≤ 100000 ∧ k = 1 ∧ 1 ≤ l.length)

noncomputable def lpCq1 : Nat × (St → T (Ex × St)) := (4, lpo [3, 0] [900] stCq11 (fun a => prlCq1 a.1 a.2) fun a => outCq1 a.1 a.2)

def stCq2 (ys : List Beat) (c : Nat) (k : Nat) (j : Nat) : St := ⟨[(5, vI j), (4, .win 900 c (ys.length - c)), (3, vI k), (0, .own 900)], [(900, ⟨false, 29, 5, ys.map eBeat⟩)]⟩

def stCq21 (a : (List Beat) × Nat × Nat × Nat) : St := stCq2 a.1 a.2.1 a.2.2.1 a.2.2.2

theorem stCq2_inj (a a' : (List Beat) × Nat × Nat × Nat) (h : stCq21 a = stCq21 a') : a = a' := by
  simp only [stCq21, stCq2] at h
  try simp [strs_inj, ints_inj, bools_inj, eBeats_inj, eBeat_iff, eL_eBeats_inj, eSpans_inj, eSpan_iff, eHoles_inj, eHole_iff, eLevels_inj, eLevel_iff, eFigss_inj, eFigs_iff, eRatios_inj, eRatio_iff, eReps_inj, eRep_iff, eStays_inj, eStay_iff] at h
  grind

theorem unstCq2 (ys : List Beat) (c : Nat) (k : Nat) (j : Nat) : unenc stCq21 (St.mk [(5, (vI (↑j : Int))), (4, AV.win (900 : Nat) c (List.length ys - c)), (3, (vI (↑k : Int))), (0, .own 900)] [(900, Blk.mk false 29 5 (List.map eBeat ys))]) = some (ys, c, k, j) := unenc_of stCq2_inj (ys, c, k, j) rfl

theorem unstCq20 (ys : List Beat) (c : Nat) (k : Nat)  : unenc stCq21 (St.mk [(5, (vI (1 : Int))), (4, AV.win (900 : Nat) c (List.length ys - c)), (3, (vI (↑k : Int))), (0, .own 900)] [(900, Blk.mk false 29 5 (List.map eBeat ys))]) = some (ys, c, k, 1) := unenc_of stCq2_inj (ys, c, k, 1) rfl

def outCq2 (ys : List Beat) (c : Nat) (k : Nat) (j : Nat) : T (Ex × St) := .ret (.exit 2, ⟨[(3, vI (F.cpi c (ys.length - c - j) ys k j).2), (0, .own 900)], [(900, ⟨false, 29, 5, (F.cpi c (ys.length - c - j) ys k j).1.map eBeat⟩)]⟩)

noncomputable def prlCq2 (ys : List Beat) (c : Nat) (k : Nat) (j : Nat) : Bool := decide (ys.length ≤ 100000 ∧ c < ys.length ∧ 1 ≤ j ∧ j ≤ ys.length - c ∧ k < c + j)

noncomputable def lpCq2 : Nat × (St → T (Ex × St)) := (9, lpo [5, 4, 3, 0] [900] stCq21 (fun a => prlCq2 a.1 a.2.1 a.2.2.1 a.2.2.2) fun a => outCq2 a.1 a.2.1 a.2.2.1 a.2.2.2)

noncomputable def enCq : Env := envH ty noG lks [] [] [28, 56, 59] [lpCq1, lpCq2]

theorem enCq_ok : EnvOK Try.prog enCq := by
  refine envH_ok lks_ok ty_ok ?_ ?_
  · simp
  · simp

theorem eqBeat_and (y z : Beat) : (y.session.toList == z.session.toList && (y.no == z.no && (y.time == z.time && (y.state == z.state && y.rate == z.rate)))) = eqBeat y z := by simp [eqBeat]

theorem dropAt {α : Type} {xs : List α} {k : Nat} {y : α} (h : xs[k]? = some y) : xs.drop k = y :: xs.drop (k + 1) := by
  obtain ⟨hk, rfl⟩ := List.getElem?_eq_some_iff.1 h
  exact List.drop_eq_getElem_cons hk

theorem evCq2L (ys : List Beat) (c : Nat) (k : Nat) (j : Nat) : ((exec enCq (loopN Try.f19 1) (stCq2 ys c k j)).bind (lessX ([5, 4, 3, 0], [900]) ([3, 0], [900]) ([], []))).val =
  bif decide ((↑j : Int) < (↑(List.length ys - c) : Int)) then bif decide (j < List.length ys - c) then Option.bind (unenc (List.map eBeat) (List.map eBeat ys)) fun (z :
  List Beat) => bif decide (c + j < List.length z) then Option.bind (idx (IntKind.wrap IntKind.i64 ((↑j : Int) - (1 : Int)))) fun (z_1 : Nat) => bif decide (z_1 <
  List.length ys - c) then Option.bind (unenc (List.map eBeat) (List.map eBeat ys)) fun (z_2 : List Beat) => bif decide (c + z_1 < List.length z_2) then bif
  !(ByteArray.toList (List.getD z (c + j) (Beat.mk (ByteArray.mk (Array.mk [])) (0 : Int) (0 : Int) (0 : Int) (0 : Int))).session == ByteArray.toList (List.getD z_2 (c +
  z_1) (Beat.mk (ByteArray.mk (Array.mk [])) (0 : Int) (0 : Int) (0 : Int) (0 : Int))).session && ((List.getD z (c + j) (Beat.mk (ByteArray.mk (Array.mk [])) (0 : Int) (0 :
  Int) (0 : Int) (0 : Int))).no == (List.getD z_2 (c + z_1) (Beat.mk (ByteArray.mk (Array.mk [])) (0 : Int) (0 : Int) (0 : Int) (0 : Int))).no && ((List.getD z (c + j)
  (Beat.mk (ByteArray.mk (Array.mk [])) (0 : Int) (0 : Int) (0 : Int) (0 : Int))).time == (List.getD z_2 (c + z_1) (Beat.mk (ByteArray.mk (Array.mk [])) (0 : Int) (0 : Int)
  (0 : Int) (0 : Int))).time && ((List.getD z (c + j) (Beat.mk (ByteArray.mk (Array.mk [])) (0 : Int) (0 : Int) (0 : Int) (0 : Int))).state == (List.getD z_2 (c + z_1)
  (Beat.mk (ByteArray.mk (Array.mk [])) (0 : Int) (0 : Int) (0 : Int) (0 : Int))).state && ((List.getD z (c + j) (Beat.mk (ByteArray.mk (Array.mk [])) (0 : Int) (0 : Int) (0
  : Int) (0 : Int))).rate == (List.getD z_2 (c + z_1) (Beat.mk (ByteArray.mk (Array.mk [])) (0 : Int) (0 : Int) (0 : Int) (0 : Int))).rate && true))))) then bif decide (j <
  List.length ys - c) then Option.bind (unenc (List.map eBeat) (List.map eBeat ys)) fun (z : List Beat) => bif decide (c + j < List.length z) then bif decide (k <
  List.length (Blk.mk false 29 5 (List.map eBeat ys)).rows) then Option.bind (unenc (List.map eBeat) (List.map eBeat ys)) fun (z_3 : List Beat) => bif decide (k <
  List.length z_3) then some (Ex.normal, St.mk [(5, (vI (IntKind.wrap IntKind.i64 ((↑j : Int) + (1 : Int))))), (4, AV.win (900 : Nat) c (List.length ys - c)), (3, (vI
  (IntKind.wrap IntKind.i64 ((↑k : Int) + (1 : Int))))), (0, .own 900)] [(900, Blk.mk false 29 5 (List.set (List.map eBeat ys) k [(vS (List.getD z (c + j) (Beat.mk
  (ByteArray.mk (Array.mk [])) (0 : Int) (0 : Int) (0 : Int) (0 : Int))).session), (vI (List.getD z (c + j) (Beat.mk (ByteArray.mk (Array.mk [])) (0 : Int) (0 : Int) (0 :
  Int) (0 : Int))).no), (vI (List.getD z (c + j) (Beat.mk (ByteArray.mk (Array.mk [])) (0 : Int) (0 : Int) (0 : Int) (0 : Int))).time), (vI (List.getD z (c + j) (Beat.mk
  (ByteArray.mk (Array.mk [])) (0 : Int) (0 : Int) (0 : Int) (0 : Int))).state), (vI (List.getD z (c + j) (Beat.mk (ByteArray.mk (Array.mk [])) (0 : Int) (0 : Int) (0 : Int)
  (0 : Int))).rate)]))]) else none else none else none else none else some (Ex.normal, St.mk [(5, (vI (IntKind.wrap IntKind.i64 ((↑j : Int) + (1 : Int))))), (4, AV.win (900
  : Nat) c (List.length ys - c)), (3, (vI (↑k : Int))), (0, .own 900)] [(900, Blk.mk false 29 5 (List.map eBeat ys))]) else none else none else none else none else some
  (Ex.exit (2 : Nat), St.mk [(3, (vI (↑k : Int))), (0, .own 900)] [(900, Blk.mk false 29 5 (List.map eBeat ys))]) := (execR_bind _ _ _).symm.trans (by kernel_rfl)

theorem lpCq2_ok (ys : List Beat) (c : Nat) (k : Nat) (j : Nat) (hp : prlCq2 ys c k j = true) : ∀ ex s', (outCq2 ys c k j).val = some (ex, s') → LoopOK enCq (loopN Try.f19 1) (stCq2 ys c k j) ex s' := by
  simp only [prlCq2, Bool.and_eq_true, decide_eq_true_eq] at hp
  obtain ⟨h1, h2, h3, h4, h5⟩ := hp
  refine loop_gen (st := fun s : List Beat × Nat × Nat => stCq2 s.1 c s.2.1 s.2.2) (out := fun s => outCq2 s.1 c s.2.1 s.2.2) (I := fun s => s.1.length ≤ 100000 ∧ c < s.1.length ∧ 1 ≤ s.2.2 ∧ s.2.2 ≤ s.1.length - c ∧ s.2.1 < c + s.2.2) (n := ([5, 4, 3, 0], [900])) (e := ([3, 0], [900])) (r := ([], [])) (fun s => s.1.length - c - s.2.2) ?_ (ys, k, j) ⟨h1, h2, h3, h4, h5⟩
  rintro ⟨ys, k, j⟩ ⟨h1, h2, h3, h4, h5⟩
  simp only at h1 h2 h3 h4 h5
  by_cases hlt : j < ys.length - c
  · right
    obtain ⟨y, hy⟩ := at_lt (show c + j < ys.length by omega)
    obtain ⟨z, hz⟩ := at_lt (show c + (j - 1) < ys.length by omega)
    obtain ⟨f, hf⟩ : ∃ f, ys.length - c - j = f + 1 := ⟨ys.length - c - j - 1, by omega⟩
    have hf2 : ys.length - c - (j + 1) = f := by omega
    cases hq : eqBeat y z
    · refine ⟨(ys.set k y, k + 1, j + 1), ?_, rfl, ⟨by simpa using h1, by simpa using h2, by simp only; omega, by simp only [List.length_set]; omega, by simp only; omega⟩, by simp only [List.length_set]; omega, ?_⟩
      · rw [evCq2L]
        simp only [unstCq1, unstCq2, unstCq10, unstCq20, prlCq1, prlCq2, outCq1, outCq2, etaBeat, etaSpan, etaHole, etaLevel, etaFigs, etaRatio, etaRep, etaStay, Option.bind_some, List.length_map, unStrs, unInts, unBools, unBeats, uneL_eBeats, unSpans, unHoles, unLevels, unFigss, unRatios, unReps, unStays, F.lt, F.le, cond_true, cond_false, Bool.and_true, Bool.true_and, dlt, decide_eq_true hlt, idxN, w_sub1 h3 (show j ≤ 9223372036854775807 by omega), decide_eq_true (show j - 1 < ys.length - c by omega), decide_eq_true (lt_at hy), decide_eq_true (lt_at hz), decide_eq_true (show k < ys.length by omega), getD_at hy, getD_at hz, eqBeat_and, hq, Bool.not_false, w_add1 (show j < 9223372036854775807 by omega), w_add1 (show k < 9223372036854775807 by omega), setWBeats, stCq2, List.length_set]
      · simp only [outCq2, List.length_set, hf, hf2, F.cpi, getD_at hy, getD_at hz, hq, cond_false]
    · refine ⟨(ys, k, j + 1), ?_, rfl, ⟨h1, h2, by simp only; omega, by simp only; omega, by simp only; omega⟩, by simp only; omega, ?_⟩
      · rw [evCq2L]
        simp only [unstCq1, unstCq2, unstCq10, unstCq20, prlCq1, prlCq2, outCq1, outCq2, etaBeat, etaSpan, etaHole, etaLevel, etaFigs, etaRatio, etaRep, etaStay, Option.bind_some, List.length_map, unStrs, unInts, unBools, unBeats, uneL_eBeats, unSpans, unHoles, unLevels, unFigss, unRatios, unReps, unStays, F.lt, F.le, cond_true, cond_false, Bool.and_true, Bool.true_and, dlt, decide_eq_true hlt, idxN, w_sub1 h3 (show j ≤ 9223372036854775807 by omega), decide_eq_true (show j - 1 < ys.length - c by omega), decide_eq_true (lt_at hy), decide_eq_true (lt_at hz), decide_eq_true (show k < ys.length by omega), getD_at hy, getD_at hz, eqBeat_and, hq, Bool.not_true, w_add1 (show j < 9223372036854775807 by omega), stCq2]
      · simp only [outCq2, hf, hf2, F.cpi, getD_at hy, getD_at hz, hq, cond_true]
  · have : ys.length - c - j = 0 := by omega
    left
    refine ⟨_, ?_, rfl, by simp, rfl⟩
    rw [evCq2L]
    simp only [dlt, decide_eq_false hlt, cond_false, this, F.cpi]

theorem evCq1L (l : List Beat) (k : Nat) : ((exec enCq (loopN Try.f19 0) (stCq1 l k)).bind (lessX ([3, 0], [900]) ([0], [900]) ([2], [900]))).val =
  bif decide ((↑k : Int) < (↑(List.length (List.map eBeat l)) : Int)) then bif decide (k < List.length (Blk.mk false 29 5 (List.map eBeat l)).rows) then Option.bind (unenc
  (List.map eBeat) (List.map eBeat l)) fun (z : List Beat) => bif decide (k < List.length z) then Option.bind (idx (IntKind.wrap IntKind.i64 ((↑k : Int) - (1 : Int)))) fun
  (z_1 : Nat) => bif decide (z_1 < List.length (Blk.mk false 29 5 (List.map eBeat l)).rows) then Option.bind (unenc (List.map eBeat) (List.map eBeat l)) fun (z_2 : List
  Beat) => bif decide (z_1 < List.length z_2) then bif ByteArray.toList (List.getD z k (Beat.mk (ByteArray.mk (Array.mk [])) (0 : Int) (0 : Int) (0 : Int) (0 :
  Int))).session == ByteArray.toList (List.getD z_2 z_1 (Beat.mk (ByteArray.mk (Array.mk [])) (0 : Int) (0 : Int) (0 : Int) (0 : Int))).session && ((List.getD z k (Beat.mk
  (ByteArray.mk (Array.mk [])) (0 : Int) (0 : Int) (0 : Int) (0 : Int))).no == (List.getD z_2 z_1 (Beat.mk (ByteArray.mk (Array.mk [])) (0 : Int) (0 : Int) (0 : Int) (0 :
  Int))).no && ((List.getD z k (Beat.mk (ByteArray.mk (Array.mk [])) (0 : Int) (0 : Int) (0 : Int) (0 : Int))).time == (List.getD z_2 z_1 (Beat.mk (ByteArray.mk (Array.mk
  [])) (0 : Int) (0 : Int) (0 : Int) (0 : Int))).time && ((List.getD z k (Beat.mk (ByteArray.mk (Array.mk [])) (0 : Int) (0 : Int) (0 : Int) (0 : Int))).state == (List.getD
  z_2 z_1 (Beat.mk (ByteArray.mk (Array.mk [])) (0 : Int) (0 : Int) (0 : Int) (0 : Int))).state && ((List.getD z k (Beat.mk (ByteArray.mk (Array.mk [])) (0 : Int) (0 : Int)
  (0 : Int) (0 : Int))).rate == (List.getD z_2 z_1 (Beat.mk (ByteArray.mk (Array.mk [])) (0 : Int) (0 : Int) (0 : Int) (0 : Int))).rate && true)))) then bif Nat.ble k
  (List.length (List.map eBeat l)) && Nat.ble (List.length (List.map eBeat l)) (List.length (List.map eBeat l)) then Option.bind (unenc stCq21 (St.mk [(5, (vI (1 : Int))),
  (4, AV.win (900 : Nat) ((0 : Nat) + k) (List.length (List.map eBeat l) - k)), (3, (vI (↑k : Int))), (0, .own 900)] [(900, Blk.mk false 29 5 (List.map eBeat l))])) fun (z :
  List Beat × Nat × Nat × Nat) => bif decide (List.length z.fst ≤ (100000 : Nat) ∧ z.snd.fst < List.length z.fst ∧ (1 : Nat) ≤ z.snd.snd.snd ∧ z.snd.snd.snd ≤ List.length
  z.fst - z.snd.fst ∧ z.snd.snd.fst < z.snd.fst + z.snd.snd.snd) && true then bif Nat.ble (F.cpi z.snd.fst (List.length z.fst - z.snd.fst - z.snd.snd.snd) z.fst
  z.snd.snd.fst z.snd.snd.snd).snd (List.length (List.map eBeat (F.cpi z.snd.fst (List.length z.fst - z.snd.fst - z.snd.snd.snd) z.fst z.snd.snd.fst z.snd.snd.snd).fst)) &&
  Nat.ble (List.length (List.map eBeat (F.cpi z.snd.fst (List.length z.fst - z.snd.fst - z.snd.snd.snd) z.fst z.snd.snd.fst z.snd.snd.snd).fst)) (List.length (List.map eBeat
  (F.cpi z.snd.fst (List.length z.fst - z.snd.fst - z.snd.snd.snd) z.fst z.snd.snd.fst z.snd.snd.snd).fst)) then bif Nat.ble ((0 : Nat) + (F.cpi z.snd.fst (List.length z.fst
  - z.snd.fst - z.snd.snd.snd) z.fst z.snd.snd.fst z.snd.snd.snd).snd + (List.length (List.map eBeat (F.cpi z.snd.fst (List.length z.fst - z.snd.fst - z.snd.snd.snd) z.fst
  z.snd.snd.fst z.snd.snd.snd).fst) - (F.cpi z.snd.fst (List.length z.fst - z.snd.fst - z.snd.snd.snd) z.fst z.snd.snd.fst z.snd.snd.snd).snd)) (List.length (List.map eBeat
  (F.cpi z.snd.fst (List.length z.fst - z.snd.fst - z.snd.snd.snd) z.fst z.snd.snd.fst z.snd.snd.snd).fst)) && Nat.ble (1 : Nat) (List.length (List.map eBeat (F.cpi
  z.snd.fst (List.length z.fst - z.snd.fst - z.snd.snd.snd) z.fst z.snd.snd.fst z.snd.snd.snd).fst) - (F.cpi z.snd.fst (List.length z.fst - z.snd.fst - z.snd.snd.snd) z.fst
  z.snd.snd.fst z.snd.snd.snd).snd) then bif Nat.ble (0 : Nat) (F.cpi z.snd.fst (List.length z.fst - z.snd.fst - z.snd.snd.snd) z.fst z.snd.snd.fst z.snd.snd.snd).snd &&
  Nat.ble (F.cpi z.snd.fst (List.length z.fst - z.snd.fst - z.snd.snd.snd) z.fst z.snd.snd.fst z.snd.snd.snd).snd (List.length (List.take ((0 : Nat) + (F.cpi z.snd.fst
  (List.length z.fst - z.snd.fst - z.snd.snd.snd) z.fst z.snd.snd.fst z.snd.snd.snd).snd) (List.map eBeat (F.cpi z.snd.fst (List.length z.fst - z.snd.fst - z.snd.snd.snd)
  z.fst z.snd.snd.fst z.snd.snd.snd).fst) ++ List.replicate (List.length (List.map eBeat (F.cpi z.snd.fst (List.length z.fst - z.snd.fst - z.snd.snd.snd) z.fst z.snd.snd.fst
  z.snd.snd.snd).fst) - (F.cpi z.snd.fst (List.length z.fst - z.snd.fst - z.snd.snd.snd) z.fst z.snd.snd.fst z.snd.snd.snd).snd) [(vS (ByteArray.mk (Array.mk []))), (vI (0 :
  Int)), (vI (0 : Int)), (vI (0 : Int)), (vI (0 : Int))] ++ List.drop ((0 : Nat) + (F.cpi z.snd.fst (List.length z.fst - z.snd.fst - z.snd.snd.snd) z.fst z.snd.snd.fst
  z.snd.snd.snd).snd + (List.length (List.map eBeat (F.cpi z.snd.fst (List.length z.fst - z.snd.fst - z.snd.snd.snd) z.fst z.snd.snd.fst z.snd.snd.snd).fst) - (F.cpi
  z.snd.fst (List.length z.fst - z.snd.fst - z.snd.snd.snd) z.fst z.snd.snd.fst z.snd.snd.snd).snd)) (List.map eBeat (F.cpi z.snd.fst (List.length z.fst - z.snd.fst -
  z.snd.snd.snd) z.fst z.snd.snd.fst z.snd.snd.snd).fst))) then some (Ex.ret, St.mk [(2, AV.win (900 : Nat) (0 : Nat) ((F.cpi z.snd.fst (List.length z.fst - z.snd.fst -
  z.snd.snd.snd) z.fst z.snd.snd.fst z.snd.snd.snd).snd - (0 : Nat)))] [(900, Blk.mk false 29 5 (List.take ((0 : Nat) + (F.cpi z.snd.fst (List.length z.fst - z.snd.fst -
  z.snd.snd.snd) z.fst z.snd.snd.fst z.snd.snd.snd).snd) (List.map eBeat (F.cpi z.snd.fst (List.length z.fst - z.snd.fst - z.snd.snd.snd) z.fst z.snd.snd.fst
  z.snd.snd.snd).fst) ++ List.replicate (List.length (List.map eBeat (F.cpi z.snd.fst (List.length z.fst - z.snd.fst - z.snd.snd.snd) z.fst z.snd.snd.fst z.snd.snd.snd).fst)
  - (F.cpi z.snd.fst (List.length z.fst - z.snd.fst - z.snd.snd.snd) z.fst z.snd.snd.fst z.snd.snd.snd).snd) [(vS (ByteArray.mk (Array.mk []))), (vI (0 : Int)), (vI (0 :
  Int)), (vI (0 : Int)), (vI (0 : Int))] ++ List.drop ((0 : Nat) + (F.cpi z.snd.fst (List.length z.fst - z.snd.fst - z.snd.snd.snd) z.fst z.snd.snd.fst z.snd.snd.snd).snd +
  (List.length (List.map eBeat (F.cpi z.snd.fst (List.length z.fst - z.snd.fst - z.snd.snd.snd) z.fst z.snd.snd.fst z.snd.snd.snd).fst) - (F.cpi z.snd.fst (List.length z.fst
  - z.snd.fst - z.snd.snd.snd) z.fst z.snd.snd.fst z.snd.snd.snd).snd)) (List.map eBeat (F.cpi z.snd.fst (List.length z.fst - z.snd.fst - z.snd.snd.snd) z.fst z.snd.snd.fst
  z.snd.snd.snd).fst)))]) else none else none else none else none else none else some (Ex.normal, St.mk [(3, (vI (IntKind.wrap IntKind.i64 ((↑k : Int) + (1 : Int))))), (0,
  .own 900)] [(900, Blk.mk false 29 5 (List.map eBeat l))]) else none else none else none else none else some (Ex.exit (0 : Nat), St.mk [(0, .own 900)] [(900, Blk.mk false
  29 5 (List.map eBeat l))]) := (execR_bind _ _ _).symm.trans (by kernel_rfl)

theorem lpCq1_ok (l : List Beat) (k : Nat) (hp : prlCq1 l k = true) : ∀ ex s', (outCq1 l k).val = some (ex, s') → LoopOK enCq (loopN Try.f19 0) (stCq1 l k) ex s' := by
  simp only [prlCq1, Bool.and_eq_true, decide_eq_true_eq] at hp
  obtain ⟨h1, hk, h2⟩ := hp
  subst hk
  refine loop_gen (st := stCq1 l) (out := outCq1 l) (I := fun k => 1 ≤ k ∧ k ≤ l.length ∧ F.dd l = l.take k ++ F.ddT (l.getD (k - 1) default) (l.drop k)) (n := ([3, 0], [900])) (e := ([0], [900])) (r := ([2], [900])) (fun k => l.length - k) ?_ 1 ⟨Nat.le_refl _, h2, ?_⟩
  · rintro k ⟨h3, h4, h5⟩
    by_cases hlt : k < l.length
    · obtain ⟨y, hy⟩ := at_lt hlt
      obtain ⟨z, hz⟩ := at_lt (show k - 1 < l.length by omega)
      have hd := dropAt hy
      rw [getD_at hz, hd] at h5
      cases hq : eqBeat y z
      · right
        refine ⟨k + 1, ?_, rfl, ⟨by omega, hlt, ?_⟩, by omega, ?_⟩
        · rw [evCq1L]
          simp only [unstCq1, unstCq2, unstCq10, unstCq20, prlCq1, prlCq2, outCq1, outCq2, etaBeat, etaSpan, etaHole, etaLevel, etaFigs, etaRatio, etaRep, etaStay, Option.bind_some, List.length_map, unStrs, unInts, unBools, unBeats, uneL_eBeats, unSpans, unHoles, unLevels, unFigss, unRatios, unReps, unStays, F.lt, F.le, cond_true, cond_false, Bool.and_true, Bool.true_and, dlt, decide_eq_true hlt, idxN, w_sub1 h3 (show k ≤ 9223372036854775807 by omega), decide_eq_true (lt_at hz), getD_at hy, getD_at hz, eqBeat_and, hq, w_add1 (show k < 9223372036854775807 by omega), stCq1]
        · rw [h5, Nat.add_sub_cancel, getD_at hy, List.take_add_one, hy]
          simp only [F.ddT, hq, cond_false, Option.toList_some, List.append_assoc, List.singleton_append]
        · simp only [outCq1, hd, Nat.add_sub_cancel, getD_at hy, getD_at hz, F.nd, hq, Bool.not_false, Bool.true_and]
      · left
        obtain ⟨e1, e2⟩ := F.cpi_spec k (l.drop (k + 1)) (l.take k) [] y 1 (by rw [List.append_nil, List.length_take]; omega) (Nat.le_refl _)
        have e3 : l.take k ++ [] ++ y :: l.drop (k + 1) = l := by rw [List.append_nil, ← hd, List.take_append_drop]
        have e4 : (l.take k).length = k := by rw [List.length_take]; omega
        have e5 : F.dd l = l.take k ++ F.ddT y (l.drop (k + 1)) := by rw [h5]; simp only [F.ddT, hq, cond_true]
        rw [e3, e4, ← e5, List.length_drop] at e1 e2
        have e6 := (F.cpi_len k (l.length - (k + 1)) l k 1).1
        have e7 : (F.dd l).length < l.length := by
          rw [e5, List.length_append, e4]
          have := F.ddT_len (l.drop (k + 1)) y
          rw [List.length_drop] at this
          omega
        refine ⟨(.ret, ⟨[(2, .win 900 0 (F.dd l).length)], [(900, ⟨false, 29, 5, (F.dd l ++ List.replicate (l.length - (F.dd l).length) default).map eBeat⟩)]⟩), ?_, ?_, by simp, rfl⟩
        · rw [evCq1L]
          have hb1 : Nat.ble k l.length = true := ble_t (by omega)
          have hb2 : Nat.ble l.length l.length = true := ble_t (Nat.le_refl _)
          have hq1 : l.length ≤ 100000 ∧ k < l.length ∧ 1 ≤ 1 ∧ 1 ≤ l.length - k ∧ k < k + 1 := ⟨h1, hlt, by omega, by omega, by omega⟩
          have hs : l.length - k - 1 = l.length - (k + 1) := by omega
          simp only [unstCq1, unstCq2, unstCq10, unstCq20, prlCq1, prlCq2, outCq1, outCq2, etaBeat, etaSpan, etaHole, etaLevel, etaFigs, etaRatio, etaRep, etaStay, Option.bind_some, List.length_map, unStrs, unInts, unBools, unBeats, uneL_eBeats, unSpans, unHoles, unLevels, unFigss, unRatios, unReps, unStays, F.lt, F.le, cond_true, cond_false, Bool.and_true, Bool.true_and, dlt, decide_eq_true hlt, idxN, w_sub1 h3 (show k ≤ 9223372036854775807 by omega), decide_eq_true (lt_at hz), getD_at hy, getD_at hz, eqBeat_and, hq, hb1, hb2, Nat.zero_add, hq1, decide_true, and_self, hs]
          generalize F.cpi k (l.length - (k + 1)) l k 1 = pr at e1 e2 e6
          obtain ⟨zs, m⟩ := pr
          simp only at e1 e2 e6 ⊢
          subst e1
          have hb3 : Nat.ble (F.dd l).length zs.length = true := ble_t (by omega)
          have hb4 : Nat.ble zs.length zs.length = true := ble_t (Nat.le_refl _)
          have hb5 : Nat.ble ((F.dd l).length + (zs.length - (F.dd l).length)) zs.length = true := ble_t (by omega)
          have hb6 : Nat.ble 1 (zs.length - (F.dd l).length) = true := ble_t (by omega)
          have hb7 : Nat.ble 0 (F.dd l).length = true := ble_t (Nat.zero_le _)
          have e8 : (zs.map eBeat).take (F.dd l).length = (F.dd l).map eBeat := by rw [← List.map_take, e2]
          have e9 : (zs.map eBeat).drop ((F.dd l).length + (zs.length - (F.dd l).length)) = [] := by rw [List.drop_eq_nil_iff, List.length_map]; omega
          have e10 : List.replicate (zs.length - (F.dd l).length) [vS ⟨#[]⟩, vI 0, vI 0, vI 0, vI 0] = (List.replicate (l.length - (F.dd l).length) (default : Beat)).map eBeat := by rw [List.map_replicate, e6]; rfl
          have hb8 : Nat.ble (F.dd l).length ((List.map eBeat (F.dd l)).length + (zs.length - (F.dd l).length)) = true := ble_t (by rw [List.length_map]; omega)
          simp only [List.length_map, hb3, hb4, hb5, hb6, hb7, cond_true, Bool.and_true, e8, e9, List.append_nil, List.length_append, List.length_replicate, e10, Nat.sub_zero, List.map_append]
          rw [show Nat.ble (F.dd l).length ((F.dd l).length + (l.length - (F.dd l).length)) = true from ble_t (by omega)]
          rfl
        · simp only [outCq1, hd, getD_at hz, F.nd, hq, Bool.not_true, Bool.false_and]
          rfl
    · have : k = l.length := by omega
      subst this
      left
      refine ⟨(.exit 0, ⟨[(0, .own 900)], [(900, ⟨false, 29, 5, l.map eBeat⟩)]⟩), ?_, ?_, by simp, rfl⟩
      · rw [evCq1L]
        simp only [List.length_map, dlt, decide_eq_false hlt, cond_false]
      · simp only [outCq1, List.drop_length, F.nd]; rfl
  · cases l with
    | nil => exact absurd h2 (by simp)
    | cons x r => rfl

theorem evCq (l : List Beat) : (runH enCq [] Try.f19 [.own 900] [(900, ⟨false, 29, 5, l.map eBeat⟩)]).val =
  bif decide ((↑(List.length (List.map eBeat l)) : Int) < (2 : Int)) then some (.own 900, [(900, Blk.mk false 29 5 (List.map eBeat l))], []) else Option.bind (unenc stCq11
  (St.mk [(3, (vI (1 : Int))), (0, .own 900)] [(900, Blk.mk false 29 5 (List.map eBeat l))])) fun (z : List Beat × Nat) => bif decide (List.length z.fst ≤ (100000 : Nat) ∧
  z.snd = (1 : Nat) ∧ (1 : Nat) ≤ List.length z.fst) && true then bif F.nd (List.getD z.fst (z.snd - (1 : Nat)) (Beat.mk (ByteArray.mk (Array.mk [])) (0 : Int) (0 : Int) (0
  : Int) (0 : Int))) (List.drop z.snd z.fst) then some (.own 900, [(900, Blk.mk false 29 5 (List.map eBeat z.fst))], []) else some (AV.win (900 : Nat) (0 : Nat) (List.length
  (F.dd z.fst)), [(900, Blk.mk false 29 5 (List.map eBeat (F.dd z.fst ++ List.replicate (List.length z.fst - List.length (F.dd z.fst)) (Beat.mk (ByteArray.mk (Array.mk []))
  (0 : Int) (0 : Int) (0 : Int) (0 : Int)))))], []) else none := (runHR_val).symm.trans (by kernel_rfl)

def encCq1 (l : List Beat) : List AV × Heap := ([.own 900], [(900, ⟨false, 29, 5, l.map eBeat⟩)])

def encCq (a : (List Beat)) : List AV × Heap := encCq1 a

theorem encCq_inj (a a' : (List Beat)) (h : encCq a = encCq a') : a = a' := by
  simp only [encCq, encCq1] at h
  try simp [strs_inj, ints_inj, bools_inj, eBeats_inj, eBeat_iff, eL_eBeats_inj, eSpans_inj, eSpan_iff, eHoles_inj, eHole_iff, eLevels_inj, eLevel_iff, eFigss_inj, eFigs_iff, eRatios_inj, eRatio_iff, eReps_inj, eRep_iff, eStays_inj, eStay_iff] at h
  grind

theorem unCq (l : List Beat) : unenc encCq (([.own 900], [(900, Blk.mk false 29 5 (List.map eBeat l))])) = some (l) := unenc_of encCq_inj (l) rfl

def resCq1 (l : List Beat) : AV × Heap × List Nat := (.win 900 0 (F.dd l).length, [(900, ⟨false, 29, 5, (F.dd l ++ List.replicate (l.length - (F.dd l).length) default).map eBeat⟩)], [])

def preCq1 (l : List Beat) : Bool := decide (l.length ≤ 100000)

noncomputable def oCq : OrcH := orcH 19 encCq (fun a => preCq1 a) fun a => resCq1 a

theorem specH_win {P : Program} {G : Nat → Option GR} {f : FuncId} {args : List AV} {hin hout : Heap} {mv : List Nat} {bl : Blk} (h : SpecH P G f args hin (.own 900) hout mv) (hb : mget hout 900 = some bl) :
    SpecH P G f args hin (.win 900 0 bl.rows.length) hout mv := by
  intro w S β cargs inv hargs
  refine (h w S β cargs inv hargs).mono ?_
  rintro e w' ⟨v, S', β', he, g1, g2, g3, g4, g5, g6⟩
  refine ⟨v, S', β', he, g1, g2, g3, g4, g5, ?_⟩
  have h6 : ∃ x, β' 900 = some x ∧ (x.real = true → v = .slice (some ⟨x.b, 0, none⟩) x.len x.cap) ∧ (x.real = false → ∃ A, v = .slice A 0 0) := g6
  obtain ⟨X, hX, hr1, hr2⟩ := h6
  obtain ⟨bl', hb', h3, h4⟩ := g4.dom 900 X hX
  rw [hb] at hb'
  cases hb'
  cases hr : X.real
  · obtain ⟨A, rfl⟩ := hr2 hr
    have e0 : bl.rows = [] := (h4 hr).1
    rw [e0]
    exact ⟨X, hX, A, 0, rfl, Nat.le_refl _, by omega, fun h => absurd rfl h⟩
  · obtain ⟨cs, ty, c1, c2, c3, c4, c5, c6⟩ := h3 hr
    rw [hr1 hr, c3]
    exact ⟨X, hX, _, _, rfl, by omega, c5, fun _ => ⟨hr, by rw [Nat.zero_mul], by omega⟩⟩

theorem enCq_loops : ∀ x ∈ Func.loops Try.f19, ∀ s e s', (enCq.lp (lid x) s).val = some (e, s') → LoopOK enCq x s e s' := by
  refine two_loops (x0 := loopN Try.f19 0) (x1 := loopN Try.f19 1) (by kernel_rfl) (lpo_ok ?_) (lpo_ok ?_)
  · rintro ⟨l, k⟩ hp
    exact lpCq1_ok l k hp
  · rintro ⟨ys, c, k, j⟩ hp
    exact lpCq2_ok ys c k j hp

theorem okCq : OrcHOK Try.prog noG oCq := by
  refine orcH_ok ⟨Try.f19, by kernel_rfl, by kernel_rfl, by kernel_rfl⟩ (fun l hp _ _ => ?_)
  have hp : l.length ≤ 100000 := of_decide_eq_true hp
  have ev := evCq l
  have sound : ∀ {r H}, (runH enCq [] Try.f19 [.own 900] [(900, ⟨false, 29, 5, l.map eBeat⟩)]).val = some (r, H, []) → SpecH Try.prog noG 19 [.own 900] [(900, ⟨false, 29, 5, l.map eBeat⟩)] r H [] := fun h => runH_sound (E := enCq) enCq_ok mixed (fn := Try.f19) (by kernel_rfl) enCq_loops h
  have same : F.dd l = l → SpecH Try.prog noG 19 [.own 900] [(900, ⟨false, 29, 5, l.map eBeat⟩)] (.own 900) [(900, ⟨false, 29, 5, l.map eBeat⟩)] [] → SpecH Try.prog noG 19 (encCq l).1 (encCq l).2 (resCq1 l).1 (resCq1 l).2.1 (resCq1 l).2.2 := fun e h => by
    have h2 := specH_win h (bl := ⟨false, 29, 5, l.map eBeat⟩) rfl
    rw [List.length_map] at h2
    unfold resCq1
    rw [e, Nat.sub_self, List.replicate_zero, List.append_nil]
    exact h2
  by_cases h2 : l.length < 2
  · have e : F.dd l = l := by
      cases l with
      | nil => rfl
      | cons x r =>
        cases r with
        | nil => rfl
        | cons y r => exact absurd h2 (by simp)
    refine same e (sound ?_)
    rw [ev, List.length_map, show decide (((l.length : Nat) : Int) < 2) = true from decide_eq_true (by omega)]
    rfl
  · have hq : l.length ≤ 100000 ∧ 1 = 1 ∧ 1 ≤ l.length := ⟨hp, rfl, by omega⟩
    simp only [unstCq1, unstCq2, unstCq10, unstCq20, prlCq1, prlCq2, outCq1, outCq2, etaBeat, etaSpan, etaHole, etaLevel, etaFigs, etaRatio, etaRep, etaStay, Option.bind_some, List.length_map, unStrs, unInts, unBools, unBeats, uneL_eBeats, unSpans, unHoles, unLevels, unFigss, unRatios, unReps, unStays, F.lt, F.le, cond_true, cond_false, Bool.and_true, Bool.true_and, show decide (((l.length : Nat) : Int) < 2) = false from decide_eq_false (by omega), hq, and_self, decide_true] at ev
    cases hn : F.nd (l.getD (1 - 1) ⟨⟨#[]⟩, 0, 0, 0, 0⟩) (l.drop 1)
    · rw [hn] at ev
      exact sound ev
    · rw [hn] at ev
      exact same (F.dd_nd hn) (sound ev)

end M
end Go.Proofs.Ytlnflhmepnbcmaa
