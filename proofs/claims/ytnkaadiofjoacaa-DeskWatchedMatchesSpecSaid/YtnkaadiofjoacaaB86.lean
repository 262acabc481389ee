/- What is proved here: contracts of slices.Compact at strings, and of small parts of the reference (no statement of the seat). -/
import Derived.Test.YtnkaadiofjoacaaB85
namespace Go.Proofs.Ytnkaadiofjoacaa
open Go Go.RowKit
set_option linter.unusedVariables false
set_option linter.unusedSimpArgs false
set_option maxHeartbeats 1000000

namespace F

/-- No element is the same as the one before it. -/
def ndS (p : ByteArray) : List ByteArray → Bool
  | [] => true
  | y :: r => !(y.toList == p.toList) && ndS y r

theorem dsT_len : ∀ (r : List ByteArray) (p : ByteArray), (dsT p r).length ≤ r.length
  | [], _ => Nat.le_refl _
  | y :: r, p => by
    unfold dsT
    have := dsT_len r y
    cases (y.toList == p.toList) <;> simp only [cond_true, cond_false, List.length_cons] <;> omega

theorem dsT_nd : ∀ {r : List ByteArray} {p : ByteArray}, ndS p r = true → dsT p r = r
  | [], _, _ => rfl
  | y :: r, p, h => by
    simp only [ndS, Bool.and_eq_true, Bool.not_eq_true'] at h
    unfold dsT
    rw [h.1, cond_false, dsT_nd h.2]

/-- The inner rounds of Compact: fuel, the list, where to write, what is looked at. -/
def cpS (c : Nat) : Nat → List ByteArray → Nat → Nat → List ByteArray × Nat
  | 0, ys, k, _ => (ys, k)
  | f + 1, ys, k, j => bif ((ys.getD (c + j) ⟨#[]⟩).toList == (ys.getD (c + (j - 1)) ⟨#[]⟩).toList) then cpS c f ys k (j + 1)
    else cpS c f (ys.set k (ys.getD (c + j) ⟨#[]⟩)) (k + 1) (j + 1)

theorem cpS_len (c : Nat) : ∀ (f : Nat) (ys : List ByteArray) (k j : Nat), (cpS c f ys k j).1.length = ys.length ∧ (cpS c f ys k j).2 ≤ k + f
  | 0, _, _, _ => ⟨rfl, Nat.le_refl _⟩
  | f + 1, ys, k, j => by
    unfold cpS
    cases ((ys.getD (c + j) ⟨#[]⟩).toList == (ys.getD (c + (j - 1)) ⟨#[]⟩).toList)
    · obtain ⟨h1, h2⟩ := cpS_len c f (ys.set k (ys.getD (c + j) ⟨#[]⟩)) (k + 1) (j + 1)
      simp only [cond_false]
      exact ⟨by rw [h1, List.length_set], by omega⟩
    · obtain ⟨h1, h2⟩ := cpS_len c f ys k (j + 1)
      simp only [cond_true]
      exact ⟨h1, by omega⟩

theorem cpS_spec (c : Nat) : ∀ (R A D : List ByteArray) (p : ByteArray) (j : Nat), (A ++ D).length = c + (j - 1) → 1 ≤ j →
    (cpS c R.length (A ++ D ++ p :: R) A.length j).2 = (A ++ dsT p R).length ∧ (cpS c R.length (A ++ D ++ p :: R) A.length j).1.take (A ++ dsT p R).length = A ++ dsT p R
  | [], A, D, p, j, _, _ => by
    simp only [List.length_nil, cpS, dsT, List.append_nil, List.append_assoc, List.take_left', true_and]
  | y :: R, A, D, p, j, hl, hj => by
    have h1 : (A ++ D ++ p :: y :: R).getD (c + j) ⟨#[]⟩ = y := by
      rw [List.getD_eq_getElem?_getD, List.getElem?_append_right (by omega), show c + j - (A ++ D).length = 1 by omega]
      rfl
    have h2 : (A ++ D ++ p :: y :: R).getD (c + (j - 1)) ⟨#[]⟩ = p := by
      rw [List.getD_eq_getElem?_getD, List.getElem?_append_right (by omega), show c + (j - 1) - (A ++ D).length = 0 by omega]
      rfl
    rw [List.length_cons]
    unfold cpS dsT
    rw [h1, h2]
    cases hq : (y.toList == p.toList)
    · simp only [cond_false]
      obtain ⟨D', hD'⟩ : ∃ D', (A ++ D ++ p :: y :: R).set A.length y = (A ++ [y]) ++ D' ++ y :: R ∧ (A ++ [y] ++ D').length = c + j := by
        cases D with
        | nil =>
          refine ⟨[], ?_, ?_⟩
          · rw [List.append_nil, List.set_append_right _ _ (Nat.le_refl _), Nat.sub_self]; simp
          · simp only [List.append_nil, List.length_append, List.length_cons, List.length_nil] at hl ⊢; omega
        | cons d D =>
          refine ⟨D ++ [p], ?_, ?_⟩
          · rw [List.append_assoc, List.set_append_right _ _ (Nat.le_refl _), Nat.sub_self]; simp
          · simp only [List.length_append, List.length_cons, List.length_nil] at hl ⊢; omega
      rw [hD'.1]
      have := cpS_spec c R (A ++ [y]) D' y (j + 1) (by rw [hD'.2]; omega) (by omega)
      have e : A ++ [y] ++ dsT y R = A ++ y :: dsT y R := by simp
      rw [e, List.length_append, List.length_cons, List.length_nil] at this
      exact this
    · simp only [cond_true]
      have := cpS_spec c R A (D ++ [p]) y (j + 1) (by rw [← List.append_assoc, List.length_append, hl]; simp only [List.length_cons, List.length_nil]; omega) (by omega)
      have e : A ++ (D ++ [p]) ++ y :: R = A ++ D ++ p :: y :: R := by simp
      rw [e] at this
      exact this

theorem ds_nd {l : List ByteArray} (h : ndS (l.getD 0 ⟨#[]⟩) (l.drop 1) = true) : ds l = l := by
  cases l with
  | nil => rfl
  | cons x r =>
    have h : ndS x r = true := h
    show x :: dsT x r = x :: r
    rw [dsT_nd h]

theorem ds_len (l : List ByteArray) : (ds l).length ≤ l.length := by
  cases l with
  | nil => exact Nat.le_refl _
  | cons x r => exact Nat.succ_le_succ (dsT_len r x)

end F

namespace M

def stCs1 (l : List ByteArray) (k : Nat) : St := ⟨[(3, vI k), (0, .own 900)], [(900, ⟨false, 9, 1, l.map eStr⟩)]⟩

def stCs11 (a : (List ByteArray) × Nat) : St := stCs1 a.1 a.2

theorem stCs1_inj (a a' : (List ByteArray) × Nat) (h : stCs11 a = stCs11 a') : a = a' := by
  simp only [stCs11, stCs1] at h
  try simp [strs_inj, ints_inj, bools_inj, eL_eIs_inj, eBeats_inj, eBeat_iff, eL_eBeats_inj, eSpans_inj, eSpan_iff, eHoles_inj, eHole_iff, eLevels_inj, eLevel_iff, eFigss_inj, eFigs_iff, eRatios_inj, eRatio_iff, eReps_inj, eRep_iff, eStays_inj, eStay_iff] at h
  grind

theorem unstCs1 (l : List ByteArray) (k : Nat) : unenc stCs11 (St.mk [(3, (vI (↑k : Int))), (0, .own 900)] [(900, Blk.mk false 9 1 (List.map eStr l))]) = some (l, k) := unenc_of stCs1_inj (l, k) rfl

theorem unstCs10 (l : List ByteArray)  : unenc stCs11 (St.mk [(3, (vI (1 : Int))), (0, .own 900)] [(900, Blk.mk false 9 1 (List.map eStr l))]) = some (l, 1) := unenc_of stCs1_inj (l, 1) rfl

def outCs1 (l : List ByteArray) (k : Nat) : T (Ex × St) := .ifB (F.ndS (l.getD (k - 1) ⟨#[]⟩) (l.drop k)) (.ret (.exit 0, ⟨[(0, .own 900)], [(900, ⟨false, 9, 1, l.map eStr⟩)]⟩)) (.ret (.ret, ⟨[(2, .win 900 0 (F.ds l).length)], [(900, ⟨false, 9, 1, (F.ds l ++ List.replicate (l.length - (F.ds l).length) (⟨#[]⟩ : ByteArray)).map eStr⟩)]⟩))

noncomputable def prlCs1 (l : List ByteArray) (k : Nat) : Bool := decide (l.length ≤ 100000 ∧ k = 1 ∧ 1 ≤ l.length)

noncomputable def lpCs1 : Nat × (St → T (Ex × St)) := (4, lpo [3, 0] [900] stCs11 (fun a => prlCs1 a.1 a.2) fun a => outCs1 a.1 a.2)

def stCs2 (ys : List ByteArray) (c : Nat) (k : Nat) (j : Nat) : St := ⟨[(5, vI j), (4, .win 900 c (ys.length - c)), (3, vI k), (0, .own 900)], [(900, ⟨false, 9, 1, ys.map eStr⟩)]⟩

def stCs21 (a : (List ByteArray) × Nat × Nat × Nat) : St := stCs2 a.1 a.2.1 a.2.2.1 a.2.2.2

theorem stCs2_inj (a a' : (List ByteArray) × Nat × Nat × Nat) (h : stCs21 a = stCs21 a') : a = a' := by
  simp only [stCs21, stCs2] at h
  try simp [strs_inj, ints_inj, bools_inj, eL_eIs_inj, eBeats_inj, eBeat_iff, eL_eBeats_inj, eSpans_inj, eSpan_iff, eHoles_inj, eHole_iff, eLevels_inj, eLevel_iff, eFigss_inj, eFigs_iff, eRatios_inj, eRatio_iff, eReps_inj, eRep_iff, eStays_inj, eStay_iff] at h
  grind

theorem unstCs2 (ys : List ByteArray) (c : Nat) (k : Nat) (j : Nat) : unenc stCs21 (St.mk [(5, (vI (↑j : Int))), (4, AV.win (900 : Nat) c (List.length ys - c)), (3, (vI (↑k : Int))), (0, .own 900)] [(900, Blk.mk false 9 1 (List.map eStr ys))]) = some (ys, c, k, j) := unenc_of stCs2_inj (ys, c, k, j) rfl

theorem unstCs20 (ys : List ByteArray) (c : Nat) (k : Nat)  : unenc stCs21 (St.mk [(5, (vI (1 : Int))), (4, AV.win (900 : Nat) c (List.length ys - c)), (3, (vI (↑k : Int))), (0, .own 900)] [(900, Blk.mk false 9 1 (List.map eStr ys))]) = some (ys, c, k, 1) := unenc_of stCs2_inj (ys, c, k, 1) rfl

def outCs2 (ys : List ByteArray) (c : Nat) (k : Nat) (j : Nat) : T (Ex × St) := .ret (.exit 2, ⟨[(3, vI (F.cpS c (ys.length - c - j) ys k j).2), (0, .own 900)], [(900, ⟨false, 9, 1, (F.cpS c (ys.length - c - j) ys k j).1.map eStr⟩)]⟩)

noncomputable def prlCs2 (ys : List ByteArray) (c : Nat) (k : Nat) (j : Nat) : Bool := decide (ys.length ≤ 100000 ∧ c < ys.length ∧ 1 ≤ j ∧ j ≤ ys.length - c ∧ k < c + j)

noncomputable def lpCs2 : Nat × (St → T (Ex × St)) := (9, lpo [5, 4, 3, 0] [900] stCs21 (fun a => prlCs2 a.1 a.2.1 a.2.2.1 a.2.2.2) fun a => outCs2 a.1 a.2.1 a.2.2.1 a.2.2.2)

noncomputable def enCs : Env := envH ty noG lks [] [] [28, 56, 59] [lpCs1, lpCs2]

theorem enCs_ok : EnvOK Try.prog enCs := by
  refine envH_ok lks_ok ty_ok ?_ ?_
  · simp
  · simp

theorem setStrs' (xs : List ByteArray) (i : Nat) (s : ByteArray) : (xs.map eStr).set i [vS s] = (xs.set i s).map eStr := by simp [eStr, List.map_set]

theorem dropAt {α : Type} {xs : List α} {k : Nat} {y : α} (h : xs[k]? = some y) : xs.drop k = y :: xs.drop (k + 1) := by
  obtain ⟨hk, rfl⟩ := List.getElem?_eq_some_iff.1 h
  exact List.drop_eq_getElem_cons hk

theorem evCs2L (ys : List ByteArray) (c : Nat) (k : Nat) (j : Nat) : ((exec enCs (loopN Try.f46 1) (stCs2 ys c k j)).bind (lessX ([5, 4, 3, 0], [900]) ([3, 0], [900]) ([], []))).val =
  bif decide ((↑j : Int) < (↑(List.length ys - c) : Int)) then bif decide (j < List.length ys - c) then Option.bind (unenc (List.map eStr) (List.map eStr ys)) fun (z : List
  ByteArray) => bif decide (c + j < List.length z) then Option.bind (idx (IntKind.wrap IntKind.i64 ((↑j : Int) - (1 : Int)))) fun (z_1 : Nat) => bif decide (z_1 <
  List.length ys - c) then Option.bind (unenc (List.map eStr) (List.map eStr ys)) fun (z_2 : List ByteArray) => bif decide (c + z_1 < List.length z_2) then bif
  !ByteArray.toList (List.getD z (c + j) (ByteArray.mk (Array.mk []))) == ByteArray.toList (List.getD z_2 (c + z_1) (ByteArray.mk (Array.mk []))) then bif decide (j <
  List.length ys - c) then Option.bind (unenc (List.map eStr) (List.map eStr ys)) fun (z : List ByteArray) => bif decide (c + j < List.length z) then bif decide (k <
  List.length (Blk.mk false 9 1 (List.map eStr ys)).rows) then Option.bind (unenc (List.map eStr) (List.map eStr ys)) fun (z_3 : List ByteArray) => bif decide (k <
  List.length z_3) then some (Ex.normal, St.mk [(5, (vI (IntKind.wrap IntKind.i64 ((↑j : Int) + (1 : Int))))), (4, AV.win (900 : Nat) c (List.length ys - c)), (3, (vI
  (IntKind.wrap IntKind.i64 ((↑k : Int) + (1 : Int))))), (0, .own 900)] [(900, Blk.mk false 9 1 (List.set (List.map eStr ys) k [(vS (List.getD z (c + j) (ByteArray.mk
  (Array.mk []))))]))]) else none else none else none else none else some (Ex.normal, St.mk [(5, (vI (IntKind.wrap IntKind.i64 ((↑j : Int) + (1 : Int))))), (4, AV.win (900 :
  Nat) c (List.length ys - c)), (3, (vI (↑k : Int))), (0, .own 900)] [(900, Blk.mk false 9 1 (List.map eStr ys))]) else none else none else none else none else some (Ex.exit
  (2 : Nat), St.mk [(3, (vI (↑k : Int))), (0, .own 900)] [(900, Blk.mk false 9 1 (List.map eStr ys))]) := (execR_bind _ _ _).symm.trans (by kernel_rfl)

theorem lpCs2_ok (ys : List ByteArray) (c : Nat) (k : Nat) (j : Nat) (hp : prlCs2 ys c k j = true) : ∀ ex s', (outCs2 ys c k j).val = some (ex, s') → LoopOK enCs (loopN Try.f46 1) (stCs2 ys c k j) ex s' := by
  simp only [prlCs2, Bool.and_eq_true, decide_eq_true_eq] at hp
  obtain ⟨h1, h2, h3, h4, h5⟩ := hp
  refine loop_gen (st := fun s : List ByteArray × Nat × Nat => stCs2 s.1 c s.2.1 s.2.2) (out := fun s => outCs2 s.1 c s.2.1 s.2.2) (I := fun s => s.1.length ≤ 100000 ∧ c < s.1.length ∧ 1 ≤ s.2.2 ∧ s.2.2 ≤ s.1.length - c ∧ s.2.1 < c + s.2.2) (n := ([5, 4, 3, 0], [900])) (e := ([3, 0], [900])) (r := ([], [])) (fun s => s.1.length - c - s.2.2) ?_ (ys, k, j) ⟨h1, h2, h3, h4, h5⟩
  rintro ⟨ys, k, j⟩ ⟨h1, h2, h3, h4, h5⟩
  simp only at h1 h2 h3 h4 h5
  by_cases hlt : j < ys.length - c
  · right
    obtain ⟨y, hy⟩ := at_lt (show c + j < ys.length by omega)
    obtain ⟨z, hz⟩ := at_lt (show c + (j - 1) < ys.length by omega)
    obtain ⟨f, hf⟩ : ∃ f, ys.length - c - j = f + 1 := ⟨ys.length - c - j - 1, by omega⟩
    have hf2 : ys.length - c - (j + 1) = f := by omega
    cases hq : (y.toList == z.toList)
    · refine ⟨(ys.set k y, k + 1, j + 1), ?_, rfl, ⟨by simpa using h1, by simpa using h2, by simp only; omega, by simp only [List.length_set]; omega, by simp only; omega⟩, by simp only [List.length_set]; omega, ?_⟩
      · rw [evCs2L]
        simp only [unstCs1, unstCs2, unstCs10, unstCs20, prlCs1, prlCs2, outCs1, outCs2, etaBeat, etaSpan, etaHole, etaLevel, etaFigs, etaRatio, etaRep, etaStay, Option.bind_some, List.length_map, unStrs, unInts, unBools, uneL_eIs, unBeats, uneL_eBeats, unSpans, unHoles, unLevels, unFigss, unRatios, unReps, unStays, F.lt, F.le, cond_true, cond_false, Bool.and_true, Bool.true_and, dlt, decide_eq_true hlt, idxN, w_sub1 h3 (show j ≤ 9223372036854775807 by omega), decide_eq_true (show j - 1 < ys.length - c by omega), decide_eq_true (lt_at hy), decide_eq_true (lt_at hz), decide_eq_true (show k < ys.length by omega), getD_at hy, getD_at hz, hq, Bool.not_false, w_add1 (show j < 9223372036854775807 by omega), w_add1 (show k < 9223372036854775807 by omega), setStrs', stCs2, List.length_set]
      · simp only [outCs2, List.length_set, hf, hf2, F.cpS, getD_at hy, getD_at hz, hq, cond_false]
    · refine ⟨(ys, k, j + 1), ?_, rfl, ⟨h1, h2, by simp only; omega, by simp only; omega, by simp only; omega⟩, by simp only; omega, ?_⟩
      · rw [evCs2L]
        simp only [unstCs1, unstCs2, unstCs10, unstCs20, prlCs1, prlCs2, outCs1, outCs2, etaBeat, etaSpan, etaHole, etaLevel, etaFigs, etaRatio, etaRep, etaStay, Option.bind_some, List.length_map, unStrs, unInts, unBools, uneL_eIs, unBeats, uneL_eBeats, unSpans, unHoles, unLevels, unFigss, unRatios, unReps, unStays, F.lt, F.le, cond_true, cond_false, Bool.and_true, Bool.true_and, dlt, decide_eq_true hlt, idxN, w_sub1 h3 (show j ≤ 9223372036854775807 by omega), decide_eq_true (show j - 1 < ys.length - c by omega), decide_eq_true (lt_at hy), decide_eq_true (lt_at hz), decide_eq_true (show k < ys.length by omega), getD_at hy, getD_at hz, hq, Bool.not_true, w_add1 (show j < 9223372036854775807 by omega), stCs2]
      · simp only [outCs2, hf, hf2, F.cpS, getD_at hy, getD_at hz, hq, cond_true]
  · have : ys.length - c - j = 0 := by omega
    left
    refine ⟨_, ?_, rfl, by simp, rfl⟩
    rw [evCs2L]
    simp only [dlt, decide_eq_false hlt, cond_false, this, F.cpS]

theorem evCs1L (l : List ByteArray) (k : Nat) : ((exec enCs (loopN Try.f46 0) (stCs1 l k)).bind (lessX ([3, 0], [900]) ([0], [900]) ([2], [900]))).val =
  bif decide ((↑k : Int) < (↑(List.length (List.map eStr l)) : Int)) then bif decide (k < List.length (Blk.mk false 9 1 (List.map eStr l)).rows) then Option.bind (unenc
  (List.map eStr) (List.map eStr l)) fun (z : List ByteArray) => bif decide (k < List.length z) then Option.bind (idx (IntKind.wrap IntKind.i64 ((↑k : Int) - (1 : Int))))
  fun (z_1 : Nat) => bif decide (z_1 < List.length (Blk.mk false 9 1 (List.map eStr l)).rows) then Option.bind (unenc (List.map eStr) (List.map eStr l)) fun (z_2 : List
  ByteArray) => bif decide (z_1 < List.length z_2) then bif ByteArray.toList (List.getD z k (ByteArray.mk (Array.mk []))) == ByteArray.toList (List.getD z_2 z_1
  (ByteArray.mk (Array.mk []))) then bif Nat.ble k (List.length (List.map eStr l)) && Nat.ble (List.length (List.map eStr l)) (List.length (List.map eStr l)) then
  Option.bind (unenc stCs21 (St.mk [(5, (vI (1 : Int))), (4, AV.win (900 : Nat) ((0 : Nat) + k) (List.length (List.map eStr l) - k)), (3, (vI (↑k : Int))), (0, .own 900)]
  [(900, Blk.mk false 9 1 (List.map eStr l))])) fun (z : List ByteArray × Nat × Nat × Nat) => bif decide (List.length z.fst ≤ (100000 : Nat) ∧ z.snd.fst < List.length z.fst
  ∧ (1 : Nat) ≤ z.snd.snd.snd ∧ z.snd.snd.snd ≤ List.length z.fst - z.snd.fst ∧ z.snd.snd.fst < z.snd.fst + z.snd.snd.snd) && true then bif Nat.ble (F.cpS z.snd.fst
  (List.length z.fst - z.snd.fst - z.snd.snd.snd) z.fst z.snd.snd.fst z.snd.snd.snd).snd (List.length (List.map eStr (F.cpS z.snd.fst (List.length z.fst - z.snd.fst -
  z.snd.snd.snd) z.fst z.snd.snd.fst z.snd.snd.snd).fst)) && Nat.ble (List.length (List.map eStr (F.cpS z.snd.fst (List.length z.fst - z.snd.fst - z.snd.snd.snd) z.fst
  z.snd.snd.fst z.snd.snd.snd).fst)) (List.length (List.map eStr (F.cpS z.snd.fst (List.length z.fst - z.snd.fst - z.snd.snd.snd) z.fst z.snd.snd.fst z.snd.snd.snd).fst))
  then bif Nat.ble ((0 : Nat) + (F.cpS z.snd.fst (List.length z.fst - z.snd.fst - z.snd.snd.snd) z.fst z.snd.snd.fst z.snd.snd.snd).snd + (List.length (List.map eStr (F.cpS
  z.snd.fst (List.length z.fst - z.snd.fst - z.snd.snd.snd) z.fst z.snd.snd.fst z.snd.snd.snd).fst) - (F.cpS z.snd.fst (List.length z.fst - z.snd.fst - z.snd.snd.snd) z.fst
  z.snd.snd.fst z.snd.snd.snd).snd)) (List.length (List.map eStr (F.cpS z.snd.fst (List.length z.fst - z.snd.fst - z.snd.snd.snd) z.fst z.snd.snd.fst z.snd.snd.snd).fst)) &&
  Nat.ble (1 : Nat) (List.length (List.map eStr (F.cpS z.snd.fst (List.length z.fst - z.snd.fst - z.snd.snd.snd) z.fst z.snd.snd.fst z.snd.snd.snd).fst) - (F.cpS z.snd.fst
  (List.length z.fst - z.snd.fst - z.snd.snd.snd) z.fst z.snd.snd.fst z.snd.snd.snd).snd) then bif Nat.ble (0 : Nat) (F.cpS z.snd.fst (List.length z.fst - z.snd.fst -
  z.snd.snd.snd) z.fst z.snd.snd.fst z.snd.snd.snd).snd && Nat.ble (F.cpS z.snd.fst (List.length z.fst - z.snd.fst - z.snd.snd.snd) z.fst z.snd.snd.fst z.snd.snd.snd).snd
  (List.length (List.take ((0 : Nat) + (F.cpS z.snd.fst (List.length z.fst - z.snd.fst - z.snd.snd.snd) z.fst z.snd.snd.fst z.snd.snd.snd).snd) (List.map eStr (F.cpS
  z.snd.fst (List.length z.fst - z.snd.fst - z.snd.snd.snd) z.fst z.snd.snd.fst z.snd.snd.snd).fst) ++ List.replicate (List.length (List.map eStr (F.cpS z.snd.fst
  (List.length z.fst - z.snd.fst - z.snd.snd.snd) z.fst z.snd.snd.fst z.snd.snd.snd).fst) - (F.cpS z.snd.fst (List.length z.fst - z.snd.fst - z.snd.snd.snd) z.fst
  z.snd.snd.fst z.snd.snd.snd).snd) [(vS (ByteArray.mk (Array.mk [])))] ++ List.drop ((0 : Nat) + (F.cpS z.snd.fst (List.length z.fst - z.snd.fst - z.snd.snd.snd) z.fst
  z.snd.snd.fst z.snd.snd.snd).snd + (List.length (List.map eStr (F.cpS z.snd.fst (List.length z.fst - z.snd.fst - z.snd.snd.snd) z.fst z.snd.snd.fst z.snd.snd.snd).fst) -
  (F.cpS z.snd.fst (List.length z.fst - z.snd.fst - z.snd.snd.snd) z.fst z.snd.snd.fst z.snd.snd.snd).snd)) (List.map eStr (F.cpS z.snd.fst (List.length z.fst - z.snd.fst -
  z.snd.snd.snd) z.fst z.snd.snd.fst z.snd.snd.snd).fst))) then some (Ex.ret, St.mk [(2, AV.win (900 : Nat) (0 : Nat) ((F.cpS z.snd.fst (List.length z.fst - z.snd.fst -
  z.snd.snd.snd) z.fst z.snd.snd.fst z.snd.snd.snd).snd - (0 : Nat)))] [(900, Blk.mk false 9 1 (List.take ((0 : Nat) + (F.cpS z.snd.fst (List.length z.fst - z.snd.fst -
  z.snd.snd.snd) z.fst z.snd.snd.fst z.snd.snd.snd).snd) (List.map eStr (F.cpS z.snd.fst (List.length z.fst - z.snd.fst - z.snd.snd.snd) z.fst z.snd.snd.fst
  z.snd.snd.snd).fst) ++ List.replicate (List.length (List.map eStr (F.cpS z.snd.fst (List.length z.fst - z.snd.fst - z.snd.snd.snd) z.fst z.snd.snd.fst z.snd.snd.snd).fst)
  - (F.cpS z.snd.fst (List.length z.fst - z.snd.fst - z.snd.snd.snd) z.fst z.snd.snd.fst z.snd.snd.snd).snd) [(vS (ByteArray.mk (Array.mk [])))] ++ List.drop ((0 : Nat) +
  (F.cpS z.snd.fst (List.length z.fst - z.snd.fst - z.snd.snd.snd) z.fst z.snd.snd.fst z.snd.snd.snd).snd + (List.length (List.map eStr (F.cpS z.snd.fst (List.length z.fst -
  z.snd.fst - z.snd.snd.snd) z.fst z.snd.snd.fst z.snd.snd.snd).fst) - (F.cpS z.snd.fst (List.length z.fst - z.snd.fst - z.snd.snd.snd) z.fst z.snd.snd.fst
  z.snd.snd.snd).snd)) (List.map eStr (F.cpS z.snd.fst (List.length z.fst - z.snd.fst - z.snd.snd.snd) z.fst z.snd.snd.fst z.snd.snd.snd).fst)))]) else none else none else
  none else none else none else some (Ex.normal, St.mk [(3, (vI (IntKind.wrap IntKind.i64 ((↑k : Int) + (1 : Int))))), (0, .own 900)] [(900, Blk.mk false 9 1 (List.map eStr
  l))]) else none else none else none else none else some (Ex.exit (0 : Nat), St.mk [(0, .own 900)] [(900, Blk.mk false 9 1 (List.map eStr l))]) := (execR_bind _ _ _).symm.trans (by kernel_rfl)

theorem lpCs1_ok (l : List ByteArray) (k : Nat) (hp : prlCs1 l k = true) : ∀ ex s', (outCs1 l k).val = some (ex, s') → LoopOK enCs (loopN Try.f46 0) (stCs1 l k) ex s' := by
  simp only [prlCs1, Bool.and_eq_true, decide_eq_true_eq] at hp
  obtain ⟨h1, hk, h2⟩ := hp
  subst hk
  refine loop_gen (st := stCs1 l) (out := outCs1 l) (I := fun k => 1 ≤ k ∧ k ≤ l.length ∧ F.ds l = l.take k ++ F.dsT (l.getD (k - 1) ⟨#[]⟩) (l.drop k)) (n := ([3, 0], [900])) (e := ([0], [900])) (r := ([2], [900])) (fun k => l.length - k) ?_ 1 ⟨Nat.le_refl _, h2, ?_⟩
  · rintro k ⟨h3, h4, h5⟩
    by_cases hlt : k < l.length
    · obtain ⟨y, hy⟩ := at_lt hlt
      obtain ⟨z, hz⟩ := at_lt (show k - 1 < l.length by omega)
      have hd := dropAt hy
      rw [getD_at hz, hd] at h5
      cases hq : (y.toList == z.toList)
      · right
        refine ⟨k + 1, ?_, rfl, ⟨by omega, hlt, ?_⟩, by omega, ?_⟩
        · rw [evCs1L]
          simp only [unstCs1, unstCs2, unstCs10, unstCs20, prlCs1, prlCs2, outCs1, outCs2, etaBeat, etaSpan, etaHole, etaLevel, etaFigs, etaRatio, etaRep, etaStay, Option.bind_some, List.length_map, unStrs, unInts, unBools, uneL_eIs, unBeats, uneL_eBeats, unSpans, unHoles, unLevels, unFigss, unRatios, unReps, unStays, F.lt, F.le, cond_true, cond_false, Bool.and_true, Bool.true_and, dlt, decide_eq_true hlt, idxN, w_sub1 h3 (show k ≤ 9223372036854775807 by omega), decide_eq_true (lt_at hz), getD_at hy, getD_at hz, hq, w_add1 (show k < 9223372036854775807 by omega), stCs1]
        · rw [h5, Nat.add_sub_cancel, getD_at hy, List.take_add_one, hy]
          simp only [F.dsT, hq, cond_false, Option.toList_some, List.append_assoc, List.singleton_append]
        · simp only [outCs1, hd, Nat.add_sub_cancel, getD_at hy, getD_at hz, F.ndS, hq, Bool.not_false, Bool.true_and]
      · left
        obtain ⟨e1, e2⟩ := F.cpS_spec k (l.drop (k + 1)) (l.take k) [] y 1 (by rw [List.append_nil, List.length_take]; omega) (Nat.le_refl _)
        have e3 : l.take k ++ [] ++ y :: l.drop (k + 1) = l := by rw [List.append_nil, ← hd, List.take_append_drop]
        have e4 : (l.take k).length = k := by rw [List.length_take]; omega
        have e5 : F.ds l = l.take k ++ F.dsT y (l.drop (k + 1)) := by rw [h5]; simp only [F.dsT, hq, cond_true]
        rw [e3, e4, ← e5, List.length_drop] at e1 e2
        have e6 := (F.cpS_len k (l.length - (k + 1)) l k 1).1
        have e7 : (F.ds l).length < l.length := by
          rw [e5, List.length_append, e4]
          have := F.dsT_len (l.drop (k + 1)) y
          rw [List.length_drop] at this
          omega
        refine ⟨(.ret, ⟨[(2, .win 900 0 (F.ds l).length)], [(900, ⟨false, 9, 1, (F.ds l ++ List.replicate (l.length - (F.ds l).length) (⟨#[]⟩ : ByteArray)).map eStr⟩)]⟩), ?_, ?_, by simp, rfl⟩
        · rw [evCs1L]
          have hb1 : Nat.ble k l.length = true := ble_t (by omega)
          have hb2 : Nat.ble l.length l.length = true := ble_t (Nat.le_refl _)
          have hq1 : l.length ≤ 100000 ∧ k < l.length ∧ 1 ≤ 1 ∧ 1 ≤ l.length - k ∧ k < k + 1 := ⟨h1, hlt, by omega, by omega, by omega⟩
          have hs : l.length - k - 1 = l.length - (k + 1) := by omega
          simp only [unstCs1, unstCs2, unstCs10, unstCs20, prlCs1, prlCs2, outCs1, outCs2, etaBeat, etaSpan, etaHole, etaLevel, etaFigs, etaRatio, etaRep, etaStay, Option.bind_some, List.length_map, unStrs, unInts, unBools, uneL_eIs, unBeats, uneL_eBeats, unSpans, unHoles, unLevels, unFigss, unRatios, unReps, unStays, F.lt, F.le, cond_true, cond_false, Bool.and_true, Bool.true_and, dlt, decide_eq_true hlt, idxN, w_sub1 h3 (show k ≤ 9223372036854775807 by omega), decide_eq_true (lt_at hz), getD_at hy, getD_at hz, hq, hb1, hb2, Nat.zero_add, hq1, decide_true, and_self, hs]
          generalize F.cpS k (l.length - (k + 1)) l k 1 = pr at e1 e2 e6
          obtain ⟨zs, m⟩ := pr
          simp only at e1 e2 e6 ⊢
          subst e1
          have hb3 : Nat.ble (F.ds l).length zs.length = true := ble_t (by omega)
          have hb4 : Nat.ble zs.length zs.length = true := ble_t (Nat.le_refl _)
          have hb5 : Nat.ble ((F.ds l).length + (zs.length - (F.ds l).length)) zs.length = true := ble_t (by omega)
          have hb6 : Nat.ble 1 (zs.length - (F.ds l).length) = true := ble_t (by omega)
          have hb7 : Nat.ble 0 (F.ds l).length = true := ble_t (Nat.zero_le _)
          have e8 : (zs.map eStr).take (F.ds l).length = (F.ds l).map eStr := by rw [← List.map_take, e2]
          have e9 : (zs.map eStr).drop ((F.ds l).length + (zs.length - (F.ds l).length)) = [] := by rw [List.drop_eq_nil_iff, List.length_map]; omega
          have e10 : List.replicate (zs.length - (F.ds l).length) [vS ⟨#[]⟩] = (List.replicate (l.length - (F.ds l).length) (⟨#[]⟩ : ByteArray)).map eStr := by rw [List.map_replicate, e6]; rfl
          have hb8 : Nat.ble (F.ds l).length ((List.map eStr (F.ds l)).length + (zs.length - (F.ds l).length)) = true := ble_t (by rw [List.length_map]; omega)
          simp only [List.length_map, hb3, hb4, hb5, hb6, hb7, cond_true, Bool.and_true, e8, e9, List.append_nil, List.length_append, List.length_replicate, e10, Nat.sub_zero, List.map_append]
          rw [show Nat.ble (F.ds l).length ((F.ds l).length + (l.length - (F.ds l).length)) = true from ble_t (by omega)]
          rfl
        · simp only [outCs1, hd, getD_at hz, F.ndS, hq, Bool.not_true, Bool.false_and]
          rfl
    · have : k = l.length := by omega
      subst this
      left
      refine ⟨(.exit 0, ⟨[(0, .own 900)], [(900, ⟨false, 9, 1, l.map eStr⟩)]⟩), ?_, ?_, by simp, rfl⟩
      · rw [evCs1L]
        simp only [List.length_map, dlt, decide_eq_false hlt, cond_false]
      · simp only [outCs1, List.drop_length, F.ndS]; rfl
  · cases l with
    | nil => exact absurd h2 (by simp)
    | cons x r => rfl

theorem evCs (l : List ByteArray) : (runH enCs [] Try.f46 [.own 900] [(900, ⟨false, 9, 1, l.map eStr⟩)]).val =
  bif decide ((↑(List.length (List.map eStr l)) : Int) < (2 : Int)) then some (.own 900, [(900, Blk.mk false 9 1 (List.map eStr l))], []) else Option.bind (unenc stCs11
  (St.mk [(3, (vI (1 : Int))), (0, .own 900)] [(900, Blk.mk false 9 1 (List.map eStr l))])) fun (z : List ByteArray × Nat) => bif decide (List.length z.fst ≤ (100000 : Nat)
  ∧ z.snd = (1 : Nat) ∧ (1 : Nat) ≤ List.length z.fst) && true then bif F.ndS (List.getD z.fst (z.snd - (1 : Nat)) (ByteArray.mk (Array.mk []))) (List.drop z.snd z.fst) then
  some (.own 900, [(900, Blk.mk false 9 1 (List.map eStr z.fst))], []) else some (AV.win (900 : Nat) (0 : Nat) (List.length (F.ds z.fst)), [(900, Blk.mk false 9 1 (List.map
  eStr (F.ds z.fst ++ List.replicate (List.length z.fst - List.length (F.ds z.fst)) (ByteArray.mk (Array.mk [])))))], []) else none := (runHR_val).symm.trans (by kernel_rfl)

def encCs1 (l : List ByteArray) : List AV × Heap := ([.own 900], [(900, ⟨false, 9, 1, l.map eStr⟩)])

def encCs (a : (List ByteArray)) : List AV × Heap := encCs1 a

theorem encCs_inj (a a' : (List ByteArray)) (h : encCs a = encCs a') : a = a' := by
  simp only [encCs, encCs1] at h
  try simp [strs_inj, ints_inj, bools_inj, eL_eIs_inj, eBeats_inj, eBeat_iff, eL_eBeats_inj, eSpans_inj, eSpan_iff, eHoles_inj, eHole_iff, eLevels_inj, eLevel_iff, eFigss_inj, eFigs_iff, eRatios_inj, eRatio_iff, eReps_inj, eRep_iff, eStays_inj, eStay_iff] at h
  grind

theorem unCs (l : List ByteArray) : unenc encCs (([.own 900], [(900, Blk.mk false 9 1 (List.map eStr l))])) = some (l) := unenc_of encCs_inj (l) rfl

def resCs1 (l : List ByteArray) : AV × Heap × List Nat := (.win 900 0 (F.ds l).length, [(900, ⟨false, 9, 1, (F.ds l ++ List.replicate (l.length - (F.ds l).length) (⟨#[]⟩ : ByteArray)).map eStr⟩)], [])

def preCs1 (l : List ByteArray) : Bool := decide (l.length ≤ 100000)

noncomputable def oCs : OrcH := orcH 46 encCs (fun a => preCs1 a) fun a => resCs1 a

theorem specH_win {P : Program} {G : Nat → Option GR} {f : FuncId} {args : List AV} {hin hout : Heap} {mv : List Nat} {bl : Blk} (h : SpecH P G f args hin (.own 900) hout mv) (hb : mget hout 900 = some bl) :
    SpecH P G f args hin (.win 900 0 bl.rows.length) hout mv := by
  intro w S β cargs inv hargs
  refine (h w S β cargs inv hargs).mono ?_
  rintro e w' ⟨v, S', β', he, g1, g2, g3, g4, g5, g6⟩
  refine ⟨v, S', β', he, g1, g2, g3, g4, g5, ?_⟩
  have h6 : ∃ x, β' 900 = some x ∧ (x.real = true → v = .slice (some ⟨x.b, 0, none⟩) x.len x.cap) ∧ (x.real = false → ∃ A, v = .slice A 0 0) := g6
  obtain ⟨X, hX, hr1, hr2⟩ := h6
  obtain ⟨bl', hb', h3, h4⟩ := g4.dom 900 X hX
  rw [hb] at hb'
  cases hb'
  cases hr : X.real
  · obtain ⟨A, rfl⟩ := hr2 hr
    have e0 : bl.rows = [] := (h4 hr).1
    rw [e0]
    exact ⟨X, hX, A, 0, rfl, Nat.le_refl _, by omega, fun h => absurd rfl h⟩
  · obtain ⟨cs, ty, c1, c2, c3, c4, c5, c6⟩ := h3 hr
    rw [hr1 hr, c3]
    exact ⟨X, hX, _, _, rfl, by omega, c5, fun _ => ⟨hr, by rw [Nat.zero_mul], by omega⟩⟩

theorem enCs_loops : ∀ x ∈ Func.loops Try.f46, ∀ s e s', (enCs.lp (lid x) s).val = some (e, s') → LoopOK enCs x s e s' := by
  refine two_loops (x0 := loopN Try.f46 0) (x1 := loopN Try.f46 1) (by kernel_rfl) (lpo_ok ?_) (lpo_ok ?_)
  · rintro ⟨l, k⟩ hp
    exact lpCs1_ok l k hp
  · rintro ⟨ys, c, k, j⟩ hp
    exact lpCs2_ok ys c k j hp

theorem okCs : OrcHOK Try.prog noG oCs := by
  refine orcH_ok ⟨Try.f46, by kernel_rfl, by kernel_rfl, by kernel_rfl⟩ (fun l hp _ _ => ?_)
  have hp : l.length ≤ 100000 := of_decide_eq_true hp
  have ev := evCs l
  have sound : ∀ {r H}, (runH enCs [] Try.f46 [.own 900] [(900, ⟨false, 9, 1, l.map eStr⟩)]).val = some (r, H, []) → SpecH Try.prog noG 46 [.own 900] [(900, ⟨false, 9, 1, l.map eStr⟩)] r H [] := fun h => runH_sound (E := enCs) enCs_ok mixed (fn := Try.f46) (by kernel_rfl) enCs_loops h
  have same : F.ds l = l → SpecH Try.prog noG 46 [.own 900] [(900, ⟨false, 9, 1, l.map eStr⟩)] (.own 900) [(900, ⟨false, 9, 1, l.map eStr⟩)] [] → SpecH Try.prog noG 46 (encCs l).1 (encCs l).2 (resCs1 l).1 (resCs1 l).2.1 (resCs1 l).2.2 := fun e h => by
    have h2 := specH_win h (bl := ⟨false, 9, 1, l.map eStr⟩) rfl
    rw [List.length_map] at h2
    unfold resCs1
    rw [e, Nat.sub_self, List.replicate_zero, List.append_nil]
    exact h2
  by_cases h2 : l.length < 2
  · have e : F.ds l = l := by
      cases l with
      | nil => rfl
      | cons x r =>
        cases r with
        | nil => rfl
        | cons y r => exact absurd h2 (by simp)
    refine same e (sound ?_)
    rw [ev, List.length_map, show decide (((l.length : Nat) : Int) < 2) = true from decide_eq_true (by omega)]
    rfl
  · have hq : l.length ≤ 100000 ∧ 1 = 1 ∧ 1 ≤ l.length := ⟨hp, rfl, by omega⟩
    simp only [unstCs1, unstCs2, unstCs10, unstCs20, prlCs1, prlCs2, outCs1, outCs2, etaBeat, etaSpan, etaHole, etaLevel, etaFigs, etaRatio, etaRep, etaStay, Option.bind_some, List.length_map, unStrs, unInts, unBools, uneL_eIs, unBeats, uneL_eBeats, unSpans, unHoles, unLevels, unFigss, unRatios, unReps, unStays, F.lt, F.le, cond_true, cond_false, Bool.and_true, Bool.true_and, show decide (((l.length : Nat) : Int) < 2) = false from decide_eq_false (by omega), hq, and_self, decide_true] at ev
    cases hn : F.ndS (l.getD (1 - 1) ⟨#[]⟩) (l.drop 1)
    · rw [hn] at ev
      exact sound ev
    · rw [hn] at ev
      exact same (F.ds_nd hn) (sound ev)

def stROf (l : List Beat) (x : ByteArray) (acc : List Beat) (k : Nat) : St := ⟨[(10, vI k), (9, vI l.length), (8, .sl (l.map eBeat)), (5, .own 5), (1, vS x)], [(5, ⟨false, 38, 5, acc.map eBeat⟩)]⟩

def stROf1 (a : (List Beat) × ByteArray × (List Beat) × Nat) : St := stROf a.1 a.2.1 a.2.2.1 a.2.2.2

theorem stROf_inj (a a' : (List Beat) × ByteArray × (List Beat) × Nat) (h : stROf1 a = stROf1 a') : a = a' := by
  simp only [stROf1, stROf] at h
  try simp [strs_inj, ints_inj, bools_inj, eL_eIs_inj, eBeats_inj, eBeat_iff, eL_eBeats_inj, eSpans_inj, eSpan_iff, eHoles_inj, eHole_iff, eLevels_inj, eLevel_iff, eFigss_inj, eFigs_iff, eRatios_inj, eRatio_iff, eReps_inj, eRep_iff, eStays_inj, eStay_iff] at h
  grind

theorem unstROf (l : List Beat) (x : ByteArray) (acc : List Beat) (k : Nat) : unenc stROf1 (St.mk [(10, (vI (↑k : Int))), (9, (vI (↑(List.length l) : Int))), (8, AV.sl (List.map eBeat l)), (5, .own 5), (1, (vS x))] [(5, Blk.mk false 38 5 (List.map eBeat acc))]) = some (l, x, acc, k) := unenc_of stROf_inj (l, x, acc, k) rfl

theorem unstROf0 (l : List Beat) (x : ByteArray)  : unenc stROf1 (St.mk [(10, (vI (0 : Int))), (9, (vI (↑(List.length l) : Int))), (8, AV.sl (List.map eBeat l)), (5, .own 5), (1, (vS x))] [(5, Blk.mk false 38 5 [])]) = some (l, x, [], 0) := unenc_of stROf_inj (l, x, [], 0) rfl

def outROf (l : List Beat) (x : ByteArray) (acc : List Beat) (k : Nat) : T (Ex × St) := .ret (.exit 0, ⟨[(5, .own 5)], [(5, ⟨false, 38, 5, (F.ofA x acc (l.drop k)).map eBeat⟩)]⟩)

noncomputable def prlROf (l : List Beat) (x : ByteArray) (acc : List Beat) (k : Nat) : Bool := decide (l.length ≤ 3000) && decide (k ≤ l.length) && decide (acc.length ≤ k)

noncomputable def lpROf : Nat × (St → T (Ex × St)) := (3, lpo [10, 9, 8, 5, 1] [5] stROf1 (fun a => prlROf a.1 a.2.1 a.2.2.1 a.2.2.2) fun a => outROf a.1 a.2.1 a.2.2.1 a.2.2.2)

noncomputable def enROf : Env := envH ty noG lks [] [] [] [lpROf]

theorem enROf_ok : EnvOK Try.prog enROf := by
  refine envH_ok lks_ok ty_ok ?_ ?_
  · simp
  · simp

theorem evROfL (l : List Beat) (x : ByteArray) (acc : List Beat) (k : Nat) : ((exec enROf (loopN Try.f35 0) (stROf l x acc k)).bind (lessX ([10, 9, 8, 5, 1], [5]) ([5], [5]) ([], []))).val =
  bif decide ((↑k : Int) < (↑(List.length l) : Int)) then Option.bind (unenc (List.map eBeat) (List.map eBeat l)) fun (z : List Beat) => bif decide (k < List.length z) then
  bif ByteArray.toList (List.getD z k (Beat.mk (ByteArray.mk (Array.mk [])) (0 : Int) (0 : Int) (0 : Int) (0 : Int))).session == ByteArray.toList x then bif Nat.ble
  ((List.length (List.map eBeat acc) + (1 : Nat)) * (48 : Nat)) (140737488355328 : Nat) && true then some (Ex.normal, St.mk [(10, (vI (IntKind.wrap IntKind.i64 ((↑k : Int) +
  (1 : Int))))), (9, (vI (↑(List.length l) : Int))), (8, AV.sl (List.map eBeat l)), (5, .own 5), (1, (vS x))] [(5, Blk.mk false 38 5 (List.map eBeat acc ++ [[(vS (List.getD
  z k (Beat.mk (ByteArray.mk (Array.mk [])) (0 : Int) (0 : Int) (0 : Int) (0 : Int))).session), (vI (List.getD z k (Beat.mk (ByteArray.mk (Array.mk [])) (0 : Int) (0 : Int)
  (0 : Int) (0 : Int))).no), (vI (List.getD z k (Beat.mk (ByteArray.mk (Array.mk [])) (0 : Int) (0 : Int) (0 : Int) (0 : Int))).time), (vI (List.getD z k (Beat.mk
  (ByteArray.mk (Array.mk [])) (0 : Int) (0 : Int) (0 : Int) (0 : Int))).state), (vI (List.getD z k (Beat.mk (ByteArray.mk (Array.mk [])) (0 : Int) (0 : Int) (0 : Int) (0 :
  Int))).rate)]]))]) else none else some (Ex.normal, St.mk [(10, (vI (IntKind.wrap IntKind.i64 ((↑k : Int) + (1 : Int))))), (9, (vI (↑(List.length l) : Int))), (8, AV.sl
  (List.map eBeat l)), (5, .own 5), (1, (vS x))] [(5, Blk.mk false 38 5 (List.map eBeat acc))]) else none else some (Ex.exit (0 : Nat), St.mk [(5, .own 5)] [(5, Blk.mk false
  38 5 (List.map eBeat acc))]) := (execR_bind _ _ _).symm.trans (by kernel_rfl)

theorem lpROf_ok (l : List Beat) (x : ByteArray) (acc : List Beat) (k : Nat) (hp : prlROf l x acc k = true) : ∀ ex s', (outROf l x acc k).val = some (ex, s') → LoopOK enROf (loopN Try.f35 0) (stROf l x acc k) ex s' := by
  simp only [prlROf, Bool.and_eq_true, decide_eq_true_eq] at hp
  obtain ⟨⟨h1, h2⟩, h3⟩ := hp
  refine loop_fold (xs := l) (st := fun a k => stROf l x a k) (f := F.ofS x) (fin := fun a => (.exit 0, ⟨[(5, .own 5)], [(5, ⟨false, 38, 5, a.map eBeat⟩)]⟩)) (I := fun a k => a.length ≤ k) (n := ([10, 9, 8, 5, 1], [5])) (e := ([5], [5])) (r := ([], [])) ?_ (fun _ => ⟨by simp, rfl⟩) (fun _ _ => rfl) ?_ acc k h2 h3
  · intro acc _
    rw [evROfL]; simp
  · intro acc k y hy hI
    have hlt := lt_at hy
    have hroom : Nat.ble ((acc.length + 1) * 48) 140737488355328 = true := ble_t (by omega)
    refine ⟨?_, by have := F.ofS_len x acc y; omega⟩
    rw [evROfL]
    simp only [unstROf, unstROf0, prlROf, outROf, etaBeat, etaSpan, etaHole, etaLevel, etaFigs, etaRatio, etaRep, etaStay, Option.bind_some, List.length_map, unStrs, unInts, unBools, uneL_eIs, unBeats, uneL_eBeats, unSpans, unHoles, unLevels, unFigss, unRatios, unReps, unStays, F.lt, F.le, cond_true, cond_false, Bool.and_true, Bool.true_and, cast_lt hlt, decide_eq_true hlt, next_at hlt (by omega : l.length ≤ 9223372036854775807), getD_at hy, stROf, hroom, F.ofS, appWBeats, etaBeat]
    cases (y.session.toList == x.toList) <;> rfl

theorem evROf (l : List Beat) (x : ByteArray) : (runF enROf false Try.f35 [.sl (l.map eBeat), vS x]).val =
  Option.bind (unenc stROf1 (St.mk [(10, (vI (0 : Int))), (9, (vI (↑(List.length (List.map eBeat l)) : Int))), (8, AV.sl (List.map eBeat l)), (5, .own 5), (1, (vS x))] [(5,
  Blk.mk false 38 5 [])])) fun (z : List Beat × ByteArray × List Beat × Nat) => bif decide (List.length z.fst ≤ (3000 : Nat)) && decide (z.snd.snd.snd ≤ List.length z.fst)
  && decide (List.length z.snd.snd.fst ≤ z.snd.snd.snd) && true then some (AV.sl (List.map eBeat (F.ofA z.snd.fst z.snd.snd.fst (List.drop z.snd.snd.snd z.fst))), []) else
  none := (runFR_val).symm.trans (by kernel_rfl)

def encROf1 (l : List Beat) (x : ByteArray) : List AV := [.sl (l.map eBeat), vS x]

def encROf (a : (List Beat) × ByteArray) : List AV := encROf1 a.1 a.2

theorem encROf_inj (a a' : (List Beat) × ByteArray) (h : encROf a = encROf a') : a = a' := by
  simp only [encROf, encROf1] at h
  try simp [strs_inj, ints_inj, bools_inj, eL_eIs_inj, eBeats_inj, eBeat_iff, eL_eBeats_inj, eSpans_inj, eSpan_iff, eHoles_inj, eHole_iff, eLevels_inj, eLevel_iff, eFigss_inj, eFigs_iff, eRatios_inj, eRatio_iff, eReps_inj, eRep_iff, eStays_inj, eStay_iff] at h
  grind

theorem unROf (l : List Beat) (x : ByteArray) : unenc encROf ([AV.sl (List.map eBeat l), (vS x)]) = some (l, x) := unenc_of encROf_inj (l, x) rfl

def resROf1 (l : List Beat) (x : ByteArray) : AV × Heap := (.sl ((F.ofA x [] l).map eBeat), [])

def preROf1 (l : List Beat) (x : ByteArray) : Bool := decide (l.length ≤ 3000)

noncomputable def oROf : Orc := orc 35 false encROf (fun a => preROf1 a.1 a.2) fun a => resROf1 a.1 a.2

theorem okROf : OrcOK Try.prog noG oROf := by
  refine mk_ok Try.f35 (keep := false) (by kernel_rfl) (by kernel_rfl) enROf_ok mixed (one_loop (x0 := loopN Try.f35 0) (by kernel_rfl) (lpo_ok ?_)) (by first | exact fun _ _ => ⟨rfl, rfl⟩ | (intro h; cases h)) ?_
  · rintro ⟨l, x, acc, k⟩ hp
    exact lpROf_ok l x acc k hp
  rintro ⟨l, x⟩ hpre hok
  show (runF enROf false _ (encROf1 _ _)).val = some (resROf1 _ _)
  unfold encROf1 resROf1
  rw [evROf]
  simp only [preROf1, decide_eq_true_eq] at hpre
  simp only [unstROf, unstROf0, prlROf, outROf, etaBeat, etaSpan, etaHole, etaLevel, etaFigs, etaRatio, etaRep, etaStay, Option.bind_some, List.length_map, unStrs, unInts, unBools, uneL_eIs, unBeats, uneL_eBeats, unSpans, unHoles, unLevels, unFigss, unRatios, unReps, unStays, F.lt, F.le, cond_true, cond_false, Bool.and_true, Bool.true_and, List.drop_zero, Nat.zero_le, decide_true, List.length_nil, List.map_nil, hpre]

def stSsn (l : List Beat) (acc : List ByteArray) (k : Nat) : St := ⟨[(8, vI k), (7, vI l.length), (6, .sl (l.map eBeat)), (3, .own 3)], [(3, ⟨false, 9, 1, acc.map eStr⟩)]⟩

def stSsn1 (a : (List Beat) × (List ByteArray) × Nat) : St := stSsn a.1 a.2.1 a.2.2

theorem stSsn_inj (a a' : (List Beat) × (List ByteArray) × Nat) (h : stSsn1 a = stSsn1 a') : a = a' := by
  simp only [stSsn1, stSsn] at h
  try simp [strs_inj, ints_inj, bools_inj, eL_eIs_inj, eBeats_inj, eBeat_iff, eL_eBeats_inj, eSpans_inj, eSpan_iff, eHoles_inj, eHole_iff, eLevels_inj, eLevel_iff, eFigss_inj, eFigs_iff, eRatios_inj, eRatio_iff, eReps_inj, eRep_iff, eStays_inj, eStay_iff] at h
  grind

theorem unstSsn (l : List Beat) (acc : List ByteArray) (k : Nat) : unenc stSsn1 (St.mk [(8, (vI (↑k : Int))), (7, (vI (↑(List.length l) : Int))), (6, AV.sl (List.map eBeat l)), (3, .own 3)] [(3, Blk.mk false 9 1 (List.map eStr acc))]) = some (l, acc, k) := unenc_of stSsn_inj (l, acc, k) rfl

theorem unstSsn0 (l : List Beat)  : unenc stSsn1 (St.mk [(8, (vI (0 : Int))), (7, (vI (↑(List.length l) : Int))), (6, AV.sl (List.map eBeat l)), (3, .own 3)] [(3, Blk.mk false 9 1 [])]) = some (l, [], 0) := unenc_of stSsn_inj (l, [], 0) rfl

def outSsn (l : List Beat) (acc : List ByteArray) (k : Nat) : T (Ex × St) := .ret (.exit 0, ⟨[(3, .own 3)], [(3, ⟨false, 9, 1, (acc ++ (l.drop k).map (·.session)).map eStr⟩)]⟩)

noncomputable def prlSsn (l : List Beat) (acc : List ByteArray) (k : Nat) : Bool := decide (l.length ≤ 3000) && decide (k ≤ l.length) && decide (acc.length ≤ k)

noncomputable def lpSsn : Nat × (St → T (Ex × St)) := (3, lpo [8, 7, 6, 3] [3] stSsn1 (fun a => prlSsn a.1 a.2.1 a.2.2) fun a => outSsn a.1 a.2.1 a.2.2)

noncomputable def enSsn : Env := envH ty noG lks [] [oCs] [] [lpSsn]

theorem enSsn_ok : EnvOK Try.prog enSsn := by
  refine envH_ok lks_ok ty_ok ?_ ?_
  · simp
  · simp only [List.forall_mem_cons]
    exact ⟨okCs, by simp⟩

theorem evSsnL (l : List Beat) (acc : List ByteArray) (k : Nat) : ((exec enSsn (loopN Try.f25 0) (stSsn l acc k)).bind (lessX ([8, 7, 6, 3], [3]) ([3], [3]) ([], []))).val =
  bif decide ((↑k : Int) < (↑(List.length l) : Int)) then Option.bind (unenc (List.map eBeat) (List.map eBeat l)) fun (z : List Beat) => bif decide (k < List.length z) then
  bif Nat.ble ((List.length (List.map eStr acc) + (1 : Nat)) * (16 : Nat)) (140737488355328 : Nat) && true then some (Ex.normal, St.mk [(8, (vI (IntKind.wrap IntKind.i64
  ((↑k : Int) + (1 : Int))))), (7, (vI (↑(List.length l) : Int))), (6, AV.sl (List.map eBeat l)), (3, .own 3)] [(3, Blk.mk false 9 1 (List.map eStr acc ++ [[(vS (List.getD z
  k (Beat.mk (ByteArray.mk (Array.mk [])) (0 : Int) (0 : Int) (0 : Int) (0 : Int))).session)]]))]) else none else none else some (Ex.exit (0 : Nat), St.mk [(3, .own 3)] [(3,
  Blk.mk false 9 1 (List.map eStr acc))]) := (execR_bind _ _ _).symm.trans (by kernel_rfl)

theorem lpSsn_ok (l : List Beat) (acc : List ByteArray) (k : Nat) (hp : prlSsn l acc k = true) : ∀ ex s', (outSsn l acc k).val = some (ex, s') → LoopOK enSsn (loopN Try.f25 0) (stSsn l acc k) ex s' := by
  simp only [prlSsn, Bool.and_eq_true, decide_eq_true_eq] at hp
  obtain ⟨⟨h1, h2⟩, h3⟩ := hp
  refine loop_gen (st := fun s : Nat × List ByteArray => stSsn l s.2 s.1) (out := fun s => outSsn l s.2 s.1) (I := fun s => s.1 ≤ l.length ∧ s.2.length ≤ s.1) (n := ([8, 7, 6, 3], [3])) (e := ([3], [3])) (r := ([], [])) (fun s => l.length - s.1) ?_ (k, acc) ⟨h2, h3⟩
  rintro ⟨k, acc⟩ ⟨h2, h3⟩
  simp only at h2 h3
  by_cases hlt : k < l.length
  · right
    obtain ⟨y, hy⟩ := at_lt hlt
    refine ⟨(k + 1, acc ++ [y.session]), ?_, rfl, ⟨hlt, by simp only [List.length_append, List.length_cons, List.length_nil]; omega⟩, by simp only; omega, ?_⟩
    · rw [evSsnL]
      simp only [unCs, preCs1, unstSsn, unstSsn0, prlSsn, outSsn, etaBeat, etaSpan, etaHole, etaLevel, etaFigs, etaRatio, etaRep, etaStay, Option.bind_some, List.length_map, unStrs, unInts, unBools, uneL_eIs, unBeats, uneL_eBeats, unSpans, unHoles, unLevels, unFigss, unRatios, unReps, unStays, F.lt, F.le, cond_true, cond_false, Bool.and_true, Bool.true_and, cast_lt hlt, decide_eq_true hlt, w_add1 (show k < 9223372036854775807 by omega), getD_at hy, stSsn, ble_t (show (acc.length + 1) * 16 ≤ 140737488355328 by omega), appStrs']
    · simp only [outSsn, drop_at hy, List.map_cons, List.append_assoc, List.singleton_append]
  · left
    have : k = l.length := by omega
    subst this
    refine ⟨_, ?_, rfl, by simp, rfl⟩
    rw [evSsnL]
    simp only [cast_ge, cond_false, List.drop_length, List.map_nil, List.append_nil]

theorem evSsn (l : List Beat) : (runF enSsn false Try.f25 [.sl (l.map eBeat)]).val =
  Option.bind (unenc stSsn1 (St.mk [(8, (vI (0 : Int))), (7, (vI (↑(List.length (List.map eBeat l)) : Int))), (6, AV.sl (List.map eBeat l)), (3, .own 3)] [(3, Blk.mk false 9
  1 [])])) fun (z : List Beat × List ByteArray × Nat) => bif decide (List.length z.fst ≤ (3000 : Nat)) && decide (z.snd.snd ≤ List.length z.fst) && decide (List.length
  z.snd.fst ≤ z.snd.snd) && true then Option.bind (unenc encCs ([.own 900], [(900, Blk.mk false 9 1 (List.map eStr (z.snd.fst ++ List.map (fun (x : Beat) => x.session)
  (List.drop z.snd.snd z.fst))))])) fun (z : List ByteArray) => bif decide (List.length z ≤ (100000 : Nat)) then some (AV.sl (List.take (List.length (F.ds z)) (List.map eStr
  (F.ds z ++ List.replicate (List.length z - List.length (F.ds z)) (ByteArray.mk (Array.mk []))))), []) else none else none := (runFR_val).symm.trans (by kernel_rfl)

def encSsn1 (l : List Beat) : List AV := [.sl (l.map eBeat)]

def encSsn (a : (List Beat)) : List AV := encSsn1 a

theorem encSsn_inj (a a' : (List Beat)) (h : encSsn a = encSsn a') : a = a' := by
  simp only [encSsn, encSsn1] at h
  try simp [strs_inj, ints_inj, bools_inj, eL_eIs_inj, eBeats_inj, eBeat_iff, eL_eBeats_inj, eSpans_inj, eSpan_iff, eHoles_inj, eHole_iff, eLevels_inj, eLevel_iff, eFigss_inj, eFigs_iff, eRatios_inj, eRatio_iff, eReps_inj, eRep_iff, eStays_inj, eStay_iff] at h
  grind

theorem unSsn (l : List Beat) : unenc encSsn ([AV.sl (List.map eBeat l)]) = some (l) := unenc_of encSsn_inj (l) rfl

def resSsn1 (l : List Beat) : AV × Heap := (.sl ((F.sess l).map eStr), [])

def preSsn1 (l : List Beat) : Bool := decide (l.length ≤ 3000)

noncomputable def oSsn : Orc := orc 25 false encSsn (fun a => preSsn1 a) fun a => resSsn1 a

theorem okSsn : OrcOK Try.prog noG oSsn := by
  refine mk_ok Try.f25 (keep := false) (by kernel_rfl) (by kernel_rfl) enSsn_ok mixed (one_loop (x0 := loopN Try.f25 0) (by kernel_rfl) (lpo_ok ?_)) (by first | exact fun _ _ => ⟨rfl, rfl⟩ | (intro h; cases h)) ?_
  · rintro ⟨l, acc, k⟩ hp
    exact lpSsn_ok l acc k hp
  rintro l hpre hok
  show (runF enSsn false _ (encSsn1 _)).val = some (resSsn1 _)
  unfold encSsn1 resSsn1
  rw [evSsn]
  simp only [preSsn1, decide_eq_true_eq] at hpre
  have h1 : l.length ≤ 100000 := by omega
  simp only [unCs, preCs1, unstSsn, unstSsn0, prlSsn, outSsn, etaBeat, etaSpan, etaHole, etaLevel, etaFigs, etaRatio, etaRep, etaStay, Option.bind_some, List.length_map, unStrs, unInts, unBools, uneL_eIs, unBeats, uneL_eBeats, unSpans, unHoles, unLevels, unFigss, unRatios, unReps, unStays, F.lt, F.le, cond_true, cond_false, Bool.and_true, Bool.true_and, List.drop_zero, Nat.zero_le, decide_true, List.length_nil, List.map_nil, List.nil_append, hpre, h1]
  rw [List.map_append, List.take_left' (by rw [List.length_map])]
  rfl

def stRpt (x : Nat) (y : Nat) (a : Nat) (b : Nat) : St := ⟨[(6, vI b), (5, vI a), (4, .ptr 4 0 0), (1, vI y), (0, vI x)], [(4, ⟨true, 0, 0, [[vI 0, vI 0]]⟩)]⟩

def stRpt1 (a : Nat × Nat × Nat × Nat) : St := stRpt a.1 a.2.1 a.2.2.1 a.2.2.2

theorem stRpt_inj (a a' : Nat × Nat × Nat × Nat) (h : stRpt1 a = stRpt1 a') : a = a' := by
  simp only [stRpt1, stRpt] at h
  try simp [strs_inj, ints_inj, bools_inj, eL_eIs_inj, eBeats_inj, eBeat_iff, eL_eBeats_inj, eSpans_inj, eSpan_iff, eHoles_inj, eHole_iff, eLevels_inj, eLevel_iff, eFigss_inj, eFigs_iff, eRatios_inj, eRatio_iff, eReps_inj, eRep_iff, eStays_inj, eStay_iff] at h
  grind

theorem unstRpt (x : Nat) (y : Nat) (a : Nat) (b : Nat) : unenc stRpt1 (St.mk [(6, (vI (↑b : Int))), (5, (vI (↑a : Int))), (4, .ptr 4 0 0), (1, (vI (↑y : Int))), (0, (vI (↑x : Int)))] [(4, Blk.mk true 0 0 [[(vI (0 : Int)), (vI (0 : Int))]])]) = some (x, y, a, b) := unenc_of stRpt_inj (x, y, a, b) rfl

def outRpt (x : Nat) (y : Nat) (a : Nat) (b : Nat) : T (Ex × St) := .ret (.exit 0, ⟨[(5, vI (Nat.gcd a b)), (4, .ptr 4 0 0), (1, vI y), (0, vI x)], [(4, ⟨true, 0, 0, [[vI 0, vI 0]]⟩)]⟩)

noncomputable def prlRpt (x : Nat) (y : Nat) (a : Nat) (b : Nat) : Bool := decide (a ≤ 9223372036854775807 ∧ b ≤ 9223372036854775807)

noncomputable def lpRpt : Nat × (St → T (Ex × St)) := (4, lpo [6, 5, 4, 1, 0] [4] stRpt1 (fun a => prlRpt a.1 a.2.1 a.2.2.1 a.2.2.2) fun a => outRpt a.1 a.2.1 a.2.2.1 a.2.2.2)

noncomputable def enRpt : Env := envH ty noG lks [] [] [] [lpRpt]

theorem enRpt_ok : EnvOK Try.prog enRpt := by
  refine envH_ok lks_ok ty_ok ?_ ?_
  · simp
  · simp

theorem evRptL (x : Nat) (y : Nat) (a : Nat) (b : Nat) : ((exec enRpt (loopN Try.f44 0) (stRpt x y a b)).bind (lessX ([6, 5, 4, 1, 0], [4]) ([5, 4, 1, 0], [4]) ([], []))).val =
  bif decide ((0 : Int) < (↑b : Int)) then bif (↑b : Int) == (0 : Int) then none else some (Ex.normal, St.mk [(6, (vI (Int.tmod (↑a : Int) (↑b : Int)))), (5, (vI (↑b :
  Int))), (4, .ptr 4 0 0), (1, (vI (↑y : Int))), (0, (vI (↑x : Int)))] [(4, Blk.mk true 0 0 [[(vI (0 : Int)), (vI (0 : Int))]])]) else some (Ex.exit (0 : Nat), St.mk [(5,
  (vI (↑a : Int))), (4, .ptr 4 0 0), (1, (vI (↑y : Int))), (0, (vI (↑x : Int)))] [(4, Blk.mk true 0 0 [[(vI (0 : Int)), (vI (0 : Int))]])]) := (execR_bind _ _ _).symm.trans (by kernel_rfl)

theorem lpRpt_ok (x : Nat) (y : Nat) (a : Nat) (b : Nat) (hp : prlRpt x y a b = true) : ∀ ex s', (outRpt x y a b).val = some (ex, s') → LoopOK enRpt (loopN Try.f44 0) (stRpt x y a b) ex s' := by
  simp only [prlRpt, Bool.and_eq_true, decide_eq_true_eq] at hp
  refine loop_gen (st := fun s : Nat × Nat => stRpt x y s.1 s.2) (out := fun s => outRpt x y s.1 s.2) (I := fun s => s.1 ≤ 9223372036854775807 ∧ s.2 ≤ 9223372036854775807) (n := ([6, 5, 4, 1, 0], [4])) (e := ([5, 4, 1, 0], [4])) (r := ([], [])) (fun s => s.2) ?_ (a, b) hp
  rintro ⟨a, b⟩ ⟨h1, h2⟩
  simp only at h1 h2
  by_cases h0 : b = 0
  · subst h0
    left
    refine ⟨_, ?_, rfl, by simp, rfl⟩
    rw [evRptL]
    simp only [Nat.gcd_zero_right]
    rfl
  · right
    have hm : a % b < b := Nat.mod_lt _ (by omega)
    refine ⟨(b, a % b), ?_, rfl, ⟨h2, by simp only; omega⟩, hm, ?_⟩
    · rw [evRptL]
      have e1 : ((b : Int) == 0) = false := by rw [beq_eq_false_iff_ne]; omega
      have e2 : decide (0 < (b : Int)) = true := decide_eq_true (by omega)
      simp only [e1, e2, cond_true, cond_false, ← Int.ofNat_tmod, stRpt]
    · simp only [outRpt]
      rw [Nat.gcd_comm a b, Nat.gcd_rec b a, Nat.gcd_comm (a % b) b]

theorem evRpt (x : Nat) (y : Nat) : (runF enRpt false Try.f44 [vI x, vI y]).val =
  bif (↑y : Int) == (0 : Int) then some (AV.agg [(vI (0 : Int)), (vI (1 : Int))], []) else Option.bind (unenc stRpt1 (St.mk [(6, (vI (↑y : Int))), (5, (vI (↑x : Int))), (4,
  .ptr 4 0 0), (1, (vI (↑y : Int))), (0, (vI (↑x : Int)))] [(4, Blk.mk true 0 0 [[(vI (0 : Int)), (vI (0 : Int))]])])) fun (z : Nat × Nat × Nat × Nat) => bif decide
  (z.snd.snd.fst ≤ (9223372036854775807 : Nat) ∧ z.snd.snd.snd ≤ (9223372036854775807 : Nat)) && true then bif (↑(Nat.gcd z.snd.snd.fst z.snd.snd.snd) : Int) == (0 : Int)
  then none else bif (↑(Nat.gcd z.snd.snd.fst z.snd.snd.snd) : Int) == (0 : Int) then none else some (AV.agg [(vI (IntKind.wrap IntKind.i64 (Int.tdiv (↑z.fst : Int)
  (↑(Nat.gcd z.snd.snd.fst z.snd.snd.snd) : Int)))), (vI (IntKind.wrap IntKind.i64 (Int.tdiv (↑z.snd.fst : Int) (↑(Nat.gcd z.snd.snd.fst z.snd.snd.snd) : Int))))], []) else
  none := (runFR_val).symm.trans (by kernel_rfl)

def encRpt1 (x : Nat) (y : Nat) : List AV := [vI x, vI y]

def encRpt (a : Nat × Nat) : List AV := encRpt1 a.1 a.2

theorem encRpt_inj (a a' : Nat × Nat) (h : encRpt a = encRpt a') : a = a' := by
  simp only [encRpt, encRpt1] at h
  try simp [strs_inj, ints_inj, bools_inj, eL_eIs_inj, eBeats_inj, eBeat_iff, eL_eBeats_inj, eSpans_inj, eSpan_iff, eHoles_inj, eHole_iff, eLevels_inj, eLevel_iff, eFigss_inj, eFigs_iff, eRatios_inj, eRatio_iff, eReps_inj, eRep_iff, eStays_inj, eStay_iff] at h
  grind

theorem unRpt (x : Nat) (y : Nat) : unenc encRpt ([(vI (↑x : Int)), (vI (↑y : Int))]) = some (x, y) := unenc_of encRpt_inj (x, y) rfl

def resRpt1 (x : Nat) (y : Nat) : AV × Heap := (.agg (eRatio (F.ratio x y)), [])

def preRpt1 (x : Nat) (y : Nat) : Bool := decide (x ≤ 9223372036854775807 ∧ y ≤ 9223372036854775807)

noncomputable def oRpt : Orc := orc 44 true encRpt (fun a => preRpt1 a.1 a.2) fun a => resRpt1 a.1 a.2

theorem okRpt : OrcOK Try.prog noG oRpt := by
  refine mk_ok Try.f44 (keep := false) (by kernel_rfl) (by kernel_rfl) enRpt_ok mixed (one_loop (x0 := loopN Try.f44 0) (by kernel_rfl) (lpo_ok ?_)) (by first | exact fun _ _ => ⟨rfl, rfl⟩ | (intro h; cases h)) ?_
  · rintro ⟨x, y, a, b⟩ hp
    exact lpRpt_ok x y a b hp
  rintro ⟨x, y⟩ hpre hok
  show (runF enRpt false _ (encRpt1 _ _)).val = some (resRpt1 _ _)
  unfold encRpt1 resRpt1
  rw [evRpt]
  simp only [preRpt1, decide_eq_true_eq] at hpre
  obtain ⟨h1, h2⟩ := hpre
  simp only [unstRpt, prlRpt, outRpt, etaBeat, etaSpan, etaHole, etaLevel, etaFigs, etaRatio, etaRep, etaStay, Option.bind_some, List.length_map, unStrs, unInts, unBools, uneL_eIs, unBeats, uneL_eBeats, unSpans, unHoles, unLevels, unFigss, unRatios, unReps, unStays, F.lt, F.le, cond_true, cond_false, Bool.and_true, Bool.true_and, h1, h2, and_self, decide_true]
  by_cases h0 : y = 0
  · subst h0; rfl
  · have hg : 0 < Nat.gcd x y := Nat.gcd_pos_of_pos_right x (by omega)
    have e1 : ((y : Int) == 0) = false := by rw [beq_eq_false_iff_ne]; omega
    have e2 : (((Nat.gcd x y : Nat) : Int) == 0) = false := by rw [beq_eq_false_iff_ne]; omega
    have e3 : (y == 0) = false := beq_eq_false_iff_ne.2 h0
    have d1 : x / Nat.gcd x y ≤ x := Nat.div_le_self ..
    have d2 : y / Nat.gcd x y ≤ y := Nat.div_le_self ..
    simp only [e1, e2, cond_false, ← Int.ofNat_tdiv, F.ratio, e3]
    rw [w_nat (n := x / Nat.gcd x y) (by omega), w_nat (n := y / Nat.gcd x y) (by omega)]
    rfl

def stTho (l : List Int) (m : Nat) (k : Nat) : St := ⟨[(9, vI k), (8, vI l.length), (7, .sl (l.map eI)), (1, vI m), (0, .sl (l.map eI))], []⟩

def stTho1 (a : (List Int) × Nat × Nat) : St := stTho a.1 a.2.1 a.2.2

theorem stTho_inj (a a' : (List Int) × Nat × Nat) (h : stTho1 a = stTho1 a') : a = a' := by
  simp only [stTho1, stTho] at h
  try simp [strs_inj, ints_inj, bools_inj, eL_eIs_inj, eBeats_inj, eBeat_iff, eL_eBeats_inj, eSpans_inj, eSpan_iff, eHoles_inj, eHole_iff, eLevels_inj, eLevel_iff, eFigss_inj, eFigs_iff, eRatios_inj, eRatio_iff, eReps_inj, eRep_iff, eStays_inj, eStay_iff] at h
  grind

theorem unstTho (l : List Int) (m : Nat) (k : Nat) : unenc stTho1 (St.mk [(9, (vI (↑k : Int))), (8, (vI (↑(List.length l) : Int))), (7, AV.sl (List.map eI l)), (1, (vI (↑m : Int))), (0, AV.sl (List.map eI l))] []) = some (l, m, k) := unenc_of stTho_inj (l, m, k) rfl

theorem unstTho0 (l : List Int) (m : Nat)  : unenc stTho1 (St.mk [(9, (vI (0 : Int))), (8, (vI (↑(List.length l) : Int))), (7, AV.sl (List.map eI l)), (1, (vI (↑m : Int))), (0, AV.sl (List.map eI l))] []) = some (l, m, 0) := unenc_of stTho_inj (l, m, 0) rfl

def outTho (l : List Int) (m : Nat) (k : Nat) : T (Ex × St) := .ifB (decide (k < l.length)) (.ret (.ret, ⟨[(4, vI (F.least l m))], []⟩)) (.ret (.exit 0, ⟨[], []⟩))

noncomputable def prlTho (l : List Int) (m : Nat) (k : Nat) : Bool := decide (l.length ≤ 3000 ∧ 1 ≤ m ∧ m ≤ 1000 ∧ k = 0)

noncomputable def lpTho : Nat × (St → T (Ex × St)) := (2, lpo [9, 8, 7, 1, 0] [] stTho1 (fun a => prlTho a.1 a.2.1 a.2.2) fun a => outTho a.1 a.2.1 a.2.2)

noncomputable def enTho : Env := envH ty noG lks [] [] [] [lpTho]

theorem enTho_ok : EnvOK Try.prog enTho := by
  refine envH_ok lks_ok ty_ok ?_ ?_
  · simp
  · simp

theorem evThoL (l : List Int) (m : Nat) (k : Nat) : ((exec enTho (loopN Try.f43 0) (stTho l m k)).bind (lessX ([9, 8, 7, 1, 0], []) ([], []) ([4], []))).val =
  bif decide ((↑k : Int) < (↑(List.length l) : Int)) then Option.bind (unenc (List.map eI) (List.map eI l)) fun (z : List Int) => bif decide (k < List.length z) then bif
  decide (IntKind.wrap IntKind.i64 ((↑m : Int) * (↑(List.length (List.map eI l)) : Int)) ≤ IntKind.wrap IntKind.i64 ((1000 : Int) * IntKind.wrap IntKind.i64 ((↑k : Int) + (1
  : Int)))) then some (Ex.ret, St.mk [(4, (vI (List.getD z k (0 : Int))))] []) else some (Ex.normal, St.mk [(9, (vI (IntKind.wrap IntKind.i64 ((↑k : Int) + (1 : Int))))),
  (8, (vI (↑(List.length l) : Int))), (7, AV.sl (List.map eI l)), (1, (vI (↑m : Int))), (0, AV.sl (List.map eI l))] []) else none else some (Ex.exit (0 : Nat), St.mk [] []) := (execR_bind _ _ _).symm.trans (by kernel_rfl)

theorem lpTho_ok (l : List Int) (m : Nat) (k : Nat) (hp : prlTho l m k = true) : ∀ ex s', (outTho l m k).val = some (ex, s') → LoopOK enTho (loopN Try.f43 0) (stTho l m k) ex s' := by
  simp only [prlTho, Bool.and_eq_true, decide_eq_true_eq] at hp
  obtain ⟨h1, h2, h3, rfl⟩ := hp
  have hp1 : l.length * 1 ≤ l.length * m := Nat.mul_le_mul_left _ h2
  have hp2 : l.length * m ≤ l.length * 1000 := Nat.mul_le_mul_left _ h3
  refine loop_gen (st := stTho l m) (out := outTho l m) (I := fun k => k ≤ l.length ∧ (k = 0 ∨ 1000 * k < l.length * m)) (n := ([9, 8, 7, 1, 0], [])) (e := ([], [])) (r := ([4], [])) (fun k => l.length - k) ?_ 0 ⟨Nat.zero_le _, .inl rfl⟩
  rintro k ⟨hk, hi⟩
  by_cases hlt : k < l.length
  · obtain ⟨y, hy⟩ := at_lt hlt
    have w1 : IntKind.i64.wrap (1000 * ((k + 1 : Nat) : Int)) = ((1000 * (k + 1) : Nat) : Int) := by rw [wrap_id (by omega) (by omega)]; omega
    have w2 : IntKind.i64.wrap ((m : Int) * (l.length : Int)) = ((l.length * m : Nat) : Int) := by
      rw [← Int.natCast_mul, Nat.mul_comm m, w_nat (by omega)]
    by_cases hc : l.length * m ≤ 1000 * (k + 1)
    · left
      refine ⟨(.ret, ⟨[(4, vI (F.least l m))], []⟩), ?_, ?_, by simp, rfl⟩
      · rw [evThoL]
        simp only [unstTho, unstTho0, prlTho, outTho, etaBeat, etaSpan, etaHole, etaLevel, etaFigs, etaRatio, etaRep, etaStay, Option.bind_some, List.length_map, unStrs, unInts, unBools, uneL_eIs, unBeats, uneL_eBeats, unSpans, unHoles, unLevels, unFigss, unRatios, unReps, unStays, F.lt, F.le, cond_true, cond_false, Bool.and_true, Bool.true_and, cast_lt hlt, decide_eq_true hlt, w_add1 (show k < 9223372036854775807 by omega), getD_at hy, w1, w2, dle, decide_eq_true hc]
        have e0 : (l.length == 0) = false := beq_eq_false_iff_ne.2 (by omega)
        have e1 : (l.length * m + 999) / 1000 - 1 = k := by rcases hi with h | h <;> omega
        rw [F.least, e0, cond_false, e1, getD_at hy]
      · simp only [outTho, decide_eq_true hlt]
        rfl
    · right
      have hlt2 : k + 1 < l.length := by omega
      refine ⟨k + 1, ?_, rfl, ⟨hlt, .inr (by omega)⟩, by omega, ?_⟩
      · rw [evThoL]
        simp only [unstTho, unstTho0, prlTho, outTho, etaBeat, etaSpan, etaHole, etaLevel, etaFigs, etaRatio, etaRep, etaStay, Option.bind_some, List.length_map, unStrs, unInts, unBools, uneL_eIs, unBeats, uneL_eBeats, unSpans, unHoles, unLevels, unFigss, unRatios, unReps, unStays, F.lt, F.le, cond_true, cond_false, Bool.and_true, Bool.true_and, cast_lt hlt, decide_eq_true hlt, w_add1 (show k < 9223372036854775807 by omega), getD_at hy, w1, w2, dle, decide_eq_false hc, stTho]
      · simp only [outTho, decide_eq_true hlt, decide_eq_true hlt2]
  · have : k = l.length := by omega
    subst this
    left
    refine ⟨(.exit 0, ⟨[], []⟩), ?_, ?_, by simp, rfl⟩
    · rw [evThoL]
      simp only [cast_ge, cond_false]
    · simp only [outTho, decide_eq_false hlt]
      rfl

theorem evTho (l : List Int) (m : Nat) : (runF enTho false Try.f43 [.sl (l.map eI), vI m]).val =
  Option.bind (unenc stTho1 (St.mk [(9, (vI (0 : Int))), (8, (vI (↑(List.length (List.map eI l)) : Int))), (7, AV.sl (List.map eI l)), (1, (vI (↑m : Int))), (0, AV.sl
  (List.map eI l))] [])) fun (z : List Int × Nat × Nat) => bif decide (List.length z.fst ≤ (3000 : Nat) ∧ (1 : Nat) ≤ z.snd.fst ∧ z.snd.fst ≤ (1000 : Nat) ∧ z.snd.snd = (0 :
  Nat)) && true then bif decide (z.snd.snd < List.length z.fst) then some ((vI (F.least z.fst z.snd.fst)), []) else some ((vI (0 : Int)), []) else none := (runFR_val).symm.trans (by kernel_rfl)

def encTho1 (l : List Int) (m : Nat) : List AV := [.sl (l.map eI), vI m]

def encTho (a : (List Int) × Nat) : List AV := encTho1 a.1 a.2

theorem encTho_inj (a a' : (List Int) × Nat) (h : encTho a = encTho a') : a = a' := by
  simp only [encTho, encTho1] at h
  try simp [strs_inj, ints_inj, bools_inj, eL_eIs_inj, eBeats_inj, eBeat_iff, eL_eBeats_inj, eSpans_inj, eSpan_iff, eHoles_inj, eHole_iff, eLevels_inj, eLevel_iff, eFigss_inj, eFigs_iff, eRatios_inj, eRatio_iff, eReps_inj, eRep_iff, eStays_inj, eStay_iff] at h
  grind

theorem unTho (l : List Int) (m : Nat) : unenc encTho ([AV.sl (List.map eI l), (vI (↑m : Int))]) = some (l, m) := unenc_of encTho_inj (l, m) rfl

def resTho1 (l : List Int) (m : Nat) : AV × Heap := (vI (F.least l m), [])

def preTho1 (l : List Int) (m : Nat) : Bool := decide (l.length ≤ 3000 ∧ 1 ≤ m ∧ m ≤ 1000)

noncomputable def oTho : Orc := orc 43 true encTho (fun a => preTho1 a.1 a.2) fun a => resTho1 a.1 a.2

theorem okTho : OrcOK Try.prog noG oTho := by
  refine mk_ok Try.f43 (keep := false) (by kernel_rfl) (by kernel_rfl) enTho_ok mixed (one_loop (x0 := loopN Try.f43 0) (by kernel_rfl) (lpo_ok ?_)) (by first | exact fun _ _ => ⟨rfl, rfl⟩ | (intro h; cases h)) ?_
  · rintro ⟨l, m, k⟩ hp
    exact lpTho_ok l m k hp
  rintro ⟨l, m⟩ hpre hok
  show (runF enTho false _ (encTho1 _ _)).val = some (resTho1 _ _)
  unfold encTho1 resTho1
  rw [evTho]
  simp only [preTho1, decide_eq_true_eq] at hpre
  have q1 : l.length ≤ 3000 ∧ 1 ≤ m ∧ m ≤ 1000 ∧ 0 = 0 := ⟨hpre.1, hpre.2.1, hpre.2.2, rfl⟩
  simp only [unstTho, unstTho0, prlTho, outTho, etaBeat, etaSpan, etaHole, etaLevel, etaFigs, etaRatio, etaRep, etaStay, Option.bind_some, List.length_map, unStrs, unInts, unBools, uneL_eIs, unBeats, uneL_eBeats, unSpans, unHoles, unLevels, unFigss, unRatios, unReps, unStays, F.lt, F.le, cond_true, cond_false, Bool.and_true, Bool.true_and, q1, and_self, decide_true]
  by_cases h0 : 0 < l.length
  · rw [decide_eq_true h0]; rfl
  · have e0 : l.length = 0 := by omega
    rw [decide_eq_false h0]
    simp only [F.least, e0]
    rfl

noncomputable def enWnd : Env := envH ty noG lks [oRqF, oRng] [] [] []

theorem enWnd_ok : EnvOK Try.prog enWnd := by
  refine envH_ok lks_ok ty_ok ?_ ?_
  · simp only [List.forall_mem_cons]
    exact ⟨okRqF, okRng, by simp⟩
  · simp

theorem evWnd (l : List Beat) (q : Int) (w : Span) : (runF enWnd false Try.f31 [.sl (l.map eBeat), vI q, .agg (eSpan w)]).val =
  Option.bind (unenc encRqF [AV.sl (List.map eBeat l), (vI q)]) fun (z : List Beat × Int) => bif F.quietF z.fst z.snd != (0 : Int) then some ((vI (F.quietF z.fst z.snd)),
  []) else Option.bind (unenc encRng [(vI w.fr), (vI (0 : Int)), (vI (2000000000000 : Int))]) fun (z : Int × Int × Int) => bif !!!F.out z.fst z.snd.fst z.snd.snd then
  Option.bind (unenc encRng [(vI w.to), (vI (0 : Int)), (vI (2000000000000 : Int))]) fun (z : Int × Int × Int) => bif !!F.out z.fst z.snd.fst z.snd.snd then some ((vI (1 :
  Int)), []) else bif decide (w.to ≤ w.fr) then some ((vI (8 : Int)), []) else some ((vI (0 : Int)), []) else some ((vI (1 : Int)), []) := (runFR_val).symm.trans (by kernel_rfl)

def encWnd1 (l : List Beat) (q : Int) (w : Span) : List AV := [.sl (l.map eBeat), vI q, .agg (eSpan w)]

def encWnd (a : (List Beat) × Int × Span) : List AV := encWnd1 a.1 a.2.1 a.2.2

theorem encWnd_inj (a a' : (List Beat) × Int × Span) (h : encWnd a = encWnd a') : a = a' := by
  simp only [encWnd, encWnd1] at h
  try simp [strs_inj, ints_inj, bools_inj, eL_eIs_inj, eBeats_inj, eBeat_iff, eL_eBeats_inj, eSpans_inj, eSpan_iff, eHoles_inj, eHole_iff, eLevels_inj, eLevel_iff, eFigss_inj, eFigs_iff, eRatios_inj, eRatio_iff, eReps_inj, eRep_iff, eStays_inj, eStay_iff] at h
  grind

theorem unWnd (l : List Beat) (q : Int) (w : Span) : unenc encWnd ([AV.sl (List.map eBeat l), (vI q), AV.agg [(vI w.fr), (vI w.to)]]) = some (l, q, w) := unenc_of encWnd_inj (l, q, w) rfl

theorem unWndw (l : List Beat) (q : Int) (w_fr : Int) (w_to : Int) : unenc encWnd ([AV.sl (List.map eBeat l), (vI q), AV.agg [(vI w_fr), (vI w_to)]]) = some (l, q, (Span.mk w_fr w_to)) := unenc_of encWnd_inj (l, q, (Span.mk w_fr w_to)) rfl

def resWnd1 (l : List Beat) (q : Int) (w : Span) : AV × Heap := (vI (F.spanF l q w), [])

def preWnd1 (l : List Beat) (q : Int) (w : Span) : Bool := true

noncomputable def oWnd : Orc := orc 31 true encWnd (fun a => preWnd1 a.1 a.2.1 a.2.2) fun a => resWnd1 a.1 a.2.1 a.2.2

theorem okWnd : OrcOK Try.prog noG oWnd := by
  refine mk_ok Try.f31 (keep := false) (by kernel_rfl) (by kernel_rfl) enWnd_ok mixed (no_loops (by kernel_rfl)) (by first | exact fun _ _ => ⟨rfl, rfl⟩ | (intro h; cases h)) ?_
  rintro ⟨l, q, w⟩ hpre hok
  show (runF enWnd false _ (encWnd1 _ _ _)).val = some (resWnd1 _ _ _)
  unfold encWnd1 resWnd1
  rw [evWnd]
  simp only [unRqF, unRng, preRqF1, preRng1, etaBeat, etaSpan, etaHole, etaLevel, etaFigs, etaRatio, etaRep, etaStay, Option.bind_some, List.length_map, unStrs, unInts, unBools, uneL_eIs, unBeats, uneL_eBeats, unSpans, unHoles, unLevels, unFigss, unRatios, unReps, unStays, F.lt, F.le, cond_true, cond_false, Bool.and_true, Bool.true_and, F.spanF]
  cases F.quietF l q != 0
  · cases F.out w.fr 0 2000000000000
    · cases F.out w.to 0 2000000000000
      · cases decide (w.to ≤ w.fr) <;> rfl
      · rfl
    · rfl
  · rfl

end M
end Go.Proofs.Ytnkaadiofjoacaa
