/- What is proved here: the contract of slices.SortStableFunc (no statement of the seat). -/
import Derived.Test.YtlnflhmepnbcmaaB63
namespace Go.Proofs.Ytlnflhmepnbcmaa
open Go Go.RowKit
set_option linter.unusedVariables false
set_option linter.unusedSimpArgs false
set_option maxHeartbeats 1000000

namespace M


def stSt1 (xs : List Beat) (n : Nat) (a : Nat) (b : Nat) : St := ⟨[(8, vI b), (7, vI a), (6, vI 20), (2, .fn 18 []), (1, vI n), (0, .own 900)], [(900, ⟨false, 29, 5, xs.map eBeat⟩)]⟩

def stSt11 (a : (List Beat) × Nat × Nat × Nat) : St := stSt1 a.1 a.2.1 a.2.2.1 a.2.2.2

theorem stSt1_inj (a a' : (List Beat) × Nat × Nat × Nat) (h : stSt11 a = stSt11 a') : a = a' := by
  simp only [stSt11, stSt1] at h
  try simp [strs_inj, ints_inj, bools_inj, eBeats_inj, eBeat_iff, eL_eBeats_inj, eSpans_inj, eSpan_iff, eHoles_inj, eHole_iff, eLevels_inj, eLevel_iff, eFigss_inj, eFigs_iff, eRatios_inj, eRatio_iff, eReps_inj, eRep_iff, eStays_inj, eStay_iff] at h
  grind

theorem unstSt1 (xs : List Beat) (n : Nat) (a : Nat) (b : Nat) : unenc stSt11 (St.mk [(8, (vI (↑b : Int))), (7, (vI (↑a : Int))), (6, (vI (20 : Int))), (2, AV.fn (18 : FuncId) []), (1, (vI (↑n : Int))), (0, .own 900)] [(900, Blk.mk false 29 5
  (List.map eBeat xs))]) = some (xs, n, a, b) := unenc_of stSt1_inj (xs, n, a, b) rfl

theorem unstSt10 (xs : List Beat) (n : Nat)  : unenc stSt11 (St.mk [(8, (vI (20 : Int))), (7, (vI (0 : Int))), (6, (vI (20 : Int))), (2, AV.fn (18 : FuncId) []), (1, (vI (↑n : Int))), (0, .own 900)] [(900, Blk.mk false 29 5
  (List.map eBeat xs))]) = some (xs, n, 0, 20) := unenc_of stSt1_inj (xs, n, 0, 20) rfl

def outSt1 (xs : List Beat) (n : Nat) (a : Nat) (b : Nat) : T (Ex × St) := .ret (.exit 0, ⟨[(7, vI (K.blk1 F.ltB a xs).1), (6, vI 20), (2, .fn 18 []), (1, vI n), (0, .own 900)], [(900, ⟨false, 29, 5, ((K.blk1 F.ltB a xs).2).map eBeat⟩)]⟩)

noncomputable def prlSt1 (xs : List Beat) (n : Nat) (a : Nat) (b : Nat) : Bool := decide (b = a + 20 ∧ n = xs.length ∧ xs.length ≤ 100000)

noncomputable def lpSt1 : Nat × (St → T (Ex × St)) := (2, lpo [8, 7, 6, 2, 1, 0] [900] stSt11 (fun a => prlSt1 a.1 a.2.1 a.2.2.1 a.2.2.2) fun a => outSt1 a.1 a.2.1 a.2.2.1 a.2.2.2)

def stSt2 (xs : List Beat) (n : Nat) (k : Nat) : St := ⟨[(6, vI k), (2, .fn 18 []), (1, vI n), (0, .own 900)], [(900, ⟨false, 29, 5, xs.map eBeat⟩)]⟩

def stSt21 (a : (List Beat) × Nat × Nat) : St := stSt2 a.1 a.2.1 a.2.2

theorem stSt2_inj (a a' : (List Beat) × Nat × Nat) (h : stSt21 a = stSt21 a') : a = a' := by
  simp only [stSt21, stSt2] at h
  try simp [strs_inj, ints_inj, bools_inj, eBeats_inj, eBeat_iff, eL_eBeats_inj, eSpans_inj, eSpan_iff, eHoles_inj, eHole_iff, eLevels_inj, eLevel_iff, eFigss_inj, eFigs_iff, eRatios_inj, eRatio_iff, eReps_inj, eRep_iff, eStays_inj, eStay_iff] at h
  grind

theorem unstSt2 (xs : List Beat) (n : Nat) (k : Nat) : unenc stSt21 (St.mk [(6, (vI (↑k : Int))), (2, AV.fn (18 : FuncId) []), (1, (vI (↑n : Int))), (0, .own 900)] [(900, Blk.mk false 29 5 (List.map eBeat xs))]) = some (xs, n, k) := unenc_of stSt2_inj (xs, n, k) rfl

theorem unstSt20 (xs : List Beat) (n : Nat)  : unenc stSt21 (St.mk [(6, (vI (20 : Int))), (2, AV.fn (18 : FuncId) []), (1, (vI (↑n : Int))), (0, .own 900)] [(900, Blk.mk false 29 5 (List.map eBeat xs))]) = some (xs, n, 20) := unenc_of stSt2_inj (xs, n, 20) rfl

def outSt2 (xs : List Beat) (n : Nat) (k : Nat) : T (Ex × St) := .ret (.exit 2, ⟨[], [(900, ⟨false, 29, 5, (K.srt F.ltB xs).map eBeat⟩)]⟩)

noncomputable def prlSt2 (xs : List Beat) (n : Nat) (k : Nat) : Bool := decide (0 < k ∧ k ≤ 200000 ∧ n = xs.length ∧ xs.length ≤ 100000) && K.allR F.ltB k xs

noncomputable def lpSt2 : Nat × (St → T (Ex × St)) := (7, lpo [6, 2, 1, 0] [900] stSt21 (fun a => prlSt2 a.1 a.2.1 a.2.2) fun a => outSt2 a.1 a.2.1 a.2.2)

def stSt3 (xs : List Beat) (n : Nat) (k : Nat) (a : Nat) (b : Nat) : St := ⟨[(8, vI b), (7, vI a), (6, vI k), (2, .fn 18 []), (1, vI n), (0, .own 900)], [(900, ⟨false, 29, 5, xs.map eBeat⟩)]⟩

def stSt31 (a : (List Beat) × Nat × Nat × Nat × Nat) : St := stSt3 a.1 a.2.1 a.2.2.1 a.2.2.2.1 a.2.2.2.2

theorem stSt3_inj (a a' : (List Beat) × Nat × Nat × Nat × Nat) (h : stSt31 a = stSt31 a') : a = a' := by
  simp only [stSt31, stSt3] at h
  try simp [strs_inj, ints_inj, bools_inj, eBeats_inj, eBeat_iff, eL_eBeats_inj, eSpans_inj, eSpan_iff, eHoles_inj, eHole_iff, eLevels_inj, eLevel_iff, eFigss_inj, eFigs_iff, eRatios_inj, eRatio_iff, eReps_inj, eRep_iff, eStays_inj, eStay_iff] at h
  grind

theorem unstSt3 (xs : List Beat) (n : Nat) (k : Nat) (a : Nat) (b : Nat) : unenc stSt31 (St.mk [(8, (vI (↑b : Int))), (7, (vI (↑a : Int))), (6, (vI (↑k : Int))), (2, AV.fn (18 : FuncId) []), (1, (vI (↑n : Int))), (0, .own 900)] [(900, Blk.mk false 29 5
  (List.map eBeat xs))]) = some (xs, n, k, a, b) := unenc_of stSt3_inj (xs, n, k, a, b) rfl

theorem unstSt30 (xs : List Beat) (n : Nat) (k : Nat) (b : Nat)  : unenc stSt31 (St.mk [(8, (vI (↑b : Int))), (7, (vI (0 : Int))), (6, (vI (↑k : Int))), (2, AV.fn (18 : FuncId) []), (1, (vI (↑n : Int))), (0, .own 900)] [(900, Blk.mk false 29 5
  (List.map eBeat xs))]) = some (xs, n, k, 0, b) := unenc_of stSt3_inj (xs, n, k, 0, b) rfl

def outSt3 (xs : List Beat) (n : Nat) (k : Nat) (a : Nat) (b : Nat) : T (Ex × St) := .ret (.exit 4, ⟨[(7, vI (K.mrg F.ltB k a xs).1), (6, vI k), (2, .fn 18 []), (1, vI n), (0, .own 900)], [(900, ⟨false, 29, 5, ((K.mrg F.ltB k a xs).2).map eBeat⟩)]⟩)

noncomputable def prlSt3 (xs : List Beat) (n : Nat) (k : Nat) (a : Nat) (b : Nat) : Bool := decide (b = a + 2 * k ∧ 0 < k ∧ k ≤ 200000 ∧ n = xs.length ∧ xs.length ≤ 100000) && K.inR F.ltB k a xs

noncomputable def lpSt3 : Nat × (St → T (Ex × St)) := (9, lpo [8, 7, 6, 2, 1, 0] [900] stSt31 (fun a => prlSt3 a.1 a.2.1 a.2.2.1 a.2.2.2.1 a.2.2.2.2) fun a => outSt3 a.1 a.2.1 a.2.2.1 a.2.2.2.1 a.2.2.2.2)

noncomputable def enStb : Env := envH ty noG lks [] [oIns, oSymM] [] [lpSt1, lpSt2, lpSt3]

theorem enStb_ok : EnvOK Try.prog enStb := by
  refine envH_ok lks_ok ty_ok ?_ ?_
  · simp
  · simp only [List.forall_mem_cons]
    exact ⟨okIns, okSymM, by simp⟩

theorem evSt1L (xs : List Beat) (n : Nat) (a : Nat) (b : Nat) : ((exec enStb (loopN Try.f37 0) (stSt1 xs n a b)).bind (lessX ([8, 7, 6, 2, 1, 0], [900]) ([7, 6, 2, 1, 0], [900]) ([], []))).val =
  bif decide ((↑b : Int) ≤ (↑n : Int)) then Option.bind (unenc encIns ([.own 900, (vI (↑a : Int)), (vI (↑b : Int)), AV.fn (18 : FuncId) []], [(900, Blk.mk false 29 5
  (List.map eBeat xs))])) fun (z : List Beat × Nat × Nat) => bif decide (z.snd.fst ≤ z.snd.snd ∧ z.snd.snd ≤ List.length z.fst ∧ List.length z.fst ≤ (100000 : Nat)) then
  some (Ex.normal, St.mk [(8, (vI (IntKind.wrap IntKind.i64 ((↑b : Int) + (20 : Int))))), (7, (vI (↑b : Int))), (6, (vI (20 : Int))), (2, AV.fn (18 : FuncId) []), (1, (vI
  (↑n : Int))), (0, .own 900)] [(List.getD [(900 : Nat)] (0 : Nat) (0 : Nat), Blk.mk false 29 5 (List.map eBeat (K.seg z.snd.fst z.snd.snd (K.srt F.ltB) z.fst)))]) else none
  else some (Ex.exit (0 : Nat), St.mk [(7, (vI (↑a : Int))), (6, (vI (20 : Int))), (2, AV.fn (18 : FuncId) []), (1, (vI (↑n : Int))), (0, .own 900)] [(900, Blk.mk false 29 5
  (List.map eBeat xs))]) := (execR_bind _ _ _).symm.trans (by kernel_rfl)

theorem lpSt1_ok (xs : List Beat) (n : Nat) (a : Nat) (b : Nat) (hp : prlSt1 xs n a b = true) : ∀ ex s', (outSt1 xs n a b).val = some (ex, s') → LoopOK enStb (loopN Try.f37 0) (stSt1 xs n a b) ex s' := by
  simp only [prlSt1, Bool.and_eq_true, decide_eq_true_eq] at hp
  obtain ⟨h1, h2, h3⟩ := hp
  refine loop_gen (st := fun s : List Beat × Nat × Nat => stSt1 s.1 n s.2.1 s.2.2) (out := fun s => outSt1 s.1 n s.2.1 s.2.2) (I := fun s => s.2.2 = s.2.1 + 20 ∧ n = s.1.length ∧ s.1.length ≤ 100000) (n := ([8, 7, 6, 2, 1, 0], [900])) (e := ([7, 6, 2, 1, 0], [900])) (r := ([], [])) (fun s => n - s.2.1) ?_ (xs, a, b) ⟨h1, h2, h3⟩
  rintro ⟨xs, a, b⟩ ⟨h1, h2, h3⟩
  simp only at h1 h2 h3
  by_cases hlt : b ≤ n
  · right
    have hl : (K.seg a b (K.srt F.ltB) xs).length = xs.length := K.seg_len F.swB (by omega) (by omega)
    refine ⟨(K.seg a b (K.srt F.ltB) xs, b, b + 20), ?_, rfl, ⟨rfl, by simp only [hl]; exact h2, by simp only [hl]; exact h3⟩, by simp only; omega, ?_⟩
    · rw [evSt1L]
      have hq : a ≤ b ∧ b ≤ xs.length ∧ xs.length ≤ 100000 := ⟨by omega, by omega, h3⟩
      have hw : IntKind.i64.wrap ((b : Int) + 20) = ((b + 20 : Nat) : Int) := by rw [wrap_id (by omega) (by omega)]; omega
      simp only [unIns, unSym, preIns1, preSym1, unstSt1, unstSt2, unstSt3, unstSt10, unstSt20, unstSt30, prlSt1, prlSt2, prlSt3, outSt1, outSt2, outSt3, etaBeat, etaSpan, etaHole, etaLevel, etaFigs, etaRatio, etaRep, etaStay, Option.bind_some, List.length_map, unStrs, unInts, unBools, unBeats, uneL_eBeats, unSpans, unHoles, unLevels, unFigss, unRatios, unReps, unStays, F.lt, F.le, cond_true, cond_false, Bool.and_true, Bool.true_and, dle, decide_eq_true hlt, hq, and_self, decide_true, hw, stSt1]
      rfl
    · simp only [outSt1]; rw [K.blk1_go F.swB (a := a) (H := xs) (by omega), ← h1]
  · left
    refine ⟨_, ?_, rfl, by simp, rfl⟩
    rw [evSt1L]
    simp only [dle, decide_eq_false hlt, cond_false, K.blk1_stop (lt := F.ltB) (a := a) (H := xs) (by omega)]

theorem evSt3L (xs : List Beat) (n : Nat) (k : Nat) (a : Nat) (b : Nat) : ((exec enStb (loopN Try.f37 2) (stSt3 xs n k a b)).bind (lessX ([8, 7, 6, 2, 1, 0], [900]) ([7, 6, 2, 1, 0], [900]) ([], []))).val =
  bif decide ((↑b : Int) ≤ (↑n : Int)) then Option.bind (unenc encSym ([.own 900, (vI (↑a : Int)), (vI (IntKind.wrap IntKind.i64 ((↑a : Int) + (↑k : Int)))), (vI (↑b :
  Int)), AV.fn (18 : FuncId) []], [(900, Blk.mk false 29 5 (List.map eBeat xs))])) fun (z : List Beat × Nat × Nat × Nat) => bif decide (z.snd.snd.snd - z.snd.fst < (100001 :
  Nat) ∧ z.snd.fst < z.snd.snd.fst ∧ z.snd.snd.fst < z.snd.snd.snd ∧ z.snd.snd.snd ≤ List.length z.fst ∧ List.length z.fst ≤ (100000 : Nat)) && K.srtD F.ltB z.snd.fst
  z.snd.snd.fst z.fst && K.srtD F.ltB z.snd.snd.fst z.snd.snd.snd z.fst then some (Ex.normal, St.mk [(8, (vI (IntKind.wrap IntKind.i64 ((↑b : Int) + IntKind.wrap IntKind.i64
  ((2 : Int) * (↑k : Int)))))), (7, (vI (↑b : Int))), (6, (vI (↑k : Int))), (2, AV.fn (18 : FuncId) []), (1, (vI (↑n : Int))), (0, .own 900)] [(List.getD [(900 : Nat)] (0 :
  Nat) (0 : Nat), Blk.mk false 29 5 (List.map eBeat (K.seg z.snd.fst z.snd.snd.snd (K.srt F.ltB) z.fst)))]) else none else some (Ex.exit (4 : Nat), St.mk [(7, (vI (↑a :
  Int))), (6, (vI (↑k : Int))), (2, AV.fn (18 : FuncId) []), (1, (vI (↑n : Int))), (0, .own 900)] [(900, Blk.mk false 29 5 (List.map eBeat xs))]) := (execR_bind _ _ _).symm.trans (by kernel_rfl)

theorem lpSt3_ok (xs : List Beat) (n : Nat) (k : Nat) (a : Nat) (b : Nat) (hp : prlSt3 xs n k a b = true) : ∀ ex s', (outSt3 xs n k a b).val = some (ex, s') → LoopOK enStb (loopN Try.f37 2) (stSt3 xs n k a b) ex s' := by
  simp only [prlSt3, Bool.and_eq_true, decide_eq_true_eq] at hp
  simp only [K.inR, decide_eq_true_eq] at hp
  obtain ⟨⟨h1, h2, h3, h4, h5⟩, h6⟩ := hp
  refine loop_gen (st := fun s : List Beat × Nat × Nat => stSt3 s.1 n k s.2.1 s.2.2) (out := fun s => outSt3 s.1 n k s.2.1 s.2.2) (I := fun s => s.2.2 = s.2.1 + 2 * k ∧ n = s.1.length ∧ s.1.length ≤ 100000 ∧ K.InRuns F.ltB k s.2.1 s.1) (n := ([8, 7, 6, 2, 1, 0], [900])) (e := ([7, 6, 2, 1, 0], [900])) (r := ([], [])) (fun s => n - s.2.1) ?_ (xs, a, b) ⟨h1, h4, h5, h6⟩
  rintro ⟨xs, a, b⟩ ⟨h1, h4, h5, h6⟩
  simp only at h1 h4 h5 h6
  by_cases hlt : b ≤ n
  · right
    have hl : (K.seg a b (K.srt F.ltB) xs).length = xs.length := K.seg_len F.swB (by omega) (by omega)
    refine ⟨(K.seg a b (K.srt F.ltB) xs, b, b + 2 * k), ?_, rfl, ⟨rfl, by simp only [hl]; exact h4, by simp only [hl]; exact h5, ?_⟩, by simp only; omega, ?_⟩
    · rw [evSt3L]
      have hq : b - a < 100001 ∧ a < a + k ∧ a + k < b ∧ b ≤ xs.length ∧ xs.length ≤ 100000 := ⟨by omega, by omega, by omega, by omega, h5⟩
      obtain ⟨z1, z2⟩ := K.InRuns.srts F.swB h2 h6 (b := b) (by omega) (.inl h1) (by omega) (by omega)
      have d1 : K.srtD F.ltB a (a + k) xs = true := by simp only [K.srtD, decide_eq_true_eq]; exact z1
      have d2 : K.srtD F.ltB (a + k) b xs = true := by simp only [K.srtD, decide_eq_true_eq]; exact z2
      have hw : IntKind.i64.wrap (2 * (k : Int)) = ((2 * k : Nat) : Int) := by rw [wrap_id (by omega) (by omega)]; omega
      simp only [unIns, unSym, preIns1, preSym1, unstSt1, unstSt2, unstSt3, unstSt10, unstSt20, unstSt30, prlSt1, prlSt2, prlSt3, outSt1, outSt2, outSt3, etaBeat, etaSpan, etaHole, etaLevel, etaFigs, etaRatio, etaRep, etaStay, Option.bind_some, List.length_map, unStrs, unInts, unBools, unBeats, uneL_eBeats, unSpans, unHoles, unLevels, unFigss, unRatios, unReps, unStays, F.lt, F.le, cond_true, cond_false, Bool.and_true, Bool.true_and, dle, decide_eq_true hlt, hq, and_self, decide_true, d1, d2, hw, w_add (show a + k ≤ 9223372036854775807 by omega), w_add (show b + 2 * k ≤ 9223372036854775807 by omega), stSt3]
      rfl
    · simp only
      rw [h1]
      exact K.mrg_step F.swB h2 h6 (by omega)
    · simp only [outSt3]; rw [K.mrg_go F.swB h2 (a := a) (H := xs) (by omega), ← h1]
  · left
    refine ⟨_, ?_, rfl, by simp, rfl⟩
    rw [evSt3L]
    simp only [dle, decide_eq_false hlt, cond_false, K.mrg_stop (lt := F.ltB) (k := k) (a := a) (H := xs) (by omega)]

theorem evSt2L (xs : List Beat) (n : Nat) (k : Nat) : ((exec enStb (loopN Try.f37 1) (stSt2 xs n k)).bind (lessX ([6, 2, 1, 0], [900]) ([], [900]) ([], []))).val =
  bif decide ((↑k : Int) < (↑n : Int)) then Option.bind (unenc stSt31 (St.mk [(8, (vI (IntKind.wrap IntKind.i64 ((2 : Int) * (↑k : Int))))), (7, (vI (0 : Int))), (6, (vI (↑k
  : Int))), (2, AV.fn (18 : FuncId) []), (1, (vI (↑n : Int))), (0, .own 900)] [(900, Blk.mk false 29 5 (List.map eBeat xs))])) fun (z : List Beat × Nat × Nat × Nat × Nat) =>
  bif decide (z.snd.snd.snd.snd = z.snd.snd.snd.fst + (2 : Nat) * z.snd.snd.fst ∧ (0 : Nat) < z.snd.snd.fst ∧ z.snd.snd.fst ≤ (200000 : Nat) ∧ z.snd.fst = List.length z.fst
  ∧ List.length z.fst ≤ (100000 : Nat)) && K.inR F.ltB z.snd.snd.fst z.snd.snd.snd.fst z.fst && true then bif decide (IntKind.wrap IntKind.i64 ((↑(K.mrg F.ltB z.snd.snd.fst
  z.snd.snd.snd.fst z.fst).fst : Int) + (↑z.snd.snd.fst : Int)) < (↑z.snd.fst : Int)) then Option.bind (unenc encSym ([.own 900, (vI (↑(K.mrg F.ltB z.snd.snd.fst
  z.snd.snd.snd.fst z.fst).fst : Int)), (vI (IntKind.wrap IntKind.i64 ((↑(K.mrg F.ltB z.snd.snd.fst z.snd.snd.snd.fst z.fst).fst : Int) + (↑z.snd.snd.fst : Int)))), (vI
  (↑z.snd.fst : Int)), AV.fn (18 : FuncId) []], [(900, Blk.mk false 29 5 (List.map eBeat (K.mrg F.ltB z.snd.snd.fst z.snd.snd.snd.fst z.fst).snd))])) fun (z_1 : List Beat ×
  Nat × Nat × Nat) => bif decide (z_1.snd.snd.snd - z_1.snd.fst < (100001 : Nat) ∧ z_1.snd.fst < z_1.snd.snd.fst ∧ z_1.snd.snd.fst < z_1.snd.snd.snd ∧ z_1.snd.snd.snd ≤
  List.length z_1.fst ∧ List.length z_1.fst ≤ (100000 : Nat)) && K.srtD F.ltB z_1.snd.fst z_1.snd.snd.fst z_1.fst && K.srtD F.ltB z_1.snd.snd.fst z_1.snd.snd.snd z_1.fst
  then some (Ex.normal, St.mk [(6, (vI (IntKind.wrap IntKind.i64 ((↑z.snd.snd.fst : Int) * (2 : Int))))), (2, AV.fn (18 : FuncId) []), (1, (vI (↑z.snd.fst : Int))), (0, .own
  900)] [(List.getD [(900 : Nat)] (0 : Nat) (0 : Nat), Blk.mk false 29 5 (List.map eBeat (K.seg z_1.snd.fst z_1.snd.snd.snd (K.srt F.ltB) z_1.fst)))]) else none else some
  (Ex.normal, St.mk [(6, (vI (IntKind.wrap IntKind.i64 ((↑z.snd.snd.fst : Int) * (2 : Int))))), (2, AV.fn (18 : FuncId) []), (1, (vI (↑z.snd.fst : Int))), (0, .own 900)]
  [(900, Blk.mk false 29 5 (List.map eBeat (K.mrg F.ltB z.snd.snd.fst z.snd.snd.snd.fst z.fst).snd))]) else none else some (Ex.exit (2 : Nat), St.mk [] [(900, Blk.mk false
  29 5 (List.map eBeat xs))]) := (execR_bind _ _ _).symm.trans (by kernel_rfl)

theorem lpSt2_ok (xs : List Beat) (n : Nat) (k : Nat) (hp : prlSt2 xs n k = true) : ∀ ex s', (outSt2 xs n k).val = some (ex, s') → LoopOK enStb (loopN Try.f37 1) (stSt2 xs n k) ex s' := by
  simp only [prlSt2, Bool.and_eq_true, decide_eq_true_eq] at hp
  simp only [K.allR, decide_eq_true_eq] at hp
  obtain ⟨⟨h1, h2, h3, h4⟩, h5⟩ := hp
  refine loop_gen (st := fun s : List Beat × Nat => stSt2 s.1 n s.2) (out := fun s => outSt2 s.1 n s.2) (I := fun s => 0 < s.2 ∧ s.2 ≤ 200000 ∧ n = s.1.length ∧ s.1.length ≤ 100000 ∧ K.AllRuns F.ltB s.2 s.1) (n := ([6, 2, 1, 0], [900])) (e := ([], [900])) (r := ([], [])) (fun s => 200000 - s.2) ?_ (xs, k) ⟨h1, h2, h3, h4, h5⟩
  rintro ⟨xs, k⟩ ⟨h1, h2, h3, h4, h5⟩
  simp only at h1 h2 h3 h4 h5
  by_cases hlt : k < n
  · right
    obtain ⟨y1, y2, y3⟩ := K.AllRuns.next F.swB h1 h5
    refine ⟨(K.rnd F.ltB k xs, 2 * k), ?_, rfl, ⟨by simp only; omega, by simp only; omega, by simp only [y3]; exact h3, by simp only [y3]; exact h4, y1⟩, by simp only; omega, ?_⟩
    · rw [evSt2L]
      have hw : IntKind.i64.wrap (2 * (k : Int)) = ((2 * k : Nat) : Int) := by rw [wrap_id (by omega) (by omega)]; omega
      have hw2 : IntKind.i64.wrap ((k : Int) * 2) = ((2 * k : Nat) : Int) := by rw [wrap_id (by omega) (by omega)]; omega
      have hq : 2 * k = 0 + 2 * k ∧ 0 < k ∧ k ≤ 200000 ∧ n = xs.length ∧ xs.length ≤ 100000 := ⟨by omega, h1, h2, h3, h4⟩
      have d0 : K.inR F.ltB k 0 xs = true := by simp only [K.inR, decide_eq_true_eq]; exact h5.inRuns
      obtain ⟨m1, m2, m3, m4⟩ := h5.mrg_bd F.swB h1
      have hr : K.rnd F.ltB k xs = bif decide ((K.mrg F.ltB k 0 xs).1 + k < n) then K.seg (K.mrg F.ltB k 0 xs).1 n (K.srt F.ltB) (K.mrg F.ltB k 0 xs).2 else (K.mrg F.ltB k 0 xs).2 := by rw [h3]; rfl
      generalize hp : K.mrg F.ltB k 0 xs = p at m1 m2 m3 m4 hr
      obtain ⟨a, H⟩ := p
      simp only at m1 m2 m3 m4 hr
      have g0 : ([900] : List Nat).getD 0 0 = 900 := rfl
      by_cases ha : a + k < n
      · have hq2 : n - a < 100001 ∧ a < a + k ∧ a + k < n ∧ n ≤ H.length ∧ H.length ≤ 100000 := ⟨by omega, by omega, ha, by omega, by omega⟩
        obtain ⟨z1, z2⟩ := K.InRuns.srts F.swB h1 m3 (b := n) (by omega) (.inr (by omega)) (by omega) (by omega)
        have d1 : K.srtD F.ltB a (a + k) H = true := by simp only [K.srtD, decide_eq_true_eq]; exact z1
        have d2 : K.srtD F.ltB (a + k) n H = true := by simp only [K.srtD, decide_eq_true_eq]; exact z2
        rw [decide_eq_true ha, cond_true] at hr
        simp only [unIns, unSym, preIns1, preSym1, unstSt1, unstSt2, unstSt3, unstSt10, unstSt20, unstSt30, prlSt1, prlSt2, prlSt3, outSt1, outSt2, outSt3, etaBeat, etaSpan, etaHole, etaLevel, etaFigs, etaRatio, etaRep, etaStay, Option.bind_some, List.length_map, unStrs, unInts, unBools, unBeats, uneL_eBeats, unSpans, unHoles, unLevels, unFigss, unRatios, unReps, unStays, F.lt, F.le, cond_true, cond_false, Bool.and_true, Bool.true_and, cast_lt hlt, hw, hw2, decide_eq_true hq, d0, hp, w_add (show a + k ≤ 9223372036854775807 by omega), cast_lt ha, decide_eq_true hq2, d1, d2, g0, hr, stSt2]
      · rw [decide_eq_false ha, cond_false] at hr
        simp only [unIns, unSym, preIns1, preSym1, unstSt1, unstSt2, unstSt3, unstSt10, unstSt20, unstSt30, prlSt1, prlSt2, prlSt3, outSt1, outSt2, outSt3, etaBeat, etaSpan, etaHole, etaLevel, etaFigs, etaRatio, etaRep, etaStay, Option.bind_some, List.length_map, unStrs, unInts, unBools, unBeats, uneL_eBeats, unSpans, unHoles, unLevels, unFigss, unRatios, unReps, unStays, F.lt, F.le, cond_true, cond_false, Bool.and_true, Bool.true_and, cast_lt hlt, hw, hw2, decide_eq_true hq, d0, hp, w_add (show a + k ≤ 9223372036854775807 by omega), dlt, decide_eq_false ha, g0, hr, stSt2]
    · simp only [outSt2, y2]
  · left
    refine ⟨_, ?_, rfl, by simp, rfl⟩
    rw [evSt2L]
    simp only [dlt, decide_eq_false hlt, cond_false, K.AllRuns.done F.swB h1 h5 (by omega)]

theorem evStb (xs : List Beat) : (runH enStb [] Try.f37 [.own 900, vI xs.length, .fn 18 []] [(900, ⟨false, 29, 5, xs.map eBeat⟩)]).val =
  Option.bind (unenc stSt11 (St.mk [(8, (vI (20 : Int))), (7, (vI (0 : Int))), (6, (vI (20 : Int))), (2, AV.fn (18 : FuncId) []), (1, (vI (↑(List.length xs) : Int))), (0,
  .own 900)] [(900, Blk.mk false 29 5 (List.map eBeat xs))])) fun (z : List Beat × Nat × Nat × Nat) => bif decide (z.snd.snd.snd = z.snd.snd.fst + (20 : Nat) ∧ z.snd.fst =
  List.length z.fst ∧ List.length z.fst ≤ (100000 : Nat)) && true then Option.bind (unenc encIns ([.own 900, (vI (↑(K.blk1 F.ltB z.snd.snd.fst z.fst).fst : Int)), (vI
  (↑z.snd.fst : Int)), AV.fn (18 : FuncId) []], [(900, Blk.mk false 29 5 (List.map eBeat (K.blk1 F.ltB z.snd.snd.fst z.fst).snd))])) fun (z_1 : List Beat × Nat × Nat) => bif
  decide (z_1.snd.fst ≤ z_1.snd.snd ∧ z_1.snd.snd ≤ List.length z_1.fst ∧ List.length z_1.fst ≤ (100000 : Nat)) then Option.bind (unenc stSt21 (St.mk [(6, (vI (20 : Int))),
  (2, AV.fn (18 : FuncId) []), (1, (vI (↑z.snd.fst : Int))), (0, .own 900)] [(List.getD [(900 : Nat)] (0 : Nat) (0 : Nat), Blk.mk false 29 5 (List.map eBeat (K.seg
  z_1.snd.fst z_1.snd.snd (K.srt F.ltB) z_1.fst)))])) fun (z : List Beat × Nat × Nat) => bif decide ((0 : Nat) < z.snd.snd ∧ z.snd.snd ≤ (200000 : Nat) ∧ z.snd.fst =
  List.length z.fst ∧ List.length z.fst ≤ (100000 : Nat)) && K.allR F.ltB z.snd.snd z.fst && true then some (AV.tup [], [(900, Blk.mk false 29 5 (List.map eBeat (K.srt F.ltB
  z.fst)))], []) else none else none else none := (runHR_val).symm.trans (by kernel_rfl)

def encStb1 (xs : List Beat) : List AV × Heap := ([.own 900, vI xs.length, .fn 18 []], [(900, ⟨false, 29, 5, xs.map eBeat⟩)])

def encStb (a : (List Beat)) : List AV × Heap := encStb1 a

theorem encStb_inj (a a' : (List Beat)) (h : encStb a = encStb a') : a = a' := by
  simp only [encStb, encStb1] at h
  try simp [strs_inj, ints_inj, bools_inj, eBeats_inj, eBeat_iff, eL_eBeats_inj, eSpans_inj, eSpan_iff, eHoles_inj, eHole_iff, eLevels_inj, eLevel_iff, eFigss_inj, eFigs_iff, eRatios_inj, eRatio_iff, eReps_inj, eRep_iff, eStays_inj, eStay_iff] at h
  grind

theorem unStb (xs : List Beat) : unenc encStb (([.own 900, (vI (↑(List.length xs) : Int)), AV.fn (18 : FuncId) []], [(900, Blk.mk false 29 5 (List.map eBeat xs))])) = some (xs) := unenc_of encStb_inj (xs) rfl

def resStb1 (xs : List Beat) : AV × Heap × List Nat := (.tup [], [(900, ⟨false, 29, 5, (K.srt F.ltB xs).map eBeat⟩)], [])

def preStb1 (xs : List Beat) : Bool := decide (xs.length ≤ 100000)

noncomputable def oStb : OrcH := orcH 37 encStb (fun a => preStb1 a) fun a => resStb1 a

theorem okStb : OrcHOK Try.prog noG oStb := by
  refine mkH_ok (mv := []) Try.f37 (by kernel_rfl) (by kernel_rfl) enStb_ok mixed (three_loops (x0 := loopN Try.f37 0) (x1 := loopN Try.f37 1) (x2 := loopN Try.f37 2) (by kernel_rfl) (lpo_ok ?_) (lpo_ok ?_) (lpo_ok ?_)) ?_
  · rintro ⟨xs, n, a, b⟩ hp
    exact lpSt1_ok xs n a b hp
  · rintro ⟨xs, n, k⟩ hp
    exact lpSt2_ok xs n k hp
  · rintro ⟨xs, n, k, a, b⟩ hp
    exact lpSt3_ok xs n k a b hp
  rintro xs hpre hok hokh
  show (runH enStb [] _ (encStb1 _).1 (encStb1 _).2).val = some (resStb1 _)
  unfold encStb1 resStb1
  rw [evStb]
  simp only [preStb1, decide_eq_true_eq] at hpre
  obtain ⟨b1, b2⟩ := K.blk1_bd F.swB xs
  obtain ⟨r1, r2, r3⟩ := K.AllRuns.start F.swB xs
  have hs : K.stab1 F.ltB xs = K.seg (K.blk1 F.ltB 0 xs).1 xs.length (K.srt F.ltB) (K.blk1 F.ltB 0 xs).2 := rfl
  rw [hs] at r1 r2 r3
  have q2 : (K.blk1 F.ltB 0 xs).1 ≤ xs.length ∧ xs.length ≤ (K.blk1 F.ltB 0 xs).2.length ∧ (K.blk1 F.ltB 0 xs).2.length ≤ 100000 := ⟨b1, by omega, by omega⟩
  have q3 : 0 < 20 ∧ 20 ≤ 200000 ∧ xs.length = (K.seg (K.blk1 F.ltB 0 xs).1 xs.length (K.srt F.ltB) (K.blk1 F.ltB 0 xs).2).length ∧ (K.seg (K.blk1 F.ltB 0 xs).1 xs.length (K.srt F.ltB) (K.blk1 F.ltB 0 xs).2).length ≤ 100000 := ⟨by decide, by decide, r3.symm, by omega⟩
  have d1 : K.allR F.ltB 20 (K.seg (K.blk1 F.ltB 0 xs).1 xs.length (K.srt F.ltB) (K.blk1 F.ltB 0 xs).2) = true := by simp only [K.allR, decide_eq_true_eq]; exact r1
  have g0 : ([900] : List Nat).getD 0 0 = 900 := rfl
  simp only [unIns, unSym, preIns1, preSym1, unstSt1, unstSt2, unstSt3, unstSt10, unstSt20, unstSt30, prlSt1, prlSt2, prlSt3, outSt1, outSt2, outSt3, etaBeat, etaSpan, etaHole, etaLevel, etaFigs, etaRatio, etaRep, etaStay, Option.bind_some, List.length_map, unStrs, unInts, unBools, unBeats, uneL_eBeats, unSpans, unHoles, unLevels, unFigss, unRatios, unReps, unStays, F.lt, F.le, cond_true, cond_false, Bool.and_true, Bool.true_and, hpre, and_self, decide_true, decide_eq_true q2, decide_eq_true q3, d1, g0, r2]

noncomputable def enSSt : Env := envH ty noG lks [] [oStb] [] []

theorem enSSt_ok : EnvOK Try.prog enSSt := by
  refine envH_ok lks_ok ty_ok ?_ ?_
  · simp
  · simp only [List.forall_mem_cons]
    exact ⟨okStb, by simp⟩

theorem evSSt (xs : List Beat) : (runH enSSt [] Try.f17 [.own 900, .fn 18 []] [(900, ⟨false, 29, 5, xs.map eBeat⟩)]).val =
  Option.bind (unenc encStb ([.own 900, (vI (↑(List.length (List.map eBeat xs)) : Int)), AV.fn (18 : FuncId) []], [(900, Blk.mk false 29 5 (List.map eBeat xs))])) fun (z :
  List Beat) => bif decide (List.length z ≤ (100000 : Nat)) then some (AV.tup [], [(900, Blk.mk false 29 5 (List.map eBeat (K.srt F.ltB z)))], []) else none := (runHR_val).symm.trans (by kernel_rfl)

def encSSt1 (xs : List Beat) : List AV × Heap := ([.own 900, .fn 18 []], [(900, ⟨false, 29, 5, xs.map eBeat⟩)])

def encSSt (a : (List Beat)) : List AV × Heap := encSSt1 a

theorem encSSt_inj (a a' : (List Beat)) (h : encSSt a = encSSt a') : a = a' := by
  simp only [encSSt, encSSt1] at h
  try simp [strs_inj, ints_inj, bools_inj, eBeats_inj, eBeat_iff, eL_eBeats_inj, eSpans_inj, eSpan_iff, eHoles_inj, eHole_iff, eLevels_inj, eLevel_iff, eFigss_inj, eFigs_iff, eRatios_inj, eRatio_iff, eReps_inj, eRep_iff, eStays_inj, eStay_iff] at h
  grind

theorem unSSt (xs : List Beat) : unenc encSSt (([.own 900, AV.fn (18 : FuncId) []], [(900, Blk.mk false 29 5 (List.map eBeat xs))])) = some (xs) := unenc_of encSSt_inj (xs) rfl

def resSSt1 (xs : List Beat) : AV × Heap × List Nat := (.tup [], [(900, ⟨false, 29, 5, (K.srt F.ltB xs).map eBeat⟩)], [])

def preSSt1 (xs : List Beat) : Bool := decide (xs.length ≤ 100000)

noncomputable def oSSt : OrcH := orcH 17 encSSt (fun a => preSSt1 a) fun a => resSSt1 a

theorem okSSt : OrcHOK Try.prog noG oSSt := by
  refine mkH_ok (mv := []) Try.f17 (by kernel_rfl) (by kernel_rfl) enSSt_ok mixed (no_loops (by kernel_rfl)) ?_
  rintro xs hpre hok hokh
  show (runH enSSt [] _ (encSSt1 _).1 (encSSt1 _).2).val = some (resSSt1 _)
  unfold encSSt1 resSSt1
  rw [evSSt]
  simp only [preSSt1] at hpre
  have g0 : ([900] : List Nat).getD 0 0 = 900 := rfl
  simp only [unStb, preStb1, etaBeat, etaSpan, etaHole, etaLevel, etaFigs, etaRatio, etaRep, etaStay, Option.bind_some, List.length_map, unStrs, unInts, unBools, unBeats, uneL_eBeats, unSpans, unHoles, unLevels, unFigss, unRatios, unReps, unStays, F.lt, F.le, cond_true, cond_false, Bool.and_true, Bool.true_and, hpre, g0]

end M
end Go.Proofs.Ytlnflhmepnbcmaa
