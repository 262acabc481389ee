/- What is proved here: a contract of the function that rotates (no statement of the seat). -/
import Derived.Test.YtlnflhmepnbcmaaB60
namespace Go.Proofs.Ytlnflhmepnbcmaa
open Go Go.RowKit
set_option linter.unusedVariables false
set_option linter.unusedSimpArgs false
set_option maxHeartbeats 1000000

namespace M


def stRot (xs : List Beat) (m : Nat) (i : Nat) (j : Nat) : St := ⟨[(11, vI j), (10, vI i), (4, .fn 18 []), (2, vI m), (0, .own 900)], [(900, ⟨false, 29, 5, xs.map eBeat⟩)]⟩

def stRot1 (a : (List Beat) × Nat × Nat × Nat) : St := stRot a.1 a.2.1 a.2.2.1 a.2.2.2

theorem stRot_inj (a a' : (List Beat) × Nat × Nat × Nat) (h : stRot1 a = stRot1 a') : a = a' := by
  simp only [stRot1, stRot] at h
  try simp [strs_inj, ints_inj, bools_inj, eBeats_inj, eBeat_iff, eL_eBeats_inj, eSpans_inj, eSpan_iff, eHoles_inj, eHole_iff, eLevels_inj, eLevel_iff, eFigss_inj, eFigs_iff, eRatios_inj, eRatio_iff, eReps_inj, eRep_iff, eStays_inj, eStay_iff] at h
  grind

theorem unstRot (xs : List Beat) (m : Nat) (i : Nat) (j : Nat) : unenc stRot1 (St.mk [(11, (vI (↑j : Int))), (10, (vI (↑i : Int))), (4, AV.fn (18 : FuncId) []), (2, (vI (↑m : Int))), (0, .own 900)] [(900, Blk.mk false 29 5 (List.map eBeat xs))]) = some (xs, m, i, j) := unenc_of stRot_inj (xs, m, i, j) rfl

def outRot (xs : List Beat) (m : Nat) (i : Nat) (j : Nat) : T (Ex × St) := .ret (.exit 0, ⟨[(10, vI (K.rotL m i j xs).1), (4, .fn 18 []), (2, vI m), (0, .own 900)], [(900, ⟨false, 29, 5, ((K.rotL m i j xs).2).map eBeat⟩)]⟩)

noncomputable def prlRot (xs : List Beat) (m : Nat) (i : Nat) (j : Nat) : Bool := decide (0 < i ∧ 0 < j ∧ i ≤ m ∧ m + j ≤ xs.length ∧ xs.length ≤ 100000)

noncomputable def lpRot : Nat × (St → T (Ex × St)) := (2, lpo [11, 10, 4, 2, 0] [900] stRot1 (fun a => prlRot a.1 a.2.1 a.2.2.1 a.2.2.2) fun a => outRot a.1 a.2.1 a.2.2.1 a.2.2.2)

noncomputable def enRot : Env := envH ty noG lks [] [oSwR] [] [lpRot]

theorem enRot_ok : EnvOK Try.prog enRot := by
  refine envH_ok lks_ok ty_ok ?_ ?_
  · simp
  · simp only [List.forall_mem_cons]
    exact ⟨okSwR, by simp⟩

theorem evRotL (xs : List Beat) (m : Nat) (i : Nat) (j : Nat) : ((exec enRot (loopN Try.f62 0) (stRot xs m i j)).bind (lessX ([11, 10, 4, 2, 0], [900]) ([10, 4, 2, 0], [900]) ([], []))).val =
  bif (↑i : Int) != (↑j : Int) then bif decide ((↑j : Int) < (↑i : Int)) then Option.bind (unenc encSwR ([.own 900, (vI (IntKind.wrap IntKind.i64 ((↑m : Int) - (↑i :
  Int)))), (vI (↑m : Int)), (vI (↑j : Int)), AV.fn (18 : FuncId) []], [(900, Blk.mk false 29 5 (List.map eBeat xs))])) fun (z : List Beat × Nat × Nat × Nat) => bif decide
  (z.snd.fst + z.snd.snd.snd ≤ List.length z.fst ∧ z.snd.snd.fst + z.snd.snd.snd ≤ List.length z.fst ∧ List.length z.fst ≤ (100000 : Nat)) then some (Ex.normal, St.mk [(11,
  (vI (↑j : Int))), (10, (vI (IntKind.wrap IntKind.i64 ((↑i : Int) - (↑j : Int))))), (4, AV.fn (18 : FuncId) []), (2, (vI (↑m : Int))), (0, .own 900)] [(List.getD [(900 :
  Nat)] (0 : Nat) (0 : Nat), Blk.mk false 29 5 (List.map eBeat (K.swr z.snd.fst z.snd.snd.fst z.snd.snd.snd z.fst)))]) else none else Option.bind (unenc encSwR ([.own 900,
  (vI (IntKind.wrap IntKind.i64 ((↑m : Int) - (↑i : Int)))), (vI (IntKind.wrap IntKind.i64 (IntKind.wrap IntKind.i64 ((↑m : Int) + (↑j : Int)) - (↑i : Int)))), (vI (↑i :
  Int)), AV.fn (18 : FuncId) []], [(900, Blk.mk false 29 5 (List.map eBeat xs))])) fun (z : List Beat × Nat × Nat × Nat) => bif decide (z.snd.fst + z.snd.snd.snd ≤
  List.length z.fst ∧ z.snd.snd.fst + z.snd.snd.snd ≤ List.length z.fst ∧ List.length z.fst ≤ (100000 : Nat)) then some (Ex.normal, St.mk [(11, (vI (IntKind.wrap IntKind.i64
  ((↑j : Int) - (↑i : Int))))), (10, (vI (↑i : Int))), (4, AV.fn (18 : FuncId) []), (2, (vI (↑m : Int))), (0, .own 900)] [(List.getD [(900 : Nat)] (0 : Nat) (0 : Nat),
  Blk.mk false 29 5 (List.map eBeat (K.swr z.snd.fst z.snd.snd.fst z.snd.snd.snd z.fst)))]) else none else some (Ex.exit (0 : Nat), St.mk [(10, (vI (↑i : Int))), (4, AV.fn
  (18 : FuncId) []), (2, (vI (↑m : Int))), (0, .own 900)] [(900, Blk.mk false 29 5 (List.map eBeat xs))]) := (execR_bind _ _ _).symm.trans (by kernel_rfl)

theorem lpRot_ok (xs : List Beat) (m : Nat) (i : Nat) (j : Nat) (hp : prlRot xs m i j = true) : ∀ ex s', (outRot xs m i j).val = some (ex, s') → LoopOK enRot (loopN Try.f62 0) (stRot xs m i j) ex s' := by
  simp only [prlRot, Bool.and_eq_true, decide_eq_true_eq] at hp
  obtain ⟨h1, h2, h3, h4, h5⟩ := hp
  refine loop_gen (st := fun s : List Beat × Nat × Nat => stRot s.1 m s.2.1 s.2.2) (out := fun s => outRot s.1 m s.2.1 s.2.2) (I := fun s => 0 < s.2.1 ∧ 0 < s.2.2 ∧ s.2.1 ≤ m ∧ m + s.2.2 ≤ s.1.length ∧ s.1.length ≤ 100000) (n := ([11, 10, 4, 2, 0], [900])) (e := ([10, 4, 2, 0], [900])) (r := ([], [])) (fun s => s.2.1 + s.2.2) ?_ (xs, i, j) ⟨h1, h2, h3, h4, h5⟩
  rintro ⟨xs, i, j⟩ ⟨h1, h2, h3, h4, h5⟩
  simp only at h1 h2 h3 h4 h5
  have wmi := w_sub (a := m) (b := i) h3 (by omega)
  have dne : ∀ {a b : Nat}, a ≠ b → ((a : Int) != (b : Int)) = true := fun {a b} h => by simp; omega
  rcases Nat.lt_trichotomy i j with hlt | heq | hgt
  · right
    refine ⟨(K.swr (m - i) (m + j - i) i xs, i, j - i), ?_, rfl, ⟨h1, by simp only; omega, h3, by simp only [K.swr_len]; omega, by simp only [K.swr_len]; exact h5⟩, by simp only; omega, ?_⟩
    · rw [evRotL]
      have w2 : IntKind.i64.wrap (((m + j : Nat) : Int) - (i : Int)) = ((m + j - i : Nat) : Int) := w_sub (by omega) (by omega)
      have hq : m - i + i ≤ xs.length ∧ m + j - i + i ≤ xs.length ∧ xs.length ≤ 100000 := ⟨by omega, by omega, h5⟩
      simp only [unSwR, preSwR1, unstRot, prlRot, outRot, etaBeat, etaSpan, etaHole, etaLevel, etaFigs, etaRatio, etaRep, etaStay, Option.bind_some, List.length_map, unStrs, unInts, unBools, unBeats, uneL_eBeats, unSpans, unHoles, unLevels, unFigss, unRatios, unReps, unStays, F.lt, F.le, cond_true, cond_false, Bool.and_true, Bool.true_and, dlt, dne (show i ≠ j by omega), decide_eq_false (show ¬ j < i by omega), wmi, w_add (show m + j ≤ 9223372036854775807 by omega), w2, hq, and_self, decide_true, w_sub (show i ≤ j by omega) (show j ≤ 9223372036854775807 by omega), stRot]
      rfl
    · simp only [outRot]; rw [K.rotL_lt hlt h1]
  · subst heq
    left
    refine ⟨_, ?_, rfl, by simp, rfl⟩
    rw [evRotL]
    simp only [bne_self_eq_false, cond_false, K.rotL_eq]
  · right
    refine ⟨(K.swr (m - i) m j xs, i - j, j), ?_, rfl, ⟨by simp only; omega, h2, by simp only; omega, by simp only [K.swr_len]; omega, by simp only [K.swr_len]; exact h5⟩, by simp only; omega, ?_⟩
    · rw [evRotL]
      have hq : m - i + j ≤ xs.length ∧ m + j ≤ xs.length ∧ xs.length ≤ 100000 := ⟨by omega, by omega, h5⟩
      simp only [unSwR, preSwR1, unstRot, prlRot, outRot, etaBeat, etaSpan, etaHole, etaLevel, etaFigs, etaRatio, etaRep, etaStay, Option.bind_some, List.length_map, unStrs, unInts, unBools, unBeats, uneL_eBeats, unSpans, unHoles, unLevels, unFigss, unRatios, unReps, unStays, F.lt, F.le, cond_true, cond_false, Bool.and_true, Bool.true_and, dlt, dne (show i ≠ j by omega), decide_eq_true hgt, wmi, hq, and_self, decide_true, w_sub (show j ≤ i by omega) (show i ≤ 9223372036854775807 by omega), stRot]
      rfl
    · simp only [outRot]; rw [K.rotL_gt hgt h2]

theorem evRot (xs : List Beat) (a : Nat) (m : Nat) (b : Nat) : (runH enRot [] Try.f62 [.own 900, vI a, vI m, vI b, .fn 18 []] [(900, ⟨false, 29, 5, xs.map eBeat⟩)]).val =
  Option.bind (unenc stRot1 (St.mk [(11, (vI (IntKind.wrap IntKind.i64 ((↑b : Int) - (↑m : Int))))), (10, (vI (IntKind.wrap IntKind.i64 ((↑m : Int) - (↑a : Int))))), (4,
  AV.fn (18 : FuncId) []), (2, (vI (↑m : Int))), (0, .own 900)] [(900, Blk.mk false 29 5 (List.map eBeat xs))])) fun (z : List Beat × Nat × Nat × Nat) => bif decide ((0 :
  Nat) < z.snd.snd.fst ∧ (0 : Nat) < z.snd.snd.snd ∧ z.snd.snd.fst ≤ z.snd.fst ∧ z.snd.fst + z.snd.snd.snd ≤ List.length z.fst ∧ List.length z.fst ≤ (100000 : Nat)) && true
  then Option.bind (unenc encSwR ([.own 900, (vI (IntKind.wrap IntKind.i64 ((↑z.snd.fst : Int) - (↑(K.rotL z.snd.fst z.snd.snd.fst z.snd.snd.snd z.fst).fst : Int)))), (vI
  (↑z.snd.fst : Int)), (vI (↑(K.rotL z.snd.fst z.snd.snd.fst z.snd.snd.snd z.fst).fst : Int)), AV.fn (18 : FuncId) []], [(900, Blk.mk false 29 5 (List.map eBeat (K.rotL
  z.snd.fst z.snd.snd.fst z.snd.snd.snd z.fst).snd))])) fun (z : List Beat × Nat × Nat × Nat) => bif decide (z.snd.fst + z.snd.snd.snd ≤ List.length z.fst ∧ z.snd.snd.fst +
  z.snd.snd.snd ≤ List.length z.fst ∧ List.length z.fst ≤ (100000 : Nat)) then some (AV.tup [], [(900, Blk.mk false 29 5 (List.map eBeat (K.swr z.snd.fst z.snd.snd.fst
  z.snd.snd.snd z.fst)))], []) else none else none := (runHR_val).symm.trans (by kernel_rfl)

def encRot1 (xs : List Beat) (a : Nat) (m : Nat) (b : Nat) : List AV × Heap := ([.own 900, vI a, vI m, vI b, .fn 18 []], [(900, ⟨false, 29, 5, xs.map eBeat⟩)])

def encRot (a : (List Beat) × Nat × Nat × Nat) : List AV × Heap := encRot1 a.1 a.2.1 a.2.2.1 a.2.2.2

theorem encRot_inj (a a' : (List Beat) × Nat × Nat × Nat) (h : encRot a = encRot a') : a = a' := by
  simp only [encRot, encRot1] at h
  try simp [strs_inj, ints_inj, bools_inj, eBeats_inj, eBeat_iff, eL_eBeats_inj, eSpans_inj, eSpan_iff, eHoles_inj, eHole_iff, eLevels_inj, eLevel_iff, eFigss_inj, eFigs_iff, eRatios_inj, eRatio_iff, eReps_inj, eRep_iff, eStays_inj, eStay_iff] at h
  grind

theorem unRot (xs : List Beat) (a : Nat) (m : Nat) (b : Nat) : unenc encRot (([.own 900, (vI (↑a : Int)), (vI (↑m : Int)), (vI (↑b : Int)), AV.fn (18 : FuncId) []], [(900, Blk.mk false 29 5 (List.map eBeat xs))])) = some (xs, a, m, b) := unenc_of encRot_inj (xs, a, m, b) rfl

def resRot1 (xs : List Beat) (a : Nat) (m : Nat) (b : Nat) : AV × Heap × List Nat := (.tup [], [(900, ⟨false, 29, 5, (K.rotS m (m - a) (b - m) xs).map eBeat⟩)], [])

def preRot1 (xs : List Beat) (a : Nat) (m : Nat) (b : Nat) : Bool := decide (a < m ∧ m < b ∧ b ≤ xs.length ∧ xs.length ≤ 100000)

noncomputable def oRot : OrcH := orcH 62 encRot (fun a => preRot1 a.1 a.2.1 a.2.2.1 a.2.2.2) fun a => resRot1 a.1 a.2.1 a.2.2.1 a.2.2.2

theorem okRot : OrcHOK Try.prog noG oRot := by
  refine mkH_ok (mv := []) Try.f62 (by kernel_rfl) (by kernel_rfl) enRot_ok mixed (one_loop (x0 := loopN Try.f62 0) (by kernel_rfl) (lpo_ok ?_)) ?_
  · rintro ⟨xs, m, i, j⟩ hp
    exact lpRot_ok xs m i j hp
  rintro ⟨xs, a, m, b⟩ hpre hok hokh
  show (runH enRot [] _ (encRot1 _ _ _ _).1 (encRot1 _ _ _ _).2).val = some (resRot1 _ _ _ _)
  unfold encRot1 resRot1
  rw [evRot]
  simp only [preRot1, decide_eq_true_eq] at hpre
  obtain ⟨h1, h2, h3, h4⟩ := hpre
  obtain ⟨r1, r2, r3, r4, r5⟩ := K.rotL_spec _ (m - a) (b - m) m xs (Nat.le_refl _) (by omega) (by omega) (by omega) (by omega)
  have hq : 0 < m - a ∧ 0 < b - m ∧ m - a ≤ m ∧ m + (b - m) ≤ xs.length ∧ xs.length ≤ 100000 := ⟨by omega, by omega, by omega, by omega, h4⟩
  have hq2 : m - (K.rotL m (m - a) (b - m) xs).1 + (K.rotL m (m - a) (b - m) xs).1 ≤ (K.rotL m (m - a) (b - m) xs).2.length ∧ m + (K.rotL m (m - a) (b - m) xs).1 ≤ (K.rotL m (m - a) (b - m) xs).2.length ∧ (K.rotL m (m - a) (b - m) xs).2.length ≤ 100000 := ⟨by omega, by omega, by omega⟩
  simp only [unSwR, preSwR1, unstRot, prlRot, outRot, etaBeat, etaSpan, etaHole, etaLevel, etaFigs, etaRatio, etaRep, etaStay, Option.bind_some, List.length_map, unStrs, unInts, unBools, unBeats, uneL_eBeats, unSpans, unHoles, unLevels, unFigss, unRatios, unReps, unStays, F.lt, F.le, cond_true, cond_false, Bool.and_true, Bool.true_and, w_sub (show a ≤ m by omega) (show m ≤ 9223372036854775807 by omega), w_sub (show m ≤ b by omega) (show b ≤ 9223372036854775807 by omega), hq, and_self, decide_true, w_sub r2 (show m ≤ 9223372036854775807 by omega), hq2, r5]


end M
end Go.Proofs.Ytlnflhmepnbcmaa
