/- What is proved here: a contract of the function that merges in place (no statement of the seat). -/
import Derived.Test.YtlnflhmepnbcmaaB61
namespace Go.Proofs.Ytlnflhmepnbcmaa
open Go Go.RowKit
set_option linter.unusedVariables false
set_option linter.unusedSimpArgs false
set_option maxHeartbeats 1000000

namespace M


def stY1 (xs : List Beat) (a : Nat) (i : Nat) (j : Nat) : St := ⟨[(11, vI j), (10, vI i), (4, .fn 18 []), (1, vI a), (0, .own 900)], [(900, ⟨false, 29, 5, xs.map eBeat⟩)]⟩

def stY11 (a : (List Beat) × Nat × Nat × Nat) : St := stY1 a.1 a.2.1 a.2.2.1 a.2.2.2

theorem stY1_inj (a a' : (List Beat) × Nat × Nat × Nat) (h : stY11 a = stY11 a') : a = a' := by
  simp only [stY11, stY1] at h
  try simp [strs_inj, ints_inj, bools_inj, eBeats_inj, eBeat_iff, eL_eBeats_inj, eSpans_inj, eSpan_iff, eHoles_inj, eHole_iff, eLevels_inj, eLevel_iff, eFigss_inj, eFigs_iff, eRatios_inj, eRatio_iff, eReps_inj, eRep_iff, eStays_inj, eStay_iff] at h
  grind

theorem unstY1 (xs : List Beat) (a : Nat) (i : Nat) (j : Nat) : unenc stY11 (St.mk [(11, (vI (↑j : Int))), (10, (vI (↑i : Int))), (4, AV.fn (18 : FuncId) []), (1, (vI (↑a : Int))), (0, .own 900)] [(900, Blk.mk false 29 5 (List.map eBeat xs))]) = some (xs, a, i, j) := unenc_of stY1_inj (xs, a, i, j) rfl

def outY1 (xs : List Beat) (a : Nat) (i : Nat) (j : Nat) : T (Ex × St) := .ret (.exit 0, ⟨[(10, vI (K.bs (fun k => F.ltB (xs.getD k default) (xs.getD a default)) i j)), (1, vI a), (0, .own 900)], [(900, ⟨false, 29, 5, xs.map eBeat⟩)]⟩)

noncomputable def prlY1 (xs : List Beat) (a : Nat) (i : Nat) (j : Nat) : Bool := decide (i ≤ j ∧ j ≤ xs.length ∧ a < xs.length ∧ xs.length ≤ 100000)

noncomputable def lpY1 : Nat × (St → T (Ex × St)) := (3, lpo [11, 10, 4, 1, 0] [900] stY11 (fun a => prlY1 a.1 a.2.1 a.2.2.1 a.2.2.2) fun a => outY1 a.1 a.2.1 a.2.2.1 a.2.2.2)

def stY2 (xs : List Beat) (i : Nat) (k : Nat) : St := ⟨[(13, vI k), (10, vI i), (0, .own 900)], [(900, ⟨false, 29, 5, xs.map eBeat⟩)]⟩

def stY21 (a : (List Beat) × Nat × Nat) : St := stY2 a.1 a.2.1 a.2.2

theorem stY2_inj (a a' : (List Beat) × Nat × Nat) (h : stY21 a = stY21 a') : a = a' := by
  simp only [stY21, stY2] at h
  try simp [strs_inj, ints_inj, bools_inj, eBeats_inj, eBeat_iff, eL_eBeats_inj, eSpans_inj, eSpan_iff, eHoles_inj, eHole_iff, eLevels_inj, eLevel_iff, eFigss_inj, eFigs_iff, eRatios_inj, eRatio_iff, eReps_inj, eRep_iff, eStays_inj, eStay_iff] at h
  grind

theorem unstY2 (xs : List Beat) (i : Nat) (k : Nat) : unenc stY21 (St.mk [(13, (vI (↑k : Int))), (10, (vI (↑i : Int))), (0, .own 900)] [(900, Blk.mk false 29 5 (List.map eBeat xs))]) = some (xs, i, k) := unenc_of stY2_inj (xs, i, k) rfl

def outY2 (xs : List Beat) (i : Nat) (k : Nat) : T (Ex × St) := .ret (.exit 2, ⟨[], [(900, ⟨false, 29, 5, (K.bubU (i - 1 - k) k xs).map eBeat⟩)]⟩)

noncomputable def prlY2 (xs : List Beat) (i : Nat) (k : Nat) : Bool := decide (1 ≤ i ∧ i ≤ xs.length ∧ xs.length ≤ 100000)

noncomputable def lpY2 : Nat × (St → T (Ex × St)) := (9, lpo [13, 10, 0] [900] stY21 (fun a => prlY2 a.1 a.2.1 a.2.2) fun a => outY2 a.1 a.2.1 a.2.2)

def stY3 (xs : List Beat) (m : Nat) (i : Nat) (j : Nat) : St := ⟨[(15, vI j), (14, vI i), (4, .fn 18 []), (2, vI m), (0, .own 900)], [(900, ⟨false, 29, 5, xs.map eBeat⟩)]⟩

def stY31 (a : (List Beat) × Nat × Nat × Nat) : St := stY3 a.1 a.2.1 a.2.2.1 a.2.2.2

theorem stY3_inj (a a' : (List Beat) × Nat × Nat × Nat) (h : stY31 a = stY31 a') : a = a' := by
  simp only [stY31, stY3] at h
  try simp [strs_inj, ints_inj, bools_inj, eBeats_inj, eBeat_iff, eL_eBeats_inj, eSpans_inj, eSpan_iff, eHoles_inj, eHole_iff, eLevels_inj, eLevel_iff, eFigss_inj, eFigs_iff, eRatios_inj, eRatio_iff, eReps_inj, eRep_iff, eStays_inj, eStay_iff] at h
  grind

theorem unstY3 (xs : List Beat) (m : Nat) (i : Nat) (j : Nat) : unenc stY31 (St.mk [(15, (vI (↑j : Int))), (14, (vI (↑i : Int))), (4, AV.fn (18 : FuncId) []), (2, (vI (↑m : Int))), (0, .own 900)] [(900, Blk.mk false 29 5 (List.map eBeat xs))]) = some (xs, m, i, j) := unenc_of stY3_inj (xs, m, i, j) rfl

def outY3 (xs : List Beat) (m : Nat) (i : Nat) (j : Nat) : T (Ex × St) := .ret (.exit 4, ⟨[(14, vI (K.bs (fun k => !F.ltB (xs.getD m default) (xs.getD k default)) i j)), (2, vI m), (0, .own 900)], [(900, ⟨false, 29, 5, xs.map eBeat⟩)]⟩)

noncomputable def prlY3 (xs : List Beat) (m : Nat) (i : Nat) (j : Nat) : Bool := decide (i ≤ j ∧ j ≤ xs.length ∧ m < xs.length ∧ xs.length ≤ 100000)

noncomputable def lpY3 : Nat × (St → T (Ex × St)) := (15, lpo [15, 14, 4, 2, 0] [900] stY31 (fun a => prlY3 a.1 a.2.1 a.2.2.1 a.2.2.2) fun a => outY3 a.1 a.2.1 a.2.2.1 a.2.2.2)

def stY4 (xs : List Beat) (i : Nat) (k : Nat) : St := ⟨[(17, vI k), (14, vI i), (0, .own 900)], [(900, ⟨false, 29, 5, xs.map eBeat⟩)]⟩

def stY41 (a : (List Beat) × Nat × Nat) : St := stY4 a.1 a.2.1 a.2.2

theorem stY4_inj (a a' : (List Beat) × Nat × Nat) (h : stY41 a = stY41 a') : a = a' := by
  simp only [stY41, stY4] at h
  try simp [strs_inj, ints_inj, bools_inj, eBeats_inj, eBeat_iff, eL_eBeats_inj, eSpans_inj, eSpan_iff, eHoles_inj, eHole_iff, eLevels_inj, eLevel_iff, eFigss_inj, eFigs_iff, eRatios_inj, eRatio_iff, eReps_inj, eRep_iff, eStays_inj, eStay_iff] at h
  grind

theorem unstY4 (xs : List Beat) (i : Nat) (k : Nat) : unenc stY41 (St.mk [(17, (vI (↑k : Int))), (14, (vI (↑i : Int))), (0, .own 900)] [(900, Blk.mk false 29 5 (List.map eBeat xs))]) = some (xs, i, k) := unenc_of stY4_inj (xs, i, k) rfl

def outY4 (xs : List Beat) (i : Nat) (k : Nat) : T (Ex × St) := .ret (.exit 6, ⟨[], [(900, ⟨false, 29, 5, (K.bubD (k - i) k xs).map eBeat⟩)]⟩)

noncomputable def prlY4 (xs : List Beat) (i : Nat) (k : Nat) : Bool := decide (k < xs.length ∧ xs.length ≤ 100000)

noncomputable def lpY4 : Nat × (St → T (Ex × St)) := (21, lpo [17, 14, 0] [900] stY41 (fun a => prlY4 a.1 a.2.1 a.2.2) fun a => outY4 a.1 a.2.1 a.2.2)

def stY5 (xs : List Beat) (a : Nat) (m : Nat) (b : Nat) (d : Nat) (n : Nat) (i : Nat) (j : Nat) (p : Nat) : St := ⟨[(22, vI p), (21, vI j), (20, vI i), (19, vI n), (18, vI d), (4, .fn 18 []), (3, vI b), (2, vI m), (1, vI a), (0, .own 900)], [(900, ⟨false, 29, 5, xs.map eBeat⟩)]⟩

def stY51 (a : (List Beat) × Nat × Nat × Nat × Nat × Nat × Nat × Nat × Nat) : St := stY5 a.1 a.2.1 a.2.2.1 a.2.2.2.1 a.2.2.2.2.1 a.2.2.2.2.2.1 a.2.2.2.2.2.2.1 a.2.2.2.2.2.2.2.1 a.2.2.2.2.2.2.2.2

theorem stY5_inj (a a' : (List Beat) × Nat × Nat × Nat × Nat × Nat × Nat × Nat × Nat) (h : stY51 a = stY51 a') : a = a' := by
  simp only [stY51, stY5] at h
  try simp [strs_inj, ints_inj, bools_inj, eBeats_inj, eBeat_iff, eL_eBeats_inj, eSpans_inj, eSpan_iff, eHoles_inj, eHole_iff, eLevels_inj, eLevel_iff, eFigss_inj, eFigs_iff, eRatios_inj, eRatio_iff, eReps_inj, eRep_iff, eStays_inj, eStay_iff] at h
  grind

theorem unstY5 (xs : List Beat) (a : Nat) (m : Nat) (b : Nat) (d : Nat) (n : Nat) (i : Nat) (j : Nat) (p : Nat) : unenc stY51 (St.mk [(22, (vI (↑p : Int))), (21, (vI (↑j : Int))), (20, (vI (↑i : Int))), (19, (vI (↑n : Int))), (18, (vI (↑d : Int))), (4, AV.fn (18 : FuncId) []), (3, (vI (↑b :
  Int))), (2, (vI (↑m : Int))), (1, (vI (↑a : Int))), (0, .own 900)] [(900, Blk.mk false 29 5 (List.map eBeat xs))]) = some (xs, a, m, b, d, n, i, j, p) := unenc_of stY5_inj (xs, a, m, b, d, n, i, j, p) rfl

def outY5 (xs : List Beat) (a : Nat) (m : Nat) (b : Nat) (d : Nat) (n : Nat) (i : Nat) (j : Nat) (p : Nat) : T (Ex × St) := .ret (.exit 8, ⟨[(20, vI (K.bs (fun k => !F.ltB (xs.getD (p - k) default) (xs.getD k default)) i j)), (19, vI n), (18, vI d), (4, .fn 18 []), (3, vI b), (2, vI m), (1, vI a), (0, .own 900)], [(900, ⟨false, 29, 5, xs.map eBeat⟩)]⟩)

noncomputable def prlY5 (xs : List Beat) (a : Nat) (m : Nat) (b : Nat) (d : Nat) (n : Nat) (i : Nat) (j : Nat) (p : Nat) : Bool := decide (i ≤ j ∧ j ≤ xs.length ∧ j ≤ p + 1 ∧ p < i + xs.length ∧ xs.length ≤ 100000)

noncomputable def lpY5 : Nat × (St → T (Ex × St)) := (33, lpo [22, 21, 20, 19, 18, 4, 3, 2, 1, 0] [900] stY51 (fun a => prlY5 a.1 a.2.1 a.2.2.1 a.2.2.2.1 a.2.2.2.2.1 a.2.2.2.2.2.1 a.2.2.2.2.2.2.1 a.2.2.2.2.2.2.2.1 a.2.2.2.2.2.2.2.2) fun a => outY5 a.1 a.2.1 a.2.2.1 a.2.2.2.1 a.2.2.2.2.1 a.2.2.2.2.2.1 a.2.2.2.2.2.2.1 a.2.2.2.2.2.2.2.1 a.2.2.2.2.2.2.2.2)

def encSym1 (xs : List Beat) (a : Nat) (m : Nat) (b : Nat) : List AV × Heap := ([.own 900, vI a, vI m, vI b, .fn 18 []], [(900, ⟨false, 29, 5, xs.map eBeat⟩)])

def encSym (a : (List Beat) × Nat × Nat × Nat) : List AV × Heap := encSym1 a.1 a.2.1 a.2.2.1 a.2.2.2

theorem encSym_inj (a a' : (List Beat) × Nat × Nat × Nat) (h : encSym a = encSym a') : a = a' := by
  simp only [encSym, encSym1] at h
  try simp [strs_inj, ints_inj, bools_inj, eBeats_inj, eBeat_iff, eL_eBeats_inj, eSpans_inj, eSpan_iff, eHoles_inj, eHole_iff, eLevels_inj, eLevel_iff, eFigss_inj, eFigs_iff, eRatios_inj, eRatio_iff, eReps_inj, eRep_iff, eStays_inj, eStay_iff] at h
  grind

theorem unSym (xs : List Beat) (a : Nat) (m : Nat) (b : Nat) : unenc encSym (([.own 900, (vI (↑a : Int)), (vI (↑m : Int)), (vI (↑b : Int)), AV.fn (18 : FuncId) []], [(900, Blk.mk false 29 5 (List.map eBeat xs))])) = some (xs, a, m, b) := unenc_of encSym_inj (xs, a, m, b) rfl

def resSym1 (xs : List Beat) (a : Nat) (m : Nat) (b : Nat) : AV × Heap × List Nat := (.tup [], [(900, ⟨false, 29, 5, (K.seg a b (K.srt F.ltB) xs).map eBeat⟩)], [])

def preSym1 (xs : List Beat) (a : Nat) (m : Nat) (b : Nat) : Bool := true

noncomputable def oSym : OrcH := orcH 48 encSym (fun a => preSym1 a.1 a.2.1 a.2.2.1 a.2.2.2) fun a => resSym1 a.1 a.2.1 a.2.2.1 a.2.2.2

noncomputable def preSym2 (c : Nat) (xs : List Beat) (a m b : Nat) : Bool := decide (b - a < c ∧ a < m ∧ m < b ∧ b ≤ xs.length ∧ xs.length ≤ 100000) && K.srtD F.ltB a m xs && K.srtD F.ltB m b xs

noncomputable def oSymN (c : Nat) : OrcH := orcH 48 encSym (fun x => preSym2 c x.1 x.2.1 x.2.2.1 x.2.2.2) fun x => resSym1 x.1 x.2.1 x.2.2.1 x.2.2.2

noncomputable def enSym (c : Nat) : Env := envH ty noG lks [oBor] [oRot, oSymN c] [] [lpY1, lpY2, lpY3, lpY4, lpY5]

theorem enSym_ok (c : Nat) (h : OrcHOK Try.prog noG (oSymN c)) : EnvOK Try.prog (enSym c) := by
  refine envH_ok lks_ok ty_ok ?_ ?_
  · simp only [List.forall_mem_cons]
    exact ⟨okBor, by simp⟩
  · simp only [List.forall_mem_cons]
    exact ⟨okRot, h, by simp⟩

theorem w_half {i j : Nat} (h : i + j ≤ 9223372036854775807) : IntKind.i64.wrap (Int.fdiv (IntKind.u64.wrap (IntKind.i64.wrap ((i : Int) + (j : Int)))) 2) = (((i + j) / 2 : Nat) : Int) := by
  rw [w_add h]
  have h1 : IntKind.u64.wrap ((i + j : Nat) : Int) = ((i + j : Nat) : Int) := by
    simp only [IntKind.wrap, IntKind.signed, IntKind.bits]
    simp
    omega
  rw [h1, Int.fdiv_eq_ediv_of_nonneg _ (by decide), wrap_id (by omega) (by omega)]
  omega

theorem evY1L (c : Nat) (xs : List Beat) (a : Nat) (i : Nat) (j : Nat) : ((exec (enSym c) (loopN Try.f48 0) (stY1 xs a i j)).bind (lessX ([11, 10, 4, 1, 0], [900]) ([10, 1, 0], [900]) ([], []))).val =
  bif decide ((↑i : Int) < (↑j : Int)) then Option.bind (idx (IntKind.wrap IntKind.i64 (Int.fdiv (IntKind.wrap IntKind.u64 (IntKind.wrap IntKind.i64 ((↑i : Int) + (↑j :
  Int)))) (2 : Int)))) fun (z : Nat) => bif decide (z < List.length (Blk.mk false 29 5 (List.map eBeat xs)).rows) then Option.bind (unenc (List.map eBeat) (List.map eBeat
  xs)) fun (z_1 : List Beat) => bif decide (z < List.length z_1) then bif decide (a < List.length (Blk.mk false 29 5 (List.map eBeat xs)).rows) then Option.bind (unenc
  (List.map eBeat) (List.map eBeat xs)) fun (z_2 : List Beat) => bif decide (a < List.length z_2) then Option.bind (unenc encBor [AV.agg [(vS (List.getD z_1 z (Beat.mk
  (ByteArray.mk (Array.mk [])) (0 : Int) (0 : Int) (0 : Int) (0 : Int))).session), (vI (List.getD z_1 z (Beat.mk (ByteArray.mk (Array.mk [])) (0 : Int) (0 : Int) (0 : Int)
  (0 : Int))).no), (vI (List.getD z_1 z (Beat.mk (ByteArray.mk (Array.mk [])) (0 : Int) (0 : Int) (0 : Int) (0 : Int))).time), (vI (List.getD z_1 z (Beat.mk (ByteArray.mk
  (Array.mk [])) (0 : Int) (0 : Int) (0 : Int) (0 : Int))).state), (vI (List.getD z_1 z (Beat.mk (ByteArray.mk (Array.mk [])) (0 : Int) (0 : Int) (0 : Int) (0 :
  Int))).rate)], AV.agg [(vS (List.getD z_2 a (Beat.mk (ByteArray.mk (Array.mk [])) (0 : Int) (0 : Int) (0 : Int) (0 : Int))).session), (vI (List.getD z_2 a (Beat.mk
  (ByteArray.mk (Array.mk [])) (0 : Int) (0 : Int) (0 : Int) (0 : Int))).no), (vI (List.getD z_2 a (Beat.mk (ByteArray.mk (Array.mk [])) (0 : Int) (0 : Int) (0 : Int) (0 :
  Int))).time), (vI (List.getD z_2 a (Beat.mk (ByteArray.mk (Array.mk [])) (0 : Int) (0 : Int) (0 : Int) (0 : Int))).state), (vI (List.getD z_2 a (Beat.mk (ByteArray.mk
  (Array.mk [])) (0 : Int) (0 : Int) (0 : Int) (0 : Int))).rate)]]) fun (z : Beat × Beat) => bif decide (F.border z.fst z.snd < (0 : Int)) then some (Ex.normal, St.mk [(11,
  (vI (↑j : Int))), (10, (vI (IntKind.wrap IntKind.i64 (IntKind.wrap IntKind.i64 (Int.fdiv (IntKind.wrap IntKind.u64 (IntKind.wrap IntKind.i64 ((↑i : Int) + (↑j : Int)))) (2
  : Int)) + (1 : Int))))), (4, AV.fn (18 : FuncId) []), (1, (vI (↑a : Int))), (0, .own 900)] [(900, Blk.mk false 29 5 (List.map eBeat xs))]) else some (Ex.normal, St.mk
  [(11, (vI (IntKind.wrap IntKind.i64 (Int.fdiv (IntKind.wrap IntKind.u64 (IntKind.wrap IntKind.i64 ((↑i : Int) + (↑j : Int)))) (2 : Int))))), (10, (vI (↑i : Int))), (4,
  AV.fn (18 : FuncId) []), (1, (vI (↑a : Int))), (0, .own 900)] [(900, Blk.mk false 29 5 (List.map eBeat xs))]) else none else none else none else none else some (Ex.exit (0
  : Nat), St.mk [(10, (vI (↑i : Int))), (1, (vI (↑a : Int))), (0, .own 900)] [(900, Blk.mk false 29 5 (List.map eBeat xs))]) := (execR_bind _ _ _).symm.trans (by kernel_rfl)

theorem lpY1_ok (c : Nat) (xs : List Beat) (a : Nat) (i : Nat) (j : Nat) (hp : prlY1 xs a i j = true) : ∀ ex s', (outY1 xs a i j).val = some (ex, s') → LoopOK (enSym c) (loopN Try.f48 0) (stY1 xs a i j) ex s' := by
  simp only [prlY1, Bool.and_eq_true, decide_eq_true_eq] at hp
  obtain ⟨h1, h2, h3, h4⟩ := hp
  refine loop_gen (st := fun s : Nat × Nat => stY1 xs a s.1 s.2) (out := fun s => outY1 xs a s.1 s.2) (I := fun s => s.1 ≤ s.2 ∧ s.2 ≤ xs.length) (n := ([11, 10, 4, 1, 0], [900])) (e := ([10, 1, 0], [900])) (r := ([], [])) (fun s => s.2 - s.1) ?_ (i, j) ⟨h1, h2⟩
  rintro ⟨i, j⟩ ⟨h1, h2⟩
  simp only at h1 h2
  obtain ⟨x, hx⟩ := at_lt (show a < xs.length from h3)
  by_cases hlt : i < j
  · right
    obtain ⟨y, hy⟩ := at_lt (show (i + j) / 2 < xs.length by omega)
    have hw := w_half (i := i) (j := j) (by omega)
    cases hc : F.ltB y x
    · refine ⟨(i, (i + j) / 2), ?_, rfl, ⟨by simp only; omega, by simp only; omega⟩, by simp only; omega, ?_⟩
      · rw [evY1L]
        have hc2 : decide (F.border y x < 0) = false := hc
        simp only [unBor, unRot, unSym, unBorw, preBor1, preRot1, preSym1, unstY1, unstY2, unstY3, unstY4, unstY5, prlY1, prlY2, prlY3, prlY4, prlY5, outY1, outY2, outY3, outY4, outY5, etaBeat, etaSpan, etaHole, etaLevel, etaFigs, etaRatio, etaRep, etaStay, Option.bind_some, List.length_map, unStrs, unInts, unBools, unBeats, uneL_eBeats, unSpans, unHoles, unLevels, unFigss, unRatios, unReps, unStays, F.lt, F.le, cond_true, cond_false, Bool.and_true, Bool.true_and, cast_lt hlt, hw, idxN, decide_eq_true (lt_at hx), decide_eq_true (lt_at hy), getD_at hx, getD_at hy, hc2, stY1]
      · simp only [outY1]
        rw [K.bs_go0 hlt (by simp only [getD_at hx, getD_at hy]; exact hc)]
    · refine ⟨((i + j) / 2 + 1, j), ?_, rfl, ⟨by simp only; omega, h2⟩, by simp only; omega, ?_⟩
      · rw [evY1L]
        have hc2 : decide (F.border y x < 0) = true := hc
        simp only [unBor, unRot, unSym, unBorw, preBor1, preRot1, preSym1, unstY1, unstY2, unstY3, unstY4, unstY5, prlY1, prlY2, prlY3, prlY4, prlY5, outY1, outY2, outY3, outY4, outY5, etaBeat, etaSpan, etaHole, etaLevel, etaFigs, etaRatio, etaRep, etaStay, Option.bind_some, List.length_map, unStrs, unInts, unBools, unBeats, uneL_eBeats, unSpans, unHoles, unLevels, unFigss, unRatios, unReps, unStays, F.lt, F.le, cond_true, cond_false, Bool.and_true, Bool.true_and, cast_lt hlt, hw, idxN, decide_eq_true (lt_at hx), decide_eq_true (lt_at hy), getD_at hx, getD_at hy, hc2, w_add1 (show (i + j) / 2 < 9223372036854775807 by omega), stY1]
      · simp only [outY1]
        rw [K.bs_go1 hlt (by simp only [getD_at hx, getD_at hy]; exact hc)]
  · left
    refine ⟨_, ?_, rfl, by simp, rfl⟩
    rw [evY1L]
    simp only [dlt, decide_eq_false hlt, cond_false, K.bs_end hlt]

theorem evY2L (c : Nat) (xs : List Beat) (i : Nat) (k : Nat) : ((exec (enSym c) (loopN Try.f48 1) (stY2 xs i k)).bind (lessX ([13, 10, 0], [900]) ([], [900]) ([], []))).val =
  bif decide ((↑k : Int) < IntKind.wrap IntKind.i64 ((↑i : Int) - (1 : Int))) then Option.bind (idx (IntKind.wrap IntKind.i64 ((↑k : Int) + (1 : Int)))) fun (z : Nat) => bif
  decide (z < List.length (Blk.mk false 29 5 (List.map eBeat xs)).rows) then Option.bind (unenc (List.map eBeat) (List.map eBeat xs)) fun (z_1 : List Beat) => bif decide (z
  < List.length z_1) then bif decide (k < List.length (Blk.mk false 29 5 (List.map eBeat xs)).rows) then Option.bind (unenc (List.map eBeat) (List.map eBeat xs)) fun (z_2 :
  List Beat) => bif decide (k < List.length z_2) then bif decide (k < List.length (Blk.mk false 29 5 (List.map eBeat xs)).rows) then Option.bind (unenc (List.map eBeat)
  (List.map eBeat xs)) fun (z_3 : List Beat) => bif decide (k < List.length z_3) then Option.bind (idx (IntKind.wrap IntKind.i64 ((↑k : Int) + (1 : Int)))) fun (z_4 : Nat)
  => bif decide (z_4 < List.length (Blk.mk false 29 5 (List.set (List.map eBeat xs) k [(vS (List.getD z_1 z (Beat.mk (ByteArray.mk (Array.mk [])) (0 : Int) (0 : Int) (0 :
  Int) (0 : Int))).session), (vI (List.getD z_1 z (Beat.mk (ByteArray.mk (Array.mk [])) (0 : Int) (0 : Int) (0 : Int) (0 : Int))).no), (vI (List.getD z_1 z (Beat.mk
  (ByteArray.mk (Array.mk [])) (0 : Int) (0 : Int) (0 : Int) (0 : Int))).time), (vI (List.getD z_1 z (Beat.mk (ByteArray.mk (Array.mk [])) (0 : Int) (0 : Int) (0 : Int) (0 :
  Int))).state), (vI (List.getD z_1 z (Beat.mk (ByteArray.mk (Array.mk [])) (0 : Int) (0 : Int) (0 : Int) (0 : Int))).rate)])).rows) then Option.bind (unenc (List.map eBeat)
  (List.set (List.map eBeat xs) k [(vS (List.getD z_1 z (Beat.mk (ByteArray.mk (Array.mk [])) (0 : Int) (0 : Int) (0 : Int) (0 : Int))).session), (vI (List.getD z_1 z
  (Beat.mk (ByteArray.mk (Array.mk [])) (0 : Int) (0 : Int) (0 : Int) (0 : Int))).no), (vI (List.getD z_1 z (Beat.mk (ByteArray.mk (Array.mk [])) (0 : Int) (0 : Int) (0 :
  Int) (0 : Int))).time), (vI (List.getD z_1 z (Beat.mk (ByteArray.mk (Array.mk [])) (0 : Int) (0 : Int) (0 : Int) (0 : Int))).state), (vI (List.getD z_1 z (Beat.mk
  (ByteArray.mk (Array.mk [])) (0 : Int) (0 : Int) (0 : Int) (0 : Int))).rate)])) fun (z_5 : List Beat) => bif decide (z_4 < List.length z_5) then some (Ex.normal, St.mk
  [(13, (vI (IntKind.wrap IntKind.i64 ((↑k : Int) + (1 : Int))))), (10, (vI (↑i : Int))), (0, .own 900)] [(900, Blk.mk false 29 5 (List.set (List.set (List.map eBeat xs) k
  [(vS (List.getD z_1 z (Beat.mk (ByteArray.mk (Array.mk [])) (0 : Int) (0 : Int) (0 : Int) (0 : Int))).session), (vI (List.getD z_1 z (Beat.mk (ByteArray.mk (Array.mk []))
  (0 : Int) (0 : Int) (0 : Int) (0 : Int))).no), (vI (List.getD z_1 z (Beat.mk (ByteArray.mk (Array.mk [])) (0 : Int) (0 : Int) (0 : Int) (0 : Int))).time), (vI (List.getD
  z_1 z (Beat.mk (ByteArray.mk (Array.mk [])) (0 : Int) (0 : Int) (0 : Int) (0 : Int))).state), (vI (List.getD z_1 z (Beat.mk (ByteArray.mk (Array.mk [])) (0 : Int) (0 :
  Int) (0 : Int) (0 : Int))).rate)]) z_4 [(vS (List.getD z_2 k (Beat.mk (ByteArray.mk (Array.mk [])) (0 : Int) (0 : Int) (0 : Int) (0 : Int))).session), (vI (List.getD z_2 k
  (Beat.mk (ByteArray.mk (Array.mk [])) (0 : Int) (0 : Int) (0 : Int) (0 : Int))).no), (vI (List.getD z_2 k (Beat.mk (ByteArray.mk (Array.mk [])) (0 : Int) (0 : Int) (0 :
  Int) (0 : Int))).time), (vI (List.getD z_2 k (Beat.mk (ByteArray.mk (Array.mk [])) (0 : Int) (0 : Int) (0 : Int) (0 : Int))).state), (vI (List.getD z_2 k (Beat.mk
  (ByteArray.mk (Array.mk [])) (0 : Int) (0 : Int) (0 : Int) (0 : Int))).rate)]))]) else none else none else none else none else none else none else none else none else some
  (Ex.exit (2 : Nat), St.mk [] [(900, Blk.mk false 29 5 (List.map eBeat xs))]) := (execR_bind _ _ _).symm.trans (by kernel_rfl)

theorem lpY2_ok (c : Nat) (xs : List Beat) (i : Nat) (k : Nat) (hp : prlY2 xs i k = true) : ∀ ex s', (outY2 xs i k).val = some (ex, s') → LoopOK (enSym c) (loopN Try.f48 1) (stY2 xs i k) ex s' := by
  simp only [prlY2, Bool.and_eq_true, decide_eq_true_eq] at hp
  obtain ⟨h1, h2, h3⟩ := hp
  refine loop_gen (st := fun s : List Beat × Nat => stY2 s.1 i s.2) (out := fun s => outY2 s.1 i s.2) (I := fun s => i ≤ s.1.length ∧ s.1.length ≤ 100000) (n := ([13, 10, 0], [900])) (e := ([], [900])) (r := ([], [])) (fun s => i - s.2) ?_ (xs, k) ⟨h2, h3⟩
  rintro ⟨xs, k⟩ ⟨h2, h3⟩
  simp only at h2 h3
  by_cases hlt : k < i - 1
  · right
    obtain ⟨x, hx⟩ := at_lt (show k < xs.length by omega)
    obtain ⟨y, hy⟩ := at_lt (show k + 1 < xs.length by omega)
    refine ⟨(K.sw2 xs k (k + 1), k + 1), ?_, rfl, ⟨by simp only [K.sw2_len]; exact h2, by simp only [K.sw2_len]; exact h3⟩, by simp only; omega, ?_⟩
    · rw [evY2L]
      simp only [unBor, unRot, unSym, unBorw, preBor1, preRot1, preSym1, unstY1, unstY2, unstY3, unstY4, unstY5, prlY1, prlY2, prlY3, prlY4, prlY5, outY1, outY2, outY3, outY4, outY5, etaBeat, etaSpan, etaHole, etaLevel, etaFigs, etaRatio, etaRep, etaStay, Option.bind_some, List.length_map, unStrs, unInts, unBools, unBeats, uneL_eBeats, unSpans, unHoles, unLevels, unFigss, unRatios, unReps, unStays, F.lt, F.le, cond_true, cond_false, Bool.and_true, Bool.true_and, w_sub1 h1 (show i ≤ 9223372036854775807 by omega), cast_lt hlt, w_add1 (show k < 9223372036854775807 by omega), idxN, decide_eq_true (lt_at hx), decide_eq_true (lt_at hy), getD_at hx, getD_at hy, setWBeats, List.length_set, K.sw2_eq hx hy, stY2]
    · simp only [outY2]; rw [show i - 1 - k = (i - 1 - (k + 1)) + 1 by omega, K.bubU]
  · left
    refine ⟨_, ?_, rfl, by simp, rfl⟩
    rw [evY2L]
    simp only [w_sub1 h1 (show i ≤ 9223372036854775807 by omega), dlt, decide_eq_false hlt, cond_false, show i - 1 - k = 0 by omega, K.bubU]

theorem evY3L (c : Nat) (xs : List Beat) (m : Nat) (i : Nat) (j : Nat) : ((exec (enSym c) (loopN Try.f48 2) (stY3 xs m i j)).bind (lessX ([15, 14, 4, 2, 0], [900]) ([14, 2, 0], [900]) ([], []))).val =
  bif decide ((↑i : Int) < (↑j : Int)) then bif decide (m < List.length (Blk.mk false 29 5 (List.map eBeat xs)).rows) then Option.bind (unenc (List.map eBeat) (List.map
  eBeat xs)) fun (z : List Beat) => bif decide (m < List.length z) then Option.bind (idx (IntKind.wrap IntKind.i64 (Int.fdiv (IntKind.wrap IntKind.u64 (IntKind.wrap
  IntKind.i64 ((↑i : Int) + (↑j : Int)))) (2 : Int)))) fun (z_1 : Nat) => bif decide (z_1 < List.length (Blk.mk false 29 5 (List.map eBeat xs)).rows) then Option.bind (unenc
  (List.map eBeat) (List.map eBeat xs)) fun (z_2 : List Beat) => bif decide (z_1 < List.length z_2) then Option.bind (unenc encBor [AV.agg [(vS (List.getD z m (Beat.mk
  (ByteArray.mk (Array.mk [])) (0 : Int) (0 : Int) (0 : Int) (0 : Int))).session), (vI (List.getD z m (Beat.mk (ByteArray.mk (Array.mk [])) (0 : Int) (0 : Int) (0 : Int) (0
  : Int))).no), (vI (List.getD z m (Beat.mk (ByteArray.mk (Array.mk [])) (0 : Int) (0 : Int) (0 : Int) (0 : Int))).time), (vI (List.getD z m (Beat.mk (ByteArray.mk (Array.mk
  [])) (0 : Int) (0 : Int) (0 : Int) (0 : Int))).state), (vI (List.getD z m (Beat.mk (ByteArray.mk (Array.mk [])) (0 : Int) (0 : Int) (0 : Int) (0 : Int))).rate)], AV.agg
  [(vS (List.getD z_2 z_1 (Beat.mk (ByteArray.mk (Array.mk [])) (0 : Int) (0 : Int) (0 : Int) (0 : Int))).session), (vI (List.getD z_2 z_1 (Beat.mk (ByteArray.mk (Array.mk
  [])) (0 : Int) (0 : Int) (0 : Int) (0 : Int))).no), (vI (List.getD z_2 z_1 (Beat.mk (ByteArray.mk (Array.mk [])) (0 : Int) (0 : Int) (0 : Int) (0 : Int))).time), (vI
  (List.getD z_2 z_1 (Beat.mk (ByteArray.mk (Array.mk [])) (0 : Int) (0 : Int) (0 : Int) (0 : Int))).state), (vI (List.getD z_2 z_1 (Beat.mk (ByteArray.mk (Array.mk [])) (0
  : Int) (0 : Int) (0 : Int) (0 : Int))).rate)]]) fun (z : Beat × Beat) => bif !decide (F.border z.fst z.snd < (0 : Int)) then some (Ex.normal, St.mk [(15, (vI (↑j : Int))),
  (14, (vI (IntKind.wrap IntKind.i64 (IntKind.wrap IntKind.i64 (Int.fdiv (IntKind.wrap IntKind.u64 (IntKind.wrap IntKind.i64 ((↑i : Int) + (↑j : Int)))) (2 : Int)) + (1 :
  Int))))), (4, AV.fn (18 : FuncId) []), (2, (vI (↑m : Int))), (0, .own 900)] [(900, Blk.mk false 29 5 (List.map eBeat xs))]) else some (Ex.normal, St.mk [(15, (vI
  (IntKind.wrap IntKind.i64 (Int.fdiv (IntKind.wrap IntKind.u64 (IntKind.wrap IntKind.i64 ((↑i : Int) + (↑j : Int)))) (2 : Int))))), (14, (vI (↑i : Int))), (4, AV.fn (18 :
  FuncId) []), (2, (vI (↑m : Int))), (0, .own 900)] [(900, Blk.mk false 29 5 (List.map eBeat xs))]) else none else none else none else none else some (Ex.exit (4 : Nat),
  St.mk [(14, (vI (↑i : Int))), (2, (vI (↑m : Int))), (0, .own 900)] [(900, Blk.mk false 29 5 (List.map eBeat xs))]) := (execR_bind _ _ _).symm.trans (by kernel_rfl)

theorem lpY3_ok (c : Nat) (xs : List Beat) (m : Nat) (i : Nat) (j : Nat) (hp : prlY3 xs m i j = true) : ∀ ex s', (outY3 xs m i j).val = some (ex, s') → LoopOK (enSym c) (loopN Try.f48 2) (stY3 xs m i j) ex s' := by
  simp only [prlY3, Bool.and_eq_true, decide_eq_true_eq] at hp
  obtain ⟨h1, h2, h3, h4⟩ := hp
  refine loop_gen (st := fun s : Nat × Nat => stY3 xs m s.1 s.2) (out := fun s => outY3 xs m s.1 s.2) (I := fun s => s.1 ≤ s.2 ∧ s.2 ≤ xs.length) (n := ([15, 14, 4, 2, 0], [900])) (e := ([14, 2, 0], [900])) (r := ([], [])) (fun s => s.2 - s.1) ?_ (i, j) ⟨h1, h2⟩
  rintro ⟨i, j⟩ ⟨h1, h2⟩
  simp only at h1 h2
  obtain ⟨x, hx⟩ := at_lt (show m < xs.length from h3)
  by_cases hlt : i < j
  · right
    obtain ⟨y, hy⟩ := at_lt (show (i + j) / 2 < xs.length by omega)
    have hw := w_half (i := i) (j := j) (by omega)
    cases hc : F.ltB x y
    · refine ⟨((i + j) / 2 + 1, j), ?_, rfl, ⟨by simp only; omega, h2⟩, by simp only; omega, ?_⟩
      · rw [evY3L]
        have hc2 : decide (F.border x y < 0) = false := hc
        simp only [unBor, unRot, unSym, unBorw, preBor1, preRot1, preSym1, unstY1, unstY2, unstY3, unstY4, unstY5, prlY1, prlY2, prlY3, prlY4, prlY5, outY1, outY2, outY3, outY4, outY5, etaBeat, etaSpan, etaHole, etaLevel, etaFigs, etaRatio, etaRep, etaStay, Option.bind_some, List.length_map, unStrs, unInts, unBools, unBeats, uneL_eBeats, unSpans, unHoles, unLevels, unFigss, unRatios, unReps, unStays, F.lt, F.le, cond_true, cond_false, Bool.and_true, Bool.true_and, cast_lt hlt, hw, idxN, decide_eq_true (lt_at hx), decide_eq_true (lt_at hy), getD_at hx, getD_at hy, hc2, Bool.not_false, w_add1 (show (i + j) / 2 < 9223372036854775807 by omega), stY3]
      · simp only [outY3]
        rw [K.bs_go1 hlt (by simp only [getD_at hx, getD_at hy, hc, Bool.not_false])]
    · refine ⟨(i, (i + j) / 2), ?_, rfl, ⟨by simp only; omega, by simp only; omega⟩, by simp only; omega, ?_⟩
      · rw [evY3L]
        have hc2 : decide (F.border x y < 0) = true := hc
        simp only [unBor, unRot, unSym, unBorw, preBor1, preRot1, preSym1, unstY1, unstY2, unstY3, unstY4, unstY5, prlY1, prlY2, prlY3, prlY4, prlY5, outY1, outY2, outY3, outY4, outY5, etaBeat, etaSpan, etaHole, etaLevel, etaFigs, etaRatio, etaRep, etaStay, Option.bind_some, List.length_map, unStrs, unInts, unBools, unBeats, uneL_eBeats, unSpans, unHoles, unLevels, unFigss, unRatios, unReps, unStays, F.lt, F.le, cond_true, cond_false, Bool.and_true, Bool.true_and, cast_lt hlt, hw, idxN, decide_eq_true (lt_at hx), decide_eq_true (lt_at hy), getD_at hx, getD_at hy, hc2, Bool.not_true, stY3]
      · simp only [outY3]
        rw [K.bs_go0 hlt (by simp only [getD_at hx, getD_at hy, hc, Bool.not_true])]
  · left
    refine ⟨_, ?_, rfl, by simp, rfl⟩
    rw [evY3L]
    simp only [dlt, decide_eq_false hlt, cond_false, K.bs_end hlt]

theorem evY4L (c : Nat) (xs : List Beat) (i : Nat) (k : Nat) : ((exec (enSym c) (loopN Try.f48 3) (stY4 xs i k)).bind (lessX ([17, 14, 0], [900]) ([], [900]) ([], []))).val =
  bif decide ((↑i : Int) < (↑k : Int)) then Option.bind (idx (IntKind.wrap IntKind.i64 ((↑k : Int) - (1 : Int)))) fun (z : Nat) => bif decide (z < List.length (Blk.mk false
  29 5 (List.map eBeat xs)).rows) then Option.bind (unenc (List.map eBeat) (List.map eBeat xs)) fun (z_1 : List Beat) => bif decide (z < List.length z_1) then bif decide (k
  < List.length (Blk.mk false 29 5 (List.map eBeat xs)).rows) then Option.bind (unenc (List.map eBeat) (List.map eBeat xs)) fun (z_2 : List Beat) => bif decide (k <
  List.length z_2) then bif decide (k < List.length (Blk.mk false 29 5 (List.map eBeat xs)).rows) then Option.bind (unenc (List.map eBeat) (List.map eBeat xs)) fun (z_3 :
  List Beat) => bif decide (k < List.length z_3) then Option.bind (idx (IntKind.wrap IntKind.i64 ((↑k : Int) - (1 : Int)))) fun (z_4 : Nat) => bif decide (z_4 < List.length
  (Blk.mk false 29 5 (List.set (List.map eBeat xs) k [(vS (List.getD z_1 z (Beat.mk (ByteArray.mk (Array.mk [])) (0 : Int) (0 : Int) (0 : Int) (0 : Int))).session), (vI
  (List.getD z_1 z (Beat.mk (ByteArray.mk (Array.mk [])) (0 : Int) (0 : Int) (0 : Int) (0 : Int))).no), (vI (List.getD z_1 z (Beat.mk (ByteArray.mk (Array.mk [])) (0 : Int)
  (0 : Int) (0 : Int) (0 : Int))).time), (vI (List.getD z_1 z (Beat.mk (ByteArray.mk (Array.mk [])) (0 : Int) (0 : Int) (0 : Int) (0 : Int))).state), (vI (List.getD z_1 z
  (Beat.mk (ByteArray.mk (Array.mk [])) (0 : Int) (0 : Int) (0 : Int) (0 : Int))).rate)])).rows) then Option.bind (unenc (List.map eBeat) (List.set (List.map eBeat xs) k
  [(vS (List.getD z_1 z (Beat.mk (ByteArray.mk (Array.mk [])) (0 : Int) (0 : Int) (0 : Int) (0 : Int))).session), (vI (List.getD z_1 z (Beat.mk (ByteArray.mk (Array.mk []))
  (0 : Int) (0 : Int) (0 : Int) (0 : Int))).no), (vI (List.getD z_1 z (Beat.mk (ByteArray.mk (Array.mk [])) (0 : Int) (0 : Int) (0 : Int) (0 : Int))).time), (vI (List.getD
  z_1 z (Beat.mk (ByteArray.mk (Array.mk [])) (0 : Int) (0 : Int) (0 : Int) (0 : Int))).state), (vI (List.getD z_1 z (Beat.mk (ByteArray.mk (Array.mk [])) (0 : Int) (0 :
  Int) (0 : Int) (0 : Int))).rate)])) fun (z_5 : List Beat) => bif decide (z_4 < List.length z_5) then some (Ex.normal, St.mk [(17, (vI (IntKind.wrap IntKind.i64 ((↑k : Int)
  - (1 : Int))))), (14, (vI (↑i : Int))), (0, .own 900)] [(900, Blk.mk false 29 5 (List.set (List.set (List.map eBeat xs) k [(vS (List.getD z_1 z (Beat.mk (ByteArray.mk
  (Array.mk [])) (0 : Int) (0 : Int) (0 : Int) (0 : Int))).session), (vI (List.getD z_1 z (Beat.mk (ByteArray.mk (Array.mk [])) (0 : Int) (0 : Int) (0 : Int) (0 :
  Int))).no), (vI (List.getD z_1 z (Beat.mk (ByteArray.mk (Array.mk [])) (0 : Int) (0 : Int) (0 : Int) (0 : Int))).time), (vI (List.getD z_1 z (Beat.mk (ByteArray.mk
  (Array.mk [])) (0 : Int) (0 : Int) (0 : Int) (0 : Int))).state), (vI (List.getD z_1 z (Beat.mk (ByteArray.mk (Array.mk [])) (0 : Int) (0 : Int) (0 : Int) (0 :
  Int))).rate)]) z_4 [(vS (List.getD z_2 k (Beat.mk (ByteArray.mk (Array.mk [])) (0 : Int) (0 : Int) (0 : Int) (0 : Int))).session), (vI (List.getD z_2 k (Beat.mk
  (ByteArray.mk (Array.mk [])) (0 : Int) (0 : Int) (0 : Int) (0 : Int))).no), (vI (List.getD z_2 k (Beat.mk (ByteArray.mk (Array.mk [])) (0 : Int) (0 : Int) (0 : Int) (0 :
  Int))).time), (vI (List.getD z_2 k (Beat.mk (ByteArray.mk (Array.mk [])) (0 : Int) (0 : Int) (0 : Int) (0 : Int))).state), (vI (List.getD z_2 k (Beat.mk (ByteArray.mk
  (Array.mk [])) (0 : Int) (0 : Int) (0 : Int) (0 : Int))).rate)]))]) else none else none else none else none else none else none else none else none else some (Ex.exit (6 :
  Nat), St.mk [] [(900, Blk.mk false 29 5 (List.map eBeat xs))]) := (execR_bind _ _ _).symm.trans (by kernel_rfl)

theorem lpY4_ok (c : Nat) (xs : List Beat) (i : Nat) (k : Nat) (hp : prlY4 xs i k = true) : ∀ ex s', (outY4 xs i k).val = some (ex, s') → LoopOK (enSym c) (loopN Try.f48 3) (stY4 xs i k) ex s' := by
  simp only [prlY4, Bool.and_eq_true, decide_eq_true_eq] at hp
  obtain ⟨h1, h3⟩ := hp
  refine loop_gen (st := fun s : List Beat × Nat => stY4 s.1 i s.2) (out := fun s => outY4 s.1 i s.2) (I := fun s => s.2 < s.1.length ∧ s.1.length ≤ 100000) (n := ([17, 14, 0], [900])) (e := ([], [900])) (r := ([], [])) (fun s => s.2) ?_ (xs, k) ⟨h1, h3⟩
  rintro ⟨xs, k⟩ ⟨h1, h3⟩
  simp only at h1 h3
  by_cases hlt : i < k
  · right
    obtain ⟨x, hx⟩ := at_lt (show k < xs.length by omega)
    obtain ⟨y, hy⟩ := at_lt (show k - 1 < xs.length by omega)
    refine ⟨(K.sw2 xs k (k - 1), k - 1), ?_, rfl, ⟨by simp only [K.sw2_len]; omega, by simp only [K.sw2_len]; exact h3⟩, by simp only; omega, ?_⟩
    · rw [evY4L]
      simp only [unBor, unRot, unSym, unBorw, preBor1, preRot1, preSym1, unstY1, unstY2, unstY3, unstY4, unstY5, prlY1, prlY2, prlY3, prlY4, prlY5, outY1, outY2, outY3, outY4, outY5, etaBeat, etaSpan, etaHole, etaLevel, etaFigs, etaRatio, etaRep, etaStay, Option.bind_some, List.length_map, unStrs, unInts, unBools, unBeats, uneL_eBeats, unSpans, unHoles, unLevels, unFigss, unRatios, unReps, unStays, F.lt, F.le, cond_true, cond_false, Bool.and_true, Bool.true_and, w_sub1 (show 1 ≤ k by omega) (show k ≤ 9223372036854775807 by omega), cast_lt hlt, idxN, decide_eq_true (lt_at hx), decide_eq_true (lt_at hy), getD_at hx, getD_at hy, setWBeats, List.length_set, K.sw2_eq hx hy, stY4]
    · simp only [outY4]; rw [show k - i = (k - 1 - i) + 1 by omega, K.bubD]
  · left
    refine ⟨_, ?_, rfl, by simp, rfl⟩
    rw [evY4L]
    simp only [dlt, decide_eq_false hlt, cond_false, show k - i = 0 by omega, K.bubD]

theorem evY5L (c : Nat) (xs : List Beat) (a : Nat) (m : Nat) (b : Nat) (d : Nat) (n : Nat) (i : Nat) (j : Nat) (p : Nat) : ((exec (enSym c) (loopN Try.f48 4) (stY5 xs a m b d n i j p)).bind (lessX ([22, 21, 20, 19, 18, 4, 3, 2, 1, 0], [900]) ([20, 19, 18, 4, 3, 2, 1, 0], [900]) ([], []))).val =
  bif decide ((↑i : Int) < (↑j : Int)) then Option.bind (idx (IntKind.wrap IntKind.i64 ((↑p : Int) - IntKind.wrap IntKind.i64 (Int.fdiv (IntKind.wrap IntKind.u64
  (IntKind.wrap IntKind.i64 ((↑i : Int) + (↑j : Int)))) (2 : Int))))) fun (z : Nat) => bif decide (z < List.length (Blk.mk false 29 5 (List.map eBeat xs)).rows) then
  Option.bind (unenc (List.map eBeat) (List.map eBeat xs)) fun (z_1 : List Beat) => bif decide (z < List.length z_1) then Option.bind (idx (IntKind.wrap IntKind.i64
  (Int.fdiv (IntKind.wrap IntKind.u64 (IntKind.wrap IntKind.i64 ((↑i : Int) + (↑j : Int)))) (2 : Int)))) fun (z_2 : Nat) => bif decide (z_2 < List.length (Blk.mk false 29 5
  (List.map eBeat xs)).rows) then Option.bind (unenc (List.map eBeat) (List.map eBeat xs)) fun (z_3 : List Beat) => bif decide (z_2 < List.length z_3) then Option.bind
  (unenc encBor [AV.agg [(vS (List.getD z_1 z (Beat.mk (ByteArray.mk (Array.mk [])) (0 : Int) (0 : Int) (0 : Int) (0 : Int))).session), (vI (List.getD z_1 z (Beat.mk
  (ByteArray.mk (Array.mk [])) (0 : Int) (0 : Int) (0 : Int) (0 : Int))).no), (vI (List.getD z_1 z (Beat.mk (ByteArray.mk (Array.mk [])) (0 : Int) (0 : Int) (0 : Int) (0 :
  Int))).time), (vI (List.getD z_1 z (Beat.mk (ByteArray.mk (Array.mk [])) (0 : Int) (0 : Int) (0 : Int) (0 : Int))).state), (vI (List.getD z_1 z (Beat.mk (ByteArray.mk
  (Array.mk [])) (0 : Int) (0 : Int) (0 : Int) (0 : Int))).rate)], AV.agg [(vS (List.getD z_3 z_2 (Beat.mk (ByteArray.mk (Array.mk [])) (0 : Int) (0 : Int) (0 : Int) (0 :
  Int))).session), (vI (List.getD z_3 z_2 (Beat.mk (ByteArray.mk (Array.mk [])) (0 : Int) (0 : Int) (0 : Int) (0 : Int))).no), (vI (List.getD z_3 z_2 (Beat.mk (ByteArray.mk
  (Array.mk [])) (0 : Int) (0 : Int) (0 : Int) (0 : Int))).time), (vI (List.getD z_3 z_2 (Beat.mk (ByteArray.mk (Array.mk [])) (0 : Int) (0 : Int) (0 : Int) (0 :
  Int))).state), (vI (List.getD z_3 z_2 (Beat.mk (ByteArray.mk (Array.mk [])) (0 : Int) (0 : Int) (0 : Int) (0 : Int))).rate)]]) fun (z : Beat × Beat) => bif !decide
  (F.border z.fst z.snd < (0 : Int)) then some (Ex.normal, St.mk [(22, (vI (↑p : Int))), (21, (vI (↑j : Int))), (20, (vI (IntKind.wrap IntKind.i64 (IntKind.wrap IntKind.i64
  (Int.fdiv (IntKind.wrap IntKind.u64 (IntKind.wrap IntKind.i64 ((↑i : Int) + (↑j : Int)))) (2 : Int)) + (1 : Int))))), (19, (vI (↑n : Int))), (18, (vI (↑d : Int))), (4,
  AV.fn (18 : FuncId) []), (3, (vI (↑b : Int))), (2, (vI (↑m : Int))), (1, (vI (↑a : Int))), (0, .own 900)] [(900, Blk.mk false 29 5 (List.map eBeat xs))]) else some
  (Ex.normal, St.mk [(22, (vI (↑p : Int))), (21, (vI (IntKind.wrap IntKind.i64 (Int.fdiv (IntKind.wrap IntKind.u64 (IntKind.wrap IntKind.i64 ((↑i : Int) + (↑j : Int)))) (2 :
  Int))))), (20, (vI (↑i : Int))), (19, (vI (↑n : Int))), (18, (vI (↑d : Int))), (4, AV.fn (18 : FuncId) []), (3, (vI (↑b : Int))), (2, (vI (↑m : Int))), (1, (vI (↑a :
  Int))), (0, .own 900)] [(900, Blk.mk false 29 5 (List.map eBeat xs))]) else none else none else none else none else some (Ex.exit (8 : Nat), St.mk [(20, (vI (↑i : Int))),
  (19, (vI (↑n : Int))), (18, (vI (↑d : Int))), (4, AV.fn (18 : FuncId) []), (3, (vI (↑b : Int))), (2, (vI (↑m : Int))), (1, (vI (↑a : Int))), (0, .own 900)] [(900, Blk.mk
  false 29 5 (List.map eBeat xs))]) := (execR_bind _ _ _).symm.trans (by kernel_rfl)

theorem lpY5_ok (c : Nat) (xs : List Beat) (a : Nat) (m : Nat) (b : Nat) (d : Nat) (n : Nat) (i : Nat) (j : Nat) (p : Nat) (hp : prlY5 xs a m b d n i j p = true) : ∀ ex s', (outY5 xs a m b d n i j p).val = some (ex, s') → LoopOK (enSym c) (loopN Try.f48 4) (stY5 xs a m b d n i j p) ex s' := by
  simp only [prlY5, Bool.and_eq_true, decide_eq_true_eq] at hp
  obtain ⟨h1, h2, h3, h4, h5⟩ := hp
  refine loop_gen (st := fun s : Nat × Nat => stY5 xs a m b d n s.1 s.2 p) (out := fun s => outY5 xs a m b d n s.1 s.2 p) (I := fun s => s.1 ≤ s.2 ∧ s.2 ≤ xs.length ∧ s.2 ≤ p + 1 ∧ p < s.1 + xs.length) (n := ([22, 21, 20, 19, 18, 4, 3, 2, 1, 0], [900])) (e := ([20, 19, 18, 4, 3, 2, 1, 0], [900])) (r := ([], [])) (fun s => s.2 - s.1) ?_ (i, j) ⟨h1, h2, h3, h4⟩
  rintro ⟨i, j⟩ ⟨h1, h2, h3, h4⟩
  simp only at h1 h2 h3 h4
  by_cases hlt : i < j
  · right
    obtain ⟨y, hy⟩ := at_lt (show (i + j) / 2 < xs.length by omega)
    obtain ⟨x, hx⟩ := at_lt (show p - (i + j) / 2 < xs.length by omega)
    have hw := w_half (i := i) (j := j) (by omega)
    have hw2 := w_sub (a := p) (b := (i + j) / 2) (by omega) (by omega)
    cases hc : F.ltB x y
    · refine ⟨((i + j) / 2 + 1, j), ?_, rfl, ⟨by simp only; omega, h2, h3, by simp only; omega⟩, by simp only; omega, ?_⟩
      · rw [evY5L]
        have hc2 : decide (F.border x y < 0) = false := hc
        simp only [unBor, unRot, unSym, unBorw, preBor1, preRot1, preSym1, unstY1, unstY2, unstY3, unstY4, unstY5, prlY1, prlY2, prlY3, prlY4, prlY5, outY1, outY2, outY3, outY4, outY5, etaBeat, etaSpan, etaHole, etaLevel, etaFigs, etaRatio, etaRep, etaStay, Option.bind_some, List.length_map, unStrs, unInts, unBools, unBeats, uneL_eBeats, unSpans, unHoles, unLevels, unFigss, unRatios, unReps, unStays, F.lt, F.le, cond_true, cond_false, Bool.and_true, Bool.true_and, cast_lt hlt, hw, hw2, idxN, decide_eq_true (lt_at hx), decide_eq_true (lt_at hy), getD_at hx, getD_at hy, hc2, Bool.not_false, w_add1 (show (i + j) / 2 < 9223372036854775807 by omega), stY5]
      · simp only [outY5]
        rw [K.bs_go1 hlt (by simp only [getD_at hx, getD_at hy, hc, Bool.not_false])]
    · refine ⟨(i, (i + j) / 2), ?_, rfl, ⟨by simp only; omega, by simp only; omega, by simp only; omega, h4⟩, by simp only; omega, ?_⟩
      · rw [evY5L]
        have hc2 : decide (F.border x y < 0) = true := hc
        simp only [unBor, unRot, unSym, unBorw, preBor1, preRot1, preSym1, unstY1, unstY2, unstY3, unstY4, unstY5, prlY1, prlY2, prlY3, prlY4, prlY5, outY1, outY2, outY3, outY4, outY5, etaBeat, etaSpan, etaHole, etaLevel, etaFigs, etaRatio, etaRep, etaStay, Option.bind_some, List.length_map, unStrs, unInts, unBools, unBeats, uneL_eBeats, unSpans, unHoles, unLevels, unFigss, unRatios, unReps, unStays, F.lt, F.le, cond_true, cond_false, Bool.and_true, Bool.true_and, cast_lt hlt, hw, hw2, idxN, decide_eq_true (lt_at hx), decide_eq_true (lt_at hy), getD_at hx, getD_at hy, hc2, Bool.not_true, stY5]
      · simp only [outY5]
        rw [K.bs_go0 hlt (by simp only [getD_at hx, getD_at hy, hc, Bool.not_true])]
  · left
    refine ⟨_, ?_, rfl, by simp, rfl⟩
    rw [evY5L]
    simp only [dlt, decide_eq_false hlt, cond_false, K.bs_end hlt]


theorem evSym (c : Nat) (xs : List Beat) (a : Nat) (m : Nat) (b : Nat) : (runH (enSym c) [] Try.f48 [.own 900, vI a, vI m, vI b, .fn 18 []] [(900, ⟨false, 29, 5, xs.map eBeat⟩)]).val =
  bif IntKind.wrap IntKind.i64 ((↑m : Int) - (↑a : Int)) == (1 : Int) then Option.bind (unenc stY11 (St.mk [(11, (vI (↑b : Int))), (10, (vI (↑m : Int))), (4, AV.fn (18 :
  FuncId) []), (1, (vI (↑a : Int))), (0, .own 900)] [(900, Blk.mk false 29 5 (List.map eBeat xs))])) fun (z : List Beat × Nat × Nat × Nat) => bif decide (z.snd.snd.fst ≤
  z.snd.snd.snd ∧ z.snd.snd.snd ≤ List.length z.fst ∧ z.snd.fst < List.length z.fst ∧ List.length z.fst ≤ (100000 : Nat)) && true then Option.bind (unenc stY21 (St.mk [(13,
  (vI (↑z.snd.fst : Int))), (10, (vI (↑(K.bs (fun (k : Nat) => F.ltB (List.getD z.fst k default) (List.getD z.fst z.snd.fst default)) z.snd.snd.fst z.snd.snd.snd) : Int))),
  (0, .own 900)] [(900, Blk.mk false 29 5 (List.map eBeat z.fst))])) fun (z : List Beat × Nat × Nat) => bif decide ((1 : Nat) ≤ z.snd.fst ∧ z.snd.fst ≤ List.length z.fst ∧
  List.length z.fst ≤ (100000 : Nat)) && true then some (AV.tup [], [(900, Blk.mk false 29 5 (List.map eBeat (K.bubU (z.snd.fst - (1 : Nat) - z.snd.snd) z.snd.snd z.fst)))],
  []) else none else none else bif IntKind.wrap IntKind.i64 ((↑b : Int) - (↑m : Int)) == (1 : Int) then Option.bind (unenc stY31 (St.mk [(15, (vI (↑m : Int))), (14, (vI (↑a
  : Int))), (4, AV.fn (18 : FuncId) []), (2, (vI (↑m : Int))), (0, .own 900)] [(900, Blk.mk false 29 5 (List.map eBeat xs))])) fun (z : List Beat × Nat × Nat × Nat) => bif
  decide (z.snd.snd.fst ≤ z.snd.snd.snd ∧ z.snd.snd.snd ≤ List.length z.fst ∧ z.snd.fst < List.length z.fst ∧ List.length z.fst ≤ (100000 : Nat)) && true then Option.bind
  (unenc stY41 (St.mk [(17, (vI (↑z.snd.fst : Int))), (14, (vI (↑(K.bs (fun (k : Nat) => !F.ltB (List.getD z.fst z.snd.fst default) (List.getD z.fst k default))
  z.snd.snd.fst z.snd.snd.snd) : Int))), (0, .own 900)] [(900, Blk.mk false 29 5 (List.map eBeat z.fst))])) fun (z : List Beat × Nat × Nat) => bif decide (z.snd.snd <
  List.length z.fst ∧ List.length z.fst ≤ (100000 : Nat)) && true then some (AV.tup [], [(900, Blk.mk false 29 5 (List.map eBeat (K.bubD (z.snd.snd - z.snd.fst) z.snd.snd
  z.fst)))], []) else none else none else bif decide (IntKind.wrap IntKind.i64 (Int.fdiv (IntKind.wrap IntKind.u64 (IntKind.wrap IntKind.i64 ((↑a : Int) + (↑b : Int)))) (2 :
  Int)) < (↑m : Int)) then Option.bind (unenc stY51 (St.mk [(22, (vI (IntKind.wrap IntKind.i64 (IntKind.wrap IntKind.i64 (IntKind.wrap IntKind.i64 (Int.fdiv (IntKind.wrap
  IntKind.u64 (IntKind.wrap IntKind.i64 ((↑a : Int) + (↑b : Int)))) (2 : Int)) + (↑m : Int)) - (1 : Int))))), (21, (vI (IntKind.wrap IntKind.i64 (Int.fdiv (IntKind.wrap
  IntKind.u64 (IntKind.wrap IntKind.i64 ((↑a : Int) + (↑b : Int)))) (2 : Int))))), (20, (vI (IntKind.wrap IntKind.i64 (IntKind.wrap IntKind.i64 (IntKind.wrap IntKind.i64
  (Int.fdiv (IntKind.wrap IntKind.u64 (IntKind.wrap IntKind.i64 ((↑a : Int) + (↑b : Int)))) (2 : Int)) + (↑m : Int)) - (↑b : Int))))), (19, (vI (IntKind.wrap IntKind.i64
  (IntKind.wrap IntKind.i64 (Int.fdiv (IntKind.wrap IntKind.u64 (IntKind.wrap IntKind.i64 ((↑a : Int) + (↑b : Int)))) (2 : Int)) + (↑m : Int))))), (18, (vI (IntKind.wrap
  IntKind.i64 (Int.fdiv (IntKind.wrap IntKind.u64 (IntKind.wrap IntKind.i64 ((↑a : Int) + (↑b : Int)))) (2 : Int))))), (4, AV.fn (18 : FuncId) []), (3, (vI (↑b : Int))), (2,
  (vI (↑m : Int))), (1, (vI (↑a : Int))), (0, .own 900)] [(900, Blk.mk false 29 5 (List.map eBeat xs))])) fun (z : List Beat × Nat × Nat × Nat × Nat × Nat × Nat × Nat × Nat)
  => bif decide (z.snd.snd.snd.snd.snd.snd.fst ≤ z.snd.snd.snd.snd.snd.snd.snd.fst ∧ z.snd.snd.snd.snd.snd.snd.snd.fst ≤ List.length z.fst ∧
  z.snd.snd.snd.snd.snd.snd.snd.fst ≤ z.snd.snd.snd.snd.snd.snd.snd.snd + (1 : Nat) ∧ z.snd.snd.snd.snd.snd.snd.snd.snd < z.snd.snd.snd.snd.snd.snd.fst + List.length z.fst ∧
  List.length z.fst ≤ (100000 : Nat)) && true then bif bif decide ((↑(K.bs (fun (k : Nat) => !F.ltB (List.getD z.fst (z.snd.snd.snd.snd.snd.snd.snd.snd - k) default)
  (List.getD z.fst k default)) z.snd.snd.snd.snd.snd.snd.fst z.snd.snd.snd.snd.snd.snd.snd.fst) : Int) < (↑z.snd.snd.fst : Int)) then decide ((↑z.snd.snd.fst : Int) <
  IntKind.wrap IntKind.i64 ((↑z.snd.snd.snd.snd.snd.fst : Int) - (↑(K.bs (fun (k : Nat) => !F.ltB (List.getD z.fst (z.snd.snd.snd.snd.snd.snd.snd.snd - k) default)
  (List.getD z.fst k default)) z.snd.snd.snd.snd.snd.snd.fst z.snd.snd.snd.snd.snd.snd.snd.fst) : Int))) else false then Option.bind (unenc encRot ([.own 900, (vI (↑(K.bs
  (fun (k : Nat) => !F.ltB (List.getD z.fst (z.snd.snd.snd.snd.snd.snd.snd.snd - k) default) (List.getD z.fst k default)) z.snd.snd.snd.snd.snd.snd.fst
  z.snd.snd.snd.snd.snd.snd.snd.fst) : Int)), (vI (↑z.snd.snd.fst : Int)), (vI (IntKind.wrap IntKind.i64 ((↑z.snd.snd.snd.snd.snd.fst : Int) - (↑(K.bs (fun (k : Nat) =>
  !F.ltB (List.getD z.fst (z.snd.snd.snd.snd.snd.snd.snd.snd - k) default) (List.getD z.fst k default)) z.snd.snd.snd.snd.snd.snd.fst z.snd.snd.snd.snd.snd.snd.snd.fst) :
  Int)))), AV.fn (18 : FuncId) []], [(900, Blk.mk false 29 5 (List.map eBeat z.fst))])) fun (z_1 : List Beat × Nat × Nat × Nat) => bif decide (z_1.snd.fst < z_1.snd.snd.fst
  ∧ z_1.snd.snd.fst < z_1.snd.snd.snd ∧ z_1.snd.snd.snd ≤ List.length z_1.fst ∧ List.length z_1.fst ≤ (100000 : Nat)) then bif bif decide ((↑z.snd.fst : Int) < (↑(K.bs (fun
  (k : Nat) => !F.ltB (List.getD z.fst (z.snd.snd.snd.snd.snd.snd.snd.snd - k) default) (List.getD z.fst k default)) z.snd.snd.snd.snd.snd.snd.fst
  z.snd.snd.snd.snd.snd.snd.snd.fst) : Int)) then decide ((↑(K.bs (fun (k : Nat) => !F.ltB (List.getD z.fst (z.snd.snd.snd.snd.snd.snd.snd.snd - k) default) (List.getD z.fst
  k default)) z.snd.snd.snd.snd.snd.snd.fst z.snd.snd.snd.snd.snd.snd.snd.fst) : Int) < (↑z.snd.snd.snd.snd.fst : Int)) else false then Option.bind (unenc encSym ([.own 900,
  (vI (↑z.snd.fst : Int)), (vI (↑(K.bs (fun (k : Nat) => !F.ltB (List.getD z.fst (z.snd.snd.snd.snd.snd.snd.snd.snd - k) default) (List.getD z.fst k default))
  z.snd.snd.snd.snd.snd.snd.fst z.snd.snd.snd.snd.snd.snd.snd.fst) : Int)), (vI (↑z.snd.snd.snd.snd.fst : Int)), AV.fn (18 : FuncId) []], [(900, Blk.mk false 29 5 (List.map
  eBeat (K.rotS z_1.snd.snd.fst (z_1.snd.snd.fst - z_1.snd.fst) (z_1.snd.snd.snd - z_1.snd.snd.fst) z_1.fst)))])) fun (z_2 : List Beat × Nat × Nat × Nat) => bif decide
  (z_2.snd.snd.snd - z_2.snd.fst < c ∧ z_2.snd.fst < z_2.snd.snd.fst ∧ z_2.snd.snd.fst < z_2.snd.snd.snd ∧ z_2.snd.snd.snd ≤ List.length z_2.fst ∧ List.length z_2.fst ≤
  (100000 : Nat)) && K.srtD F.ltB z_2.snd.fst z_2.snd.snd.fst z_2.fst && K.srtD F.ltB z_2.snd.snd.fst z_2.snd.snd.snd z_2.fst then bif bif decide ((↑z.snd.snd.snd.snd.fst :
  Int) < IntKind.wrap IntKind.i64 ((↑z.snd.snd.snd.snd.snd.fst : Int) - (↑(K.bs (fun (k : Nat) => !F.ltB (List.getD z.fst (z.snd.snd.snd.snd.snd.snd.snd.snd - k) default)
  (List.getD z.fst k default)) z.snd.snd.snd.snd.snd.snd.fst z.snd.snd.snd.snd.snd.snd.snd.fst) : Int))) then decide (IntKind.wrap IntKind.i64 ((↑z.snd.snd.snd.snd.snd.fst :
  Int) - (↑(K.bs (fun (k : Nat) => !F.ltB (List.getD z.fst (z.snd.snd.snd.snd.snd.snd.snd.snd - k) default) (List.getD z.fst k default)) z.snd.snd.snd.snd.snd.snd.fst
  z.snd.snd.snd.snd.snd.snd.snd.fst) : Int)) < (↑z.snd.snd.snd.fst : Int)) else false then Option.bind (unenc encSym ([.own 900, (vI (↑z.snd.snd.snd.snd.fst : Int)), (vI
  (IntKind.wrap IntKind.i64 ((↑z.snd.snd.snd.snd.snd.fst : Int) - (↑(K.bs (fun (k : Nat) => !F.ltB (List.getD z.fst (z.snd.snd.snd.snd.snd.snd.snd.snd - k) default)
  (List.getD z.fst k default)) z.snd.snd.snd.snd.snd.snd.fst z.snd.snd.snd.snd.snd.snd.snd.fst) : Int)))), (vI (↑z.snd.snd.snd.fst : Int)), AV.fn (18 : FuncId) []], [(900,
  Blk.mk false 29 5 (List.map eBeat (K.seg z_2.snd.fst z_2.snd.snd.snd (K.srt F.ltB) z_2.fst)))])) fun (z : List Beat × Nat × Nat × Nat) => bif decide (z.snd.snd.snd -
  z.snd.fst < c ∧ z.snd.fst < z.snd.snd.fst ∧ z.snd.snd.fst < z.snd.snd.snd ∧ z.snd.snd.snd ≤ List.length z.fst ∧ List.length z.fst ≤ (100000 : Nat)) && K.srtD F.ltB
  z.snd.fst z.snd.snd.fst z.fst && K.srtD F.ltB z.snd.snd.fst z.snd.snd.snd z.fst then some (AV.tup [], [(900, Blk.mk false 29 5 (List.map eBeat (K.seg z.snd.fst
  z.snd.snd.snd (K.srt F.ltB) z.fst)))], []) else none else some (AV.tup [], [(900, Blk.mk false 29 5 (List.map eBeat (K.seg z_2.snd.fst z_2.snd.snd.snd (K.srt F.ltB)
  z_2.fst)))], []) else none else bif bif decide ((↑z.snd.snd.snd.snd.fst : Int) < IntKind.wrap IntKind.i64 ((↑z.snd.snd.snd.snd.snd.fst : Int) - (↑(K.bs (fun (k : Nat) =>
  !F.ltB (List.getD z.fst (z.snd.snd.snd.snd.snd.snd.snd.snd - k) default) (List.getD z.fst k default)) z.snd.snd.snd.snd.snd.snd.fst z.snd.snd.snd.snd.snd.snd.snd.fst) :
  Int))) then decide (IntKind.wrap IntKind.i64 ((↑z.snd.snd.snd.snd.snd.fst : Int) - (↑(K.bs (fun (k : Nat) => !F.ltB (List.getD z.fst (z.snd.snd.snd.snd.snd.snd.snd.snd -
  k) default) (List.getD z.fst k default)) z.snd.snd.snd.snd.snd.snd.fst z.snd.snd.snd.snd.snd.snd.snd.fst) : Int)) < (↑z.snd.snd.snd.fst : Int)) else false then Option.bind
  (unenc encSym ([.own 900, (vI (↑z.snd.snd.snd.snd.fst : Int)), (vI (IntKind.wrap IntKind.i64 ((↑z.snd.snd.snd.snd.snd.fst : Int) - (↑(K.bs (fun (k : Nat) => !F.ltB
  (List.getD z.fst (z.snd.snd.snd.snd.snd.snd.snd.snd - k) default) (List.getD z.fst k default)) z.snd.snd.snd.snd.snd.snd.fst z.snd.snd.snd.snd.snd.snd.snd.fst) : Int)))),
  (vI (↑z.snd.snd.snd.fst : Int)), AV.fn (18 : FuncId) []], [(900, Blk.mk false 29 5 (List.map eBeat (K.rotS z_1.snd.snd.fst (z_1.snd.snd.fst - z_1.snd.fst) (z_1.snd.snd.snd
  - z_1.snd.snd.fst) z_1.fst)))])) fun (z : List Beat × Nat × Nat × Nat) => bif decide (z.snd.snd.snd - z.snd.fst < c ∧ z.snd.fst < z.snd.snd.fst ∧ z.snd.snd.fst <
  z.snd.snd.snd ∧ z.snd.snd.snd ≤ List.length z.fst ∧ List.length z.fst ≤ (100000 : Nat)) && K.srtD F.ltB z.snd.fst z.snd.snd.fst z.fst && K.srtD F.ltB z.snd.snd.fst
  z.snd.snd.snd z.fst then some (AV.tup [], [(900, Blk.mk false 29 5 (List.map eBeat (K.seg z.snd.fst z.snd.snd.snd (K.srt F.ltB) z.fst)))], []) else none else some (AV.tup
  [], [(900, Blk.mk false 29 5 (List.map eBeat (K.rotS z_1.snd.snd.fst (z_1.snd.snd.fst - z_1.snd.fst) (z_1.snd.snd.snd - z_1.snd.snd.fst) z_1.fst)))], []) else none else
  bif bif decide ((↑z.snd.fst : Int) < (↑(K.bs (fun (k : Nat) => !F.ltB (List.getD z.fst (z.snd.snd.snd.snd.snd.snd.snd.snd - k) default) (List.getD z.fst k default))
  z.snd.snd.snd.snd.snd.snd.fst z.snd.snd.snd.snd.snd.snd.snd.fst) : Int)) then decide ((↑(K.bs (fun (k : Nat) => !F.ltB (List.getD z.fst (z.snd.snd.snd.snd.snd.snd.snd.snd
  - k) default) (List.getD z.fst k default)) z.snd.snd.snd.snd.snd.snd.fst z.snd.snd.snd.snd.snd.snd.snd.fst) : Int) < (↑z.snd.snd.snd.snd.fst : Int)) else false then
  Option.bind (unenc encSym ([.own 900, (vI (↑z.snd.fst : Int)), (vI (↑(K.bs (fun (k : Nat) => !F.ltB (List.getD z.fst (z.snd.snd.snd.snd.snd.snd.snd.snd - k) default)
  (List.getD z.fst k default)) z.snd.snd.snd.snd.snd.snd.fst z.snd.snd.snd.snd.snd.snd.snd.fst) : Int)), (vI (↑z.snd.snd.snd.snd.fst : Int)), AV.fn (18 : FuncId) []], [(900,
  Blk.mk false 29 5 (List.map eBeat z.fst))])) fun (z_1 : List Beat × Nat × Nat × Nat) => bif decide (z_1.snd.snd.snd - z_1.snd.fst < c ∧ z_1.snd.fst < z_1.snd.snd.fst ∧
  z_1.snd.snd.fst < z_1.snd.snd.snd ∧ z_1.snd.snd.snd ≤ List.length z_1.fst ∧ List.length z_1.fst ≤ (100000 : Nat)) && K.srtD F.ltB z_1.snd.fst z_1.snd.snd.fst z_1.fst &&
  K.srtD F.ltB z_1.snd.snd.fst z_1.snd.snd.snd z_1.fst then bif bif decide ((↑z.snd.snd.snd.snd.fst : Int) < IntKind.wrap IntKind.i64 ((↑z.snd.snd.snd.snd.snd.fst : Int) -
  (↑(K.bs (fun (k : Nat) => !F.ltB (List.getD z.fst (z.snd.snd.snd.snd.snd.snd.snd.snd - k) default) (List.getD z.fst k default)) z.snd.snd.snd.snd.snd.snd.fst
  z.snd.snd.snd.snd.snd.snd.snd.fst) : Int))) then decide (IntKind.wrap IntKind.i64 ((↑z.snd.snd.snd.snd.snd.fst : Int) - (↑(K.bs (fun (k : Nat) => !F.ltB (List.getD z.fst
  (z.snd.snd.snd.snd.snd.snd.snd.snd - k) default) (List.getD z.fst k default)) z.snd.snd.snd.snd.snd.snd.fst z.snd.snd.snd.snd.snd.snd.snd.fst) : Int)) <
  (↑z.snd.snd.snd.fst : Int)) else false then Option.bind (unenc encSym ([.own 900, (vI (↑z.snd.snd.snd.snd.fst : Int)), (vI (IntKind.wrap IntKind.i64
  ((↑z.snd.snd.snd.snd.snd.fst : Int) - (↑(K.bs (fun (k : Nat) => !F.ltB (List.getD z.fst (z.snd.snd.snd.snd.snd.snd.snd.snd - k) default) (List.getD z.fst k default))
  z.snd.snd.snd.snd.snd.snd.fst z.snd.snd.snd.snd.snd.snd.snd.fst) : Int)))), (vI (↑z.snd.snd.snd.fst : Int)), AV.fn (18 : FuncId) []], [(900, Blk.mk false 29 5 (List.map
  eBeat (K.seg z_1.snd.fst z_1.snd.snd.snd (K.srt F.ltB) z_1.fst)))])) fun (z : List Beat × Nat × Nat × Nat) => bif decide (z.snd.snd.snd - z.snd.fst < c ∧ z.snd.fst <
  z.snd.snd.fst ∧ z.snd.snd.fst < z.snd.snd.snd ∧ z.snd.snd.snd ≤ List.length z.fst ∧ List.length z.fst ≤ (100000 : Nat)) && K.srtD F.ltB z.snd.fst z.snd.snd.fst z.fst &&
  K.srtD F.ltB z.snd.snd.fst z.snd.snd.snd z.fst then some (AV.tup [], [(900, Blk.mk false 29 5 (List.map eBeat (K.seg z.snd.fst z.snd.snd.snd (K.srt F.ltB) z.fst)))], [])
  else none else some (AV.tup [], [(900, Blk.mk false 29 5 (List.map eBeat (K.seg z_1.snd.fst z_1.snd.snd.snd (K.srt F.ltB) z_1.fst)))], []) else none else bif bif decide
  ((↑z.snd.snd.snd.snd.fst : Int) < IntKind.wrap IntKind.i64 ((↑z.snd.snd.snd.snd.snd.fst : Int) - (↑(K.bs (fun (k : Nat) => !F.ltB (List.getD z.fst
  (z.snd.snd.snd.snd.snd.snd.snd.snd - k) default) (List.getD z.fst k default)) z.snd.snd.snd.snd.snd.snd.fst z.snd.snd.snd.snd.snd.snd.snd.fst) : Int))) then decide
  (IntKind.wrap IntKind.i64 ((↑z.snd.snd.snd.snd.snd.fst : Int) - (↑(K.bs (fun (k : Nat) => !F.ltB (List.getD z.fst (z.snd.snd.snd.snd.snd.snd.snd.snd - k) default)
  (List.getD z.fst k default)) z.snd.snd.snd.snd.snd.snd.fst z.snd.snd.snd.snd.snd.snd.snd.fst) : Int)) < (↑z.snd.snd.snd.fst : Int)) else false then Option.bind (unenc
  encSym ([.own 900, (vI (↑z.snd.snd.snd.snd.fst : Int)), (vI (IntKind.wrap IntKind.i64 ((↑z.snd.snd.snd.snd.snd.fst : Int) - (↑(K.bs (fun (k : Nat) => !F.ltB (List.getD
  z.fst (z.snd.snd.snd.snd.snd.snd.snd.snd - k) default) (List.getD z.fst k default)) z.snd.snd.snd.snd.snd.snd.fst z.snd.snd.snd.snd.snd.snd.snd.fst) : Int)))), (vI
  (↑z.snd.snd.snd.fst : Int)), AV.fn (18 : FuncId) []], [(900, Blk.mk false 29 5 (List.map eBeat z.fst))])) fun (z : List Beat × Nat × Nat × Nat) => bif decide
  (z.snd.snd.snd - z.snd.fst < c ∧ z.snd.fst < z.snd.snd.fst ∧ z.snd.snd.fst < z.snd.snd.snd ∧ z.snd.snd.snd ≤ List.length z.fst ∧ List.length z.fst ≤ (100000 : Nat)) &&
  K.srtD F.ltB z.snd.fst z.snd.snd.fst z.fst && K.srtD F.ltB z.snd.snd.fst z.snd.snd.snd z.fst then some (AV.tup [], [(900, Blk.mk false 29 5 (List.map eBeat (K.seg
  z.snd.fst z.snd.snd.snd (K.srt F.ltB) z.fst)))], []) else none else some (AV.tup [], [(900, Blk.mk false 29 5 (List.map eBeat z.fst))], []) else none else Option.bind
  (unenc stY51 (St.mk [(22, (vI (IntKind.wrap IntKind.i64 (IntKind.wrap IntKind.i64 (IntKind.wrap IntKind.i64 (Int.fdiv (IntKind.wrap IntKind.u64 (IntKind.wrap IntKind.i64
  ((↑a : Int) + (↑b : Int)))) (2 : Int)) + (↑m : Int)) - (1 : Int))))), (21, (vI (↑m : Int))), (20, (vI (↑a : Int))), (19, (vI (IntKind.wrap IntKind.i64 (IntKind.wrap
  IntKind.i64 (Int.fdiv (IntKind.wrap IntKind.u64 (IntKind.wrap IntKind.i64 ((↑a : Int) + (↑b : Int)))) (2 : Int)) + (↑m : Int))))), (18, (vI (IntKind.wrap IntKind.i64
  (Int.fdiv (IntKind.wrap IntKind.u64 (IntKind.wrap IntKind.i64 ((↑a : Int) + (↑b : Int)))) (2 : Int))))), (4, AV.fn (18 : FuncId) []), (3, (vI (↑b : Int))), (2, (vI (↑m :
  Int))), (1, (vI (↑a : Int))), (0, .own 900)] [(900, Blk.mk false 29 5 (List.map eBeat xs))])) fun (z : List Beat × Nat × Nat × Nat × Nat × Nat × Nat × Nat × Nat) => bif
  decide (z.snd.snd.snd.snd.snd.snd.fst ≤ z.snd.snd.snd.snd.snd.snd.snd.fst ∧ z.snd.snd.snd.snd.snd.snd.snd.fst ≤ List.length z.fst ∧ z.snd.snd.snd.snd.snd.snd.snd.fst ≤
  z.snd.snd.snd.snd.snd.snd.snd.snd + (1 : Nat) ∧ z.snd.snd.snd.snd.snd.snd.snd.snd < z.snd.snd.snd.snd.snd.snd.fst + List.length z.fst ∧ List.length z.fst ≤ (100000 : Nat))
  && true then bif bif decide ((↑(K.bs (fun (k : Nat) => !F.ltB (List.getD z.fst (z.snd.snd.snd.snd.snd.snd.snd.snd - k) default) (List.getD z.fst k default))
  z.snd.snd.snd.snd.snd.snd.fst z.snd.snd.snd.snd.snd.snd.snd.fst) : Int) < (↑z.snd.snd.fst : Int)) then decide ((↑z.snd.snd.fst : Int) < IntKind.wrap IntKind.i64
  ((↑z.snd.snd.snd.snd.snd.fst : Int) - (↑(K.bs (fun (k : Nat) => !F.ltB (List.getD z.fst (z.snd.snd.snd.snd.snd.snd.snd.snd - k) default) (List.getD z.fst k default))
  z.snd.snd.snd.snd.snd.snd.fst z.snd.snd.snd.snd.snd.snd.snd.fst) : Int))) else false then Option.bind (unenc encRot ([.own 900, (vI (↑(K.bs (fun (k : Nat) => !F.ltB
  (List.getD z.fst (z.snd.snd.snd.snd.snd.snd.snd.snd - k) default) (List.getD z.fst k default)) z.snd.snd.snd.snd.snd.snd.fst z.snd.snd.snd.snd.snd.snd.snd.fst) : Int)),
  (vI (↑z.snd.snd.fst : Int)), (vI (IntKind.wrap IntKind.i64 ((↑z.snd.snd.snd.snd.snd.fst : Int) - (↑(K.bs (fun (k : Nat) => !F.ltB (List.getD z.fst
  (z.snd.snd.snd.snd.snd.snd.snd.snd - k) default) (List.getD z.fst k default)) z.snd.snd.snd.snd.snd.snd.fst z.snd.snd.snd.snd.snd.snd.snd.fst) : Int)))), AV.fn (18 :
  FuncId) []], [(900, Blk.mk false 29 5 (List.map eBeat z.fst))])) fun (z_1 : List Beat × Nat × Nat × Nat) => bif decide (z_1.snd.fst < z_1.snd.snd.fst ∧ z_1.snd.snd.fst <
  z_1.snd.snd.snd ∧ z_1.snd.snd.snd ≤ List.length z_1.fst ∧ List.length z_1.fst ≤ (100000 : Nat)) then bif bif decide ((↑z.snd.fst : Int) < (↑(K.bs (fun (k : Nat) => !F.ltB
  (List.getD z.fst (z.snd.snd.snd.snd.snd.snd.snd.snd - k) default) (List.getD z.fst k default)) z.snd.snd.snd.snd.snd.snd.fst z.snd.snd.snd.snd.snd.snd.snd.fst) : Int))
  then decide ((↑(K.bs (fun (k : Nat) => !F.ltB (List.getD z.fst (z.snd.snd.snd.snd.snd.snd.snd.snd - k) default) (List.getD z.fst k default)) z.snd.snd.snd.snd.snd.snd.fst
  z.snd.snd.snd.snd.snd.snd.snd.fst) : Int) < (↑z.snd.snd.snd.snd.fst : Int)) else false then Option.bind (unenc encSym ([.own 900, (vI (↑z.snd.fst : Int)), (vI (↑(K.bs (fun
  (k : Nat) => !F.ltB (List.getD z.fst (z.snd.snd.snd.snd.snd.snd.snd.snd - k) default) (List.getD z.fst k default)) z.snd.snd.snd.snd.snd.snd.fst
  z.snd.snd.snd.snd.snd.snd.snd.fst) : Int)), (vI (↑z.snd.snd.snd.snd.fst : Int)), AV.fn (18 : FuncId) []], [(900, Blk.mk false 29 5 (List.map eBeat (K.rotS z_1.snd.snd.fst
  (z_1.snd.snd.fst - z_1.snd.fst) (z_1.snd.snd.snd - z_1.snd.snd.fst) z_1.fst)))])) fun (z_2 : List Beat × Nat × Nat × Nat) => bif decide (z_2.snd.snd.snd - z_2.snd.fst < c
  ∧ z_2.snd.fst < z_2.snd.snd.fst ∧ z_2.snd.snd.fst < z_2.snd.snd.snd ∧ z_2.snd.snd.snd ≤ List.length z_2.fst ∧ List.length z_2.fst ≤ (100000 : Nat)) && K.srtD F.ltB
  z_2.snd.fst z_2.snd.snd.fst z_2.fst && K.srtD F.ltB z_2.snd.snd.fst z_2.snd.snd.snd z_2.fst then bif bif decide ((↑z.snd.snd.snd.snd.fst : Int) < IntKind.wrap IntKind.i64
  ((↑z.snd.snd.snd.snd.snd.fst : Int) - (↑(K.bs (fun (k : Nat) => !F.ltB (List.getD z.fst (z.snd.snd.snd.snd.snd.snd.snd.snd - k) default) (List.getD z.fst k default))
  z.snd.snd.snd.snd.snd.snd.fst z.snd.snd.snd.snd.snd.snd.snd.fst) : Int))) then decide (IntKind.wrap IntKind.i64 ((↑z.snd.snd.snd.snd.snd.fst : Int) - (↑(K.bs (fun (k :
  Nat) => !F.ltB (List.getD z.fst (z.snd.snd.snd.snd.snd.snd.snd.snd - k) default) (List.getD z.fst k default)) z.snd.snd.snd.snd.snd.snd.fst
  z.snd.snd.snd.snd.snd.snd.snd.fst) : Int)) < (↑z.snd.snd.snd.fst : Int)) else false then Option.bind (unenc encSym ([.own 900, (vI (↑z.snd.snd.snd.snd.fst : Int)), (vI
  (IntKind.wrap IntKind.i64 ((↑z.snd.snd.snd.snd.snd.fst : Int) - (↑(K.bs (fun (k : Nat) => !F.ltB (List.getD z.fst (z.snd.snd.snd.snd.snd.snd.snd.snd - k) default)
  (List.getD z.fst k default)) z.snd.snd.snd.snd.snd.snd.fst z.snd.snd.snd.snd.snd.snd.snd.fst) : Int)))), (vI (↑z.snd.snd.snd.fst : Int)), AV.fn (18 : FuncId) []], [(900,
  Blk.mk false 29 5 (List.map eBeat (K.seg z_2.snd.fst z_2.snd.snd.snd (K.srt F.ltB) z_2.fst)))])) fun (z : List Beat × Nat × Nat × Nat) => bif decide (z.snd.snd.snd -
  z.snd.fst < c ∧ z.snd.fst < z.snd.snd.fst ∧ z.snd.snd.fst < z.snd.snd.snd ∧ z.snd.snd.snd ≤ List.length z.fst ∧ List.length z.fst ≤ (100000 : Nat)) && K.srtD F.ltB
  z.snd.fst z.snd.snd.fst z.fst && K.srtD F.ltB z.snd.snd.fst z.snd.snd.snd z.fst then some (AV.tup [], [(900, Blk.mk false 29 5 (List.map eBeat (K.seg z.snd.fst
  z.snd.snd.snd (K.srt F.ltB) z.fst)))], []) else none else some (AV.tup [], [(900, Blk.mk false 29 5 (List.map eBeat (K.seg z_2.snd.fst z_2.snd.snd.snd (K.srt F.ltB)
  z_2.fst)))], []) else none else bif bif decide ((↑z.snd.snd.snd.snd.fst : Int) < IntKind.wrap IntKind.i64 ((↑z.snd.snd.snd.snd.snd.fst : Int) - (↑(K.bs (fun (k : Nat) =>
  !F.ltB (List.getD z.fst (z.snd.snd.snd.snd.snd.snd.snd.snd - k) default) (List.getD z.fst k default)) z.snd.snd.snd.snd.snd.snd.fst z.snd.snd.snd.snd.snd.snd.snd.fst) :
  Int))) then decide (IntKind.wrap IntKind.i64 ((↑z.snd.snd.snd.snd.snd.fst : Int) - (↑(K.bs (fun (k : Nat) => !F.ltB (List.getD z.fst (z.snd.snd.snd.snd.snd.snd.snd.snd -
  k) default) (List.getD z.fst k default)) z.snd.snd.snd.snd.snd.snd.fst z.snd.snd.snd.snd.snd.snd.snd.fst) : Int)) < (↑z.snd.snd.snd.fst : Int)) else false then Option.bind
  (unenc encSym ([.own 900, (vI (↑z.snd.snd.snd.snd.fst : Int)), (vI (IntKind.wrap IntKind.i64 ((↑z.snd.snd.snd.snd.snd.fst : Int) - (↑(K.bs (fun (k : Nat) => !F.ltB
  (List.getD z.fst (z.snd.snd.snd.snd.snd.snd.snd.snd - k) default) (List.getD z.fst k default)) z.snd.snd.snd.snd.snd.snd.fst z.snd.snd.snd.snd.snd.snd.snd.fst) : Int)))),
  (vI (↑z.snd.snd.snd.fst : Int)), AV.fn (18 : FuncId) []], [(900, Blk.mk false 29 5 (List.map eBeat (K.rotS z_1.snd.snd.fst (z_1.snd.snd.fst - z_1.snd.fst) (z_1.snd.snd.snd
  - z_1.snd.snd.fst) z_1.fst)))])) fun (z : List Beat × Nat × Nat × Nat) => bif decide (z.snd.snd.snd - z.snd.fst < c ∧ z.snd.fst < z.snd.snd.fst ∧ z.snd.snd.fst <
  z.snd.snd.snd ∧ z.snd.snd.snd ≤ List.length z.fst ∧ List.length z.fst ≤ (100000 : Nat)) && K.srtD F.ltB z.snd.fst z.snd.snd.fst z.fst && K.srtD F.ltB z.snd.snd.fst
  z.snd.snd.snd z.fst then some (AV.tup [], [(900, Blk.mk false 29 5 (List.map eBeat (K.seg z.snd.fst z.snd.snd.snd (K.srt F.ltB) z.fst)))], []) else none else some (AV.tup
  [], [(900, Blk.mk false 29 5 (List.map eBeat (K.rotS z_1.snd.snd.fst (z_1.snd.snd.fst - z_1.snd.fst) (z_1.snd.snd.snd - z_1.snd.snd.fst) z_1.fst)))], []) else none else
  bif bif decide ((↑z.snd.fst : Int) < (↑(K.bs (fun (k : Nat) => !F.ltB (List.getD z.fst (z.snd.snd.snd.snd.snd.snd.snd.snd - k) default) (List.getD z.fst k default))
  z.snd.snd.snd.snd.snd.snd.fst z.snd.snd.snd.snd.snd.snd.snd.fst) : Int)) then decide ((↑(K.bs (fun (k : Nat) => !F.ltB (List.getD z.fst (z.snd.snd.snd.snd.snd.snd.snd.snd
  - k) default) (List.getD z.fst k default)) z.snd.snd.snd.snd.snd.snd.fst z.snd.snd.snd.snd.snd.snd.snd.fst) : Int) < (↑z.snd.snd.snd.snd.fst : Int)) else false then
  Option.bind (unenc encSym ([.own 900, (vI (↑z.snd.fst : Int)), (vI (↑(K.bs (fun (k : Nat) => !F.ltB (List.getD z.fst (z.snd.snd.snd.snd.snd.snd.snd.snd - k) default)
  (List.getD z.fst k default)) z.snd.snd.snd.snd.snd.snd.fst z.snd.snd.snd.snd.snd.snd.snd.fst) : Int)), (vI (↑z.snd.snd.snd.snd.fst : Int)), AV.fn (18 : FuncId) []], [(900,
  Blk.mk false 29 5 (List.map eBeat z.fst))])) fun (z_1 : List Beat × Nat × Nat × Nat) => bif decide (z_1.snd.snd.snd - z_1.snd.fst < c ∧ z_1.snd.fst < z_1.snd.snd.fst ∧
  z_1.snd.snd.fst < z_1.snd.snd.snd ∧ z_1.snd.snd.snd ≤ List.length z_1.fst ∧ List.length z_1.fst ≤ (100000 : Nat)) && K.srtD F.ltB z_1.snd.fst z_1.snd.snd.fst z_1.fst &&
  K.srtD F.ltB z_1.snd.snd.fst z_1.snd.snd.snd z_1.fst then bif bif decide ((↑z.snd.snd.snd.snd.fst : Int) < IntKind.wrap IntKind.i64 ((↑z.snd.snd.snd.snd.snd.fst : Int) -
  (↑(K.bs (fun (k : Nat) => !F.ltB (List.getD z.fst (z.snd.snd.snd.snd.snd.snd.snd.snd - k) default) (List.getD z.fst k default)) z.snd.snd.snd.snd.snd.snd.fst
  z.snd.snd.snd.snd.snd.snd.snd.fst) : Int))) then decide (IntKind.wrap IntKind.i64 ((↑z.snd.snd.snd.snd.snd.fst : Int) - (↑(K.bs (fun (k : Nat) => !F.ltB (List.getD z.fst
  (z.snd.snd.snd.snd.snd.snd.snd.snd - k) default) (List.getD z.fst k default)) z.snd.snd.snd.snd.snd.snd.fst z.snd.snd.snd.snd.snd.snd.snd.fst) : Int)) <
  (↑z.snd.snd.snd.fst : Int)) else false then Option.bind (unenc encSym ([.own 900, (vI (↑z.snd.snd.snd.snd.fst : Int)), (vI (IntKind.wrap IntKind.i64
  ((↑z.snd.snd.snd.snd.snd.fst : Int) - (↑(K.bs (fun (k : Nat) => !F.ltB (List.getD z.fst (z.snd.snd.snd.snd.snd.snd.snd.snd - k) default) (List.getD z.fst k default))
  z.snd.snd.snd.snd.snd.snd.fst z.snd.snd.snd.snd.snd.snd.snd.fst) : Int)))), (vI (↑z.snd.snd.snd.fst : Int)), AV.fn (18 : FuncId) []], [(900, Blk.mk false 29 5 (List.map
  eBeat (K.seg z_1.snd.fst z_1.snd.snd.snd (K.srt F.ltB) z_1.fst)))])) fun (z : List Beat × Nat × Nat × Nat) => bif decide (z.snd.snd.snd - z.snd.fst < c ∧ z.snd.fst <
  z.snd.snd.fst ∧ z.snd.snd.fst < z.snd.snd.snd ∧ z.snd.snd.snd ≤ List.length z.fst ∧ List.length z.fst ≤ (100000 : Nat)) && K.srtD F.ltB z.snd.fst z.snd.snd.fst z.fst &&
  K.srtD F.ltB z.snd.snd.fst z.snd.snd.snd z.fst then some (AV.tup [], [(900, Blk.mk false 29 5 (List.map eBeat (K.seg z.snd.fst z.snd.snd.snd (K.srt F.ltB) z.fst)))], [])
  else none else some (AV.tup [], [(900, Blk.mk false 29 5 (List.map eBeat (K.seg z_1.snd.fst z_1.snd.snd.snd (K.srt F.ltB) z_1.fst)))], []) else none else bif bif decide
  ((↑z.snd.snd.snd.snd.fst : Int) < IntKind.wrap IntKind.i64 ((↑z.snd.snd.snd.snd.snd.fst : Int) - (↑(K.bs (fun (k : Nat) => !F.ltB (List.getD z.fst
  (z.snd.snd.snd.snd.snd.snd.snd.snd - k) default) (List.getD z.fst k default)) z.snd.snd.snd.snd.snd.snd.fst z.snd.snd.snd.snd.snd.snd.snd.fst) : Int))) then decide
  (IntKind.wrap IntKind.i64 ((↑z.snd.snd.snd.snd.snd.fst : Int) - (↑(K.bs (fun (k : Nat) => !F.ltB (List.getD z.fst (z.snd.snd.snd.snd.snd.snd.snd.snd - k) default)
  (List.getD z.fst k default)) z.snd.snd.snd.snd.snd.snd.fst z.snd.snd.snd.snd.snd.snd.snd.fst) : Int)) < (↑z.snd.snd.snd.fst : Int)) else false then Option.bind (unenc
  encSym ([.own 900, (vI (↑z.snd.snd.snd.snd.fst : Int)), (vI (IntKind.wrap IntKind.i64 ((↑z.snd.snd.snd.snd.snd.fst : Int) - (↑(K.bs (fun (k : Nat) => !F.ltB (List.getD
  z.fst (z.snd.snd.snd.snd.snd.snd.snd.snd - k) default) (List.getD z.fst k default)) z.snd.snd.snd.snd.snd.snd.fst z.snd.snd.snd.snd.snd.snd.snd.fst) : Int)))), (vI
  (↑z.snd.snd.snd.fst : Int)), AV.fn (18 : FuncId) []], [(900, Blk.mk false 29 5 (List.map eBeat z.fst))])) fun (z : List Beat × Nat × Nat × Nat) => bif decide
  (z.snd.snd.snd - z.snd.fst < c ∧ z.snd.fst < z.snd.snd.fst ∧ z.snd.snd.fst < z.snd.snd.snd ∧ z.snd.snd.snd ≤ List.length z.fst ∧ List.length z.fst ≤ (100000 : Nat)) &&
  K.srtD F.ltB z.snd.fst z.snd.snd.fst z.fst && K.srtD F.ltB z.snd.snd.fst z.snd.snd.snd z.fst then some (AV.tup [], [(900, Blk.mk false 29 5 (List.map eBeat (K.seg
  z.snd.fst z.snd.snd.snd (K.srt F.ltB) z.fst)))], []) else none else some (AV.tup [], [(900, Blk.mk false 29 5 (List.map eBeat z.fst))], []) else none := (runHR_val).symm.trans (by kernel_rfl)


end M
end Go.Proofs.Ytlnflhmepnbcmaa
