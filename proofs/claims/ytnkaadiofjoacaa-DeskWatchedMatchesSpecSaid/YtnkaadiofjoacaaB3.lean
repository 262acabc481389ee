/- What is proved here: what the comparisons of lists, and Missing, return on plain data (no statement of the seat). -/
import Derived.Test.YtnkaadiofjoacaaB2
namespace Go.Proofs.Ytnkaadiofjoacaa
open Go Go.RowKit
set_option linter.unusedVariables false
set_option linter.unusedSimpArgs false

namespace M

def stEqSp (xs : List Span) (ys : List Span) (k : Nat) : St := ⟨[(13, vI k), (12, vI xs.length), (1, .sl (ys.map eSpan)), (0, .sl (xs.map eSpan))], []⟩

def stEqSp1 (a : (List Span) × (List Span) × Nat) : St := stEqSp a.1 a.2.1 a.2.2

theorem stEqSp_inj (a a' : (List Span) × (List Span) × Nat) (h : stEqSp1 a = stEqSp1 a') : a = a' := by
  simp only [stEqSp1, stEqSp] at h
  try simp [strs_inj, ints_inj, bools_inj, eL_eIs_inj, eBeats_inj, eBeat_iff, eL_eBeats_inj, eSpans_inj, eSpan_iff, eHoles_inj, eHole_iff, eLevels_inj, eLevel_iff, eFigss_inj, eFigs_iff, eRatios_inj, eRatio_iff, eReps_inj, eRep_iff, eStays_inj, eStay_iff] at h
  grind

theorem unstEqSp (xs : List Span) (ys : List Span) (k : Nat) : unenc stEqSp1 (St.mk [(13, (vI (↑k : Int))), (12, (vI (↑(List.length xs) : Int))), (1, AV.sl (List.map eSpan ys)), (0, AV.sl (List.map eSpan xs))] []) = some (xs, ys, k) := unenc_of stEqSp_inj (xs, ys, k) rfl

theorem unstEqSp0 (xs : List Span) (ys : List Span)  : unenc stEqSp1 (St.mk [(13, (vI (0 : Int))), (12, (vI (↑(List.length xs) : Int))), (1, AV.sl (List.map eSpan ys)), (0, AV.sl (List.map eSpan xs))] []) = some (xs, ys, 0) := unenc_of stEqSp_inj (xs, ys, 0) rfl

def outEqSp (xs : List Span) (ys : List Span) (k : Nat) : T (Ex × St) := .ifB (((xs.zip ys).drop k).all fun p => (eqSpan) p.1 p.2) (.ret (.exit 0, ⟨[], []⟩)) (.ret (.ret, ⟨[(4, vB false)], []⟩))

noncomputable def prlEqSp (xs : List Span) (ys : List Span) (k : Nat) : Bool := decide (xs.length ≤ 9223372036854775807) && decide (k ≤ xs.length) && decide (xs.length = ys.length)

noncomputable def lpEqSp : Nat × (St → T (Ex × St)) := (4, lpo [13, 12, 1, 0] [] stEqSp1 (fun a => prlEqSp a.1 a.2.1 a.2.2) fun a => outEqSp a.1 a.2.1 a.2.2)

noncomputable def enEqSp : Env := envH ty noG lks [] [] [] [lpEqSp]

theorem enEqSp_ok : EnvOK Try.prog enEqSp := by
  refine envH_ok lks_ok ty_ok ?_ ?_
  · simp
  · simp

def encEqSp1 (xs : List Span) (ys : List Span) : List AV := [.sl (xs.map eSpan), .sl (ys.map eSpan)]

def encEqSp (a : (List Span) × (List Span)) : List AV := encEqSp1 a.1 a.2

theorem encEqSp_inj (a a' : (List Span) × (List Span)) (h : encEqSp a = encEqSp a') : a = a' := by
  simp only [encEqSp, encEqSp1] at h
  try simp [strs_inj, ints_inj, bools_inj, eL_eIs_inj, eBeats_inj, eBeat_iff, eL_eBeats_inj, eSpans_inj, eSpan_iff, eHoles_inj, eHole_iff, eLevels_inj, eLevel_iff, eFigss_inj, eFigs_iff, eRatios_inj, eRatio_iff, eReps_inj, eRep_iff, eStays_inj, eStay_iff] at h
  grind

theorem unEqSp (xs : List Span) (ys : List Span) : unenc encEqSp ([AV.sl (List.map eSpan xs), AV.sl (List.map eSpan ys)]) = some (xs, ys) := unenc_of encEqSp_inj (xs, ys) rfl

def resEqSp1 (xs : List Span) (ys : List Span) : AV × Heap := (vB (F.eqL (eqSpan) xs ys), [])

def preEqSp1 (xs : List Span) (ys : List Span) : Bool := true


def stEqHo (xs : List Hole) (ys : List Hole) (k : Nat) : St := ⟨[(13, vI k), (12, vI xs.length), (1, .sl (ys.map eHole)), (0, .sl (xs.map eHole))], []⟩

def stEqHo1 (a : (List Hole) × (List Hole) × Nat) : St := stEqHo a.1 a.2.1 a.2.2

theorem stEqHo_inj (a a' : (List Hole) × (List Hole) × Nat) (h : stEqHo1 a = stEqHo1 a') : a = a' := by
  simp only [stEqHo1, stEqHo] at h
  try simp [strs_inj, ints_inj, bools_inj, eL_eIs_inj, eBeats_inj, eBeat_iff, eL_eBeats_inj, eSpans_inj, eSpan_iff, eHoles_inj, eHole_iff, eLevels_inj, eLevel_iff, eFigss_inj, eFigs_iff, eRatios_inj, eRatio_iff, eReps_inj, eRep_iff, eStays_inj, eStay_iff] at h
  grind

theorem unstEqHo (xs : List Hole) (ys : List Hole) (k : Nat) : unenc stEqHo1 (St.mk [(13, (vI (↑k : Int))), (12, (vI (↑(List.length xs) : Int))), (1, AV.sl (List.map eHole ys)), (0, AV.sl (List.map eHole xs))] []) = some (xs, ys, k) := unenc_of stEqHo_inj (xs, ys, k) rfl

theorem unstEqHo0 (xs : List Hole) (ys : List Hole)  : unenc stEqHo1 (St.mk [(13, (vI (0 : Int))), (12, (vI (↑(List.length xs) : Int))), (1, AV.sl (List.map eHole ys)), (0, AV.sl (List.map eHole xs))] []) = some (xs, ys, 0) := unenc_of stEqHo_inj (xs, ys, 0) rfl

def outEqHo (xs : List Hole) (ys : List Hole) (k : Nat) : T (Ex × St) := .ifB (((xs.zip ys).drop k).all fun p => (eqHole) p.1 p.2) (.ret (.exit 0, ⟨[], []⟩)) (.ret (.ret, ⟨[(4, vB false)], []⟩))

noncomputable def prlEqHo (xs : List Hole) (ys : List Hole) (k : Nat) : Bool := decide (xs.length ≤ 9223372036854775807) && decide (k ≤ xs.length) && decide (xs.length = ys.length)

noncomputable def lpEqHo : Nat × (St → T (Ex × St)) := (4, lpo [13, 12, 1, 0] [] stEqHo1 (fun a => prlEqHo a.1 a.2.1 a.2.2) fun a => outEqHo a.1 a.2.1 a.2.2)

noncomputable def enEqHo : Env := envH ty noG lks [] [] [] [lpEqHo]

theorem enEqHo_ok : EnvOK Try.prog enEqHo := by
  refine envH_ok lks_ok ty_ok ?_ ?_
  · simp
  · simp

theorem evEqHoL (xs : List Hole) (ys : List Hole) (k : Nat) : ((exec enEqHo (loopN Try.f24 0) (stEqHo xs ys k)).bind (lessX ([13, 12, 1, 0], []) ([], []) ([4], []))).val =
  bif decide ((↑k : Int) < (↑(List.length xs) : Int)) then Option.bind (unenc (List.map eHole) (List.map eHole xs)) fun (z : List Hole) => bif decide (k < List.length z)
  then Option.bind (unenc (List.map eHole) (List.map eHole ys)) fun (z_1 : List Hole) => bif decide (k < List.length z_1) then bif !(ByteArray.toList (List.getD z k (Hole.mk
  (ByteArray.mk (Array.mk [])) (0 : Int) (0 : Int))).session == ByteArray.toList (List.getD z_1 k (Hole.mk (ByteArray.mk (Array.mk [])) (0 : Int) (0 : Int))).session &&
  ((List.getD z k (Hole.mk (ByteArray.mk (Array.mk [])) (0 : Int) (0 : Int))).fr == (List.getD z_1 k (Hole.mk (ByteArray.mk (Array.mk [])) (0 : Int) (0 : Int))).fr &&
  ((List.getD z k (Hole.mk (ByteArray.mk (Array.mk [])) (0 : Int) (0 : Int))).to == (List.getD z_1 k (Hole.mk (ByteArray.mk (Array.mk [])) (0 : Int) (0 : Int))).to &&
  true))) then some (Ex.ret, St.mk [(4, (vB false))] []) else some (Ex.normal, St.mk [(13, (vI (IntKind.wrap IntKind.i64 ((↑k : Int) + (1 : Int))))), (12, (vI (↑(List.length
  xs) : Int))), (1, AV.sl (List.map eHole ys)), (0, AV.sl (List.map eHole xs))] []) else none else none else some (Ex.exit (0 : Nat), St.mk [] []) := by kernel_rfl

theorem lpEqHo_ok (xs : List Hole) (ys : List Hole) (k : Nat) (hp : prlEqHo xs ys k = true) : ∀ ex s', (outEqHo xs ys k).val = some (ex, s') → LoopOK enEqHo (loopN Try.f24 0) (stEqHo xs ys k) ex s' := by
  simp only [prlEqHo, Bool.and_eq_true, decide_eq_true_eq] at hp
  obtain ⟨⟨h1, h2⟩, h3⟩ := hp
  have hz : (xs.zip ys).length = xs.length := by rw [List.length_zip]; omega
  refine loop_all (xs := xs.zip ys) (st := stEqHo xs ys) (p := fun p => (eqHole) p.1 p.2) (n := ([13, 12, 1, 0], [])) (e := ([], [])) (r := ([4], [])) ?_ ⟨by simp, rfl⟩ ⟨by simp, rfl⟩ (fun _ => rfl) ?_ k (by omega)
  · rw [hz]; rw [evEqHoL]; simp
  · intro k y hy
    rw [List.getElem?_zip_eq_some] at hy
    obtain ⟨ha, hb⟩ := hy
    have hlt := lt_at ha
    have hlt' := lt_at hb
    rw [evEqHoL]
    simp only [unstEqHo, unstEqHo0, prlEqHo, outEqHo, etaBeat, etaSpan, etaHole, etaLevel, etaFigs, etaRatio, etaRep, etaStay, Option.bind_some, List.length_map, unStrs, unInts, unBools, uneL_eIs, unBeats, uneL_eBeats, unSpans, unHoles, unLevels, unFigss, unRatios, unReps, unStays, F.lt, F.le, cond_true, cond_false, Bool.and_true, Bool.true_and, cast_lt hlt, decide_eq_true hlt, decide_eq_true hlt', next_at hlt h1, getD_at ha, getD_at hb, stEqHo, eqHole, bne]
    first | (generalize (_ && _) = b0; cases b0 <;> rfl) | (generalize (_ == _) = b0; cases b0 <;> rfl)

theorem evEqHo (xs : List Hole) (ys : List Hole) : (runF enEqHo false Try.f24 [.sl (xs.map eHole), .sl (ys.map eHole)]).val =
  bif (↑(List.length (List.map eHole xs)) : Int) != (↑(List.length (List.map eHole ys)) : Int) then some ((vB false), []) else Option.bind (unenc stEqHo1 (St.mk [(13, (vI (0
  : Int))), (12, (vI (↑(List.length (List.map eHole xs)) : Int))), (1, AV.sl (List.map eHole ys)), (0, AV.sl (List.map eHole xs))] [])) fun (z : List Hole × List Hole × Nat)
  => bif decide (List.length z.fst ≤ (9223372036854775807 : Nat)) && decide (z.snd.snd ≤ List.length z.fst) && decide (List.length z.fst = List.length z.snd.fst) && true
  then bif List.all (List.drop z.snd.snd (List.zip z.fst z.snd.fst)) fun (p : Hole × Hole) => eqHole p.fst p.snd then some ((vB true), []) else some ((vB false), []) else
  none := by kernel_rfl

def encEqHo1 (xs : List Hole) (ys : List Hole) : List AV := [.sl (xs.map eHole), .sl (ys.map eHole)]

def encEqHo (a : (List Hole) × (List Hole)) : List AV := encEqHo1 a.1 a.2

theorem encEqHo_inj (a a' : (List Hole) × (List Hole)) (h : encEqHo a = encEqHo a') : a = a' := by
  simp only [encEqHo, encEqHo1] at h
  try simp [strs_inj, ints_inj, bools_inj, eL_eIs_inj, eBeats_inj, eBeat_iff, eL_eBeats_inj, eSpans_inj, eSpan_iff, eHoles_inj, eHole_iff, eLevels_inj, eLevel_iff, eFigss_inj, eFigs_iff, eRatios_inj, eRatio_iff, eReps_inj, eRep_iff, eStays_inj, eStay_iff] at h
  grind

theorem unEqHo (xs : List Hole) (ys : List Hole) : unenc encEqHo ([AV.sl (List.map eHole xs), AV.sl (List.map eHole ys)]) = some (xs, ys) := unenc_of encEqHo_inj (xs, ys) rfl

def resEqHo1 (xs : List Hole) (ys : List Hole) : AV × Heap := (vB (F.eqL (eqHole) xs ys), [])

def preEqHo1 (xs : List Hole) (ys : List Hole) : Bool := true

noncomputable def oEqHo : Orc := orc 24 true encEqHo (fun a => preEqHo1 a.1 a.2) fun a => resEqHo1 a.1 a.2

theorem okEqHo : OrcOK Try.prog noG oEqHo := by
  refine mk_ok Try.f24 (keep := false) (by kernel_rfl) (by kernel_rfl) enEqHo_ok mixed (one_loop (x0 := loopN Try.f24 0) (by kernel_rfl) (lpo_ok ?_)) (by first | exact fun _ _ => ⟨rfl, rfl⟩ | (intro h; cases h)) ?_
  · rintro ⟨xs, ys, k⟩ hp
    exact lpEqHo_ok xs ys k hp
  rintro ⟨xs, ys⟩ hpre hok
  show (runF enEqHo false _ (encEqHo1 _ _)).val = some (resEqHo1 _ _)
  unfold encEqHo1 resEqHo1
  rw [evEqHo]
  have hx : xs.length ≤ 9223372036854775807 := by simpa using (okA_sl (hok _ (List.mem_cons_self ..))).1
  simp only [unstEqHo, unstEqHo0, prlEqHo, outEqHo, etaBeat, etaSpan, etaHole, etaLevel, etaFigs, etaRatio, etaRep, etaStay, Option.bind_some, List.length_map, unStrs, unInts, unBools, uneL_eIs, unBeats, uneL_eBeats, unSpans, unHoles, unLevels, unFigss, unRatios, unReps, unStays, F.lt, F.le, cond_true, cond_false, Bool.and_true, Bool.true_and, hx, List.drop_zero, Nat.zero_le, decide_true, len_eq, bne, F.eqL]
  cases h : decide (xs.length = ys.length)
  · rfl
  · simp only [Bool.not_true, cond_false, cond_true, Bool.true_and]
    cases ((xs.zip ys).all fun p => (eqHole) p.1 p.2) <;> rfl


def stEqBe (xs : List Beat) (ys : List Beat) (k : Nat) : St := ⟨[(13, vI k), (12, vI xs.length), (1, .sl (ys.map eBeat)), (0, .sl (xs.map eBeat))], []⟩

def stEqBe1 (a : (List Beat) × (List Beat) × Nat) : St := stEqBe a.1 a.2.1 a.2.2

theorem stEqBe_inj (a a' : (List Beat) × (List Beat) × Nat) (h : stEqBe1 a = stEqBe1 a') : a = a' := by
  simp only [stEqBe1, stEqBe] at h
  try simp [strs_inj, ints_inj, bools_inj, eL_eIs_inj, eBeats_inj, eBeat_iff, eL_eBeats_inj, eSpans_inj, eSpan_iff, eHoles_inj, eHole_iff, eLevels_inj, eLevel_iff, eFigss_inj, eFigs_iff, eRatios_inj, eRatio_iff, eReps_inj, eRep_iff, eStays_inj, eStay_iff] at h
  grind

theorem unstEqBe (xs : List Beat) (ys : List Beat) (k : Nat) : unenc stEqBe1 (St.mk [(13, (vI (↑k : Int))), (12, (vI (↑(List.length xs) : Int))), (1, AV.sl (List.map eBeat ys)), (0, AV.sl (List.map eBeat xs))] []) = some (xs, ys, k) := unenc_of stEqBe_inj (xs, ys, k) rfl

theorem unstEqBe0 (xs : List Beat) (ys : List Beat)  : unenc stEqBe1 (St.mk [(13, (vI (0 : Int))), (12, (vI (↑(List.length xs) : Int))), (1, AV.sl (List.map eBeat ys)), (0, AV.sl (List.map eBeat xs))] []) = some (xs, ys, 0) := unenc_of stEqBe_inj (xs, ys, 0) rfl

def outEqBe (xs : List Beat) (ys : List Beat) (k : Nat) : T (Ex × St) := .ifB (((xs.zip ys).drop k).all fun p => (eqBeat) p.1 p.2) (.ret (.exit 0, ⟨[], []⟩)) (.ret (.ret, ⟨[(4, vB false)], []⟩))

noncomputable def prlEqBe (xs : List Beat) (ys : List Beat) (k : Nat) : Bool := decide (xs.length ≤ 9223372036854775807) && decide (k ≤ xs.length) && decide (xs.length = ys.length)

noncomputable def lpEqBe : Nat × (St → T (Ex × St)) := (4, lpo [13, 12, 1, 0] [] stEqBe1 (fun a => prlEqBe a.1 a.2.1 a.2.2) fun a => outEqBe a.1 a.2.1 a.2.2)

noncomputable def enEqBe : Env := envH ty noG lks [] [] [] [lpEqBe]

theorem enEqBe_ok : EnvOK Try.prog enEqBe := by
  refine envH_ok lks_ok ty_ok ?_ ?_
  · simp
  · simp

def encEqBe1 (xs : List Beat) (ys : List Beat) : List AV := [.sl (xs.map eBeat), .sl (ys.map eBeat)]

def encEqBe (a : (List Beat) × (List Beat)) : List AV := encEqBe1 a.1 a.2

theorem encEqBe_inj (a a' : (List Beat) × (List Beat)) (h : encEqBe a = encEqBe a') : a = a' := by
  simp only [encEqBe, encEqBe1] at h
  try simp [strs_inj, ints_inj, bools_inj, eL_eIs_inj, eBeats_inj, eBeat_iff, eL_eBeats_inj, eSpans_inj, eSpan_iff, eHoles_inj, eHole_iff, eLevels_inj, eLevel_iff, eFigss_inj, eFigs_iff, eRatios_inj, eRatio_iff, eReps_inj, eRep_iff, eStays_inj, eStay_iff] at h
  grind

theorem unEqBe (xs : List Beat) (ys : List Beat) : unenc encEqBe ([AV.sl (List.map eBeat xs), AV.sl (List.map eBeat ys)]) = some (xs, ys) := unenc_of encEqBe_inj (xs, ys) rfl

def resEqBe1 (xs : List Beat) (ys : List Beat) : AV × Heap := (vB (F.eqL (eqBeat) xs ys), [])

def preEqBe1 (xs : List Beat) (ys : List Beat) : Bool := true


def stEqLv (xs : List Level) (ys : List Level) (k : Nat) : St := ⟨[(13, vI k), (12, vI xs.length), (1, .sl (ys.map eLevel)), (0, .sl (xs.map eLevel))], []⟩

def stEqLv1 (a : (List Level) × (List Level) × Nat) : St := stEqLv a.1 a.2.1 a.2.2

theorem stEqLv_inj (a a' : (List Level) × (List Level) × Nat) (h : stEqLv1 a = stEqLv1 a') : a = a' := by
  simp only [stEqLv1, stEqLv] at h
  try simp [strs_inj, ints_inj, bools_inj, eL_eIs_inj, eBeats_inj, eBeat_iff, eL_eBeats_inj, eSpans_inj, eSpan_iff, eHoles_inj, eHole_iff, eLevels_inj, eLevel_iff, eFigss_inj, eFigs_iff, eRatios_inj, eRatio_iff, eReps_inj, eRep_iff, eStays_inj, eStay_iff] at h
  grind

theorem unstEqLv (xs : List Level) (ys : List Level) (k : Nat) : unenc stEqLv1 (St.mk [(13, (vI (↑k : Int))), (12, (vI (↑(List.length xs) : Int))), (1, AV.sl (List.map eLevel ys)), (0, AV.sl (List.map eLevel xs))] []) = some (xs, ys, k) := unenc_of stEqLv_inj (xs, ys, k) rfl

theorem unstEqLv0 (xs : List Level) (ys : List Level)  : unenc stEqLv1 (St.mk [(13, (vI (0 : Int))), (12, (vI (↑(List.length xs) : Int))), (1, AV.sl (List.map eLevel ys)), (0, AV.sl (List.map eLevel xs))] []) = some (xs, ys, 0) := unenc_of stEqLv_inj (xs, ys, 0) rfl

def outEqLv (xs : List Level) (ys : List Level) (k : Nat) : T (Ex × St) := .ifB (((xs.zip ys).drop k).all fun p => (eqLevel) p.1 p.2) (.ret (.exit 0, ⟨[], []⟩)) (.ret (.ret, ⟨[(4, vB false)], []⟩))

noncomputable def prlEqLv (xs : List Level) (ys : List Level) (k : Nat) : Bool := decide (xs.length ≤ 9223372036854775807) && decide (k ≤ xs.length) && decide (xs.length = ys.length)

noncomputable def lpEqLv : Nat × (St → T (Ex × St)) := (4, lpo [13, 12, 1, 0] [] stEqLv1 (fun a => prlEqLv a.1 a.2.1 a.2.2) fun a => outEqLv a.1 a.2.1 a.2.2)

noncomputable def enEqLv : Env := envH ty noG lks [] [] [] [lpEqLv]

theorem enEqLv_ok : EnvOK Try.prog enEqLv := by
  refine envH_ok lks_ok ty_ok ?_ ?_
  · simp
  · simp

theorem evEqLvL (xs : List Level) (ys : List Level) (k : Nat) : ((exec enEqLv (loopN Try.f14 0) (stEqLv xs ys k)).bind (lessX ([13, 12, 1, 0], []) ([], []) ([4], []))).val =
  bif decide ((↑k : Int) < (↑(List.length xs) : Int)) then Option.bind (unenc (List.map eLevel) (List.map eLevel xs)) fun (z : List Level) => bif decide (k < List.length z)
  then Option.bind (unenc (List.map eLevel) (List.map eLevel ys)) fun (z_1 : List Level) => bif decide (k < List.length z_1) then bif !((List.getD z k (Level.mk (0 : Int) (0
  : Int))).time == (List.getD z_1 k (Level.mk (0 : Int) (0 : Int))).time && ((List.getD z k (Level.mk (0 : Int) (0 : Int))).many == (List.getD z_1 k (Level.mk (0 : Int) (0 :
  Int))).many && true)) then some (Ex.ret, St.mk [(4, (vB false))] []) else some (Ex.normal, St.mk [(13, (vI (IntKind.wrap IntKind.i64 ((↑k : Int) + (1 : Int))))), (12, (vI
  (↑(List.length xs) : Int))), (1, AV.sl (List.map eLevel ys)), (0, AV.sl (List.map eLevel xs))] []) else none else none else some (Ex.exit (0 : Nat), St.mk [] []) := by kernel_rfl

theorem lpEqLv_ok (xs : List Level) (ys : List Level) (k : Nat) (hp : prlEqLv xs ys k = true) : ∀ ex s', (outEqLv xs ys k).val = some (ex, s') → LoopOK enEqLv (loopN Try.f14 0) (stEqLv xs ys k) ex s' := by
  simp only [prlEqLv, Bool.and_eq_true, decide_eq_true_eq] at hp
  obtain ⟨⟨h1, h2⟩, h3⟩ := hp
  have hz : (xs.zip ys).length = xs.length := by rw [List.length_zip]; omega
  refine loop_all (xs := xs.zip ys) (st := stEqLv xs ys) (p := fun p => (eqLevel) p.1 p.2) (n := ([13, 12, 1, 0], [])) (e := ([], [])) (r := ([4], [])) ?_ ⟨by simp, rfl⟩ ⟨by simp, rfl⟩ (fun _ => rfl) ?_ k (by omega)
  · rw [hz]; rw [evEqLvL]; simp
  · intro k y hy
    rw [List.getElem?_zip_eq_some] at hy
    obtain ⟨ha, hb⟩ := hy
    have hlt := lt_at ha
    have hlt' := lt_at hb
    rw [evEqLvL]
    simp only [unstEqLv, unstEqLv0, prlEqLv, outEqLv, etaBeat, etaSpan, etaHole, etaLevel, etaFigs, etaRatio, etaRep, etaStay, Option.bind_some, List.length_map, unStrs, unInts, unBools, uneL_eIs, unBeats, uneL_eBeats, unSpans, unHoles, unLevels, unFigss, unRatios, unReps, unStays, F.lt, F.le, cond_true, cond_false, Bool.and_true, Bool.true_and, cast_lt hlt, decide_eq_true hlt, decide_eq_true hlt', next_at hlt h1, getD_at ha, getD_at hb, stEqLv, eqLevel, bne]
    first | (generalize (_ && _) = b0; cases b0 <;> rfl) | (generalize (_ == _) = b0; cases b0 <;> rfl)

theorem evEqLv (xs : List Level) (ys : List Level) : (runF enEqLv false Try.f14 [.sl (xs.map eLevel), .sl (ys.map eLevel)]).val =
  bif (↑(List.length (List.map eLevel xs)) : Int) != (↑(List.length (List.map eLevel ys)) : Int) then some ((vB false), []) else Option.bind (unenc stEqLv1 (St.mk [(13, (vI
  (0 : Int))), (12, (vI (↑(List.length (List.map eLevel xs)) : Int))), (1, AV.sl (List.map eLevel ys)), (0, AV.sl (List.map eLevel xs))] [])) fun (z : List Level × List
  Level × Nat) => bif decide (List.length z.fst ≤ (9223372036854775807 : Nat)) && decide (z.snd.snd ≤ List.length z.fst) && decide (List.length z.fst = List.length
  z.snd.fst) && true then bif List.all (List.drop z.snd.snd (List.zip z.fst z.snd.fst)) fun (p : Level × Level) => eqLevel p.fst p.snd then some ((vB true), []) else some
  ((vB false), []) else none := by kernel_rfl

def encEqLv1 (xs : List Level) (ys : List Level) : List AV := [.sl (xs.map eLevel), .sl (ys.map eLevel)]

def encEqLv (a : (List Level) × (List Level)) : List AV := encEqLv1 a.1 a.2

theorem encEqLv_inj (a a' : (List Level) × (List Level)) (h : encEqLv a = encEqLv a') : a = a' := by
  simp only [encEqLv, encEqLv1] at h
  try simp [strs_inj, ints_inj, bools_inj, eL_eIs_inj, eBeats_inj, eBeat_iff, eL_eBeats_inj, eSpans_inj, eSpan_iff, eHoles_inj, eHole_iff, eLevels_inj, eLevel_iff, eFigss_inj, eFigs_iff, eRatios_inj, eRatio_iff, eReps_inj, eRep_iff, eStays_inj, eStay_iff] at h
  grind

theorem unEqLv (xs : List Level) (ys : List Level) : unenc encEqLv ([AV.sl (List.map eLevel xs), AV.sl (List.map eLevel ys)]) = some (xs, ys) := unenc_of encEqLv_inj (xs, ys) rfl

def resEqLv1 (xs : List Level) (ys : List Level) : AV × Heap := (vB (F.eqL (eqLevel) xs ys), [])

def preEqLv1 (xs : List Level) (ys : List Level) : Bool := true

noncomputable def oEqLv : Orc := orc 14 true encEqLv (fun a => preEqLv1 a.1 a.2) fun a => resEqLv1 a.1 a.2

theorem okEqLv : OrcOK Try.prog noG oEqLv := by
  refine mk_ok Try.f14 (keep := false) (by kernel_rfl) (by kernel_rfl) enEqLv_ok mixed (one_loop (x0 := loopN Try.f14 0) (by kernel_rfl) (lpo_ok ?_)) (by first | exact fun _ _ => ⟨rfl, rfl⟩ | (intro h; cases h)) ?_
  · rintro ⟨xs, ys, k⟩ hp
    exact lpEqLv_ok xs ys k hp
  rintro ⟨xs, ys⟩ hpre hok
  show (runF enEqLv false _ (encEqLv1 _ _)).val = some (resEqLv1 _ _)
  unfold encEqLv1 resEqLv1
  rw [evEqLv]
  have hx : xs.length ≤ 9223372036854775807 := by simpa using (okA_sl (hok _ (List.mem_cons_self ..))).1
  simp only [unstEqLv, unstEqLv0, prlEqLv, outEqLv, etaBeat, etaSpan, etaHole, etaLevel, etaFigs, etaRatio, etaRep, etaStay, Option.bind_some, List.length_map, unStrs, unInts, unBools, uneL_eIs, unBeats, uneL_eBeats, unSpans, unHoles, unLevels, unFigss, unRatios, unReps, unStays, F.lt, F.le, cond_true, cond_false, Bool.and_true, Bool.true_and, hx, List.drop_zero, Nat.zero_le, decide_true, len_eq, bne, F.eqL]
  cases h : decide (xs.length = ys.length)
  · rfl
  · simp only [Bool.not_true, cond_false, cond_true, Bool.true_and]
    cases ((xs.zip ys).all fun p => (eqLevel) p.1 p.2) <;> rfl


end M
end Go.Proofs.Ytnkaadiofjoacaa
