/- What is proved here: how the program writes numbers with noughts ahead and dates (no statement of the seat). -/
import Derived.Test.YtgkjfochkhiojaaDoorE102
import Derived.Test.YtgkjfochkhiojaaDoorE99
namespace Go.Proofs.YtgkjfochkhiojaaDoor
open Go Go.RowKit
set_option linter.unusedVariables false
set_option linter.unusedSimpArgs false
set_option maxHeartbeats 1000000

theorem F.yr_uniq {a b d : Int} (h1 : 1 ≤ a) (h2 : 1 ≤ b) (a1 : F.ydays a ≤ d) (a2 : d < F.ydays (a + 1)) (b1 : F.ydays b ≤ d) (b2 : d < F.ydays (b + 1)) : a = b := by
  rcases Int.lt_trichotomy a b with h | h | h
  · have := F.ydays_mono (a := a + 1) (b := b) (by omega) (by omega); omega
  · exact h
  · have := F.ydays_mono (a := b + 1) (b := a) (by omega) (by omega); omega

theorem F.yr_max {y d : Int} (h0 : 1970 ≤ y) (h2 : d ≤ 2932896) (h1 : F.ydays y ≤ d) : y ≤ 9999 := by
  have y4 : F.ydays 10000 = 2932897 := by decide
  by_cases h : y ≤ 9999
  · exact h
  · have := F.ydays_mono (a := 10000) (b := y) (by omega) (by omega)
    omega

theorem F.yr_end {y d : Int} (h0 : 1970 ≤ y) (h2 : d ≤ 2932896) : d < F.ydays (y + ((10000 : Nat) : Int) + 1) := by
  have y4 : F.ydays 10000 = 2932897 := by decide
  have := F.ydays_mono (a := 10000) (b := y + ((10000 : Nat) : Int) + 1) (by omega) (by omega)
  omega

theorem F.yr_step {y d : Int} (h0 : 1970 ≤ y) (h2 : d ≤ 2932896) (h1 : F.ydays y ≤ d) (h3 : F.ydays (y + 1) ≤ d) : F.yrL 10000 d y = F.yrL 10000 d (y + 1) := by
  obtain ⟨a1, a2, a3⟩ := F.yrL_ok (d := d) 10000 y (by omega) h1 (F.yr_end h0 h2)
  obtain ⟨b1, b2, b3⟩ := F.yrL_ok (d := d) 10000 (y + 1) (by omega) h3 (F.yr_end (by omega) h2)
  exact F.yr_uniq (by omega) (by omega) a1 a2 b1 b2

theorem F.yr_stop {y d : Int} (h3 : ¬ F.ydays (y + 1) ≤ d) : F.yrL 10000 d y = y := by
  show (bif decide (F.ydays (y + 1) ≤ d) then F.yrL 9999 d (y + 1) else y) = y
  rw [decide_eq_false h3]
  rfl

theorem F.mo_fuel {y d : Int} {j k k' m : Nat} (h1 : j ≤ k) (h2 : j ≤ k') (h3 : 0 ≤ d) (h4 : d < F.msum y j m) : F.moL k y d m = F.moL k' y d m := by
  obtain ⟨i, i1, D, i2, i3, i4, i5⟩ := F.moL_ok y j k m d h1 h3 h4
  rw [i5, i4, F.moL_eq y i k' m D (by omega) i2 i3]

theorem F.mo_step {y d : Int} {m : Nat} (h1 : 1 ≤ m) (h2 : m ≤ 12) (h3 : 0 ≤ d) (h4 : d < F.msum y (13 - m) m) (h5 : F.mdays y m ≤ d) : m + 1 ≤ 12 ∧ d - F.mdays y m < F.msum y (13 - (m + 1)) (m + 1) ∧ F.moL 20 y d m = F.moL 20 y (d - F.mdays y m) ((m + 1 : Nat) : Int) := by
  rw [show 13 - m = (13 - (m + 1)) + 1 by omega, F.msum] at h4
  have hm : m + 1 ≤ 12 := by
    by_cases h : m = 12
    · subst h
      have : F.msum y (13 - (12 + 1)) (12 + 1) = 0 := rfl
      omega
    · omega
  refine ⟨hm, by omega, ?_⟩
  have e : F.moL 20 y d m = F.moL 19 y (d - F.mdays y m) ((m + 1 : Nat) : Int) := by
    show (bif decide (F.mdays y m ≤ d) then F.moL 19 y (d - F.mdays y m) ((m : Int) + 1) else ((m : Int), d)) = _
    rw [decide_eq_true h5]
    rfl
  rw [e]
  exact F.mo_fuel (j := 13 - (m + 1)) (by omega) (by omega) (by omega) (by omega)

theorem F.mo_stop {y d : Int} {m : Nat} (h5 : ¬ F.mdays y m ≤ d) : F.moL 20 y d m = ((m : Int), d) := by
  show (bif decide (F.mdays y m ≤ d) then F.moL 19 y (d - F.mdays y m) ((m : Int) + 1) else ((m : Int), d)) = _
  rw [decide_eq_false h5]
  rfl

theorem F.pad_size {n : Int} (h0 : -9223372036854775808 ≤ n) (h1 : n ≤ 9223372036854775807) {m : Nat} (hm : m ≤ 10) : (F.pad n m).size ≤ 31 := by
  have := F.itoa_size h0 h1
  unfold F.pad
  rw [ByteArray.size_append, F.zrs_size]
  omega

namespace M


def stPad (many : Nat) (s : ByteArray) : St := ⟨[(5, vS s), (1, vI many)], []⟩

def stPad1 (a : Nat × ByteArray) : St := stPad a.1 a.2

theorem stPad_inj (a a' : Nat × ByteArray) (h : stPad1 a = stPad1 a') : a = a' := by
  simp only [stPad1, stPad] at h
  try simp [strs_inj, ints_inj, ents_inj, eEnt_iff, eLst_iff, eSnds_inj, eStrms_inj] at h
  grind

theorem unstPad (many : Nat) (s : ByteArray) : unenc stPad1 (St.mk [(5, (vS s)), (1, (vI (↑many : Int)))] []) = some (many, s) := unenc_of stPad_inj (many, s) rfl

def outPad (many : Nat) (s : ByteArray) : T (Ex × St) := .ret (.exit 0, ⟨[(5, vS (F.zrs (many - s.size) ++ s))], []⟩)

noncomputable def prlPad (many : Nat) (s : ByteArray) : Bool := decide (many ≤ 1000)

noncomputable def lpPad : Nat × (St → T (Ex × St)) := (2, lpo [5, 1] [] stPad1 (fun a => prlPad a.1 a.2) fun a => outPad a.1 a.2)

noncomputable def enPad : Env := envH ty noG lks [oIta] [] [] [lpPad]

theorem enPad_ok : EnvOK Tryd.prog enPad := by
  refine envH_ok lks_ok ty_ok ?_ ?_
  · simp only [List.forall_mem_cons]
    exact ⟨okIta, by simp⟩
  · simp

theorem evPadL (many : Nat) (s : ByteArray) : ((exec enPad (loopN Tryd.f38 0) (stPad many s)).bind (lessX ([5, 1], []) ([5], []) ([], []))).val =
  bif decide ((↑(ByteArray.size s) : Int) < (↑many : Int)) then bif Nat.ble (ByteArray.size (ByteArray.mk (Array.mk [(48 : UInt8)])) + ByteArray.size s) (9223372036854775807
  : Nat) then some (Ex.normal, St.mk [(5, (vS (ByteArray.mk (Array.mk [(48 : UInt8)]) ++ s))), (1, (vI (↑many : Int)))] []) else none else some (Ex.exit (0 : Nat), St.mk
  [(5, (vS s))] []) := (execR_bind _ _ _).symm.trans (by kernel_rfl)

theorem lpPad_ok (many : Nat) (s : ByteArray) (hp : prlPad many s = true) : ∀ ex s', (outPad many s).val = some (ex, s') → LoopOK enPad (loopN Tryd.f38 0) (stPad many s) ex s' := by
  simp only [prlPad, Bool.and_eq_true, decide_eq_true_eq] at hp
  refine loop_gen (st := fun s : ByteArray => stPad many s) (out := fun s => outPad many s) (I := fun _ => True) (n := ([5, 1], [])) (e := ([5], [])) (r := ([], [])) (fun s => many - s.size) ?_ s trivial
  intro s _
  by_cases h : s.size < many
  · right
    have e1 : ((⟨⟨[48]⟩⟩ : ByteArray) ++ s).size = s.size + 1 := by rw [ByteArray.size_append]; show 1 + s.size = _; omega
    refine ⟨⟨⟨[48]⟩⟩ ++ s, ?_, rfl, trivial, by omega, ?_⟩
    · rw [evPadL]
      simp only [unIta, preIta1, unstPad, prlPad, outPad, etaEnt, etaLst, etaSnd, etaStrm, etaMas, Option.bind_some, List.length_map, unStrs, unInts, unBools, unEnts, unItms, unTrns, cond_true, cond_false, Bool.and_true, Bool.true_and, decide_eq_true (show (s.size : Int) < (many : Int) by omega)]
      rw [ble_t (show (ByteArray.mk (Array.mk [48])).size + s.size ≤ 9223372036854775807 by show 1 + s.size ≤ _; omega)]
      rfl
    · have e2 : many - s.size = (many - (s.size + 1)) + 1 := by omega
      simp only [outPad, e1]
      rw [e2, F.zrs_succ]
  · left
    refine ⟨(.exit 0, ⟨[(5, vS s)], []⟩), ?_, ?_, by simp, rfl⟩
    · rw [evPadL]
      simp only [unIta, preIta1, unstPad, prlPad, outPad, etaEnt, etaLst, etaSnd, etaStrm, etaMas, Option.bind_some, List.length_map, unStrs, unInts, unBools, unEnts, unItms, unTrns, cond_true, cond_false, Bool.and_true, Bool.true_and, decide_eq_false (show ¬ (s.size : Int) < (many : Int) by omega)]
    · simp only [outPad]
      rw [show many - s.size = 0 by omega, F.zrs_zero]
      rfl

theorem evPad (n : Int) (many : Nat) : (runF enPad false Tryd.f38 [vI n, vI many]).val =
  Option.bind (unenc encIta [(vI n)]) fun (z : Int) => bif decide ((-9223372036854775808 : Int) ≤ z) && decide (z ≤ (9223372036854775807 : Int)) then Option.bind (unenc
  stPad1 (St.mk [(5, (vS (F.itoa z))), (1, (vI (↑many : Int)))] [])) fun (z : Nat × ByteArray) => bif decide (z.fst ≤ (1000 : Nat)) && true then some ((vS (F.zrs (z.fst -
  ByteArray.size z.snd) ++ z.snd)), []) else none else none := (runFR_val).symm.trans (by kernel_rfl)

def encPad1 (n : Int) (many : Nat) : List AV := [vI n, vI many]

def encPad (a : Int × Nat) : List AV := encPad1 a.1 a.2

theorem encPad_inj (a a' : Int × Nat) (h : encPad a = encPad a') : a = a' := by
  simp only [encPad, encPad1] at h
  try simp [strs_inj, ints_inj, ents_inj, eEnt_iff, eLst_iff, eSnds_inj, eStrms_inj] at h
  grind

theorem unPad (n : Int) (many : Nat) : unenc encPad ([(vI n), (vI (↑many : Int))]) = some (n, many) := unenc_of encPad_inj (n, many) rfl

def resPad1 (n : Int) (many : Nat) : AV × Heap := (vS (F.pad n many), [])

def prePad1 (n : Int) (many : Nat) : Bool := decide (-9223372036854775808 ≤ n) && decide (n ≤ 9223372036854775807) && decide (many ≤ 1000)

noncomputable def oPad : Orc := orc 38 true encPad (fun a => prePad1 a.1 a.2) fun a => resPad1 a.1 a.2

theorem okPad : OrcOK Tryd.prog noG oPad := by
  refine mk_ok Tryd.f38 (keep := false) (by kernel_rfl) (by kernel_rfl) enPad_ok mixed (one_loop (x0 := loopN Tryd.f38 0) (by kernel_rfl) (lpo_ok ?_)) (by first | exact fun _ _ => ⟨rfl, rfl⟩ | (intro h; cases h)) ?_
  · rintro ⟨many, s⟩ hp
    exact lpPad_ok many s hp
  rintro ⟨n, many⟩ hpre hok
  show (runF enPad false _ (encPad1 _ _)).val = some (resPad1 _ _)
  unfold encPad1 resPad1
  rw [evPad]
  simp only [prePad1, Bool.and_eq_true] at hpre
  simp only [unIta, preIta1, unstPad, prlPad, outPad, etaEnt, etaLst, etaSnd, etaStrm, etaMas, Option.bind_some, List.length_map, unStrs, unInts, unBools, unEnts, unItms, unTrns, cond_true, cond_false, Bool.and_true, Bool.true_and, hpre.1.1, hpre.1.2, hpre.2, F.pad]
  try rfl

theorem evYd2 (y : Int) : (runF en0 false Tryd.f36 [vI y]).val =
  some ((vI (IntKind.wrap IntKind.i64 (IntKind.wrap IntKind.i64 (IntKind.wrap IntKind.i64 (IntKind.wrap IntKind.i64 ((365 : Int) * IntKind.wrap IntKind.i64 (y - (1970 :
  Int))) + IntKind.wrap IntKind.i64 (IntKind.wrap IntKind.i64 (Int.tdiv (IntKind.wrap IntKind.i64 (y - (1 : Int))) (4 : Int)) - (492 : Int))) - IntKind.wrap IntKind.i64
  (IntKind.wrap IntKind.i64 (Int.tdiv (IntKind.wrap IntKind.i64 (y - (1 : Int))) (100 : Int)) - (19 : Int))) + IntKind.wrap IntKind.i64 (IntKind.wrap IntKind.i64 (Int.tdiv
  (IntKind.wrap IntKind.i64 (y - (1 : Int))) (400 : Int)) - (4 : Int))))), []) := (runFR_val).symm.trans (by kernel_rfl)

def encYd21 (y : Int) : List AV := [vI y]

def encYd2 (a : Int) : List AV := encYd21 a

theorem encYd2_inj (a a' : Int) (h : encYd2 a = encYd2 a') : a = a' := by
  simp only [encYd2, encYd21] at h
  try simp [strs_inj, ints_inj, ents_inj, eEnt_iff, eLst_iff, eSnds_inj, eStrms_inj] at h
  grind

theorem unYd2 (y : Int) : unenc encYd2 ([(vI y)]) = some (y) := unenc_of encYd2_inj (y) rfl

def resYd21 (y : Int) : AV × Heap := (vI (F.ydays y), [])

def preYd21 (y : Int) : Bool := decide (1970 ≤ y) && decide (y ≤ 20000)

noncomputable def oYd2 : Orc := orc 36 true encYd2 (fun a => preYd21 a) fun a => resYd21 a

theorem okYd2 : OrcOK Tryd.prog noG oYd2 := by
  refine mk_ok Tryd.f36 (keep := false) (by kernel_rfl) (by kernel_rfl) en0_ok mixed (no_loops (by kernel_rfl)) (by first | exact fun _ _ => ⟨rfl, rfl⟩ | (intro h; cases h)) ?_
  rintro y hpre hok
  show (runF en0 false _ (encYd21 _)).val = some (resYd21 _)
  unfold encYd21 resYd21
  rw [evYd2]
  have hpre : (decide (1970 ≤ y) && decide (y ≤ 20000)) = true := hpre
  simp only [Bool.and_eq_true, decide_eq_true_eq] at hpre
  have h1 : 0 ≤ (y - 1).tdiv 4 ∧ (y - 1).tdiv 4 ≤ 10000 := by rw [Int.tdiv_eq_ediv_of_nonneg (by omega)]; omega
  have h2 : 0 ≤ (y - 1).tdiv 100 ∧ (y - 1).tdiv 100 ≤ 10000 := by rw [Int.tdiv_eq_ediv_of_nonneg (by omega)]; omega
  have h3 : 0 ≤ (y - 1).tdiv 400 ∧ (y - 1).tdiv 400 ≤ 10000 := by rw [Int.tdiv_eq_ediv_of_nonneg (by omega)]; omega
  have w0 : IntKind.i64.wrap (y - 1) = y - 1 := wrap_id (by omega) (by omega)
  have w1 : IntKind.i64.wrap (y - 1970) = y - 1970 := wrap_id (by omega) (by omega)
  have w2 : IntKind.i64.wrap (365 * (y - 1970)) = 365 * (y - 1970) := wrap_id (by omega) (by omega)
  simp only [etaEnt, etaLst, etaSnd, etaStrm, etaMas, Option.bind_some, List.length_map, unStrs, unInts, unBools, unEnts, unItms, unTrns, cond_true, cond_false, Bool.and_true, Bool.true_and, w0, w1, w2, F.ydays]
  generalize (y - 1).tdiv 4 = a at *
  generalize (y - 1).tdiv 100 = b at *
  generalize (y - 1).tdiv 400 = c at *
  simp (disch := omega) only [wrap_id]

def stDt1 (y : Int) (r : Int) (d : Int) : St := ⟨[(6, vI y), (5, vI r), (4, vI d)], []⟩

def stDt11 (a : Int × Int × Int) : St := stDt1 a.1 a.2.1 a.2.2

theorem stDt1_inj (a a' : Int × Int × Int) (h : stDt11 a = stDt11 a') : a = a' := by
  simp only [stDt11, stDt1] at h
  try simp [strs_inj, ints_inj, ents_inj, eEnt_iff, eLst_iff, eSnds_inj, eStrms_inj] at h
  grind

theorem unstDt1 (y : Int) (r : Int) (d : Int) : unenc stDt11 (St.mk [(6, (vI y)), (5, (vI r)), (4, (vI d))] []) = some (y, r, d) := unenc_of stDt1_inj (y, r, d) rfl

def outDt1 (y : Int) (r : Int) (d : Int) : T (Ex × St) := .ret (.exit 0, ⟨[(6, vI (F.yrL 10000 d y)), (5, vI r), (4, vI d)], []⟩)

noncomputable def prlDt1 (y : Int) (r : Int) (d : Int) : Bool := decide (1970 ≤ y) && decide (0 ≤ d) && decide (d ≤ 2932896) && decide (F.ydays y ≤ d)

noncomputable def lpDt1 : Nat × (St → T (Ex × St)) := (5, lpo [6, 5, 4] [] stDt11 (fun a => prlDt1 a.1 a.2.1 a.2.2) fun a => outDt1 a.1 a.2.1 a.2.2)

def stDt2 (m : Nat) (y : Int) (r : Int) (d : Int) : St := ⟨[(7, vI m), (6, vI y), (5, vI r), (4, vI d)], []⟩

def stDt21 (a : Nat × Int × Int × Int) : St := stDt2 a.1 a.2.1 a.2.2.1 a.2.2.2

theorem stDt2_inj (a a' : Nat × Int × Int × Int) (h : stDt21 a = stDt21 a') : a = a' := by
  simp only [stDt21, stDt2] at h
  try simp [strs_inj, ints_inj, ents_inj, eEnt_iff, eLst_iff, eSnds_inj, eStrms_inj] at h
  grind

theorem unstDt2 (m : Nat) (y : Int) (r : Int) (d : Int) : unenc stDt21 (St.mk [(7, (vI (↑m : Int))), (6, (vI y)), (5, (vI r)), (4, (vI d))] []) = some (m, y, r, d) := unenc_of stDt2_inj (m, y, r, d) rfl

theorem unstDt20 (y : Int) (r : Int) (d : Int)  : unenc stDt21 (St.mk [(7, (vI (1 : Int))), (6, (vI y)), (5, (vI r)), (4, (vI d))] []) = some (1, y, r, d) := unenc_of stDt2_inj (1, y, r, d) rfl

def outDt2 (m : Nat) (y : Int) (r : Int) (d : Int) : T (Ex × St) := .ret (.exit 2, ⟨[(7, vI (F.moL 20 y d m).1), (6, vI y), (5, vI r), (4, vI (F.moL 20 y d m).2)], []⟩)

noncomputable def prlDt2 (m : Nat) (y : Int) (r : Int) (d : Int) : Bool := decide (0 ≤ y) && decide (y ≤ 100000) && decide (1 ≤ m) && decide (m ≤ 12) && decide (0 ≤ d) && decide (d < F.msum y (13 - m) m)

noncomputable def lpDt2 : Nat × (St → T (Ex × St)) := (9, lpo [7, 6, 5, 4] [] stDt21 (fun a => prlDt2 a.1 a.2.1 a.2.2.1 a.2.2.2) fun a => outDt2 a.1 a.2.1 a.2.2.1 a.2.2.2)

noncomputable def enDt : Env := envH ty noG lks [oOut, oYd2, oMdy, oPad] [] [] [lpDt1, lpDt2]

theorem enDt_ok : EnvOK Tryd.prog enDt := by
  refine envH_ok lks_ok ty_ok ?_ ?_
  · simp only [List.forall_mem_cons]
    exact ⟨okOut, okYd2, okMdy, okPad, by simp⟩
  · simp

theorem evDt1L (y : Int) (r : Int) (d : Int) : ((exec enDt (loopN Tryd.f21 0) (stDt1 y r d)).bind (lessX ([6, 5, 4], []) ([6, 5, 4], []) ([], []))).val =
  Option.bind (unenc encYd2 [(vI (IntKind.wrap IntKind.i64 (y + (1 : Int))))]) fun (z : Int) => bif decide ((1970 : Int) ≤ z) && decide (z ≤ (20000 : Int)) then bif decide
  (F.ydays z ≤ d) then some (Ex.normal, St.mk [(6, (vI (IntKind.wrap IntKind.i64 (y + (1 : Int))))), (5, (vI r)), (4, (vI d))] []) else some (Ex.exit (0 : Nat), St.mk [(6,
  (vI y)), (5, (vI r)), (4, (vI d))] []) else none := (execR_bind _ _ _).symm.trans (by kernel_rfl)

theorem lpDt1_ok (y : Int) (r : Int) (d : Int) (hp : prlDt1 y r d = true) : ∀ ex s', (outDt1 y r d).val = some (ex, s') → LoopOK enDt (loopN Tryd.f21 0) (stDt1 y r d) ex s' := by
  simp only [prlDt1, Bool.and_eq_true, decide_eq_true_eq] at hp
  obtain ⟨⟨⟨h1, h2⟩, h3⟩, h4⟩ := hp
  refine loop_gen (st := fun y : Int => stDt1 y r d) (out := fun y => outDt1 y r d) (I := fun y => 1970 ≤ y ∧ F.ydays y ≤ d) (n := ([6, 5, 4], [])) (e := ([6, 5, 4], [])) (r := ([], [])) (fun y => (10000 - y).toNat) ?_ y ⟨h1, h4⟩
  clear h1 h4
  intro y ⟨h1, h4⟩
  have hmx := F.yr_max h1 h3 h4
  have w1 : IntKind.i64.wrap (y + 1) = y + 1 := wrap_id (by omega) (by omega)
  have p1 : decide (1970 ≤ y + 1) = true := decide_eq_true (by omega)
  have p2 : decide (y + 1 ≤ 20000) = true := decide_eq_true (by omega)
  by_cases hc : F.ydays (y + 1) ≤ d
  · right
    refine ⟨y + 1, ?_, rfl, ⟨by omega, hc⟩, by omega, ?_⟩
    · rw [evDt1L]
      simp only [unOut, unYd2, unMdy, unPad, preOut1, preYd21, preMdy1, prePad1, unstDt1, unstDt2, unstDt20, prlDt1, prlDt2, outDt1, outDt2, etaEnt, etaLst, etaSnd, etaStrm, etaMas, Option.bind_some, List.length_map, unStrs, unInts, unBools, unEnts, unItms, unTrns, cond_true, cond_false, Bool.and_true, Bool.true_and, w1, p1, p2, decide_eq_true hc, stDt1]
      try rfl
    · simp only [outDt1, F.yr_step h1 h3 h4 hc]
  · left
    refine ⟨(.exit 0, ⟨[(6, vI y), (5, vI r), (4, vI d)], []⟩), ?_, ?_, by simp, rfl⟩
    · rw [evDt1L]
      simp only [unOut, unYd2, unMdy, unPad, preOut1, preYd21, preMdy1, prePad1, unstDt1, unstDt2, unstDt20, prlDt1, prlDt2, outDt1, outDt2, etaEnt, etaLst, etaSnd, etaStrm, etaMas, Option.bind_some, List.length_map, unStrs, unInts, unBools, unEnts, unItms, unTrns, cond_true, cond_false, Bool.and_true, Bool.true_and, w1, p1, p2, decide_eq_false hc]
      try rfl
    · simp only [outDt1, F.yr_stop hc]
      rfl

theorem evDt2L (m : Nat) (y : Int) (r : Int) (d : Int) : ((exec enDt (loopN Tryd.f21 1) (stDt2 m y r d)).bind (lessX ([7, 6, 5, 4], []) ([7, 6, 5, 4], []) ([], []))).val =
  Option.bind (unenc encMdy [(vI y), (vI (↑m : Int))]) fun (z : Int × Int) => bif decide ((0 : Int) ≤ z.fst) && decide (z.fst ≤ (100000 : Int)) then bif decide (F.mdays
  z.fst z.snd ≤ d) then Option.bind (unenc encMdy [(vI y), (vI (↑m : Int))]) fun (z : Int × Int) => bif decide ((0 : Int) ≤ z.fst) && decide (z.fst ≤ (100000 : Int)) then
  some (Ex.normal, St.mk [(7, (vI (IntKind.wrap IntKind.i64 ((↑m : Int) + (1 : Int))))), (6, (vI y)), (5, (vI r)), (4, (vI (IntKind.wrap IntKind.i64 (d - F.mdays z.fst
  z.snd))))] []) else none else some (Ex.exit (2 : Nat), St.mk [(7, (vI (↑m : Int))), (6, (vI y)), (5, (vI r)), (4, (vI d))] []) else none := (execR_bind _ _ _).symm.trans (by kernel_rfl)

theorem lpDt2_ok (m : Nat) (y : Int) (r : Int) (d : Int) (hp : prlDt2 m y r d = true) : ∀ ex s', (outDt2 m y r d).val = some (ex, s') → LoopOK enDt (loopN Tryd.f21 1) (stDt2 m y r d) ex s' := by
  simp only [prlDt2, Bool.and_eq_true, decide_eq_true_eq] at hp
  obtain ⟨⟨⟨⟨⟨h1, h2⟩, h3⟩, h4⟩, h5⟩, h6⟩ := hp
  have p1 : decide (0 ≤ y) = true := decide_eq_true h1
  have p2 : decide (y ≤ 100000) = true := decide_eq_true h2
  refine loop_gen (st := fun p : Nat × Int => stDt2 p.1 y r p.2) (out := fun p => outDt2 p.1 y r p.2) (I := fun p => 1 ≤ p.1 ∧ p.1 ≤ 12 ∧ 0 ≤ p.2 ∧ p.2 < F.msum y (13 - p.1) p.1) (n := ([7, 6, 5, 4], [])) (e := ([7, 6, 5, 4], [])) (r := ([], [])) (fun p => 13 - p.1) ?_ (m, d) ⟨h3, h4, h5, h6⟩
  clear h3 h4 h5 h6
  rintro ⟨m, d⟩ ⟨h3, h4, h5, h6⟩
  simp only at h3 h4 h5 h6
  have hb := F.mdays_b y m
  have hs := F.msum_b y (13 - m) m
  by_cases hc : F.mdays y m ≤ d
  · obtain ⟨k1, k2, k3⟩ := F.mo_step h3 h4 h5 h6 hc
    have w1 : IntKind.i64.wrap (d - F.mdays y m) = d - F.mdays y m := wrap_id (by omega) (by omega)
    have w2 : IntKind.i64.wrap ((m : Int) + 1) = ((m + 1 : Nat) : Int) := by rw [wrap_id (by omega) (by omega)]; rfl
    right
    refine ⟨(m + 1, d - F.mdays y m), ?_, rfl, ⟨by simp only; omega, k1, by simp only; omega, k2⟩, by simp only; omega, ?_⟩
    · rw [evDt2L]
      simp only [unOut, unYd2, unMdy, unPad, preOut1, preYd21, preMdy1, prePad1, unstDt1, unstDt2, unstDt20, prlDt1, prlDt2, outDt1, outDt2, etaEnt, etaLst, etaSnd, etaStrm, etaMas, Option.bind_some, List.length_map, unStrs, unInts, unBools, unEnts, unItms, unTrns, cond_true, cond_false, Bool.and_true, Bool.true_and, p1, p2, w1, w2, decide_eq_true hc, stDt2]
      try rfl
    · simp only [outDt2, k3]
  · left
    refine ⟨(.exit 2, ⟨[(7, vI m), (6, vI y), (5, vI r), (4, vI d)], []⟩), ?_, ?_, by simp, rfl⟩
    · rw [evDt2L]
      simp only [unOut, unYd2, unMdy, unPad, preOut1, preYd21, preMdy1, prePad1, unstDt1, unstDt2, unstDt20, prlDt1, prlDt2, outDt1, outDt2, etaEnt, etaLst, etaSnd, etaStrm, etaMas, Option.bind_some, List.length_map, unStrs, unInts, unBools, unEnts, unItms, unTrns, cond_true, cond_false, Bool.and_true, Bool.true_and, p1, p2, decide_eq_false hc]
      try rfl
    · simp only [outDt2, F.mo_stop hc]
      rfl

theorem evDte (n : Int) : (runF enDt false Tryd.f21 [vI n]).val =
  Option.bind (unenc encOut [(vI n), (vI (0 : Int)), (vI (253402300799999 : Int))]) fun (z : Int × Int × Int) => bif F.out z.fst z.snd.fst z.snd.snd then some (AV.tup [(vS
  (ByteArray.mk (Array.mk []))), (vI (1 : Int))], []) else Option.bind (unenc stDt11 (St.mk [(6, (vI (IntKind.wrap IntKind.i64 ((1970 : Int) + IntKind.wrap IntKind.i64
  (Int.tdiv (IntKind.wrap IntKind.i64 (Int.tdiv n (86400000 : Int))) (366 : Int)))))), (5, (vI (Int.tmod n (86400000 : Int)))), (4, (vI (IntKind.wrap IntKind.i64 (Int.tdiv n
  (86400000 : Int)))))] [])) fun (z : Int × Int × Int) => bif decide ((1970 : Int) ≤ z.fst) && decide ((0 : Int) ≤ z.snd.snd) && decide (z.snd.snd ≤ (2932896 : Int)) &&
  decide (F.ydays z.fst ≤ z.snd.snd) && true then Option.bind (unenc encYd2 [(vI (F.yrL (10000 : Nat) z.snd.snd z.fst))]) fun (z_1 : Int) => bif decide ((1970 : Int) ≤ z_1)
  && decide (z_1 ≤ (20000 : Int)) then Option.bind (unenc stDt21 (St.mk [(7, (vI (1 : Int))), (6, (vI (F.yrL (10000 : Nat) z.snd.snd z.fst))), (5, (vI z.snd.fst)), (4, (vI
  (IntKind.wrap IntKind.i64 (z.snd.snd - F.ydays z_1))))] [])) fun (z : Nat × Int × Int × Int) => bif decide ((0 : Int) ≤ z.snd.fst) && decide (z.snd.fst ≤ (100000 : Int))
  && decide ((1 : Nat) ≤ z.fst) && decide (z.fst ≤ (12 : Nat)) && decide ((0 : Int) ≤ z.snd.snd.snd) && decide (z.snd.snd.snd < F.msum z.snd.fst ((13 : Nat) - z.fst) z.fst)
  && true then Option.bind (unenc encPad [(vI z.snd.fst), (vI (4 : Int))]) fun (z_2 : Int × Nat) => bif decide ((-9223372036854775808 : Int) ≤ z_2.fst) && decide (z_2.fst ≤
  (9223372036854775807 : Int)) && decide (z_2.snd ≤ (1000 : Nat)) then bif Nat.ble (ByteArray.size (F.pad z_2.fst z_2.snd) + ByteArray.size (ByteArray.mk (Array.mk [(45 :
  UInt8)]))) (9223372036854775807 : Nat) then Option.bind (unenc encPad [(vI (F.moL (20 : Nat) z.snd.fst z.snd.snd.snd (↑z.fst : Int)).fst), (vI (2 : Int))]) fun (z_3 : Int
  × Nat) => bif decide ((-9223372036854775808 : Int) ≤ z_3.fst) && decide (z_3.fst ≤ (9223372036854775807 : Int)) && decide (z_3.snd ≤ (1000 : Nat)) then bif Nat.ble
  (ByteArray.size (F.pad z_2.fst z_2.snd ++ ByteArray.mk (Array.mk [(45 : UInt8)])) + ByteArray.size (F.pad z_3.fst z_3.snd)) (9223372036854775807 : Nat) then bif Nat.ble
  (ByteArray.size (F.pad z_2.fst z_2.snd ++ ByteArray.mk (Array.mk [(45 : UInt8)]) ++ F.pad z_3.fst z_3.snd) + ByteArray.size (ByteArray.mk (Array.mk [(45 : UInt8)])))
  (9223372036854775807 : Nat) then Option.bind (unenc encPad [(vI (IntKind.wrap IntKind.i64 ((F.moL (20 : Nat) z.snd.fst z.snd.snd.snd (↑z.fst : Int)).snd + (1 : Int)))),
  (vI (2 : Int))]) fun (z_4 : Int × Nat) => bif decide ((-9223372036854775808 : Int) ≤ z_4.fst) && decide (z_4.fst ≤ (9223372036854775807 : Int)) && decide (z_4.snd ≤ (1000
  : Nat)) then bif Nat.ble (ByteArray.size (F.pad z_2.fst z_2.snd ++ ByteArray.mk (Array.mk [(45 : UInt8)]) ++ F.pad z_3.fst z_3.snd ++ ByteArray.mk (Array.mk [(45 :
  UInt8)])) + ByteArray.size (F.pad z_4.fst z_4.snd)) (9223372036854775807 : Nat) then bif Nat.ble (ByteArray.size (F.pad z_2.fst z_2.snd ++ ByteArray.mk (Array.mk [(45 :
  UInt8)]) ++ F.pad z_3.fst z_3.snd ++ ByteArray.mk (Array.mk [(45 : UInt8)]) ++ F.pad z_4.fst z_4.snd) + ByteArray.size (ByteArray.mk (Array.mk [(84 : UInt8)])))
  (9223372036854775807 : Nat) then Option.bind (unenc encPad [(vI (IntKind.wrap IntKind.i64 (Int.tdiv z.snd.snd.fst (3600000 : Int)))), (vI (2 : Int))]) fun (z_5 : Int ×
  Nat) => bif decide ((-9223372036854775808 : Int) ≤ z_5.fst) && decide (z_5.fst ≤ (9223372036854775807 : Int)) && decide (z_5.snd ≤ (1000 : Nat)) then bif Nat.ble
  (ByteArray.size (F.pad z_2.fst z_2.snd ++ ByteArray.mk (Array.mk [(45 : UInt8)]) ++ F.pad z_3.fst z_3.snd ++ ByteArray.mk (Array.mk [(45 : UInt8)]) ++ F.pad z_4.fst
  z_4.snd ++ ByteArray.mk (Array.mk [(84 : UInt8)])) + ByteArray.size (F.pad z_5.fst z_5.snd)) (9223372036854775807 : Nat) then bif Nat.ble (ByteArray.size (F.pad z_2.fst
  z_2.snd ++ ByteArray.mk (Array.mk [(45 : UInt8)]) ++ F.pad z_3.fst z_3.snd ++ ByteArray.mk (Array.mk [(45 : UInt8)]) ++ F.pad z_4.fst z_4.snd ++ ByteArray.mk (Array.mk
  [(84 : UInt8)]) ++ F.pad z_5.fst z_5.snd) + ByteArray.size (ByteArray.mk (Array.mk [(58 : UInt8)]))) (9223372036854775807 : Nat) then Option.bind (unenc encPad [(vI
  (Int.tmod (IntKind.wrap IntKind.i64 (Int.tdiv z.snd.snd.fst (60000 : Int))) (60 : Int))), (vI (2 : Int))]) fun (z_6 : Int × Nat) => bif decide ((-9223372036854775808 :
  Int) ≤ z_6.fst) && decide (z_6.fst ≤ (9223372036854775807 : Int)) && decide (z_6.snd ≤ (1000 : Nat)) then bif Nat.ble (ByteArray.size (F.pad z_2.fst z_2.snd ++
  ByteArray.mk (Array.mk [(45 : UInt8)]) ++ F.pad z_3.fst z_3.snd ++ ByteArray.mk (Array.mk [(45 : UInt8)]) ++ F.pad z_4.fst z_4.snd ++ ByteArray.mk (Array.mk [(84 :
  UInt8)]) ++ F.pad z_5.fst z_5.snd ++ ByteArray.mk (Array.mk [(58 : UInt8)])) + ByteArray.size (F.pad z_6.fst z_6.snd)) (9223372036854775807 : Nat) then bif Nat.ble
  (ByteArray.size (F.pad z_2.fst z_2.snd ++ ByteArray.mk (Array.mk [(45 : UInt8)]) ++ F.pad z_3.fst z_3.snd ++ ByteArray.mk (Array.mk [(45 : UInt8)]) ++ F.pad z_4.fst
  z_4.snd ++ ByteArray.mk (Array.mk [(84 : UInt8)]) ++ F.pad z_5.fst z_5.snd ++ ByteArray.mk (Array.mk [(58 : UInt8)]) ++ F.pad z_6.fst z_6.snd) + ByteArray.size
  (ByteArray.mk (Array.mk [(58 : UInt8)]))) (9223372036854775807 : Nat) then Option.bind (unenc encPad [(vI (Int.tmod (IntKind.wrap IntKind.i64 (Int.tdiv z.snd.snd.fst (1000
  : Int))) (60 : Int))), (vI (2 : Int))]) fun (z_7 : Int × Nat) => bif decide ((-9223372036854775808 : Int) ≤ z_7.fst) && decide (z_7.fst ≤ (9223372036854775807 : Int)) &&
  decide (z_7.snd ≤ (1000 : Nat)) then bif Nat.ble (ByteArray.size (F.pad z_2.fst z_2.snd ++ ByteArray.mk (Array.mk [(45 : UInt8)]) ++ F.pad z_3.fst z_3.snd ++ ByteArray.mk
  (Array.mk [(45 : UInt8)]) ++ F.pad z_4.fst z_4.snd ++ ByteArray.mk (Array.mk [(84 : UInt8)]) ++ F.pad z_5.fst z_5.snd ++ ByteArray.mk (Array.mk [(58 : UInt8)]) ++ F.pad
  z_6.fst z_6.snd ++ ByteArray.mk (Array.mk [(58 : UInt8)])) + ByteArray.size (F.pad z_7.fst z_7.snd)) (9223372036854775807 : Nat) then bif Nat.ble (ByteArray.size (F.pad
  z_2.fst z_2.snd ++ ByteArray.mk (Array.mk [(45 : UInt8)]) ++ F.pad z_3.fst z_3.snd ++ ByteArray.mk (Array.mk [(45 : UInt8)]) ++ F.pad z_4.fst z_4.snd ++ ByteArray.mk
  (Array.mk [(84 : UInt8)]) ++ F.pad z_5.fst z_5.snd ++ ByteArray.mk (Array.mk [(58 : UInt8)]) ++ F.pad z_6.fst z_6.snd ++ ByteArray.mk (Array.mk [(58 : UInt8)]) ++ F.pad
  z_7.fst z_7.snd) + ByteArray.size (ByteArray.mk (Array.mk [(46 : UInt8)]))) (9223372036854775807 : Nat) then Option.bind (unenc encPad [(vI (Int.tmod z.snd.snd.fst (1000 :
  Int))), (vI (3 : Int))]) fun (z : Int × Nat) => bif decide ((-9223372036854775808 : Int) ≤ z.fst) && decide (z.fst ≤ (9223372036854775807 : Int)) && decide (z.snd ≤ (1000
  : Nat)) then bif Nat.ble (ByteArray.size (F.pad z_2.fst z_2.snd ++ ByteArray.mk (Array.mk [(45 : UInt8)]) ++ F.pad z_3.fst z_3.snd ++ ByteArray.mk (Array.mk [(45 :
  UInt8)]) ++ F.pad z_4.fst z_4.snd ++ ByteArray.mk (Array.mk [(84 : UInt8)]) ++ F.pad z_5.fst z_5.snd ++ ByteArray.mk (Array.mk [(58 : UInt8)]) ++ F.pad z_6.fst z_6.snd ++
  ByteArray.mk (Array.mk [(58 : UInt8)]) ++ F.pad z_7.fst z_7.snd ++ ByteArray.mk (Array.mk [(46 : UInt8)])) + ByteArray.size (F.pad z.fst z.snd)) (9223372036854775807 :
  Nat) then bif Nat.ble (ByteArray.size (F.pad z_2.fst z_2.snd ++ ByteArray.mk (Array.mk [(45 : UInt8)]) ++ F.pad z_3.fst z_3.snd ++ ByteArray.mk (Array.mk [(45 : UInt8)])
  ++ F.pad z_4.fst z_4.snd ++ ByteArray.mk (Array.mk [(84 : UInt8)]) ++ F.pad z_5.fst z_5.snd ++ ByteArray.mk (Array.mk [(58 : UInt8)]) ++ F.pad z_6.fst z_6.snd ++
  ByteArray.mk (Array.mk [(58 : UInt8)]) ++ F.pad z_7.fst z_7.snd ++ ByteArray.mk (Array.mk [(46 : UInt8)]) ++ F.pad z.fst z.snd) + ByteArray.size (ByteArray.mk (Array.mk
  [(90 : UInt8)]))) (9223372036854775807 : Nat) then some (AV.tup [(vS (F.pad z_2.fst z_2.snd ++ ByteArray.mk (Array.mk [(45 : UInt8)]) ++ F.pad z_3.fst z_3.snd ++
  ByteArray.mk (Array.mk [(45 : UInt8)]) ++ F.pad z_4.fst z_4.snd ++ ByteArray.mk (Array.mk [(84 : UInt8)]) ++ F.pad z_5.fst z_5.snd ++ ByteArray.mk (Array.mk [(58 :
  UInt8)]) ++ F.pad z_6.fst z_6.snd ++ ByteArray.mk (Array.mk [(58 : UInt8)]) ++ F.pad z_7.fst z_7.snd ++ ByteArray.mk (Array.mk [(46 : UInt8)]) ++ F.pad z.fst z.snd ++
  ByteArray.mk (Array.mk [(90 : UInt8)]))), (vI (0 : Int))], []) else none else none else none else none else none else none else none else none else none else none else
  none else none else none else none else none else none else none else none else none else none else none else none else none := (runFR_val).symm.trans (by kernel_rfl)

def encDte1 (n : Int) : List AV := [vI n]

def encDte (a : Int) : List AV := encDte1 a

theorem encDte_inj (a a' : Int) (h : encDte a = encDte a') : a = a' := by
  simp only [encDte, encDte1] at h
  try simp [strs_inj, ints_inj, ents_inj, eEnt_iff, eLst_iff, eSnds_inj, eStrms_inj] at h
  grind

theorem unDte (n : Int) : unenc encDte ([(vI n)]) = some (n) := unenc_of encDte_inj (n) rfl

def resDte1 (n : Int) : AV × Heap := (.tup [vS (F.dtS n), vI 0], [])

def preDte1 (n : Int) : Bool := decide (0 ≤ n) && decide (n ≤ 253402300799999)

noncomputable def oDte : Orc := orc 21 true encDte (fun a => preDte1 a) fun a => resDte1 a

theorem okDte : OrcOK Tryd.prog noG oDte := by
  refine mk_ok Tryd.f21 (keep := false) (by kernel_rfl) (by kernel_rfl) enDt_ok mixed (two_loops (x0 := loopN Tryd.f21 0) (x1 := loopN Tryd.f21 1) (by kernel_rfl) (lpo_ok ?_) (lpo_ok ?_)) (by first | exact fun _ _ => ⟨rfl, rfl⟩ | (intro h; cases h)) ?_
  · rintro ⟨y, r, d⟩ hp
    exact lpDt1_ok y r d hp
  · rintro ⟨m, y, r, d⟩ hp
    exact lpDt2_ok m y r d hp
  rintro n hpre hok
  show (runF enDt false _ (encDte1 _)).val = some (resDte1 _)
  unfold encDte1 resDte1
  rw [evDte]
  simp only [preDte1, Bool.and_eq_true, decide_eq_true_eq] at hpre
  obtain ⟨h1, h2⟩ := hpre
  have ho : F.out n 0 253402300799999 = false := by unfold F.out; rw [decide_eq_false (by omega), decide_eq_false (by omega)]; rfl
  obtain ⟨d, hd⟩ : ∃ d, n.tdiv 86400000 = d := ⟨_, rfl⟩
  obtain ⟨r, hr⟩ : ∃ r, n.tmod 86400000 = r := ⟨_, rfl⟩
  have hd1 : 0 ≤ d ∧ d ≤ 2932896 := by rw [← hd, Int.tdiv_eq_ediv_of_nonneg h1]; omega
  have hr1 : 0 ≤ r ∧ r < 86400000 := by rw [← hr, Int.tmod_eq_emod_of_nonneg h1]; omega
  have q1 : 0 ≤ d.tdiv 366 ∧ d.tdiv 366 ≤ d / 366 := by rw [Int.tdiv_eq_ediv_of_nonneg hd1.1]; omega
  have w1 : IntKind.i64.wrap d = d := wrap_id (by omega) (by omega)
  have w2 : IntKind.i64.wrap (d.tdiv 366) = d.tdiv 366 := wrap_id (by omega) (by omega)
  have w3 : IntKind.i64.wrap (1970 + d.tdiv 366) = 1970 + d.tdiv 366 := wrap_id (by omega) (by omega)
  have hs0 : F.ydays (1970 + d.tdiv 366) ≤ d := by have := F.ydays_366 (y := 1970 + d.tdiv 366) (by omega); omega
  obtain ⟨a1, a2, a3⟩ := F.yrL_ok (d := d) 10000 (1970 + d.tdiv 366) (by omega) hs0 (F.yr_end (by omega) hd1.2)
  obtain ⟨Y, hY⟩ : ∃ Y, F.yrL 10000 d (1970 + d.tdiv 366) = Y := ⟨_, rfl⟩
  rw [hY] at a1 a2 a3
  have hYm := F.yr_max (y := Y) (by omega) hd1.2 a1
  have hup := F.ydays_up (a := Y) (by omega)
  have hy0 := F.ydays_mono (a := 1970) (b := Y) (by omega) (by omega)
  rw [F.ydays_0] at hy0
  have h12 := F.msum_12 Y
  have w4 : IntKind.i64.wrap (d - F.ydays Y) = d - F.ydays Y := wrap_id (by omega) (by omega)
  obtain ⟨i, i1, D, i2, i3, i4, i5⟩ := F.moL_ok Y 12 20 1 (d - F.ydays Y) (by omega) (by omega) (by rw [h12]; omega)
  have hb := F.mdays_b Y ((1 + i : Nat) : Int)
  have i5 : F.moL 20 Y (d - F.ydays Y) 1 = (((1 + i : Nat) : Int), D) := i5
  have w5 : IntKind.i64.wrap (D + 1) = D + 1 := wrap_id (by omega) (by omega)
  have w6 : IntKind.i64.wrap (r.tdiv 3600000) = r.tdiv 3600000 := by rw [Int.tdiv_eq_ediv_of_nonneg hr1.1]; exact wrap_id (by omega) (by omega)
  have w7 : IntKind.i64.wrap (r.tdiv 60000) = r.tdiv 60000 := by rw [Int.tdiv_eq_ediv_of_nonneg hr1.1]; exact wrap_id (by omega) (by omega)
  have w8 : IntKind.i64.wrap (r.tdiv 1000) = r.tdiv 1000 := by rw [Int.tdiv_eq_ediv_of_nonneg hr1.1]; exact wrap_id (by omega) (by omega)
  have u2 : ∀ x : Int, unenc encPad [vI x, vI 2] = some (x, 2) := fun x => unenc_of encPad_inj (x, 2) rfl
  have u3 : ∀ x : Int, unenc encPad [vI x, vI 3] = some (x, 3) := fun x => unenc_of encPad_inj (x, 3) rfl
  have u4 : ∀ x : Int, unenc encPad [vI x, vI 4] = some (x, 4) := fun x => unenc_of encPad_inj (x, 4) rfl
  have g1 : decide (F.ydays (1970 + d.tdiv 366) ≤ d) = true := decide_eq_true hs0
  have g2 : decide (d - F.ydays Y < F.msum Y (13 - 1) 1) = true := decide_eq_true (by rw [show 13 - 1 = 12 from rfl, h12]; omega)
  have c1 : ((1 : Nat) : Int) = 1 := rfl
  simp only [unOut, unYd2, unMdy, unPad, preOut1, preYd21, preMdy1, prePad1, unstDt1, unstDt2, unstDt20, prlDt1, prlDt2, outDt1, outDt2, etaEnt, etaLst, etaSnd, etaStrm, etaMas, Option.bind_some, List.length_map, unStrs, unInts, unBools, unEnts, unItms, unTrns, cond_true, cond_false, Bool.and_true, Bool.true_and, ho, hd, hr, w1, w2, w3, hY, w4, c1, i5, w5, w6, w7, w8, u2, u3, u4, g1, g2]
  rw [decide_eq_true (by omega : 1970 ≤ 1970 + d.tdiv 366), decide_eq_true hd1.1, decide_eq_true hd1.2, decide_eq_true (by omega : 1970 ≤ Y), decide_eq_true (by omega : Y ≤ 20000), decide_eq_true (by omega : 0 ≤ Y), decide_eq_true (by omega : Y ≤ 100000), decide_eq_true (by omega : 0 ≤ d - F.ydays Y)]
  have hS : F.dtS n = F.dtP Y ((1 + i : Nat) : Int) (D + 1) r := by
    unfold F.dtS F.dtM
    have hYd : F.dtY d = Y := hY
    rw [hd, hr, hYd, i5]
  rw [hS]
  unfold F.dtP
  have b1 : 0 ≤ r.tdiv 3600000 ∧ r.tdiv 3600000 ≤ 100000000 := by rw [Int.tdiv_eq_ediv_of_nonneg hr1.1]; omega
  have b2 : 0 ≤ (r.tdiv 60000).tmod 60 ∧ (r.tdiv 60000).tmod 60 ≤ 100 := by
    rw [Int.tdiv_eq_ediv_of_nonneg hr1.1, Int.tmod_eq_emod_of_nonneg (by omega)]; omega
  have b3 : 0 ≤ (r.tdiv 1000).tmod 60 ∧ (r.tdiv 1000).tmod 60 ≤ 100 := by
    rw [Int.tdiv_eq_ediv_of_nonneg hr1.1, Int.tmod_eq_emod_of_nonneg (by omega)]; omega
  have b4 : 0 ≤ r.tmod 1000 ∧ r.tmod 1000 ≤ 1000 := by rw [Int.tmod_eq_emod_of_nonneg hr1.1]; omega
  have hx5 : 0 ≤ ((1 + i : Nat) : Int) ∧ ((1 + i : Nat) : Int) ≤ 100 := by omega
  have hx6 : 0 ≤ D + 1 ∧ D + 1 ≤ 100 := by omega
  clear hS hok ho hd hr w1 w2 w3 w4 w5 w6 w7 w8 u2 u3 u4 g1 g2 h12 hup hy0 i5 i4 i3 a1 a2 hs0 hY
  generalize r.tdiv 3600000 = x1 at *
  generalize (r.tdiv 60000).tmod 60 = x2 at *
  generalize (r.tdiv 1000).tmod 60 = x3 at *
  generalize r.tmod 1000 = x4 at *
  generalize ((1 + i : Nat) : Int) = x5 at *
  generalize D + 1 = x6 at *
  have s1 := F.pad_size (n := Y) (by omega) (by omega) (m := 4) (by decide)
  have s2 := F.pad_size (n := x5) (by omega) (by omega) (m := 2) (by decide)
  have s3 := F.pad_size (n := x6) (by omega) (by omega) (m := 2) (by decide)
  have s4 := F.pad_size (n := x1) (by omega) (by omega) (m := 2) (by decide)
  have s5 := F.pad_size (n := x2) (by omega) (by omega) (m := 2) (by decide)
  have s6 := F.pad_size (n := x3) (by omega) (by omega) (m := 2) (by decide)
  have s7 := F.pad_size (n := x4) (by omega) (by omega) (m := 3) (by decide)
  have e1 : (⟨⟨[45]⟩⟩ : ByteArray).size = 1 := rfl
  have e2 : (⟨⟨[84]⟩⟩ : ByteArray).size = 1 := rfl
  have e3 : (⟨⟨[58]⟩⟩ : ByteArray).size = 1 := rfl
  have e4 : (⟨⟨[46]⟩⟩ : ByteArray).size = 1 := rfl
  have e5 : (⟨⟨[90]⟩⟩ : ByteArray).size = 1 := rfl
  have d4 : decide ((4 : Nat) ≤ 1000) = true := rfl
  have d2 : decide ((2 : Nat) ≤ 1000) = true := rfl
  have d3 : decide ((3 : Nat) ≤ 1000) = true := rfl
  rw [decide_eq_true (by omega : -9223372036854775808 ≤ Y), decide_eq_true (by omega : Y ≤ 9223372036854775807), decide_eq_true (by omega : -9223372036854775808 ≤ x5), decide_eq_true (by omega : x5 ≤ 9223372036854775807), decide_eq_true (by omega : -9223372036854775808 ≤ x6), decide_eq_true (by omega : x6 ≤ 9223372036854775807), decide_eq_true (by omega : -9223372036854775808 ≤ x1), decide_eq_true (by omega : x1 ≤ 9223372036854775807), decide_eq_true (by omega : -9223372036854775808 ≤ x2), decide_eq_true (by omega : x2 ≤ 9223372036854775807), decide_eq_true (by omega : -9223372036854775808 ≤ x3), decide_eq_true (by omega : x3 ≤ 9223372036854775807), decide_eq_true (by omega : -9223372036854775808 ≤ x4), decide_eq_true (by omega : x4 ≤ 9223372036854775807), d4, d2, d3]
  generalize F.pad Y 4 = P1 at *
  generalize F.pad x5 2 = P2 at *
  generalize F.pad x6 2 = P3 at *
  generalize F.pad x1 2 = P4 at *
  generalize F.pad x2 2 = P5 at *
  generalize F.pad x3 2 = P6 at *
  generalize F.pad x4 3 = P7 at *
  simp (disch := omega) only [ByteArray.size_append, e1, e2, e3, e4, e5, ble_t, Bool.and_self, cond_true, decide_true, (by decide : decide ((1 : Nat) ≤ 1) = true), (by decide : decide ((1 : Nat) ≤ 12) = true)]
  rfl

end M
end Go.Proofs.YtgkjfochkhiojaaDoor
