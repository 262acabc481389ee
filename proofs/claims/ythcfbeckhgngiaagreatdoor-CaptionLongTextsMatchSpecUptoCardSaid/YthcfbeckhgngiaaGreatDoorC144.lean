/- What is proved here: what writes numbers and times returns on plain data, of both (no statement of the seat). -/
import Derived.Test.YthcfbeckhgngiaaGreatDoorC140
import Derived.Test.YthcfbeckhgngiaaGreatDoorC113
import Derived.Lib.Repeat
namespace Go.Proofs.YthcfbeckhgngiaaGreatDoor
open Go Go.RowKit Go.Sort
set_option linter.unusedVariables false
set_option linter.unusedSimpArgs false

namespace F

theorem zrs_succ (k : Nat) (s : ByteArray) : zrs (k + 1) ++ s = zrs k ++ ((⟨⟨[48]⟩⟩ : ByteArray) ++ s) := by
  refine bsx ?_
  simp only [bs_cat, bs_zrs]
  rw [List.replicate_succ', List.append_assoc]
  rfl

theorem zrs_zero (s : ByteArray) : zrs 0 ++ s = s := by
  refine bsx ?_
  rw [bs_cat]
  rfl

theorem zrs_size (k : Nat) : (zrs k).size = k := by
  rw [size_bs, bs_zrs, List.length_replicate]

theorem rep_zrs (k : Nat) : (⟨(Lib.repeatL [48] k).toArray⟩ : ByteArray) = zrs k := by
  refine bsx ?_
  show (Lib.repeatL [48] k).toArray.toList = _
  rw [bs_zrs]
  simp only [Lib.repeatL]
  induction k with
  | zero => rfl
  | succ k ih => simp only [Lib.repeatL, List.replicate_succ, ih]; rfl

end F

namespace M

theorem below_grow (w : World) (k : Nat) (os : Array Obj) : Below w.heap.size w (grow (w.drewN k) os) :=
  ⟨rfl, rfl, rfl, by first | (simp [grow]; done) | (simp [grow]; omega), fun i hi => by
    show ((w.drewN k).heap ++ os)[i]? = _
    rw [Array.getElem?_append_left (by show i < w.heap.size; omega)]
    rfl⟩

def encIta1 (n : Int) : List AV := [vI n]

def encIta (a : Int) : List AV := encIta1 a

theorem encIta_inj (a a' : Int) (h : encIta a = encIta a') : a = a' := by
  simp only [encIta, encIta1] at h
  try simp [strs_inj, ints_inj, bools_inj, eL_eIs_inj, eCaps_inj, eCap_iff, eL_eCaps_inj, eMchs_inj, eMch_iff, eWrds_inj, eWrd_iff, eFnds_inj, eFnd_iff, eRatios_inj, eRatio_iff, eWays_inj, eWay_iff] at h
  grind

theorem unIta (n : Int) : unenc encIta ([(vI n)]) = some (n) := unenc_of encIta_inj (n) rfl

def resIta1 (n : Int) : AV × Heap := (vS (F.itoa n), [])

def preIta1 (n : Int) : Bool := decide (-9223372036854775808 ≤ n) && decide (n ≤ 9223372036854775807)

noncomputable def oIta : Orc := orc 25 true encIta (fun a => preIta1 a) fun a => resIta1 a

theorem okIta : OrcOK Tryz.prog noG oIta := by
  refine orc_ok ⟨Tryz.f25, by kernel_rfl, by kernel_rfl, by kernel_rfl⟩ (fun n hp _ => ?_) (fun _ _ => ⟨rfl, rfl⟩)
  simp only [preIta1, Bool.and_eq_true, decide_eq_true_eq] at hp
  have hz := F.itoa_size hp.1 hp.2
  refine SpecP.below1 (fun w S => rv_mk (by show (F.itoa n).size ≤ 9223372036854775807; omega)) fun _ w S hG => ?_
  have hg := hG 5 ⟨[], fun cs => cs = (Lib.pow10Tab.map fun z => Value.int .u64 z).toArray⟩ rfl
  obtain ⟨cs, ty, o, h1, h2⟩ := hg.cells
  have htab : Lib.TabIs Tryz.prog w "internal/strconv.uint64pow10" .u64 Lib.pow10Tab := by
    have hn : Tryz.prog.globalNamed "internal/strconv.uint64pow10" = some 5 := by kernel_rfl
    simp only [Lib.TabIs, World.var?, hn, Option.bind_some, h1]
    rw [h2]
  refine (Tryz.strconv_Itoa n hp.1 hp.2 w htab).mono ?_
  rintro e w' ⟨he, k, os, rfl⟩
  exact ⟨he, below_grow w k os⟩

def encRpt1 (c : Nat) : List AV := [vS ⟨⟨[48]⟩⟩, vI c]

def encRpt (a : Nat) : List AV := encRpt1 a

theorem encRpt_inj (a a' : Nat) (h : encRpt a = encRpt a') : a = a' := by
  simp only [encRpt, encRpt1] at h
  try simp [strs_inj, ints_inj, bools_inj, eL_eIs_inj, eCaps_inj, eCap_iff, eL_eCaps_inj, eMchs_inj, eMch_iff, eWrds_inj, eWrd_iff, eFnds_inj, eFnd_iff, eRatios_inj, eRatio_iff, eWays_inj, eWay_iff] at h
  grind

theorem unRpt (c : Nat) : unenc encRpt ([(vS (ByteArray.mk (Array.mk [(48 : UInt8)]))), (vI (↑c : Int))]) = some (c) := unenc_of encRpt_inj (c) rfl

def resRpt1 (c : Nat) : AV × Heap := (vS (F.zrs c), [])

def preRpt1 (c : Nat) : Bool := decide (c ≤ 1000)

noncomputable def oRpt : Orc := orc 83 true encRpt (fun a => preRpt1 a) fun a => resRpt1 a

theorem okRpt : OrcOK Tryz.prog noG oRpt := by
  refine orc_ok ⟨Tryz.f83, by kernel_rfl, by kernel_rfl, by kernel_rfl⟩ (fun c hp _ => ?_) (fun _ _ => ⟨rfl, rfl⟩)
  have hp : c ≤ 1000 := of_decide_eq_true hp
  refine SpecP.below2 (fun w S => rv_mk (by show (F.zrs c).size ≤ 9223372036854775807; rw [F.zrs_size]; omega)) fun _ _ w S hG => ?_
  refine (Tryz.strings_Repeat ⟨⟨[48]⟩⟩ c w (by omega) (by show 1 * c ≤ _; omega)).mono ?_
  rintro e w' ⟨he, hb⟩
  exact ⟨by rw [he, ← F.rep_zrs], hb⟩

def stPad (many : Nat) (s : ByteArray) : St := ⟨[(5, vS s), (1, vI many)], []⟩

def stPad1 (a : Nat × ByteArray) : St := stPad a.1 a.2

theorem stPad_inj (a a' : Nat × ByteArray) (h : stPad1 a = stPad1 a') : a = a' := by
  simp only [stPad1, stPad] at h
  try simp [strs_inj, ints_inj, bools_inj, eL_eIs_inj, eCaps_inj, eCap_iff, eL_eCaps_inj, eMchs_inj, eMch_iff, eWrds_inj, eWrd_iff, eFnds_inj, eFnd_iff, eRatios_inj, eRatio_iff, eWays_inj, eWay_iff] at h
  grind

theorem unstPad (many : Nat) (s : ByteArray) : unenc stPad1 (St.mk [(5, (vS s)), (1, (vI (↑many : Int)))] []) = some (many, s) := unenc_of stPad_inj (many, s) rfl

def outPad (many : Nat) (s : ByteArray) : T (Ex × St) := .ret (.exit 0, ⟨[(5, vS (F.zrs (many - s.size) ++ s))], []⟩)

noncomputable def prlPad (many : Nat) (s : ByteArray) : Bool := decide (many ≤ 1000)

noncomputable def lpPad : Nat × (St → T (Ex × St)) := (2, lpo [5, 1] [] stPad1 (fun a => prlPad a.1 a.2) fun a => outPad a.1 a.2)

noncomputable def enPad : Env := envH ty noG lks [oIta] [] [] [lpPad]

theorem enPad_ok : EnvOK Tryz.prog enPad := by
  refine envH_ok lks_ok ty_ok ?_ ?_
  · simp only [List.forall_mem_cons]
    exact ⟨okIta, by simp⟩
  · simp

theorem evPadL (many : Nat) (s : ByteArray) : ((exec enPad (loopN Tryz.f79 0) (stPad many s)).bind (lessX ([5, 1], []) ([5], []) ([], []))).val =
  bif decide ((↑(ByteArray.size s) : Int) < (↑many : Int)) then bif Nat.ble (ByteArray.size (ByteArray.mk (Array.mk [(48 : UInt8)])) + ByteArray.size s) (9223372036854775807
  : Nat) then some (Ex.normal, St.mk [(5, (vS (ByteArray.mk (Array.mk [(48 : UInt8)]) ++ s))), (1, (vI (↑many : Int)))] []) else none else some (Ex.exit (0 : Nat), St.mk
  [(5, (vS s))] []) := (execR_bind _ _ _).symm.trans (by kernel_rfl)

theorem lpPad_ok (many : Nat) (s : ByteArray) (hp : prlPad many s = true) : ∀ ex s', (outPad many s).val = some (ex, s') → LoopOK enPad (loopN Tryz.f79 0) (stPad many s) ex s' := by
  simp only [prlPad, Bool.and_eq_true, decide_eq_true_eq] at hp
  refine loop_gen (st := fun s : ByteArray => stPad many s) (out := fun s => outPad many s) (I := fun _ => True) (n := ([5, 1], [])) (e := ([5], [])) (r := ([], [])) (fun s => many - s.size) ?_ s trivial
  intro s _
  by_cases h : s.size < many
  · right
    have e1 : ((⟨⟨[48]⟩⟩ : ByteArray) ++ s).size = s.size + 1 := by rw [ByteArray.size_append]; show 1 + s.size = _; omega
    refine ⟨⟨⟨[48]⟩⟩ ++ s, ?_, rfl, trivial, by omega, ?_⟩
    · rw [evPadL]
      simp only [unIta, preIta1, unstPad, prlPad, outPad, etaCap, etaMch, etaWrd, etaFnd, etaRatio, etaWay, Option.bind_some, List.length_map, unStrs, unInts, unBools, uneL_eIs, unCaps, uneL_eCaps, unMchs, unWrds, unFnds, unRatios, unWays, F.lt, F.le, cond_true, cond_false, Bool.and_true, Bool.true_and, decide_eq_true (show (s.size : Int) < (many : Int) by omega)]
      rw [ble_t (show (ByteArray.mk (Array.mk [48])).size + s.size ≤ 9223372036854775807 by show 1 + s.size ≤ _; omega)]
      rfl
    · have e2 : many - s.size = (many - (s.size + 1)) + 1 := by omega
      simp only [outPad, e1]
      rw [e2, F.zrs_succ]
  · left
    refine ⟨(.exit 0, ⟨[(5, vS s)], []⟩), ?_, ?_, by simp, rfl⟩
    · rw [evPadL]
      simp only [unIta, preIta1, unstPad, prlPad, outPad, etaCap, etaMch, etaWrd, etaFnd, etaRatio, etaWay, Option.bind_some, List.length_map, unStrs, unInts, unBools, uneL_eIs, unCaps, uneL_eCaps, unMchs, unWrds, unFnds, unRatios, unWays, F.lt, F.le, cond_true, cond_false, Bool.and_true, Bool.true_and, decide_eq_false (show ¬ (s.size : Int) < (many : Int) by omega)]
    · simp only [outPad]
      rw [show many - s.size = 0 by omega, F.zrs_zero]
      rfl

theorem evPad (n : Int) (many : Nat) : (runF enPad false Tryz.f79 [vI n, vI many]).val =
  Option.bind (unenc encIta [(vI n)]) fun (z : Int) => bif decide ((-9223372036854775808 : Int) ≤ z) && decide (z ≤ (9223372036854775807 : Int)) then Option.bind (unenc
  stPad1 (St.mk [(5, (vS (F.itoa z))), (1, (vI (↑many : Int)))] [])) fun (z : Nat × ByteArray) => bif decide (z.fst ≤ (1000 : Nat)) && true then some ((vS (F.zrs (z.fst -
  ByteArray.size z.snd) ++ z.snd)), []) else none else none := (runFR_val).symm.trans (by kernel_rfl)

def encPad1 (n : Int) (many : Nat) : List AV := [vI n, vI many]

def encPad (a : Int × Nat) : List AV := encPad1 a.1 a.2

theorem encPad_inj (a a' : Int × Nat) (h : encPad a = encPad a') : a = a' := by
  simp only [encPad, encPad1] at h
  try simp [strs_inj, ints_inj, bools_inj, eL_eIs_inj, eCaps_inj, eCap_iff, eL_eCaps_inj, eMchs_inj, eMch_iff, eWrds_inj, eWrd_iff, eFnds_inj, eFnd_iff, eRatios_inj, eRatio_iff, eWays_inj, eWay_iff] at h
  grind

theorem unPad (n : Int) (many : Nat) : unenc encPad ([(vI n), (vI (↑many : Int))]) = some (n, many) := unenc_of encPad_inj (n, many) rfl

def resPad1 (n : Int) (many : Nat) : AV × Heap := (vS (F.pad n many), [])

def prePad1 (n : Int) (many : Nat) : Bool := decide (-9223372036854775808 ≤ n) && decide (n ≤ 9223372036854775807) && decide (many ≤ 1000)

noncomputable def oPad : Orc := orc 79 true encPad (fun a => prePad1 a.1 a.2) fun a => resPad1 a.1 a.2

theorem okPad : OrcOK Tryz.prog noG oPad := by
  refine mk_ok Tryz.f79 (keep := false) (by kernel_rfl) (by kernel_rfl) enPad_ok mixed (one_loop (x0 := loopN Tryz.f79 0) (by kernel_rfl) (lpo_ok ?_)) (by first | exact fun _ _ => ⟨rfl, rfl⟩ | (intro h; cases h)) ?_
  · rintro ⟨many, s⟩ hp
    exact lpPad_ok many s hp
  rintro ⟨n, many⟩ hpre hok
  show (runF enPad false _ (encPad1 _ _)).val = some (resPad1 _ _)
  unfold encPad1 resPad1
  rw [evPad]
  simp only [prePad1, Bool.and_eq_true] at hpre
  simp only [unIta, preIta1, unstPad, prlPad, outPad, etaCap, etaMch, etaWrd, etaFnd, etaRatio, etaWay, Option.bind_some, List.length_map, unStrs, unInts, unBools, uneL_eIs, unCaps, uneL_eCaps, unMchs, unWrds, unFnds, unRatios, unWays, F.lt, F.le, cond_true, cond_false, Bool.and_true, Bool.true_and, hpre.1.1, hpre.1.2, hpre.2, F.pad]
  try rfl

noncomputable def enRPa : Env := envH ty noG lks [oIta, oRpt] [] [] []

theorem enRPa_ok : EnvOK Tryz.prog enRPa := by
  refine envH_ok lks_ok ty_ok ?_ ?_
  · simp only [List.forall_mem_cons]
    exact ⟨okIta, okRpt, by simp⟩
  · simp

theorem evRPa (n : Int) (many : Nat) : (runF enRPa false Tryz.f62 [vI n, vI many]).val =
  Option.bind (unenc encIta [(vI n)]) fun (z : Int) => bif decide ((-9223372036854775808 : Int) ≤ z) && decide (z ≤ (9223372036854775807 : Int)) then Option.bind (unenc
  encRpt [(vS (ByteArray.mk (Array.mk [(48 : UInt8)]))), (vI (max (0 : Int) (IntKind.wrap IntKind.i64 ((↑many : Int) - (↑(ByteArray.size (F.itoa z)) : Int)))))]) fun (z_1 :
  Nat) => bif decide (z_1 ≤ (1000 : Nat)) then bif Nat.ble (ByteArray.size (F.zrs z_1) + ByteArray.size (F.itoa z)) (9223372036854775807 : Nat) then some ((vS (F.zrs z_1 ++
  F.itoa z)), []) else none else none else none := (runFR_val).symm.trans (by kernel_rfl)

def encRPa1 (n : Int) (many : Nat) : List AV := [vI n, vI many]

def encRPa (a : Int × Nat) : List AV := encRPa1 a.1 a.2

theorem encRPa_inj (a a' : Int × Nat) (h : encRPa a = encRPa a') : a = a' := by
  simp only [encRPa, encRPa1] at h
  try simp [strs_inj, ints_inj, bools_inj, eL_eIs_inj, eCaps_inj, eCap_iff, eL_eCaps_inj, eMchs_inj, eMch_iff, eWrds_inj, eWrd_iff, eFnds_inj, eFnd_iff, eRatios_inj, eRatio_iff, eWays_inj, eWay_iff] at h
  grind

theorem unRPa (n : Int) (many : Nat) : unenc encRPa ([(vI n), (vI (↑many : Int))]) = some (n, many) := unenc_of encRPa_inj (n, many) rfl

def resRPa1 (n : Int) (many : Nat) : AV × Heap := (vS (F.pad n many), [])

def preRPa1 (n : Int) (many : Nat) : Bool := decide (-9223372036854775808 ≤ n) && decide (n ≤ 9223372036854775807) && decide (many ≤ 1000)

noncomputable def oRPa : Orc := orc 62 true encRPa (fun a => preRPa1 a.1 a.2) fun a => resRPa1 a.1 a.2

theorem okRPa : OrcOK Tryz.prog noG oRPa := by
  refine mk_ok Tryz.f62 (keep := false) (by kernel_rfl) (by kernel_rfl) enRPa_ok mixed (no_loops (by kernel_rfl)) (by first | exact fun _ _ => ⟨rfl, rfl⟩ | (intro h; cases h)) ?_
  rintro ⟨n, many⟩ hpre hok
  show (runF enRPa false _ (encRPa1 _ _)).val = some (resRPa1 _ _)
  unfold encRPa1 resRPa1
  rw [evRPa]
  simp only [preRPa1, Bool.and_eq_true, decide_eq_true_eq] at hpre
  have hz := F.itoa_size hpre.1.1 hpre.1.2
  have h1 : max 0 (IntKind.i64.wrap ((many : Int) - (F.itoa n).size)) = ((many - (F.itoa n).size : Nat) : Int) := by
    rw [wrap_id (by omega) (by omega)]; omega
  have h2 : (F.zrs (many - (F.itoa n).size)).size = many - (F.itoa n).size := F.zrs_size _
  simp only [unIta, unRpt, preIta1, preRpt1, etaCap, etaMch, etaWrd, etaFnd, etaRatio, etaWay, Option.bind_some, List.length_map, unStrs, unInts, unBools, uneL_eIs, unCaps, uneL_eCaps, unMchs, unWrds, unFnds, unRatios, unWays, F.lt, F.le, cond_true, cond_false, Bool.and_true, Bool.true_and, decide_eq_true hpre.1.1, decide_eq_true hpre.1.2, h1, F.pad]
  rw [decide_eq_true (show many - (F.itoa n).size ≤ 1000 by omega), h2, ble_t (show many - (F.itoa n).size + (F.itoa n).size ≤ 9223372036854775807 by omega)]
  rfl

theorem unPad2 (n : Int) : unenc encPad ([vI n, vI 2]) = some (n, 2) := unPad n 2

theorem unPad3 (n : Int) : unenc encPad ([vI n, vI 3]) = some (n, 3) := unPad n 3

theorem unRPa2 (n : Int) : unenc encRPa ([vI n, vI 2]) = some (n, 2) := unRPa n 2

theorem unRPa3 (n : Int) : unenc encRPa ([vI n, vI 3]) = some (n, 3) := unRPa n 3

theorem pre64 {k : Nat} (h : k < 1000) : (decide (-9223372036854775808 ≤ (k : Int)) && decide ((k : Int) ≤ 9223372036854775807)) = true := by
  rw [decide_eq_true (show -9223372036854775808 ≤ (k : Int) by omega), decide_eq_true (show (k : Int) ≤ 9223372036854775807 by omega)]; rfl

noncomputable def enTiT : Env := envH ty noG lks [oPad] [] [] []

theorem enTiT_ok : EnvOK Tryz.prog enTiT := by
  refine envH_ok lks_ok ty_ok ?_ ?_
  · simp only [List.forall_mem_cons]
    exact ⟨okPad, by simp⟩
  · simp

theorem evTiT (t : Int) (p : ByteArray) : (runF enTiT false Tryz.f59 [vI t, vS p]).val =
  Option.bind (unenc encPad [(vI (IntKind.wrap IntKind.i64 (Int.tdiv t (3600000 : Int)))), (vI (2 : Int))]) fun (z : Int × Nat) => bif decide ((-9223372036854775808 : Int) ≤
  z.fst) && decide (z.fst ≤ (9223372036854775807 : Int)) && decide (z.snd ≤ (1000 : Nat)) then bif Nat.ble (ByteArray.size (F.pad z.fst z.snd) + ByteArray.size (ByteArray.mk
  (Array.mk [(58 : UInt8)]))) (9223372036854775807 : Nat) then Option.bind (unenc encPad [(vI (Int.tmod (IntKind.wrap IntKind.i64 (Int.tdiv t (60000 : Int))) (60 : Int))),
  (vI (2 : Int))]) fun (z_1 : Int × Nat) => bif decide ((-9223372036854775808 : Int) ≤ z_1.fst) && decide (z_1.fst ≤ (9223372036854775807 : Int)) && decide (z_1.snd ≤ (1000
  : Nat)) then bif Nat.ble (ByteArray.size (F.pad z.fst z.snd ++ ByteArray.mk (Array.mk [(58 : UInt8)])) + ByteArray.size (F.pad z_1.fst z_1.snd)) (9223372036854775807 :
  Nat) then bif Nat.ble (ByteArray.size (F.pad z.fst z.snd ++ ByteArray.mk (Array.mk [(58 : UInt8)]) ++ F.pad z_1.fst z_1.snd) + ByteArray.size (ByteArray.mk (Array.mk [(58
  : UInt8)]))) (9223372036854775807 : Nat) then Option.bind (unenc encPad [(vI (Int.tmod (IntKind.wrap IntKind.i64 (Int.tdiv t (1000 : Int))) (60 : Int))), (vI (2 : Int))])
  fun (z_2 : Int × Nat) => bif decide ((-9223372036854775808 : Int) ≤ z_2.fst) && decide (z_2.fst ≤ (9223372036854775807 : Int)) && decide (z_2.snd ≤ (1000 : Nat)) then bif
  Nat.ble (ByteArray.size (F.pad z.fst z.snd ++ ByteArray.mk (Array.mk [(58 : UInt8)]) ++ F.pad z_1.fst z_1.snd ++ ByteArray.mk (Array.mk [(58 : UInt8)])) + ByteArray.size
  (F.pad z_2.fst z_2.snd)) (9223372036854775807 : Nat) then bif Nat.ble (ByteArray.size (F.pad z.fst z.snd ++ ByteArray.mk (Array.mk [(58 : UInt8)]) ++ F.pad z_1.fst z_1.snd
  ++ ByteArray.mk (Array.mk [(58 : UInt8)]) ++ F.pad z_2.fst z_2.snd) + ByteArray.size p) (9223372036854775807 : Nat) then Option.bind (unenc encPad [(vI (Int.tmod t (1000 :
  Int))), (vI (3 : Int))]) fun (z_3 : Int × Nat) => bif decide ((-9223372036854775808 : Int) ≤ z_3.fst) && decide (z_3.fst ≤ (9223372036854775807 : Int)) && decide (z_3.snd
  ≤ (1000 : Nat)) then bif Nat.ble (ByteArray.size (F.pad z.fst z.snd ++ ByteArray.mk (Array.mk [(58 : UInt8)]) ++ F.pad z_1.fst z_1.snd ++ ByteArray.mk (Array.mk [(58 :
  UInt8)]) ++ F.pad z_2.fst z_2.snd ++ p) + ByteArray.size (F.pad z_3.fst z_3.snd)) (9223372036854775807 : Nat) then some ((vS (F.pad z.fst z.snd ++ ByteArray.mk (Array.mk
  [(58 : UInt8)]) ++ F.pad z_1.fst z_1.snd ++ ByteArray.mk (Array.mk [(58 : UInt8)]) ++ F.pad z_2.fst z_2.snd ++ p ++ F.pad z_3.fst z_3.snd)), []) else none else none else
  none else none else none else none else none else none else none else none := (runFR_val).symm.trans (by kernel_rfl)

def encTiT1 (t : Int) (p : ByteArray) : List AV := [vI t, vS p]

def encTiT (a : Int × ByteArray) : List AV := encTiT1 a.1 a.2

theorem encTiT_inj (a a' : Int × ByteArray) (h : encTiT a = encTiT a') : a = a' := by
  simp only [encTiT, encTiT1] at h
  try simp [strs_inj, ints_inj, bools_inj, eL_eIs_inj, eCaps_inj, eCap_iff, eL_eCaps_inj, eMchs_inj, eMch_iff, eWrds_inj, eWrd_iff, eFnds_inj, eFnd_iff, eRatios_inj, eRatio_iff, eWays_inj, eWay_iff] at h
  grind

theorem unTiT (t : Int) (p : ByteArray) : unenc encTiT ([(vI t), (vS p)]) = some (t, p) := unenc_of encTiT_inj (t, p) rfl

def resTiT1 (t : Int) (p : ByteArray) : AV × Heap := (vS (F.clk t p), [])

def preTiT1 (t : Int) (p : ByteArray) : Bool := decide (0 ≤ t) && decide (t ≤ 359999999) && decide (p.size = 1)

noncomputable def oTiT : Orc := orc 59 true encTiT (fun a => preTiT1 a.1 a.2) fun a => resTiT1 a.1 a.2

theorem okTiT : OrcOK Tryz.prog noG oTiT := by
  refine mk_ok Tryz.f59 (keep := false) (by kernel_rfl) (by kernel_rfl) enTiT_ok mixed (no_loops (by kernel_rfl)) (by first | exact fun _ _ => ⟨rfl, rfl⟩ | (intro h; cases h)) ?_
  rintro ⟨t, p⟩ hpre hok
  show (runF enTiT false _ (encTiT1 _ _)).val = some (resTiT1 _ _)
  unfold encTiT1 resTiT1
  rw [evTiT]
  simp only [preTiT1, Bool.and_eq_true, decide_eq_true_eq] at hpre
  obtain ⟨⟨h0, h1⟩, h2⟩ := hpre
  obtain ⟨k, rfl⟩ := Int.eq_ofNat_of_zero_le h0
  have w1 : IntKind.i64.wrap ((k : Int).tdiv 3600000) = ((k / 3600000 : Nat) : Int) := by rw [tdiv_nn (by omega), wrap_id (by omega) (by omega)]; omega
  have w2 : (IntKind.i64.wrap ((k : Int).tdiv 60000)).tmod 60 = ((k / 60000 % 60 : Nat) : Int) := by rw [tdiv_nn (by omega), wrap_id (by omega) (by omega), Int.tmod_eq_emod_of_nonneg (by omega)]; omega
  have w3 : (IntKind.i64.wrap ((k : Int).tdiv 1000)).tmod 60 = ((k / 1000 % 60 : Nat) : Int) := by rw [tdiv_nn (by omega), wrap_id (by omega) (by omega), Int.tmod_eq_emod_of_nonneg (by omega)]; omega
  have w4 : (k : Int).tmod 1000 = ((k % 1000 : Nat) : Int) := by rw [Int.tmod_eq_emod_of_nonneg (by omega)]; omega
  have s1 : (F.pad ((k / 3600000 : Nat) : Int) 2).size = 2 := by rw [F.size_bs, F.pad2 (show k / 3600000 < 100 by omega)]; rfl
  have s2 : (F.pad ((k / 60000 % 60 : Nat) : Int) 2).size = 2 := by rw [F.size_bs, F.pad2 (show k / 60000 % 60 < 100 by omega)]; rfl
  have s3 : (F.pad ((k / 1000 % 60 : Nat) : Int) 2).size = 2 := by rw [F.size_bs, F.pad2 (show k / 1000 % 60 < 100 by omega)]; rfl
  have s4 : (F.pad ((k % 1000 : Nat) : Int) 3).size = 3 := by rw [F.size_bs, F.pad3 (show k % 1000 < 1000 by omega)]; rfl
  have sc : (ByteArray.mk (Array.mk [58])).size = 1 := rfl
  have e : F.clk (k : Int) p = F.pad ((k / 3600000 : Nat) : Int) 2 ++ F.colon ++ F.pad ((k / 60000 % 60 : Nat) : Int) 2 ++ F.colon ++ F.pad ((k / 1000 % 60 : Nat) : Int) 2 ++ p ++ F.pad ((k % 1000 : Nat) : Int) 3 := rfl
  have d2 : decide ((2 : Nat) ≤ 1000) = true := rfl
  have d3 : decide ((3 : Nat) ≤ 1000) = true := rfl
  simp only [unPad, prePad1, etaCap, etaMch, etaWrd, etaFnd, etaRatio, etaWay, Option.bind_some, List.length_map, unStrs, unInts, unBools, uneL_eIs, unCaps, uneL_eCaps, unMchs, unWrds, unFnds, unRatios, unWays, F.lt, F.le, cond_true, cond_false, Bool.and_true, Bool.true_and, w1, w2, w3, w4, unPad2, unPad3, pre64 (show k / 3600000 < 1000 by omega), pre64 (show k / 60000 % 60 < 1000 by omega), pre64 (show k / 1000 % 60 < 1000 by omega), pre64 (show k % 1000 < 1000 by omega), d2, d3, ByteArray.size_append, s1, s2, s3, s4, sc, h2]
  rw [e]
  rfl

noncomputable def enRCk : Env := envH ty noG lks [oRPa] [] [] []

theorem enRCk_ok : EnvOK Tryz.prog enRCk := by
  refine envH_ok lks_ok ty_ok ?_ ?_
  · simp only [List.forall_mem_cons]
    exact ⟨okRPa, by simp⟩
  · simp

theorem evRCk (t : Int) (p : ByteArray) : (runF enRCk false Tryz.f29 [vI t, vS p]).val =
  Option.bind (unenc encRPa [(vI (IntKind.wrap IntKind.i64 (Int.tdiv t (3600000 : Int)))), (vI (2 : Int))]) fun (z : Int × Nat) => bif decide ((-9223372036854775808 : Int) ≤
  z.fst) && decide (z.fst ≤ (9223372036854775807 : Int)) && decide (z.snd ≤ (1000 : Nat)) then bif Nat.ble (ByteArray.size (F.pad z.fst z.snd) + ByteArray.size (ByteArray.mk
  (Array.mk [(58 : UInt8)]))) (9223372036854775807 : Nat) then Option.bind (unenc encRPa [(vI (Int.tmod (IntKind.wrap IntKind.i64 (Int.tdiv t (60000 : Int))) (60 : Int))),
  (vI (2 : Int))]) fun (z_1 : Int × Nat) => bif decide ((-9223372036854775808 : Int) ≤ z_1.fst) && decide (z_1.fst ≤ (9223372036854775807 : Int)) && decide (z_1.snd ≤ (1000
  : Nat)) then bif Nat.ble (ByteArray.size (F.pad z.fst z.snd ++ ByteArray.mk (Array.mk [(58 : UInt8)])) + ByteArray.size (F.pad z_1.fst z_1.snd)) (9223372036854775807 :
  Nat) then bif Nat.ble (ByteArray.size (F.pad z.fst z.snd ++ ByteArray.mk (Array.mk [(58 : UInt8)]) ++ F.pad z_1.fst z_1.snd) + ByteArray.size (ByteArray.mk (Array.mk [(58
  : UInt8)]))) (9223372036854775807 : Nat) then Option.bind (unenc encRPa [(vI (Int.tmod (IntKind.wrap IntKind.i64 (Int.tdiv t (1000 : Int))) (60 : Int))), (vI (2 : Int))])
  fun (z_2 : Int × Nat) => bif decide ((-9223372036854775808 : Int) ≤ z_2.fst) && decide (z_2.fst ≤ (9223372036854775807 : Int)) && decide (z_2.snd ≤ (1000 : Nat)) then bif
  Nat.ble (ByteArray.size (F.pad z.fst z.snd ++ ByteArray.mk (Array.mk [(58 : UInt8)]) ++ F.pad z_1.fst z_1.snd ++ ByteArray.mk (Array.mk [(58 : UInt8)])) + ByteArray.size
  (F.pad z_2.fst z_2.snd)) (9223372036854775807 : Nat) then bif Nat.ble (ByteArray.size (F.pad z.fst z.snd ++ ByteArray.mk (Array.mk [(58 : UInt8)]) ++ F.pad z_1.fst z_1.snd
  ++ ByteArray.mk (Array.mk [(58 : UInt8)]) ++ F.pad z_2.fst z_2.snd) + ByteArray.size p) (9223372036854775807 : Nat) then Option.bind (unenc encRPa [(vI (Int.tmod t (1000 :
  Int))), (vI (3 : Int))]) fun (z_3 : Int × Nat) => bif decide ((-9223372036854775808 : Int) ≤ z_3.fst) && decide (z_3.fst ≤ (9223372036854775807 : Int)) && decide (z_3.snd
  ≤ (1000 : Nat)) then bif Nat.ble (ByteArray.size (F.pad z.fst z.snd ++ ByteArray.mk (Array.mk [(58 : UInt8)]) ++ F.pad z_1.fst z_1.snd ++ ByteArray.mk (Array.mk [(58 :
  UInt8)]) ++ F.pad z_2.fst z_2.snd ++ p) + ByteArray.size (F.pad z_3.fst z_3.snd)) (9223372036854775807 : Nat) then some ((vS (F.pad z.fst z.snd ++ ByteArray.mk (Array.mk
  [(58 : UInt8)]) ++ F.pad z_1.fst z_1.snd ++ ByteArray.mk (Array.mk [(58 : UInt8)]) ++ F.pad z_2.fst z_2.snd ++ p ++ F.pad z_3.fst z_3.snd)), []) else none else none else
  none else none else none else none else none else none else none else none := (runFR_val).symm.trans (by kernel_rfl)

def encRCk1 (t : Int) (p : ByteArray) : List AV := [vI t, vS p]

def encRCk (a : Int × ByteArray) : List AV := encRCk1 a.1 a.2

theorem encRCk_inj (a a' : Int × ByteArray) (h : encRCk a = encRCk a') : a = a' := by
  simp only [encRCk, encRCk1] at h
  try simp [strs_inj, ints_inj, bools_inj, eL_eIs_inj, eCaps_inj, eCap_iff, eL_eCaps_inj, eMchs_inj, eMch_iff, eWrds_inj, eWrd_iff, eFnds_inj, eFnd_iff, eRatios_inj, eRatio_iff, eWays_inj, eWay_iff] at h
  grind

theorem unRCk (t : Int) (p : ByteArray) : unenc encRCk ([(vI t), (vS p)]) = some (t, p) := unenc_of encRCk_inj (t, p) rfl

def resRCk1 (t : Int) (p : ByteArray) : AV × Heap := (vS (F.clk t p), [])

def preRCk1 (t : Int) (p : ByteArray) : Bool := decide (0 ≤ t) && decide (t ≤ 359999999) && decide (p.size = 1)

noncomputable def oRCk : Orc := orc 29 true encRCk (fun a => preRCk1 a.1 a.2) fun a => resRCk1 a.1 a.2

theorem okRCk : OrcOK Tryz.prog noG oRCk := by
  refine mk_ok Tryz.f29 (keep := false) (by kernel_rfl) (by kernel_rfl) enRCk_ok mixed (no_loops (by kernel_rfl)) (by first | exact fun _ _ => ⟨rfl, rfl⟩ | (intro h; cases h)) ?_
  rintro ⟨t, p⟩ hpre hok
  show (runF enRCk false _ (encRCk1 _ _)).val = some (resRCk1 _ _)
  unfold encRCk1 resRCk1
  rw [evRCk]
  simp only [preRCk1, Bool.and_eq_true, decide_eq_true_eq] at hpre
  obtain ⟨⟨h0, h1⟩, h2⟩ := hpre
  obtain ⟨k, rfl⟩ := Int.eq_ofNat_of_zero_le h0
  have w1 : IntKind.i64.wrap ((k : Int).tdiv 3600000) = ((k / 3600000 : Nat) : Int) := by rw [tdiv_nn (by omega), wrap_id (by omega) (by omega)]; omega
  have w2 : (IntKind.i64.wrap ((k : Int).tdiv 60000)).tmod 60 = ((k / 60000 % 60 : Nat) : Int) := by rw [tdiv_nn (by omega), wrap_id (by omega) (by omega), Int.tmod_eq_emod_of_nonneg (by omega)]; omega
  have w3 : (IntKind.i64.wrap ((k : Int).tdiv 1000)).tmod 60 = ((k / 1000 % 60 : Nat) : Int) := by rw [tdiv_nn (by omega), wrap_id (by omega) (by omega), Int.tmod_eq_emod_of_nonneg (by omega)]; omega
  have w4 : (k : Int).tmod 1000 = ((k % 1000 : Nat) : Int) := by rw [Int.tmod_eq_emod_of_nonneg (by omega)]; omega
  have s1 : (F.pad ((k / 3600000 : Nat) : Int) 2).size = 2 := by rw [F.size_bs, F.pad2 (show k / 3600000 < 100 by omega)]; rfl
  have s2 : (F.pad ((k / 60000 % 60 : Nat) : Int) 2).size = 2 := by rw [F.size_bs, F.pad2 (show k / 60000 % 60 < 100 by omega)]; rfl
  have s3 : (F.pad ((k / 1000 % 60 : Nat) : Int) 2).size = 2 := by rw [F.size_bs, F.pad2 (show k / 1000 % 60 < 100 by omega)]; rfl
  have s4 : (F.pad ((k % 1000 : Nat) : Int) 3).size = 3 := by rw [F.size_bs, F.pad3 (show k % 1000 < 1000 by omega)]; rfl
  have sc : (ByteArray.mk (Array.mk [58])).size = 1 := rfl
  have e : F.clk (k : Int) p = F.pad ((k / 3600000 : Nat) : Int) 2 ++ F.colon ++ F.pad ((k / 60000 % 60 : Nat) : Int) 2 ++ F.colon ++ F.pad ((k / 1000 % 60 : Nat) : Int) 2 ++ p ++ F.pad ((k % 1000 : Nat) : Int) 3 := rfl
  have d2 : decide ((2 : Nat) ≤ 1000) = true := rfl
  have d3 : decide ((3 : Nat) ≤ 1000) = true := rfl
  simp only [unRPa, preRPa1, etaCap, etaMch, etaWrd, etaFnd, etaRatio, etaWay, Option.bind_some, List.length_map, unStrs, unInts, unBools, uneL_eIs, unCaps, uneL_eCaps, unMchs, unWrds, unFnds, unRatios, unWays, F.lt, F.le, cond_true, cond_false, Bool.and_true, Bool.true_and, w1, w2, w3, w4, unRPa2, unRPa3, pre64 (show k / 3600000 < 1000 by omega), pre64 (show k / 60000 % 60 < 1000 by omega), pre64 (show k / 1000 % 60 < 1000 by omega), pre64 (show k % 1000 < 1000 by omega), d2, d3, ByteArray.size_append, s1, s2, s3, s4, sc, h2]
  rw [e]
  rfl

noncomputable def enTms : Env := envH ty noG lks [oTiT] [] [] []

theorem enTms_ok : EnvOK Tryz.prog enTms := by
  refine envH_ok lks_ok ty_ok ?_ ?_
  · simp only [List.forall_mem_cons]
    exact ⟨okTiT, by simp⟩
  · simp

theorem evTms (c : Cap) (p : ByteArray) : (runF enTms false Tryz.f24 [.agg (eCap c), vS p]).val =
  Option.bind (unenc encTiT [(vI c.fr), (vS p)]) fun (z : Int × ByteArray) => bif decide ((0 : Int) ≤ z.fst) && decide (z.fst ≤ (359999999 : Int)) && decide (ByteArray.size
  z.snd = (1 : Nat)) then bif Nat.ble (ByteArray.size (F.clk z.fst z.snd) + ByteArray.size (ByteArray.mk (Array.mk [(32 : UInt8), (45 : UInt8), (45 : UInt8), (62 : UInt8),
  (32 : UInt8)]))) (9223372036854775807 : Nat) then Option.bind (unenc encTiT [(vI c.to), (vS p)]) fun (z_1 : Int × ByteArray) => bif decide ((0 : Int) ≤ z_1.fst) && decide
  (z_1.fst ≤ (359999999 : Int)) && decide (ByteArray.size z_1.snd = (1 : Nat)) then bif Nat.ble (ByteArray.size (F.clk z.fst z.snd ++ ByteArray.mk (Array.mk [(32 : UInt8),
  (45 : UInt8), (45 : UInt8), (62 : UInt8), (32 : UInt8)])) + ByteArray.size (F.clk z_1.fst z_1.snd)) (9223372036854775807 : Nat) then some ((vS (F.clk z.fst z.snd ++
  ByteArray.mk (Array.mk [(32 : UInt8), (45 : UInt8), (45 : UInt8), (62 : UInt8), (32 : UInt8)]) ++ F.clk z_1.fst z_1.snd)), []) else none else none else none else none := (runFR_val).symm.trans (by kernel_rfl)

def encTms1 (c : Cap) (p : ByteArray) : List AV := [.agg (eCap c), vS p]

def encTms (a : Cap × ByteArray) : List AV := encTms1 a.1 a.2

theorem encTms_inj (a a' : Cap × ByteArray) (h : encTms a = encTms a') : a = a' := by
  simp only [encTms, encTms1] at h
  try simp [strs_inj, ints_inj, bools_inj, eL_eIs_inj, eCaps_inj, eCap_iff, eL_eCaps_inj, eMchs_inj, eMch_iff, eWrds_inj, eWrd_iff, eFnds_inj, eFnd_iff, eRatios_inj, eRatio_iff, eWays_inj, eWay_iff] at h
  grind

theorem unTms (c : Cap) (p : ByteArray) : unenc encTms ([AV.agg [(vI c.fr), (vI c.to), AV.sl (List.map eStr c.lines), (vI c.row), (vB c.bef), (vB c.aft)], (vS p)]) = some (c, p) := unenc_of encTms_inj (c, p) rfl

theorem unTmsw (c_fr : Int) (c_to : Int) (c_lines : List ByteArray) (c_row : Int) (c_bef : Bool) (c_aft : Bool) (p : ByteArray) : unenc encTms ([AV.agg [(vI c_fr), (vI c_to), AV.sl (List.map eStr c_lines), (vI c_row), (vB c_bef), (vB c_aft)], (vS p)]) = some ((Cap.mk c_fr c_to c_lines c_row c_bef c_aft), p) := unenc_of encTms_inj ((Cap.mk c_fr c_to c_lines c_row c_bef c_aft), p) rfl

def resTms1 (c : Cap) (p : ByteArray) : AV × Heap := (vS (F.tms c p), [])

def preTms1 (c : Cap) (p : ByteArray) : Bool := decide (0 ≤ c.fr) && decide (c.fr ≤ 359999999) && decide (0 ≤ c.to) && decide (c.to ≤ 359999999) && decide (p.size = 1)

noncomputable def oTms : Orc := orc 24 true encTms (fun a => preTms1 a.1 a.2) fun a => resTms1 a.1 a.2

theorem okTms : OrcOK Tryz.prog noG oTms := by
  refine mk_ok Tryz.f24 (keep := false) (by kernel_rfl) (by kernel_rfl) enTms_ok mixed (no_loops (by kernel_rfl)) (by first | exact fun _ _ => ⟨rfl, rfl⟩ | (intro h; cases h)) ?_
  rintro ⟨c, p⟩ hpre hok
  show (runF enTms false _ (encTms1 _ _)).val = some (resTms1 _ _)
  unfold encTms1 resTms1
  rw [evTms]
  simp only [preTms1, Bool.and_eq_true, decide_eq_true_eq] at hpre
  obtain ⟨⟨⟨⟨h0, h1⟩, h2⟩, h3⟩, h4⟩ := hpre
  have s1 : (F.clk c.fr p).size = 12 := by
    obtain ⟨k, hk⟩ := Int.eq_ofNat_of_zero_le h0
    rw [hk, F.clk_size (by omega), h4]
  have s2 : (F.clk c.to p).size = 12 := by
    obtain ⟨k, hk⟩ := Int.eq_ofNat_of_zero_le h2
    rw [hk, F.clk_size (by omega), h4]
  have sa : (ByteArray.mk (Array.mk [32, 45, 45, 62, 32])).size = 5 := rfl
  simp only [unTiT, preTiT1, etaCap, etaMch, etaWrd, etaFnd, etaRatio, etaWay, Option.bind_some, List.length_map, unStrs, unInts, unBools, uneL_eIs, unCaps, uneL_eCaps, unMchs, unWrds, unFnds, unRatios, unWays, F.lt, F.le, cond_true, cond_false, Bool.and_true, Bool.true_and, decide_eq_true h0, decide_eq_true h1, decide_eq_true h2, decide_eq_true h3, decide_eq_true h4, ByteArray.size_append, s1, s2, sa]
  rfl

end M
end Go.Proofs.YthcfbeckhgngiaaGreatDoor
