/- What is proved here: what strings.TrimSuffix, strings.CutPrefix and the readers of digits and times return on plain data (no statement of the seat). -/
import Derived.Test.YthcfbeckhgngiaaGreatDoorC113
namespace Go.Proofs.YthcfbeckhgngiaaGreatDoor
open Go Go.RowKit
set_option linter.unusedVariables false
set_option linter.unusedSimpArgs false

theorem F.hasS_le {s p : ByteArray} (h : F.hasS s p = true) : p.size ≤ s.size := by
  unfold F.hasS Lib.hasSuffix at h
  have := (List.isSuffixOf_iff_suffix.1 h).length_le
  rw [F.bs_len, F.bs_len] at this
  exact this

theorem F.hasP_le {s p : ByteArray} (h : F.hasP s p = true) : p.size ≤ s.size := by
  unfold F.hasP Lib.hasPrefix at h
  have := (List.isPrefixOf_iff_prefix.1 h).length_le
  rw [F.bs_len, F.bs_len] at this
  exact this

theorem F.digB_t {b : UInt8} (h : F.digB b = true) : 48 ≤ (b.toNat : Int) ∧ (b.toNat : Int) ≤ 57 := by simpa [F.digB, F.digit] using h

theorem F.digB_f {b : UInt8} (h : F.digB b = false) : (b.toNat : Int) < 48 ∨ 57 < (b.toNat : Int) := by
  by_cases h1 : (b.toNat : Int) < 48
  · exact .inl h1
  · by_cases h2 : 57 < (b.toNat : Int)
    · exact .inr h2
    · have : F.digB b = true := by simp [F.digB, F.digit]; omega
      rw [h] at this; cases this

namespace M

theorem drop_q {α : Type} {xs : List α} {k : Nat} {y : α} (h : xs[k]? = some y) : xs.drop k = y :: xs.drop (k + 1) := by
  obtain ⟨h1, h2⟩ := List.getElem?_eq_some_iff.1 h
  rw [List.drop_eq_getElem_cons h1, h2]

def encHsPi1 (s : ByteArray) (p : ByteArray) : List AV := [vS s, vS p]

def encHsPi (a : ByteArray × ByteArray) : List AV := encHsPi1 a.1 a.2

theorem encHsPi_inj (a a' : ByteArray × ByteArray) (h : encHsPi a = encHsPi a') : a = a' := by
  simp only [encHsPi, encHsPi1] at h
  try simp [strs_inj, ints_inj, bools_inj, eL_eIs_inj, eCaps_inj, eCap_iff, eL_eCaps_inj, eMchs_inj, eMch_iff, eWrds_inj, eWrd_iff, eFnds_inj, eFnd_iff, eRatios_inj, eRatio_iff, eWays_inj, eWay_iff] at h
  grind

theorem unHsPi (s : ByteArray) (p : ByteArray) : unenc encHsPi ([(vS s), (vS p)]) = some (s, p) := unenc_of encHsPi_inj (s, p) rfl

def resHsPi1 (s : ByteArray) (p : ByteArray) : AV × Heap := (vB (F.hasP s p), [])

def preHsPi1 (s : ByteArray) (p : ByteArray) : Bool := true

noncomputable def oHsPi : Orc := orc 72 true encHsPi (fun a => preHsPi1 a.1 a.2) fun a => resHsPi1 a.1 a.2

theorem okHsPi : OrcOK Tryz.prog noG oHsPi := by
  refine orc_ok ⟨Tryz.f72, by kernel_rfl, by kernel_rfl, by kernel_rfl⟩ (fun x _ _ => ?_) (fun _ _ => ⟨rfl, rfl⟩)
  exact SpecP.pure2 trivial fun _ _ w => Tryz.stringslite_HasPrefix x.1 x.2 w

def encHsSi1 (s : ByteArray) (p : ByteArray) : List AV := [vS s, vS p]

def encHsSi (a : ByteArray × ByteArray) : List AV := encHsSi1 a.1 a.2

theorem encHsSi_inj (a a' : ByteArray × ByteArray) (h : encHsSi a = encHsSi a') : a = a' := by
  simp only [encHsSi, encHsSi1] at h
  try simp [strs_inj, ints_inj, bools_inj, eL_eIs_inj, eCaps_inj, eCap_iff, eL_eCaps_inj, eMchs_inj, eMch_iff, eWrds_inj, eWrd_iff, eFnds_inj, eFnd_iff, eRatios_inj, eRatio_iff, eWays_inj, eWay_iff] at h
  grind

theorem unHsSi (s : ByteArray) (p : ByteArray) : unenc encHsSi ([(vS s), (vS p)]) = some (s, p) := unenc_of encHsSi_inj (s, p) rfl

def resHsSi1 (s : ByteArray) (p : ByteArray) : AV × Heap := (vB (F.hasS s p), [])

def preHsSi1 (s : ByteArray) (p : ByteArray) : Bool := true

noncomputable def oHsSi : Orc := orc 94 true encHsSi (fun a => preHsSi1 a.1 a.2) fun a => resHsSi1 a.1 a.2

theorem okHsSi : OrcOK Tryz.prog noG oHsSi := by
  refine orc_ok ⟨Tryz.f94, by kernel_rfl, by kernel_rfl, by kernel_rfl⟩ (fun x _ _ => ?_) (fun _ _ => ⟨rfl, rfl⟩)
  exact SpecP.pure2 trivial fun hk _ w => Tryz.stringslite_HasSuffix x.1 x.2 w hk

noncomputable def enTrS : Env := envH ty noG lks [oHsSi] [] [] []

theorem enTrS_ok : EnvOK Tryz.prog enTrS := by
  refine envH_ok lks_ok ty_ok ?_ ?_
  · simp only [List.forall_mem_cons]
    exact ⟨okHsSi, by simp⟩
  · simp

theorem evTrSi (s : ByteArray) (p : ByteArray) : (runF enTrS false Tryz.f84 [vS s, vS p]).val =
  Option.bind (unenc encHsSi [(vS s), (vS p)]) fun (z : ByteArray × ByteArray) => bif F.hasS z.fst z.snd then Option.bind (idx (IntKind.wrap IntKind.i64 ((↑(ByteArray.size
  s) : Int) - (↑(ByteArray.size p) : Int)))) fun (z : Nat) => bif Nat.ble (0 : Nat) z && Nat.ble z (ByteArray.size s) then some ((vS (ByteArray.extract s (0 : Nat) z)), [])
  else none else some ((vS s), []) := (runFR_val).symm.trans (by kernel_rfl)

def encTrSi1 (s : ByteArray) (p : ByteArray) : List AV := [vS s, vS p]

def encTrSi (a : ByteArray × ByteArray) : List AV := encTrSi1 a.1 a.2

theorem encTrSi_inj (a a' : ByteArray × ByteArray) (h : encTrSi a = encTrSi a') : a = a' := by
  simp only [encTrSi, encTrSi1] at h
  try simp [strs_inj, ints_inj, bools_inj, eL_eIs_inj, eCaps_inj, eCap_iff, eL_eCaps_inj, eMchs_inj, eMch_iff, eWrds_inj, eWrd_iff, eFnds_inj, eFnd_iff, eRatios_inj, eRatio_iff, eWays_inj, eWay_iff] at h
  grind

theorem unTrSi (s : ByteArray) (p : ByteArray) : unenc encTrSi ([(vS s), (vS p)]) = some (s, p) := unenc_of encTrSi_inj (s, p) rfl

def resTrSi1 (s : ByteArray) (p : ByteArray) : AV × Heap := (vS (F.trim s p), [])

def preTrSi1 (s : ByteArray) (p : ByteArray) : Bool := F.small s && decide (p.size ≤ 100)

noncomputable def oTrSi : Orc := orc 84 true encTrSi (fun a => preTrSi1 a.1 a.2) fun a => resTrSi1 a.1 a.2

theorem okTrSi : OrcOK Tryz.prog noG oTrSi := by
  refine mk_ok Tryz.f84 (keep := false) (by kernel_rfl) (by kernel_rfl) enTrS_ok mixed (no_loops (by kernel_rfl)) (by first | exact fun _ _ => ⟨rfl, rfl⟩ | (intro h; cases h)) ?_
  rintro ⟨s, p⟩ hpre hok
  show (runF enTrS false _ (encTrSi1 _ _)).val = some (resTrSi1 _ _)
  unfold encTrSi1 resTrSi1
  rw [evTrSi]
  simp only [preTrSi1, F.small, Bool.and_eq_true, decide_eq_true_eq] at hpre
  simp only [unHsSi, preHsSi1, etaCap, etaMch, etaWrd, etaFnd, etaRatio, etaWay, Option.bind_some, List.length_map, unStrs, unInts, unBools, uneL_eIs, unCaps, uneL_eCaps, unMchs, unWrds, unFnds, unRatios, unWays, F.lt, F.le, cond_true, cond_false, Bool.and_true, Bool.true_and, F.trim]
  cases h : F.hasS s p
  · rfl
  · have hl := F.hasS_le h
    have hi : idx (IntKind.i64.wrap ((s.size : Int) - (p.size : Int))) = some (s.size - p.size) := by
      rw [wrap_id (by omega) (by omega), show (s.size : Int) - (p.size : Int) = ((s.size - p.size : Nat) : Int) by omega]; rfl
    simp only [hi, Option.bind_some, ble_t (Nat.zero_le _), ble_t (show s.size - p.size ≤ s.size by omega), cond_true, Bool.and_self]

noncomputable def enTrSo : Env := envH ty noG lks [oTrSi] [] [] []

theorem enTrSo_ok : EnvOK Tryz.prog enTrSo := by
  refine envH_ok lks_ok ty_ok ?_ ?_
  · simp only [List.forall_mem_cons]
    exact ⟨okTrSi, by simp⟩
  · simp

theorem evTrSo (s : ByteArray) (p : ByteArray) : (runF enTrSo false Tryz.f63 [vS s, vS p]).val =
  Option.bind (unenc encTrSi [(vS s), (vS p)]) fun (z : ByteArray × ByteArray) => bif F.small z.fst && decide (ByteArray.size z.snd ≤ (100 : Nat)) then some ((vS (F.trim
  z.fst z.snd)), []) else none := (runFR_val).symm.trans (by kernel_rfl)

def encTrSo1 (s : ByteArray) (p : ByteArray) : List AV := [vS s, vS p]

def encTrSo (a : ByteArray × ByteArray) : List AV := encTrSo1 a.1 a.2

theorem encTrSo_inj (a a' : ByteArray × ByteArray) (h : encTrSo a = encTrSo a') : a = a' := by
  simp only [encTrSo, encTrSo1] at h
  try simp [strs_inj, ints_inj, bools_inj, eL_eIs_inj, eCaps_inj, eCap_iff, eL_eCaps_inj, eMchs_inj, eMch_iff, eWrds_inj, eWrd_iff, eFnds_inj, eFnd_iff, eRatios_inj, eRatio_iff, eWays_inj, eWay_iff] at h
  grind

theorem unTrSo (s : ByteArray) (p : ByteArray) : unenc encTrSo ([(vS s), (vS p)]) = some (s, p) := unenc_of encTrSo_inj (s, p) rfl

def resTrSo1 (s : ByteArray) (p : ByteArray) : AV × Heap := (vS (F.trim s p), [])

def preTrSo1 (s : ByteArray) (p : ByteArray) : Bool := F.small s && decide (p.size ≤ 100)

noncomputable def oTrSo : Orc := orc 63 true encTrSo (fun a => preTrSo1 a.1 a.2) fun a => resTrSo1 a.1 a.2

theorem okTrSo : OrcOK Tryz.prog noG oTrSo := by
  refine mk_ok Tryz.f63 (keep := false) (by kernel_rfl) (by kernel_rfl) enTrSo_ok mixed (no_loops (by kernel_rfl)) (by first | exact fun _ _ => ⟨rfl, rfl⟩ | (intro h; cases h)) ?_
  rintro ⟨s, p⟩ hpre hok
  show (runF enTrSo false _ (encTrSo1 _ _)).val = some (resTrSo1 _ _)
  unfold encTrSo1 resTrSo1
  rw [evTrSo]
  simp only [preTrSo1] at hpre
  simp only [unTrSi, preTrSi1, etaCap, etaMch, etaWrd, etaFnd, etaRatio, etaWay, Option.bind_some, List.length_map, unStrs, unInts, unBools, uneL_eIs, unCaps, uneL_eCaps, unMchs, unWrds, unFnds, unRatios, unWays, F.lt, F.le, cond_true, cond_false, Bool.and_true, Bool.true_and, hpre]

noncomputable def enCuP : Env := envH ty noG lks [oHsPi] [] [] []

theorem enCuP_ok : EnvOK Tryz.prog enCuP := by
  refine envH_ok lks_ok ty_ok ?_ ?_
  · simp only [List.forall_mem_cons]
    exact ⟨okHsPi, by simp⟩
  · simp

theorem evCuPi (s : ByteArray) (p : ByteArray) : (runF enCuP false Tryz.f68 [vS s, vS p]).val =
  Option.bind (unenc encHsPi [(vS s), (vS p)]) fun (z : ByteArray × ByteArray) => bif !F.hasP z.fst z.snd then some (AV.tup [(vS s), (vB false)], []) else bif Nat.ble
  (ByteArray.size p) (ByteArray.size s) && Nat.ble (ByteArray.size s) (ByteArray.size s) then some (AV.tup [(vS (ByteArray.extract s (ByteArray.size p) (ByteArray.size s))),
  (vB true)], []) else none := (runFR_val).symm.trans (by kernel_rfl)

def encCuPi1 (s : ByteArray) (p : ByteArray) : List AV := [vS s, vS p]

def encCuPi (a : ByteArray × ByteArray) : List AV := encCuPi1 a.1 a.2

theorem encCuPi_inj (a a' : ByteArray × ByteArray) (h : encCuPi a = encCuPi a') : a = a' := by
  simp only [encCuPi, encCuPi1] at h
  try simp [strs_inj, ints_inj, bools_inj, eL_eIs_inj, eCaps_inj, eCap_iff, eL_eCaps_inj, eMchs_inj, eMch_iff, eWrds_inj, eWrd_iff, eFnds_inj, eFnd_iff, eRatios_inj, eRatio_iff, eWays_inj, eWay_iff] at h
  grind

theorem unCuPi (s : ByteArray) (p : ByteArray) : unenc encCuPi ([(vS s), (vS p)]) = some (s, p) := unenc_of encCuPi_inj (s, p) rfl

def resCuPi1 (s : ByteArray) (p : ByteArray) : AV × Heap := (.tup [vS (F.cutP s p).1, vB (F.cutP s p).2], [])

def preCuPi1 (s : ByteArray) (p : ByteArray) : Bool := F.small s && decide (p.size ≤ 100)

noncomputable def oCuPi : Orc := orc 68 true encCuPi (fun a => preCuPi1 a.1 a.2) fun a => resCuPi1 a.1 a.2

theorem okCuPi : OrcOK Tryz.prog noG oCuPi := by
  refine mk_ok Tryz.f68 (keep := false) (by kernel_rfl) (by kernel_rfl) enCuP_ok mixed (no_loops (by kernel_rfl)) (by first | exact fun _ _ => ⟨rfl, rfl⟩ | (intro h; cases h)) ?_
  rintro ⟨s, p⟩ hpre hok
  show (runF enCuP false _ (encCuPi1 _ _)).val = some (resCuPi1 _ _)
  unfold encCuPi1 resCuPi1
  rw [evCuPi]
  simp only [preCuPi1, F.small, Bool.and_eq_true, decide_eq_true_eq] at hpre
  simp only [unHsPi, preHsPi1, etaCap, etaMch, etaWrd, etaFnd, etaRatio, etaWay, Option.bind_some, List.length_map, unStrs, unInts, unBools, uneL_eIs, unCaps, uneL_eCaps, unMchs, unWrds, unFnds, unRatios, unWays, F.lt, F.le, cond_true, cond_false, Bool.and_true, Bool.true_and, F.cutP]
  cases h : F.hasP s p
  · rfl
  · have hl := F.hasP_le h
    simp only [ble_t hl, ble_t (Nat.le_refl _), cond_true, cond_false, Bool.and_self, Bool.not_true]

noncomputable def enCuPo : Env := envH ty noG lks [oCuPi] [] [] []

theorem enCuPo_ok : EnvOK Tryz.prog enCuPo := by
  refine envH_ok lks_ok ty_ok ?_ ?_
  · simp only [List.forall_mem_cons]
    exact ⟨okCuPi, by simp⟩
  · simp

theorem evCuPo (s : ByteArray) (p : ByteArray) : (runF enCuPo false Tryz.f40 [vS s, vS p]).val =
  Option.bind (unenc encCuPi [(vS s), (vS p)]) fun (z : ByteArray × ByteArray) => bif F.small z.fst && decide (ByteArray.size z.snd ≤ (100 : Nat)) then some (AV.tup [(vS
  (F.cutP z.fst z.snd).fst), (vB (F.cutP z.fst z.snd).snd)], []) else none := (runFR_val).symm.trans (by kernel_rfl)

def encCuPo1 (s : ByteArray) (p : ByteArray) : List AV := [vS s, vS p]

def encCuPo (a : ByteArray × ByteArray) : List AV := encCuPo1 a.1 a.2

theorem encCuPo_inj (a a' : ByteArray × ByteArray) (h : encCuPo a = encCuPo a') : a = a' := by
  simp only [encCuPo, encCuPo1] at h
  try simp [strs_inj, ints_inj, bools_inj, eL_eIs_inj, eCaps_inj, eCap_iff, eL_eCaps_inj, eMchs_inj, eMch_iff, eWrds_inj, eWrd_iff, eFnds_inj, eFnd_iff, eRatios_inj, eRatio_iff, eWays_inj, eWay_iff] at h
  grind

theorem unCuPo (s : ByteArray) (p : ByteArray) : unenc encCuPo ([(vS s), (vS p)]) = some (s, p) := unenc_of encCuPo_inj (s, p) rfl

def resCuPo1 (s : ByteArray) (p : ByteArray) : AV × Heap := (.tup [vS (F.cutP s p).1, vB (F.cutP s p).2], [])

def preCuPo1 (s : ByteArray) (p : ByteArray) : Bool := F.small s && decide (p.size ≤ 100)

noncomputable def oCuPo : Orc := orc 40 true encCuPo (fun a => preCuPo1 a.1 a.2) fun a => resCuPo1 a.1 a.2

theorem okCuPo : OrcOK Tryz.prog noG oCuPo := by
  refine mk_ok Tryz.f40 (keep := false) (by kernel_rfl) (by kernel_rfl) enCuPo_ok mixed (no_loops (by kernel_rfl)) (by first | exact fun _ _ => ⟨rfl, rfl⟩ | (intro h; cases h)) ?_
  rintro ⟨s, p⟩ hpre hok
  show (runF enCuPo false _ (encCuPo1 _ _)).val = some (resCuPo1 _ _)
  unfold encCuPo1 resCuPo1
  rw [evCuPo]
  simp only [preCuPo1] at hpre
  simp only [unCuPi, preCuPi1, etaCap, etaMch, etaWrd, etaFnd, etaRatio, etaWay, Option.bind_some, List.length_map, unStrs, unInts, unBools, uneL_eIs, unCaps, uneL_eCaps, unMchs, unWrds, unFnds, unRatios, unWays, F.lt, F.le, cond_true, cond_false, Bool.and_true, Bool.true_and, hpre]

def stRDg (s : ByteArray) (most : Int) (n : Int) (k : Nat) : St := ⟨[(16, vI k), (15, vI s.size), (8, vI n), (2, vI most), (0, vS s)], []⟩

def stRDg1 (a : ByteArray × Int × Int × Nat) : St := stRDg a.1 a.2.1 a.2.2.1 a.2.2.2

theorem stRDg_inj (a a' : ByteArray × Int × Int × Nat) (h : stRDg1 a = stRDg1 a') : a = a' := by
  simp only [stRDg1, stRDg] at h
  try simp [strs_inj, ints_inj, bools_inj, eL_eIs_inj, eCaps_inj, eCap_iff, eL_eCaps_inj, eMchs_inj, eMch_iff, eWrds_inj, eWrd_iff, eFnds_inj, eFnd_iff, eRatios_inj, eRatio_iff, eWays_inj, eWay_iff] at h
  grind

theorem unstRDg (s : ByteArray) (most : Int) (n : Int) (k : Nat) : unenc stRDg1 (St.mk [(16, (vI (↑k : Int))), (15, (vI (↑(ByteArray.size s) : Int))), (8, (vI n)), (2, (vI most)), (0, (vS s))] []) = some (s, most, n, k) := unenc_of stRDg_inj (s, most, n, k) rfl

theorem unstRDg0 (s : ByteArray) (most : Int)  : unenc stRDg1 (St.mk [(16, (vI (0 : Int))), (15, (vI (↑(ByteArray.size s) : Int))), (8, (vI (0 : Int))), (2, (vI most)), (0, (vS s))] []) = some (s, most, 0, 0) := unenc_of stRDg_inj (s, most, 0, 0) rfl

def outRDg (s : ByteArray) (most : Int) (n : Int) (k : Nat) : T (Ex × St) := .ifB (F.found (F.numL ((F.bs s).drop k) n)) (.ret (.exit 0, ⟨[(8, vI (F.got (F.numL ((F.bs s).drop k) n) 0)), (2, vI most)], []⟩)) (.ret (.ret, ⟨[(7, vB false), (6, vI 0)], []⟩))

noncomputable def prlRDg (s : ByteArray) (most : Int) (n : Int) (k : Nat) : Bool := decide (s.size ≤ 9) && decide (k ≤ s.size) && decide (0 ≤ n) && decide (n + 1 ≤ 10 ^ k)

noncomputable def lpRDg : Nat × (St → T (Ex × St)) := (5, lpo [16, 15, 8, 2, 0] [] stRDg1 (fun a => prlRDg a.1 a.2.1 a.2.2.1 a.2.2.2) fun a => outRDg a.1 a.2.1 a.2.2.1 a.2.2.2)

noncomputable def enRDg : Env := envH ty noG lks [] [] [] [lpRDg]

theorem enRDg_ok : EnvOK Tryz.prog enRDg := by
  refine envH_ok lks_ok ty_ok ?_ ?_
  · simp
  · simp

theorem evRDgL (s : ByteArray) (most : Int) (n : Int) (k : Nat) : ((exec enRDg (loopN Tryz.f67 0) (stRDg s most n k)).bind (lessX ([16, 15, 8, 2, 0], []) ([8, 2], []) ([7, 6], []))).val =
  bif decide ((↑k : Int) < (↑(ByteArray.size s) : Int)) then Option.bind s[k]? fun (z : UInt8) => bif !decide ((↑(UInt8.toNat z) : Int) < (48 : Int)) then Option.bind s[k]?
  fun (z : UInt8) => bif decide ((57 : Int) < (↑(UInt8.toNat z) : Int)) then some (Ex.ret, St.mk [(7, (vB false)), (6, (vI (0 : Int)))] []) else Option.bind s[k]? fun (z :
  UInt8) => some (Ex.normal, St.mk [(16, (vI (IntKind.wrap IntKind.i64 ((↑k : Int) + (1 : Int))))), (15, (vI (↑(ByteArray.size s) : Int))), (8, (vI (IntKind.wrap IntKind.i64
  (IntKind.wrap IntKind.i64 ((10 : Int) * n) + IntKind.wrap IntKind.i64 (IntKind.wrap IntKind.u8 ((↑(UInt8.toNat z) : Int) - (48 : Int))))))), (2, (vI most)), (0, (vS s))]
  []) else some (Ex.ret, St.mk [(7, (vB false)), (6, (vI (0 : Int)))] []) else some (Ex.exit (0 : Nat), St.mk [(8, (vI n)), (2, (vI most))] []) := (execR_bind _ _ _).symm.trans (by kernel_rfl)

theorem lpRDg_ok (s : ByteArray) (most : Int) (n : Int) (k : Nat) (hp : prlRDg s most n k = true) : ∀ ex s', (outRDg s most n k).val = some (ex, s') → LoopOK enRDg (loopN Tryz.f67 0) (stRDg s most n k) ex s' := by
  simp only [prlRDg, Bool.and_eq_true, decide_eq_true_eq] at hp
  obtain ⟨⟨⟨h1, h2⟩, h3⟩, h4⟩ := hp
  refine loop_gen (st := fun a : Int × Nat => stRDg s most a.1 a.2) (out := fun a => outRDg s most a.1 a.2) (I := fun a => a.2 ≤ s.size ∧ 0 ≤ a.1 ∧ a.1 + 1 ≤ 10 ^ a.2) (n := ([16, 15, 8, 2, 0], [])) (e := ([8, 2], [])) (r := ([7, 6], [])) (fun a => s.size - a.2) ?_ (n, k) ⟨h2, h3, h4⟩
  rintro ⟨n, k⟩ ⟨i1, i2, i3⟩
  simp only at i1 i2 i3
  by_cases hk : k < s.size
  · have hb : k < (F.bs s).length := by rw [F.bs_len]; exact hk
    have hy : (F.bs s)[k]? = some (F.bs s)[k] := List.getElem?_eq_getElem hb
    generalize (F.bs s)[k] = y at hy
    have hd := drop_q hy
    have hpw : (10 : Int) ^ (k + 1) = 10 * 10 ^ k := by rw [Int.pow_succ, Int.mul_comm]
    have hle : (10 : Int) ^ k ≤ 10 ^ 8 := by
      have : k ≤ 8 := by omega
      exact_mod_cast Nat.pow_le_pow_right (by omega) this
    cases hc : F.digB y
    · left
      refine ⟨(.ret, ⟨[(7, vB false), (6, vI 0)], []⟩), ?_, ?_, by simp, rfl⟩
      · rw [evRDgL]
        rw [F.bs_get, hy]
        simp only [unstRDg, unstRDg0, prlRDg, outRDg, etaCap, etaMch, etaWrd, etaFnd, etaRatio, etaWay, Option.bind_some, List.length_map, unStrs, unInts, unBools, uneL_eIs, unCaps, uneL_eCaps, unMchs, unWrds, unFnds, unRatios, unWays, F.lt, F.le, cond_true, cond_false, Bool.and_true, Bool.true_and, cast_lt hk, next_at hk (show s.size ≤ 9223372036854775807 by omega)]
        rcases F.digB_f hc with h | h
        · rw [decide_eq_true h]; rfl
        · rw [decide_eq_false (show ¬ (y.toNat : Int) < 48 by omega), decide_eq_true h]; rfl
      · simp only [outRDg, hd, F.numL, hc, cond_false, F.found]
        rfl
    · right
      refine ⟨(10 * n + ((y.toNat : Int) - 48), k + 1), ?_, rfl, ⟨hk, ?_, ?_⟩, by simp only; omega, ?_⟩
      · rw [evRDgL]
        rw [F.bs_get, hy]
        simp only [unstRDg, unstRDg0, prlRDg, outRDg, etaCap, etaMch, etaWrd, etaFnd, etaRatio, etaWay, Option.bind_some, List.length_map, unStrs, unInts, unBools, uneL_eIs, unCaps, uneL_eCaps, unMchs, unWrds, unFnds, unRatios, unWays, F.lt, F.le, cond_true, cond_false, Bool.and_true, Bool.true_and, cast_lt hk, next_at hk (show s.size ≤ 9223372036854775807 by omega)]
        obtain ⟨g1, g2⟩ := F.digB_t hc
        have hle : (10 : Int) ^ k ≤ 100000000 := hle
        rw [decide_eq_false (show ¬ (y.toNat : Int) < 48 by omega), decide_eq_false (show ¬ 57 < (y.toNat : Int) by omega), wrapU (by omega) (by omega), wrap_id (n := 10 * n) (by omega) (by omega), wrap_id (n := (y.toNat : Int) - 48) (by omega) (by omega), wrap_id (by omega) (by omega)]
        rfl
      · obtain ⟨g1, g2⟩ := F.digB_t hc
        simp only; omega
      · obtain ⟨g1, g2⟩ := F.digB_t hc
        simp only [hpw]; omega
      · simp only [outRDg, hd, F.numL, hc, cond_true]
  · have : k = s.size := by omega
    subst this
    left
    refine ⟨(.exit 0, ⟨[(8, vI n), (2, vI most)], []⟩), ?_, ?_, by simp, rfl⟩
    · rw [evRDgL]; simp
    · simp [outRDg, F.numL, F.found, F.got, T.val, ← F.bs_len]

theorem evRDg (s : ByteArray) (many : Int) (most : Int) : (runF enRDg false Tryz.f67 [vS s, vI many, vI most]).val =
  bif (↑(ByteArray.size s) : Int) != many then some (AV.tup [(vI (0 : Int)), (vB false)], []) else Option.bind (unenc stRDg1 (St.mk [(16, (vI (0 : Int))), (15, (vI
  (↑(ByteArray.size s) : Int))), (8, (vI (0 : Int))), (2, (vI most)), (0, (vS s))] [])) fun (z : ByteArray × Int × Int × Nat) => bif decide (ByteArray.size z.fst ≤ (9 :
  Nat)) && decide (z.snd.snd.snd ≤ ByteArray.size z.fst) && decide ((0 : Int) ≤ z.snd.snd.fst) && decide (z.snd.snd.fst + (1 : Int) ≤ (10 : Int) ^ z.snd.snd.snd) && true
  then bif F.found (F.numL (List.drop z.snd.snd.snd (F.bs z.fst)) z.snd.snd.fst) then some (AV.tup [(vI (F.got (F.numL (List.drop z.snd.snd.snd (F.bs z.fst)) z.snd.snd.fst)
  (0 : Int))), (vB (decide (F.got (F.numL (List.drop z.snd.snd.snd (F.bs z.fst)) z.snd.snd.fst) (0 : Int) ≤ z.snd.fst)))], []) else some (AV.tup [(vI (0 : Int)), (vB
  false)], []) else none := (runFR_val).symm.trans (by kernel_rfl)

def encRDg1 (s : ByteArray) (many : Int) (most : Int) : List AV := [vS s, vI many, vI most]

def encRDg (a : ByteArray × Int × Int) : List AV := encRDg1 a.1 a.2.1 a.2.2

theorem encRDg_inj (a a' : ByteArray × Int × Int) (h : encRDg a = encRDg a') : a = a' := by
  simp only [encRDg, encRDg1] at h
  try simp [strs_inj, ints_inj, bools_inj, eL_eIs_inj, eCaps_inj, eCap_iff, eL_eCaps_inj, eMchs_inj, eMch_iff, eWrds_inj, eWrd_iff, eFnds_inj, eFnd_iff, eRatios_inj, eRatio_iff, eWays_inj, eWay_iff] at h
  grind

theorem unRDg (s : ByteArray) (many : Int) (most : Int) : unenc encRDg ([(vS s), (vI many), (vI most)]) = some (s, many, most) := unenc_of encRDg_inj (s, many, most) rfl

def resRDg1 (s : ByteArray) (many : Int) (most : Int) : AV × Heap := (.tup [vI (F.dgs s many most).1, vB (F.dgs s many most).2], [])

def preRDg1 (s : ByteArray) (many : Int) (most : Int) : Bool := F.le 0 many && F.le many 9

noncomputable def oRDg : Orc := orc 67 true encRDg (fun a => preRDg1 a.1 a.2.1 a.2.2) fun a => resRDg1 a.1 a.2.1 a.2.2

theorem okRDg : OrcOK Tryz.prog noG oRDg := by
  refine mk_ok Tryz.f67 (keep := false) (by kernel_rfl) (by kernel_rfl) enRDg_ok mixed (one_loop (x0 := loopN Tryz.f67 0) (by kernel_rfl) (lpo_ok ?_)) (by first | exact fun _ _ => ⟨rfl, rfl⟩ | (intro h; cases h)) ?_
  · rintro ⟨s, most, n, k⟩ hp
    exact lpRDg_ok s most n k hp
  rintro ⟨s, many, most⟩ hpre hok
  show (runF enRDg false _ (encRDg1 _ _ _)).val = some (resRDg1 _ _ _)
  unfold encRDg1 resRDg1
  rw [evRDg]
  simp only [preRDg1, F.le, Bool.and_eq_true, decide_eq_true_eq] at hpre
  simp only [unstRDg, unstRDg0, prlRDg, outRDg, etaCap, etaMch, etaWrd, etaFnd, etaRatio, etaWay, Option.bind_some, List.length_map, unStrs, unInts, unBools, uneL_eIs, unCaps, uneL_eCaps, unMchs, unWrds, unFnds, unRatios, unWays, F.lt, F.le, cond_true, cond_false, Bool.and_true, Bool.true_and, F.dgs, List.drop_zero, Nat.zero_le, decide_true]
  by_cases h : (s.size : Int) = many
  · have e : ((s.size : Int) != many) = false := by simp [h]
    have e2 : decide (s.size ≤ 9) = true := decide_eq_true (by omega)
    have e3 : decide ((0 : Int) + 1 ≤ 10 ^ 0) = true := rfl
    have e4 : decide ((0 : Int) ≤ 0) = true := rfl
    simp only [e, e2, e3, e4, cond_false, cond_true, Bool.and_self, Bool.false_or]
    cases F.found (F.numL (F.bs s) 0) <;> rfl
  · have e : ((s.size : Int) != many) = true := by simp [h]
    simp only [e, cond_true, Bool.true_or]

end M
end Go.Proofs.YthcfbeckhgngiaaGreatDoor
