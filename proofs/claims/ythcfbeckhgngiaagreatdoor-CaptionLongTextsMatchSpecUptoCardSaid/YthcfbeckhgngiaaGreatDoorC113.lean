/- What is proved here: what the small readers of strings return on plain data (no statement of the seat). -/
import Derived.Test.YthcfbeckhgngiaaGreatDoorC112
import Derived.Test.YthcfbeckhgngiaaGreatDoorM9
import Derived.Test.YthcfbeckhgngiaaGreatDoorM10
namespace Go.Proofs.YthcfbeckhgngiaaGreatDoor
open Go Go.RowKit
set_option linter.unusedVariables false
set_option linter.unusedSimpArgs false

theorem F.ge1 (n : Nat) : decide ((1 : Int) ≤ (n : Int)) = decide (1 ≤ n) := by
  by_cases h : 1 ≤ n
  · rw [decide_eq_true h, decide_eq_true (by omega)]
  · rw [decide_eq_false h, decide_eq_false (by omega)]

theorem F.le9 (n : Nat) : decide ((n : Int) ≤ 9) = decide (n ≤ 9) := by
  by_cases h : n ≤ 9
  · rw [decide_eq_true h, decide_eq_true (by omega)]
  · rw [decide_eq_false h, decide_eq_false (by omega)]

namespace M

theorem wrapU {n : Int} (h1 : 0 ≤ n) (h2 : n ≤ 255) : IntKind.u8.wrap n = n := by
  simp only [IntKind.wrap, IntKind.signed, IntKind.bits]
  simp
  omega

theorem evIsD (b : Int) : (runF en0 false Tryz.f85 [vU b]).val =
  some ((vB (bif decide ((48 : Int) ≤ b) then decide (b ≤ (57 : Int)) else false)), []) := (runFR_val).symm.trans (by kernel_rfl)

def encIsD1 (b : Int) : List AV := [vU b]

def encIsD (a : Int) : List AV := encIsD1 a

theorem encIsD_inj (a a' : Int) (h : encIsD a = encIsD a') : a = a' := by
  simp only [encIsD, encIsD1] at h
  try simp [strs_inj, ints_inj, bools_inj, eL_eIs_inj, eCaps_inj, eCap_iff, eL_eCaps_inj, eMchs_inj, eMch_iff, eWrds_inj, eWrd_iff, eFnds_inj, eFnd_iff, eRatios_inj, eRatio_iff, eWays_inj, eWay_iff] at h
  grind

theorem unIsD (b : Int) : unenc encIsD ([(vU b)]) = some (b) := unenc_of encIsD_inj (b) rfl

def resIsD1 (b : Int) : AV × Heap := (vB (F.digit b), [])

def preIsD1 (b : Int) : Bool := true

noncomputable def oIsD : Orc := orc 85 true encIsD (fun a => preIsD1 a) fun a => resIsD1 a

theorem okIsD : OrcOK Tryz.prog noG oIsD := by
  refine mk_ok Tryz.f85 (keep := false) (by kernel_rfl) (by kernel_rfl) en0_ok mixed (no_loops (by kernel_rfl)) (by first | exact fun _ _ => ⟨rfl, rfl⟩ | (intro h; cases h)) ?_
  rintro b hpre hok
  show (runF en0 false _ (encIsD1 _)).val = some (resIsD1 _)
  unfold encIsD1 resIsD1
  rw [evIsD]
  unfold F.digit
  cases decide (48 ≤ b) <;> rfl

def stDig (s : ByteArray) (k : Nat) : St := ⟨[(6, vI k), (5, vI s.size), (0, vS s)], []⟩

def stDig1 (a : ByteArray × Nat) : St := stDig a.1 a.2

theorem stDig_inj (a a' : ByteArray × Nat) (h : stDig1 a = stDig1 a') : a = a' := by
  simp only [stDig1, stDig] at h
  try simp [strs_inj, ints_inj, bools_inj, eL_eIs_inj, eCaps_inj, eCap_iff, eL_eCaps_inj, eMchs_inj, eMch_iff, eWrds_inj, eWrd_iff, eFnds_inj, eFnd_iff, eRatios_inj, eRatio_iff, eWays_inj, eWay_iff] at h
  grind

theorem unstDig (s : ByteArray) (k : Nat) : unenc stDig1 (St.mk [(6, (vI (↑k : Int))), (5, (vI (↑(ByteArray.size s) : Int))), (0, (vS s))] []) = some (s, k) := unenc_of stDig_inj (s, k) rfl

theorem unstDig0 (s : ByteArray)  : unenc stDig1 (St.mk [(6, (vI (0 : Int))), (5, (vI (↑(ByteArray.size s) : Int))), (0, (vS s))] []) = some (s, 0) := unenc_of stDig_inj (s, 0) rfl

def outDig (s : ByteArray) (k : Nat) : T (Ex × St) := .ifB (((F.bs s).drop k).all F.digB) (.ret (.exit 0, ⟨[(0, vS s)], []⟩)) (.ret (.ret, ⟨[(2, vB false)], []⟩))

noncomputable def prlDig (s : ByteArray) (k : Nat) : Bool := decide (s.size ≤ 9223372036854775807) && decide (k ≤ s.size)

noncomputable def lpDig : Nat × (St → T (Ex × St)) := (2, lpo [6, 5, 0] [] stDig1 (fun a => prlDig a.1 a.2) fun a => outDig a.1 a.2)

noncomputable def enDig : Env := envH ty noG lks [oIsD] [] [] [lpDig]

theorem enDig_ok : EnvOK Tryz.prog enDig := by
  refine envH_ok lks_ok ty_ok ?_ ?_
  · simp only [List.forall_mem_cons]
    exact ⟨okIsD, by simp⟩
  · simp

theorem evDigL (s : ByteArray) (k : Nat) : ((exec enDig (loopN Tryz.f65 0) (stDig s k)).bind (lessX ([6, 5, 0], []) ([0], []) ([2], []))).val =
  bif decide ((↑k : Int) < (↑(ByteArray.size s) : Int)) then Option.bind s[k]? fun (z : UInt8) => Option.bind (unenc encIsD [(vU (↑(UInt8.toNat z) : Int))]) fun (z : Int) =>
  bif !F.digit z then some (Ex.ret, St.mk [(2, (vB false))] []) else some (Ex.normal, St.mk [(6, (vI (IntKind.wrap IntKind.i64 ((↑k : Int) + (1 : Int))))), (5, (vI
  (↑(ByteArray.size s) : Int))), (0, (vS s))] []) else some (Ex.exit (0 : Nat), St.mk [(0, (vS s))] []) := (execR_bind _ _ _).symm.trans (by kernel_rfl)

theorem lpDig_ok (s : ByteArray) (k : Nat) (hp : prlDig s k = true) : ∀ ex s', (outDig s k).val = some (ex, s') → LoopOK enDig (loopN Tryz.f65 0) (stDig s k) ex s' := by
  simp only [prlDig, Bool.and_eq_true, decide_eq_true_eq] at hp
  refine loop_all (xs := F.bs s) (st := stDig s) (p := F.digB) (n := ([6, 5, 0], [])) (e := ([0], [])) (r := ([2], [])) ?_ ⟨by simp, rfl⟩ ⟨by simp, rfl⟩ (fun _ => rfl) ?_ k (by rw [F.bs_len]; exact hp.2)
  · rw [evDigL]; rw [F.bs_len]; simp
  · intro k y hy
    have hk : k < s.size := by rw [← F.bs_len]; exact lt_at hy
    rw [evDigL]
    rw [F.bs_get, hy]
    simp only [unIsD, preIsD1, unstDig, unstDig0, prlDig, outDig, etaCap, etaMch, etaWrd, etaFnd, etaRatio, etaWay, Option.bind_some, List.length_map, unStrs, unInts, unBools, uneL_eIs, unCaps, uneL_eCaps, unMchs, unWrds, unFnds, unRatios, unWays, F.lt, F.le, cond_true, cond_false, Bool.and_true, Bool.true_and, cast_lt hk, next_at hk hp.1, F.digB, stDig]
    cases F.digit (y.toNat : Int) <;> rfl

theorem evDig (s : ByteArray) : (runF enDig false Tryz.f65 [vS s]).val =
  Option.bind (unenc stDig1 (St.mk [(6, (vI (0 : Int))), (5, (vI (↑(ByteArray.size s) : Int))), (0, (vS s))] [])) fun (z : ByteArray × Nat) => bif decide (ByteArray.size
  z.fst ≤ (9223372036854775807 : Nat)) && decide (z.snd ≤ ByteArray.size z.fst) && true then bif List.all (List.drop z.snd (F.bs z.fst)) F.digB then some ((vB (bif decide
  ((1 : Int) ≤ (↑(ByteArray.size z.fst) : Int)) then decide ((↑(ByteArray.size z.fst) : Int) ≤ (9 : Int)) else false)), []) else some ((vB false), []) else none := (runFR_val).symm.trans (by kernel_rfl)

def encDig1 (s : ByteArray) : List AV := [vS s]

def encDig (a : ByteArray) : List AV := encDig1 a

theorem encDig_inj (a a' : ByteArray) (h : encDig a = encDig a') : a = a' := by
  simp only [encDig, encDig1] at h
  try simp [strs_inj, ints_inj, bools_inj, eL_eIs_inj, eCaps_inj, eCap_iff, eL_eCaps_inj, eMchs_inj, eMch_iff, eWrds_inj, eWrd_iff, eFnds_inj, eFnd_iff, eRatios_inj, eRatio_iff, eWays_inj, eWay_iff] at h
  grind

theorem unDig (s : ByteArray) : unenc encDig ([(vS s)]) = some (s) := unenc_of encDig_inj (s) rfl

def resDig1 (s : ByteArray) : AV × Heap := (vB (F.isNum s), [])

def preDig1 (s : ByteArray) : Bool := F.small s

noncomputable def oDig : Orc := orc 65 true encDig (fun a => preDig1 a) fun a => resDig1 a

theorem okDig : OrcOK Tryz.prog noG oDig := by
  refine mk_ok Tryz.f65 (keep := false) (by kernel_rfl) (by kernel_rfl) enDig_ok mixed (one_loop (x0 := loopN Tryz.f65 0) (by kernel_rfl) (lpo_ok ?_)) (by first | exact fun _ _ => ⟨rfl, rfl⟩ | (intro h; cases h)) ?_
  · rintro ⟨s, k⟩ hp
    exact lpDig_ok s k hp
  rintro s hpre hok
  show (runF enDig false _ (encDig1 _)).val = some (resDig1 _)
  unfold encDig1 resDig1
  rw [evDig]
  simp only [preDig1, F.small, decide_eq_true_eq] at hpre
  have hs : s.size ≤ 9223372036854775807 := by omega
  simp only [unIsD, preIsD1, unstDig, unstDig0, prlDig, outDig, etaCap, etaMch, etaWrd, etaFnd, etaRatio, etaWay, Option.bind_some, List.length_map, unStrs, unInts, unBools, uneL_eIs, unCaps, uneL_eCaps, unMchs, unWrds, unFnds, unRatios, unWays, F.lt, F.le, cond_true, cond_false, Bool.and_true, Bool.true_and, hs, F.isNum, List.drop_zero, Nat.zero_le, decide_true, F.ge1, F.le9]
  cases (F.bs s).all F.digB <;> cases decide (1 ≤ s.size) <;> cases decide (s.size ≤ 9) <;> rfl

def stRNu (s : ByteArray) (k : Nat) : St := ⟨[(14, vI k), (13, vI s.size), (0, vS s)], []⟩

def stRNu1 (a : ByteArray × Nat) : St := stRNu a.1 a.2

theorem stRNu_inj (a a' : ByteArray × Nat) (h : stRNu1 a = stRNu1 a') : a = a' := by
  simp only [stRNu1, stRNu] at h
  try simp [strs_inj, ints_inj, bools_inj, eL_eIs_inj, eCaps_inj, eCap_iff, eL_eCaps_inj, eMchs_inj, eMch_iff, eWrds_inj, eWrd_iff, eFnds_inj, eFnd_iff, eRatios_inj, eRatio_iff, eWays_inj, eWay_iff] at h
  grind

theorem unstRNu (s : ByteArray) (k : Nat) : unenc stRNu1 (St.mk [(14, (vI (↑k : Int))), (13, (vI (↑(ByteArray.size s) : Int))), (0, (vS s))] []) = some (s, k) := unenc_of stRNu_inj (s, k) rfl

theorem unstRNu0 (s : ByteArray)  : unenc stRNu1 (St.mk [(14, (vI (0 : Int))), (13, (vI (↑(ByteArray.size s) : Int))), (0, (vS s))] []) = some (s, 0) := unenc_of stRNu_inj (s, 0) rfl

def outRNu (s : ByteArray) (k : Nat) : T (Ex × St) := .ifB (((F.bs s).drop k).all F.digB) (.ret (.exit 0, ⟨[], []⟩)) (.ret (.ret, ⟨[(2, vB false)], []⟩))

noncomputable def prlRNu (s : ByteArray) (k : Nat) : Bool := decide (s.size ≤ 9223372036854775807) && decide (k ≤ s.size)

noncomputable def lpRNu : Nat × (St → T (Ex × St)) := (4, lpo [14, 13, 0] [] stRNu1 (fun a => prlRNu a.1 a.2) fun a => outRNu a.1 a.2)

noncomputable def enRNu : Env := envH ty noG lks [] [] [] [lpRNu]

theorem enRNu_ok : EnvOK Tryz.prog enRNu := by
  refine envH_ok lks_ok ty_ok ?_ ?_
  · simp
  · simp

theorem evRNuL (s : ByteArray) (k : Nat) : ((exec enRNu (loopN Tryz.f42 0) (stRNu s k)).bind (lessX ([14, 13, 0], []) ([], []) ([2], []))).val =
  bif decide ((↑k : Int) < (↑(ByteArray.size s) : Int)) then Option.bind s[k]? fun (z : UInt8) => bif !decide ((↑(UInt8.toNat z) : Int) < (48 : Int)) then Option.bind s[k]?
  fun (z : UInt8) => bif decide ((57 : Int) < (↑(UInt8.toNat z) : Int)) then some (Ex.ret, St.mk [(2, (vB false))] []) else some (Ex.normal, St.mk [(14, (vI (IntKind.wrap
  IntKind.i64 ((↑k : Int) + (1 : Int))))), (13, (vI (↑(ByteArray.size s) : Int))), (0, (vS s))] []) else some (Ex.ret, St.mk [(2, (vB false))] []) else some (Ex.exit (0 :
  Nat), St.mk [] []) := (execR_bind _ _ _).symm.trans (by kernel_rfl)

theorem lpRNu_ok (s : ByteArray) (k : Nat) (hp : prlRNu s k = true) : ∀ ex s', (outRNu s k).val = some (ex, s') → LoopOK enRNu (loopN Tryz.f42 0) (stRNu s k) ex s' := by
  simp only [prlRNu, Bool.and_eq_true, decide_eq_true_eq] at hp
  refine loop_all (xs := F.bs s) (st := stRNu s) (p := F.digB) (n := ([14, 13, 0], [])) (e := ([], [])) (r := ([2], [])) ?_ ⟨by simp, rfl⟩ ⟨by simp, rfl⟩ (fun _ => rfl) ?_ k (by rw [F.bs_len]; exact hp.2)
  · rw [evRNuL]; rw [F.bs_len]; simp
  · intro k y hy
    have hk : k < s.size := by rw [← F.bs_len]; exact lt_at hy
    rw [evRNuL]
    rw [F.bs_get, hy]
    simp only [unstRNu, unstRNu0, prlRNu, outRNu, etaCap, etaMch, etaWrd, etaFnd, etaRatio, etaWay, Option.bind_some, List.length_map, unStrs, unInts, unBools, uneL_eIs, unCaps, uneL_eCaps, unMchs, unWrds, unFnds, unRatios, unWays, F.lt, F.le, cond_true, cond_false, Bool.and_true, Bool.true_and, cast_lt hk, next_at hk hp.1, F.digB, F.digit, stRNu]
    by_cases h1 : (y.toNat : Int) < 48
    · rw [decide_eq_true h1, decide_eq_false (show ¬ (48 : Int) ≤ y.toNat by omega)]; rfl
    · rw [decide_eq_false h1, decide_eq_true (show (48 : Int) ≤ y.toNat by omega)]
      by_cases h2 : (57 : Int) < y.toNat
      · rw [decide_eq_true h2, decide_eq_false (show ¬ (y.toNat : Int) ≤ 57 by omega)]; rfl
      · rw [decide_eq_false h2, decide_eq_true (show (y.toNat : Int) ≤ 57 by omega)]; rfl

theorem evRNu (s : ByteArray) : (runF enRNu false Tryz.f42 [vS s]).val =
  bif bif decide ((↑(ByteArray.size s) : Int) < (1 : Int)) then true else decide ((9 : Int) < (↑(ByteArray.size s) : Int)) then some ((vB false), []) else Option.bind (unenc
  stRNu1 (St.mk [(14, (vI (0 : Int))), (13, (vI (↑(ByteArray.size s) : Int))), (0, (vS s))] [])) fun (z : ByteArray × Nat) => bif decide (ByteArray.size z.fst ≤
  (9223372036854775807 : Nat)) && decide (z.snd ≤ ByteArray.size z.fst) && true then bif List.all (List.drop z.snd (F.bs z.fst)) F.digB then some ((vB true), []) else some
  ((vB false), []) else none := (runFR_val).symm.trans (by kernel_rfl)

def encRNu1 (s : ByteArray) : List AV := [vS s]

def encRNu (a : ByteArray) : List AV := encRNu1 a

theorem encRNu_inj (a a' : ByteArray) (h : encRNu a = encRNu a') : a = a' := by
  simp only [encRNu, encRNu1] at h
  try simp [strs_inj, ints_inj, bools_inj, eL_eIs_inj, eCaps_inj, eCap_iff, eL_eCaps_inj, eMchs_inj, eMch_iff, eWrds_inj, eWrd_iff, eFnds_inj, eFnd_iff, eRatios_inj, eRatio_iff, eWays_inj, eWay_iff] at h
  grind

theorem unRNu (s : ByteArray) : unenc encRNu ([(vS s)]) = some (s) := unenc_of encRNu_inj (s) rfl

def resRNu1 (s : ByteArray) : AV × Heap := (vB (F.isNum s), [])

def preRNu1 (s : ByteArray) : Bool := F.small s

noncomputable def oRNu : Orc := orc 42 true encRNu (fun a => preRNu1 a) fun a => resRNu1 a

theorem okRNu : OrcOK Tryz.prog noG oRNu := by
  refine mk_ok Tryz.f42 (keep := false) (by kernel_rfl) (by kernel_rfl) enRNu_ok mixed (one_loop (x0 := loopN Tryz.f42 0) (by kernel_rfl) (lpo_ok ?_)) (by first | exact fun _ _ => ⟨rfl, rfl⟩ | (intro h; cases h)) ?_
  · rintro ⟨s, k⟩ hp
    exact lpRNu_ok s k hp
  rintro s hpre hok
  show (runF enRNu false _ (encRNu1 _)).val = some (resRNu1 _)
  unfold encRNu1 resRNu1
  rw [evRNu]
  simp only [preRNu1, F.small, decide_eq_true_eq] at hpre
  have hs : s.size ≤ 9223372036854775807 := by omega
  simp only [unstRNu, unstRNu0, prlRNu, outRNu, etaCap, etaMch, etaWrd, etaFnd, etaRatio, etaWay, Option.bind_some, List.length_map, unStrs, unInts, unBools, uneL_eIs, unCaps, uneL_eCaps, unMchs, unWrds, unFnds, unRatios, unWays, F.lt, F.le, cond_true, cond_false, Bool.and_true, Bool.true_and, hs, F.isNum, List.drop_zero, Nat.zero_le, decide_true]
  by_cases h1 : 1 ≤ s.size
  · rw [decide_eq_false (show ¬ (s.size : Int) < 1 by omega), decide_eq_true h1]
    by_cases h2 : s.size ≤ 9
    · rw [decide_eq_false (show ¬ (9 : Int) < s.size by omega), decide_eq_true h2]
      cases (F.bs s).all F.digB <;> rfl
    · rw [decide_eq_true (show (9 : Int) < s.size by omega), decide_eq_false h2]
      cases (F.bs s).all F.digB <;> rfl
  · rw [decide_eq_true (show (s.size : Int) < 1 by omega), decide_eq_false h1]
    cases (F.bs s).all F.digB <;> rfl


end M
end Go.Proofs.YthcfbeckhgngiaaGreatDoor
