/- What is proved here: what the checks of lines return on plain data, of the program and of the reference (no statement of the seat). -/
import Derived.Test.YthcfbeckhgngiaaGreatDoorC1
namespace Go.Proofs.YthcfbeckhgngiaaGreatDoor
open Go Go.RowKit
set_option linter.unusedVariables false
set_option linter.unusedSimpArgs false

def F.okB (b : UInt8) : Bool := !(decide ((b.toNat : Int) < 32) || decide ((b.toNat : Int) = 127))

def F.okL (l : List UInt8) : Bool := l.all F.okB

/-- A line but for its length. -/
def F.clean (s : ByteArray) : Bool := decide (s.size ≠ 0) && F.valid s && !F.hasP s ⟨⟨[32]⟩⟩ && !F.hasS s ⟨⟨[32]⟩⟩ && !F.cont s ⟨⟨[45, 45, 62]⟩⟩ && F.okL (F.bs s)

def F.line (s : ByteArray) : Bool := decide (s.size ≤ 200) && F.clean s

def F.small (s : ByteArray) : Bool := decide (s.size ≤ 4294967280)

theorem F.u8_32 (b : UInt8) : ((32 : UInt8) == b) = ((b.toNat : Int) == 32) := by
  by_cases h : b = 32
  · subst h; rfl
  · have h1 : ((32 : UInt8) == b) = false := by rw [beq_eq_false_iff_ne]; exact fun e => h e.symm
    have h2 : ((b.toNat : Int) == 32) = false := by
      rw [beq_eq_false_iff_ne]
      intro e
      exact h (UInt8.toNat_inj.1 (by have : b.toNat = 32 := by omega
                                     rw [this]; rfl))
    rw [h1, h2]

theorem F.hasP1 {s : ByteArray} {b : UInt8} (h : (F.bs s)[0]? = some b) : F.hasP s ⟨⟨[32]⟩⟩ = ((b.toNat : Int) == 32) := by
  unfold F.hasP Lib.hasPrefix
  cases hb : F.bs s with
  | nil => rw [hb] at h; cases h
  | cons x l =>
    rw [hb] at h
    simp only [List.getElem?_cons_zero, Option.some.injEq] at h
    subst h
    have : F.bs ⟨⟨[32]⟩⟩ = [32] := rfl
    rw [this]
    simp only [List.isPrefixOf, Bool.and_true]
    exact F.u8_32 x

theorem F.hasS1 {s : ByteArray} {c : UInt8} (h : (F.bs s)[s.size - 1]? = some c) : F.hasS s ⟨⟨[32]⟩⟩ = ((c.toNat : Int) == 32) := by
  unfold F.hasS Lib.hasSuffix List.isSuffixOf
  have hl := F.bs_len s
  have hr : (F.bs s).reverse[0]? = some c := by
    rw [List.getElem?_reverse (by have := M.lt_at h; omega)]
    rw [show (F.bs s).length - 1 - 0 = s.size - 1 by omega]
    exact h
  cases hb : (F.bs s).reverse with
  | nil => rw [hb] at hr; cases hr
  | cons x l =>
    rw [hb] at hr
    simp only [List.getElem?_cons_zero, Option.some.injEq] at hr
    subst hr
    have : (F.bs ⟨⟨[32]⟩⟩).reverse = [32] := rfl
    rw [this]
    simp only [List.isPrefixOf, Bool.and_true]
    exact F.u8_32 x

theorem F.int_le (a : Nat) : decide ((a : Int) ≤ 200) = decide (a ≤ 200) := by
  by_cases h : a ≤ 200
  · rw [decide_eq_true h, decide_eq_true (by omega)]
  · rw [decide_eq_false h, decide_eq_false (by omega)]

namespace M

theorem dec_beq (a b : Int) : decide (a = b) = (a == b) := by by_cases h : a = b <;> simp [h]

def stCle (s : ByteArray) (k : Nat) : St := ⟨[(25, vI k), (24, vI s.size), (0, vS s)], []⟩

def stCle1 (a : ByteArray × Nat) : St := stCle a.1 a.2

theorem stCle_inj (a a' : ByteArray × Nat) (h : stCle1 a = stCle1 a') : a = a' := by
  simp only [stCle1, stCle] at h
  try simp [strs_inj, ints_inj, bools_inj, eL_eIs_inj, eCaps_inj, eCap_iff, eL_eCaps_inj, eMchs_inj, eMch_iff, eWrds_inj, eWrd_iff, eFnds_inj, eFnd_iff, eRatios_inj, eRatio_iff, eWays_inj, eWay_iff] at h
  grind

theorem unstCle (s : ByteArray) (k : Nat) : unenc stCle1 (St.mk [(25, (vI (↑k : Int))), (24, (vI (↑(ByteArray.size s) : Int))), (0, (vS s))] []) = some (s, k) := unenc_of stCle_inj (s, k) rfl

theorem unstCle0 (s : ByteArray)  : unenc stCle1 (St.mk [(25, (vI (0 : Int))), (24, (vI (↑(ByteArray.size s) : Int))), (0, (vS s))] []) = some (s, 0) := unenc_of stCle_inj (s, 0) rfl

def outCle (s : ByteArray) (k : Nat) : T (Ex × St) := .ifB (F.okL ((F.bs s).drop k)) (.ret (.exit 0, ⟨[], []⟩)) (.ret (.ret, ⟨[(2, vB false)], []⟩))

noncomputable def prlCle (s : ByteArray) (k : Nat) : Bool := decide (s.size ≤ 9223372036854775807) && decide (k ≤ s.size)

noncomputable def lpCle : Nat × (St → T (Ex × St)) := (4, lpo [25, 24, 0] [] stCle1 (fun a => prlCle a.1 a.2) fun a => outCle a.1 a.2)

noncomputable def enCle : Env := envH ty noG lks [oVal, oHsP, oHsS, oCnt] [] [] [lpCle]

theorem enCle_ok : EnvOK Tryz.prog enCle := by
  refine envH_ok lks_ok ty_ok ?_ ?_
  · simp only [List.forall_mem_cons]
    exact ⟨okVal, okHsP, okHsS, okCnt, by simp⟩
  · simp

theorem evCleL (s : ByteArray) (k : Nat) : ((exec enCle (loopN Tryz.f51 0) (stCle s k)).bind (lessX ([25, 24, 0], []) ([], []) ([2], []))).val =
  bif decide ((↑k : Int) < (↑(ByteArray.size s) : Int)) then Option.bind s[k]? fun (z : UInt8) => bif !decide ((↑(UInt8.toNat z) : Int) < (32 : Int)) then Option.bind s[k]?
  fun (z_1 : UInt8) => bif bif decide ((↑(UInt8.toNat z) : Int) < (32 : Int)) then true else (↑(UInt8.toNat z_1) : Int) == (127 : Int) then some (Ex.ret, St.mk [(2, (vB
  false))] []) else some (Ex.normal, St.mk [(25, (vI (IntKind.wrap IntKind.i64 ((↑k : Int) + (1 : Int))))), (24, (vI (↑(ByteArray.size s) : Int))), (0, (vS s))] []) else bif
  !decide ((↑(UInt8.toNat z) : Int) < (32 : Int)) then none else some (Ex.ret, St.mk [(2, (vB false))] []) else some (Ex.exit (0 : Nat), St.mk [] []) := by kernel_rfl

theorem lpCle_ok (s : ByteArray) (k : Nat) (hp : prlCle s k = true) : ∀ ex s', (outCle s k).val = some (ex, s') → LoopOK enCle (loopN Tryz.f51 0) (stCle s k) ex s' := by
  simp only [prlCle, Bool.and_eq_true, decide_eq_true_eq] at hp
  refine loop_all (xs := F.bs s) (st := stCle s) (p := F.okB) (n := ([25, 24, 0], [])) (e := ([], [])) (r := ([2], [])) ?_ ⟨by simp, rfl⟩ ⟨by simp, rfl⟩ (fun _ => rfl) ?_ k (by rw [F.bs_len]; exact hp.2)
  · rw [evCleL]; rw [F.bs_len]; simp
  · intro k y hy
    have hk : k < s.size := by rw [← F.bs_len]; exact lt_at hy
    rw [evCleL]
    rw [F.bs_get, hy]
    simp only [unVal, unHsP, unHsS, unCnt, preVal1, preHsP1, preHsS1, preCnt1, unstCle, unstCle0, prlCle, outCle, etaCap, etaMch, etaWrd, etaFnd, etaRatio, etaWay, Option.bind_some, List.length_map, unStrs, unInts, unBools, uneL_eIs, unCaps, uneL_eCaps, unMchs, unWrds, unFnds, unRatios, unWays, F.lt, F.le, cond_true, cond_false, Bool.and_true, Bool.true_and, cast_lt hk, next_at hk hp.1, F.okB, stCle]
    rw [dec_beq]
    cases decide ((y.toNat : Int) < 32) <;> cases ((y.toNat : Int) == 127) <;> rfl

theorem evCle (s : ByteArray) : (runF enCle false Tryz.f51 [vS s]).val =
  bif !ByteArray.toList s == ByteArray.toList (ByteArray.mk (Array.mk [])) then Option.bind (unenc encVal [(vS s)]) fun (z : ByteArray) => bif !bif ByteArray.toList s ==
  ByteArray.toList (ByteArray.mk (Array.mk [])) then true else !F.valid z then Option.bind (unenc encHsP [(vS s), (vS (ByteArray.mk (Array.mk [(32 : UInt8)])))]) fun (z_1 :
  ByteArray × ByteArray) => bif !bif bif ByteArray.toList s == ByteArray.toList (ByteArray.mk (Array.mk [])) then true else !F.valid z then true else F.hasP z_1.fst z_1.snd
  then Option.bind (unenc encHsS [(vS s), (vS (ByteArray.mk (Array.mk [(32 : UInt8)])))]) fun (z_2 : ByteArray × ByteArray) => bif !bif bif bif ByteArray.toList s ==
  ByteArray.toList (ByteArray.mk (Array.mk [])) then true else !F.valid z then true else F.hasP z_1.fst z_1.snd then true else F.hasS z_2.fst z_2.snd then Option.bind (unenc
  encCnt [(vS s), (vS (ByteArray.mk (Array.mk [(45 : UInt8), (45 : UInt8), (62 : UInt8)])))]) fun (z_3 : ByteArray × ByteArray) => bif decide (ByteArray.size z_3.fst ≤
  (4294967280 : Nat)) then bif bif bif bif bif ByteArray.toList s == ByteArray.toList (ByteArray.mk (Array.mk [])) then true else !F.valid z then true else F.hasP z_1.fst
  z_1.snd then true else F.hasS z_2.fst z_2.snd then true else F.cont z_3.fst z_3.snd then some ((vB false), []) else Option.bind (unenc stCle1 (St.mk [(25, (vI (0 : Int))),
  (24, (vI (↑(ByteArray.size s) : Int))), (0, (vS s))] [])) fun (z : ByteArray × Nat) => bif decide (ByteArray.size z.fst ≤ (9223372036854775807 : Nat)) && decide (z.snd ≤
  ByteArray.size z.fst) && true then bif F.okL (List.drop z.snd (F.bs z.fst)) then some ((vB true), []) else some ((vB false), []) else none else none else some ((vB false),
  []) else some ((vB false), []) else some ((vB false), []) else bif !ByteArray.toList s == ByteArray.toList (ByteArray.mk (Array.mk [])) then none else some ((vB false),
  []) := by kernel_rfl

def encCle1 (s : ByteArray) : List AV := [vS s]

def encCle (a : ByteArray) : List AV := encCle1 a

theorem encCle_inj (a a' : ByteArray) (h : encCle a = encCle a') : a = a' := by
  simp only [encCle, encCle1] at h
  try simp [strs_inj, ints_inj, bools_inj, eL_eIs_inj, eCaps_inj, eCap_iff, eL_eCaps_inj, eMchs_inj, eMch_iff, eWrds_inj, eWrd_iff, eFnds_inj, eFnd_iff, eRatios_inj, eRatio_iff, eWays_inj, eWay_iff] at h
  grind

theorem unCle (s : ByteArray) : unenc encCle ([(vS s)]) = some (s) := unenc_of encCle_inj (s) rfl

def resCle1 (s : ByteArray) : AV × Heap := (vB (F.clean s), [])

def preCle1 (s : ByteArray) : Bool := F.small s

noncomputable def oCle : Orc := orc 51 true encCle (fun a => preCle1 a) fun a => resCle1 a

theorem okCle : OrcOK Tryz.prog noG oCle := by
  refine mk_ok Tryz.f51 (keep := false) (by kernel_rfl) (by kernel_rfl) enCle_ok mixed (one_loop (x0 := loopN Tryz.f51 0) (by kernel_rfl) (lpo_ok ?_)) (by first | exact fun _ _ => ⟨rfl, rfl⟩ | (intro h; cases h)) ?_
  · rintro ⟨s, k⟩ hp
    exact lpCle_ok s k hp
  rintro s hpre hok
  show (runF enCle false _ (encCle1 _)).val = some (resCle1 _)
  unfold encCle1 resCle1
  rw [evCle]
  simp only [preCle1, F.small, decide_eq_true_eq] at hpre
  have hs : s.size ≤ 9223372036854775807 := by omega
  have hp : decide (s.size ≤ 4294967280) = true := decide_eq_true hpre
  simp only [unVal, unHsP, unHsS, unCnt, preVal1, preHsP1, preHsS1, preCnt1, unstCle, unstCle0, prlCle, outCle, etaCap, etaMch, etaWrd, etaFnd, etaRatio, etaWay, Option.bind_some, List.length_map, unStrs, unInts, unBools, uneL_eIs, unCaps, uneL_eCaps, unMchs, unWrds, unFnds, unRatios, unWays, F.lt, F.le, cond_true, cond_false, Bool.and_true, Bool.true_and, hs, hp, F.clean, List.drop_zero, Nat.zero_le, decide_true, F.empty_eq]
  cases decide (s.size ≠ 0) <;> cases F.valid s <;> cases F.hasP s ⟨⟨[32]⟩⟩ <;> cases F.hasS s ⟨⟨[32]⟩⟩ <;> cases F.cont s ⟨⟨[45, 45, 62]⟩⟩ <;> cases F.okL (F.bs s) <;> rfl

def stIsT (s : ByteArray) (k : Nat) : St := ⟨[(30, vI k), (29, vI s.size), (0, vS s)], []⟩

def stIsT1 (a : ByteArray × Nat) : St := stIsT a.1 a.2

theorem stIsT_inj (a a' : ByteArray × Nat) (h : stIsT1 a = stIsT1 a') : a = a' := by
  simp only [stIsT1, stIsT] at h
  try simp [strs_inj, ints_inj, bools_inj, eL_eIs_inj, eCaps_inj, eCap_iff, eL_eCaps_inj, eMchs_inj, eMch_iff, eWrds_inj, eWrd_iff, eFnds_inj, eFnd_iff, eRatios_inj, eRatio_iff, eWays_inj, eWay_iff] at h
  grind

theorem unstIsT (s : ByteArray) (k : Nat) : unenc stIsT1 (St.mk [(30, (vI (↑k : Int))), (29, (vI (↑(ByteArray.size s) : Int))), (0, (vS s))] []) = some (s, k) := unenc_of stIsT_inj (s, k) rfl

theorem unstIsT0 (s : ByteArray)  : unenc stIsT1 (St.mk [(30, (vI (0 : Int))), (29, (vI (↑(ByteArray.size s) : Int))), (0, (vS s))] []) = some (s, 0) := unenc_of stIsT_inj (s, 0) rfl

def outIsT (s : ByteArray) (k : Nat) : T (Ex × St) := .ifB (F.okL ((F.bs s).drop k)) (.ret (.exit 0, ⟨[], []⟩)) (.ret (.ret, ⟨[(2, vB false)], []⟩))

noncomputable def prlIsT (s : ByteArray) (k : Nat) : Bool := decide (s.size ≤ 9223372036854775807) && decide (k ≤ s.size)

noncomputable def lpIsT : Nat × (St → T (Ex × St)) := (4, lpo [30, 29, 0] [] stIsT1 (fun a => prlIsT a.1 a.2) fun a => outIsT a.1 a.2)

noncomputable def enIsT : Env := envH ty noG lks [oVal, oCnt] [] [] [lpIsT]

theorem enIsT_ok : EnvOK Tryz.prog enIsT := by
  refine envH_ok lks_ok ty_ok ?_ ?_
  · simp only [List.forall_mem_cons]
    exact ⟨okVal, okCnt, by simp⟩
  · simp

theorem evIsTL (s : ByteArray) (k : Nat) : ((exec enIsT (loopN Tryz.f73 0) (stIsT s k)).bind (lessX ([30, 29, 0], []) ([], []) ([2], []))).val =
  bif decide ((↑k : Int) < (↑(ByteArray.size s) : Int)) then Option.bind s[k]? fun (z : UInt8) => bif !decide ((↑(UInt8.toNat z) : Int) < (32 : Int)) then Option.bind s[k]?
  fun (z_1 : UInt8) => bif bif decide ((↑(UInt8.toNat z) : Int) < (32 : Int)) then true else (↑(UInt8.toNat z_1) : Int) == (127 : Int) then some (Ex.ret, St.mk [(2, (vB
  false))] []) else some (Ex.normal, St.mk [(30, (vI (IntKind.wrap IntKind.i64 ((↑k : Int) + (1 : Int))))), (29, (vI (↑(ByteArray.size s) : Int))), (0, (vS s))] []) else bif
  !decide ((↑(UInt8.toNat z) : Int) < (32 : Int)) then none else some (Ex.ret, St.mk [(2, (vB false))] []) else some (Ex.exit (0 : Nat), St.mk [] []) := by kernel_rfl

theorem lpIsT_ok (s : ByteArray) (k : Nat) (hp : prlIsT s k = true) : ∀ ex s', (outIsT s k).val = some (ex, s') → LoopOK enIsT (loopN Tryz.f73 0) (stIsT s k) ex s' := by
  simp only [prlIsT, Bool.and_eq_true, decide_eq_true_eq] at hp
  refine loop_all (xs := F.bs s) (st := stIsT s) (p := F.okB) (n := ([30, 29, 0], [])) (e := ([], [])) (r := ([2], [])) ?_ ⟨by simp, rfl⟩ ⟨by simp, rfl⟩ (fun _ => rfl) ?_ k (by rw [F.bs_len]; exact hp.2)
  · rw [evIsTL]; rw [F.bs_len]; simp
  · intro k y hy
    have hk : k < s.size := by rw [← F.bs_len]; exact lt_at hy
    rw [evIsTL]
    rw [F.bs_get, hy]
    simp only [unVal, unCnt, preVal1, preCnt1, unstIsT, unstIsT0, prlIsT, outIsT, etaCap, etaMch, etaWrd, etaFnd, etaRatio, etaWay, Option.bind_some, List.length_map, unStrs, unInts, unBools, uneL_eIs, unCaps, uneL_eCaps, unMchs, unWrds, unFnds, unRatios, unWays, F.lt, F.le, cond_true, cond_false, Bool.and_true, Bool.true_and, cast_lt hk, next_at hk hp.1, F.okB, stIsT]
    rw [dec_beq]
    cases decide ((y.toNat : Int) < 32) <;> cases ((y.toNat : Int) == 127) <;> rfl

theorem evIsT (s : ByteArray) : (runF enIsT false Tryz.f73 [vS s]).val =
  bif !ByteArray.toList s == ByteArray.toList (ByteArray.mk (Array.mk [])) then Option.bind s[(0 : Nat)]? fun (z : UInt8) => bif !bif ByteArray.toList s == ByteArray.toList
  (ByteArray.mk (Array.mk [])) then true else (↑(UInt8.toNat z) : Int) == (32 : Int) then Option.bind (idx (IntKind.wrap IntKind.i64 ((↑(ByteArray.size s) : Int) - (1 :
  Int)))) fun (z_1 : Nat) => Option.bind s[z_1]? fun (z_2 : UInt8) => bif !bif bif ByteArray.toList s == ByteArray.toList (ByteArray.mk (Array.mk [])) then true else
  (↑(UInt8.toNat z) : Int) == (32 : Int) then true else (↑(UInt8.toNat z_2) : Int) == (32 : Int) then Option.bind (unenc encCnt [(vS s), (vS (ByteArray.mk (Array.mk [(45 :
  UInt8), (45 : UInt8), (62 : UInt8)])))]) fun (z_3 : ByteArray × ByteArray) => bif decide (ByteArray.size z_3.fst ≤ (4294967280 : Nat)) then bif !bif bif bif
  ByteArray.toList s == ByteArray.toList (ByteArray.mk (Array.mk [])) then true else (↑(UInt8.toNat z) : Int) == (32 : Int) then true else (↑(UInt8.toNat z_2) : Int) == (32
  : Int) then true else F.cont z_3.fst z_3.snd then Option.bind (unenc encVal [(vS s)]) fun (z_4 : ByteArray) => bif bif bif bif bif ByteArray.toList s == ByteArray.toList
  (ByteArray.mk (Array.mk [])) then true else (↑(UInt8.toNat z) : Int) == (32 : Int) then true else (↑(UInt8.toNat z_2) : Int) == (32 : Int) then true else F.cont z_3.fst
  z_3.snd then true else !F.valid z_4 then some ((vB false), []) else Option.bind (unenc stIsT1 (St.mk [(30, (vI (0 : Int))), (29, (vI (↑(ByteArray.size s) : Int))), (0, (vS
  s))] [])) fun (z : ByteArray × Nat) => bif decide (ByteArray.size z.fst ≤ (9223372036854775807 : Nat)) && decide (z.snd ≤ ByteArray.size z.fst) && true then bif F.okL
  (List.drop z.snd (F.bs z.fst)) then some ((vB true), []) else some ((vB false), []) else none else bif !bif bif bif ByteArray.toList s == ByteArray.toList (ByteArray.mk
  (Array.mk [])) then true else (↑(UInt8.toNat z) : Int) == (32 : Int) then true else (↑(UInt8.toNat z_2) : Int) == (32 : Int) then true else F.cont z_3.fst z_3.snd then
  none else some ((vB false), []) else none else some ((vB false), []) else bif !bif ByteArray.toList s == ByteArray.toList (ByteArray.mk (Array.mk [])) then true else
  (↑(UInt8.toNat z) : Int) == (32 : Int) then none else some ((vB false), []) else bif !ByteArray.toList s == ByteArray.toList (ByteArray.mk (Array.mk [])) then none else
  some ((vB false), []) := by kernel_rfl

def encIsT1 (s : ByteArray) : List AV := [vS s]

def encIsT (a : ByteArray) : List AV := encIsT1 a

theorem encIsT_inj (a a' : ByteArray) (h : encIsT a = encIsT a') : a = a' := by
  simp only [encIsT, encIsT1] at h
  try simp [strs_inj, ints_inj, bools_inj, eL_eIs_inj, eCaps_inj, eCap_iff, eL_eCaps_inj, eMchs_inj, eMch_iff, eWrds_inj, eWrd_iff, eFnds_inj, eFnd_iff, eRatios_inj, eRatio_iff, eWays_inj, eWay_iff] at h
  grind

theorem unIsT (s : ByteArray) : unenc encIsT ([(vS s)]) = some (s) := unenc_of encIsT_inj (s) rfl

def resIsT1 (s : ByteArray) : AV × Heap := (vB (F.clean s), [])

def preIsT1 (s : ByteArray) : Bool := F.small s

noncomputable def oIsT : Orc := orc 73 true encIsT (fun a => preIsT1 a) fun a => resIsT1 a

theorem okIsT : OrcOK Tryz.prog noG oIsT := by
  refine mk_ok Tryz.f73 (keep := false) (by kernel_rfl) (by kernel_rfl) enIsT_ok mixed (one_loop (x0 := loopN Tryz.f73 0) (by kernel_rfl) (lpo_ok ?_)) (by first | exact fun _ _ => ⟨rfl, rfl⟩ | (intro h; cases h)) ?_
  · rintro ⟨s, k⟩ hp
    exact lpIsT_ok s k hp
  rintro s hpre hok
  show (runF enIsT false _ (encIsT1 _)).val = some (resIsT1 _)
  unfold encIsT1 resIsT1
  rw [evIsT]
  simp only [preIsT1, F.small, decide_eq_true_eq] at hpre
  have hs : s.size ≤ 9223372036854775807 := by omega
  have hp : decide (s.size ≤ 4294967280) = true := decide_eq_true hpre
  simp only [unVal, unCnt, preVal1, preCnt1, unstIsT, unstIsT0, prlIsT, outIsT, etaCap, etaMch, etaWrd, etaFnd, etaRatio, etaWay, Option.bind_some, List.length_map, unStrs, unInts, unBools, uneL_eIs, unCaps, uneL_eCaps, unMchs, unWrds, unFnds, unRatios, unWays, F.lt, F.le, cond_true, cond_false, Bool.and_true, Bool.true_and, hs, hp, F.clean, List.drop_zero, Nat.zero_le, decide_true, F.empty_eq, F.bs_get]
  by_cases hz : s.size = 0
  · have e : decide (s.size ≠ 0) = false := by simp [hz]
    rw [e]
    rfl
  · have e : decide (s.size ≠ 0) = true := decide_eq_true hz
    have hl := F.bs_len s
    obtain ⟨b, hb⟩ : ∃ b, (F.bs s)[0]? = some b := ⟨_, List.getElem?_eq_getElem (by omega)⟩
    obtain ⟨c, hc⟩ : ∃ c, (F.bs s)[s.size - 1]? = some c := ⟨_, List.getElem?_eq_getElem (by omega)⟩
    have hi : idx (IntKind.i64.wrap ((s.size : Int) - 1)) = some (s.size - 1) := by
      rw [wrap_id (by omega) (by omega), show (s.size : Int) - 1 = ((s.size - 1 : Nat) : Int) by omega]; rfl
    simp only [e, hb, hi, hc, Option.bind_some, F.hasP1 hb, F.hasS1 hc]
    cases F.valid s <;> cases ((b.toNat : Int) == 32) <;> cases ((c.toNat : Int) == 32) <;> cases F.cont s ⟨⟨[45, 45, 62]⟩⟩ <;> cases F.okL (F.bs s) <;> rfl

noncomputable def enLin : Env := envH ty noG lks [oCle] [] [] []

theorem enLin_ok : EnvOK Tryz.prog enLin := by
  refine envH_ok lks_ok ty_ok ?_ ?_
  · simp only [List.forall_mem_cons]
    exact ⟨okCle, by simp⟩
  · simp

theorem evLin (s : ByteArray) : (runF enLin false Tryz.f57 [vS s]).val =
  bif decide ((↑(ByteArray.size s) : Int) ≤ (200 : Int)) then Option.bind (unenc encCle [(vS s)]) fun (z : ByteArray) => bif F.small z then some ((vB (bif decide
  ((↑(ByteArray.size s) : Int) ≤ (200 : Int)) then F.clean z else false)), []) else none else some ((vB false), []) := by kernel_rfl

def encLin1 (s : ByteArray) : List AV := [vS s]

def encLin (a : ByteArray) : List AV := encLin1 a

theorem encLin_inj (a a' : ByteArray) (h : encLin a = encLin a') : a = a' := by
  simp only [encLin, encLin1] at h
  try simp [strs_inj, ints_inj, bools_inj, eL_eIs_inj, eCaps_inj, eCap_iff, eL_eCaps_inj, eMchs_inj, eMch_iff, eWrds_inj, eWrd_iff, eFnds_inj, eFnd_iff, eRatios_inj, eRatio_iff, eWays_inj, eWay_iff] at h
  grind

theorem unLin (s : ByteArray) : unenc encLin ([(vS s)]) = some (s) := unenc_of encLin_inj (s) rfl

def resLin1 (s : ByteArray) : AV × Heap := (vB (F.line s), [])

def preLin1 (s : ByteArray) : Bool := F.small s

noncomputable def oLin : Orc := orc 57 true encLin (fun a => preLin1 a) fun a => resLin1 a

theorem okLin : OrcOK Tryz.prog noG oLin := by
  refine mk_ok Tryz.f57 (keep := false) (by kernel_rfl) (by kernel_rfl) enLin_ok mixed (no_loops (by kernel_rfl)) (by first | exact fun _ _ => ⟨rfl, rfl⟩ | (intro h; cases h)) ?_
  rintro s hpre hok
  show (runF enLin false _ (encLin1 _)).val = some (resLin1 _)
  unfold encLin1 resLin1
  rw [evLin]
  simp only [preLin1] at hpre
  simp only [unCle, preCle1, etaCap, etaMch, etaWrd, etaFnd, etaRatio, etaWay, Option.bind_some, List.length_map, unStrs, unInts, unBools, uneL_eIs, unCaps, uneL_eCaps, unMchs, unWrds, unFnds, unRatios, unWays, F.lt, F.le, cond_true, cond_false, Bool.and_true, Bool.true_and, hpre, F.line, F.int_le]
  cases decide (s.size ≤ 200) <;> rfl

noncomputable def enRLin : Env := envH ty noG lks [oIsT] [] [] []

theorem enRLin_ok : EnvOK Tryz.prog enRLin := by
  refine envH_ok lks_ok ty_ok ?_ ?_
  · simp only [List.forall_mem_cons]
    exact ⟨okIsT, by simp⟩
  · simp

theorem evRLin (s : ByteArray) : (runF enRLin false Tryz.f45 [vS s]).val =
  Option.bind (unenc encIsT [(vS s)]) fun (z : ByteArray) => bif F.small z then some ((vB (bif F.clean z then decide ((↑(ByteArray.size s) : Int) ≤ (200 : Int)) else
  false)), []) else none := by kernel_rfl

def encRLin1 (s : ByteArray) : List AV := [vS s]

def encRLin (a : ByteArray) : List AV := encRLin1 a

theorem encRLin_inj (a a' : ByteArray) (h : encRLin a = encRLin a') : a = a' := by
  simp only [encRLin, encRLin1] at h
  try simp [strs_inj, ints_inj, bools_inj, eL_eIs_inj, eCaps_inj, eCap_iff, eL_eCaps_inj, eMchs_inj, eMch_iff, eWrds_inj, eWrd_iff, eFnds_inj, eFnd_iff, eRatios_inj, eRatio_iff, eWays_inj, eWay_iff] at h
  grind

theorem unRLin (s : ByteArray) : unenc encRLin ([(vS s)]) = some (s) := unenc_of encRLin_inj (s) rfl

def resRLin1 (s : ByteArray) : AV × Heap := (vB (F.line s), [])

def preRLin1 (s : ByteArray) : Bool := F.small s

noncomputable def oRLin : Orc := orc 45 true encRLin (fun a => preRLin1 a) fun a => resRLin1 a

theorem okRLin : OrcOK Tryz.prog noG oRLin := by
  refine mk_ok Tryz.f45 (keep := false) (by kernel_rfl) (by kernel_rfl) enRLin_ok mixed (no_loops (by kernel_rfl)) (by first | exact fun _ _ => ⟨rfl, rfl⟩ | (intro h; cases h)) ?_
  rintro s hpre hok
  show (runF enRLin false _ (encRLin1 _)).val = some (resRLin1 _)
  unfold encRLin1 resRLin1
  rw [evRLin]
  simp only [preRLin1] at hpre
  simp only [unIsT, preIsT1, etaCap, etaMch, etaWrd, etaFnd, etaRatio, etaWay, Option.bind_some, List.length_map, unStrs, unInts, unBools, uneL_eIs, unCaps, uneL_eCaps, unMchs, unWrds, unFnds, unRatios, unWays, F.lt, F.le, cond_true, cond_false, Bool.and_true, Bool.true_and, hpre, F.line, F.int_le]
  cases F.clean s <;> cases decide (s.size ≤ 200) <;> rfl

end M
end Go.Proofs.YthcfbeckhgngiaaGreatDoor
