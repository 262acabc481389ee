/- What is proved here: plain lines of the reference; what stands behind the times in the long form, of both (no statement of the seat). -/
import Derived.Test.YthcfbeckhgngiaaGreatDoorC131
namespace Go.Proofs.YthcfbeckhgngiaaGreatDoor
open Go Go.RowKit
set_option linter.unusedVariables false
set_option linter.unusedSimpArgs false

namespace F

theorem plB_size : ∀ (f : Nat) (s out o : ByteArray), plB f s out = some o → o.size ≤ out.size + s.size
  | 0, s, out, o, h => by
    rw [plB] at h; cases h; omega
  | f + 1, s, out, o, h => by
    rw [plB] at h
    cases he : emp s
    · rw [he] at h
      have hz : s.size ≠ 0 := by rw [emp_size] at he; exact of_decide_eq_false he
      simp only [cond_false] at h
      cases h5 : hasP s amp5
      · rw [h5] at h
        simp only [cond_false] at h
        cases h4 : hasP s lt4
        · rw [h4] at h
          simp only [cond_false] at h
          cases hg : sgn s
          · rw [hg] at h
            have := plB_size f _ _ _ h
            have e1 := ext_sz s 1
            have e2 : (out ++ s.extract 0 1).size = out.size + 1 := by rw [ByteArray.size_append, ByteArray.size_extract]; omega
            omega
          · rw [hg] at h; cases h
        · rw [h4] at h
          have := plB_size f _ _ _ h
          have hl : 4 ≤ s.size := hasP_le h4
          have e1 := ext_sz s 4
          have e2 : (out ++ ltB).size = out.size + 1 := by rw [ByteArray.size_append]; rfl
          omega
      · rw [h5] at h
        have := plB_size f _ _ _ h
        have hl : 5 ≤ s.size := hasP_le h5
        have e1 := ext_sz s 5
        have e2 : (out ++ ampB).size = out.size + 1 := by rw [ByteArray.size_append]; rfl
        omega
    · rw [he] at h; cases h; omega

theorem plV_size (s : ByteArray) : (plV s).size ≤ s.size := by
  unfold plV got
  cases h : plR s with
  | none => exact Nat.zero_le _
  | some o =>
    have := plB_size _ _ _ _ h
    have e : (⟨⟨[]⟩⟩ : ByteArray).size = 0 := rfl
    simp only [Option.getD_some]; omega

def lineB : ByteArray := ⟨⟨[32, 108, 105, 110, 101, 58]⟩⟩

def befB : ByteArray := ⟨⟨[32, 98, 101, 102, 111, 114, 101]⟩⟩

def aftB : ByteArray := ⟨⟨[32, 97, 102, 116, 101, 114]⟩⟩

def spB : ByteArray := ⟨⟨[32]⟩⟩

/-- Is the first byte a nought? -/
def zer (s : ByteArray) : Bool := match (bs s)[0]? with
  | some b => ((b.toNat : Int) == 48)
  | none => false

def numOk (s : ByteArray) : Bool := isNum s && !zer s

/-- What is left of the marks behind the row. -/
def rstP (t : ByteArray) : ByteArray := bif cutF t spB then spB ++ cutT t spB else cutT t spB

def mk1 (s : ByteArray) : Bool := !(cutP s lineB).2 || numOk (cutH (cutP s lineB).1 spB)

def mkR (s : ByteArray) : Int := bif (cutP s lineB).2 then ato (cutH (cutP s lineB).1 spB) else 0

def mkS (s : ByteArray) : ByteArray := bif (cutP s lineB).2 then rstP (cutP s lineB).1 else s

def mkRow (s : ByteArray) : Int := bif mk1 s then mkR s else 0

def mkBef (s : ByteArray) : Bool := mk1 s && (cutP (mkS s) befB).2

def mkAft (s : ByteArray) : Bool := mk1 s && (cutP (cutP (mkS s) befB).1 aftB).2

def mkOk (s : ByteArray) : Bool := mk1 s && emp (cutP (cutP (mkS s) befB).1 aftB).1

end F

namespace M

def stRpl (s : ByteArray) (out : ByteArray) : St := ⟨[(4, vS out), (0, vS s)], []⟩

def stRpl1 (a : ByteArray × ByteArray) : St := stRpl a.1 a.2

theorem stRpl_inj (a a' : ByteArray × ByteArray) (h : stRpl1 a = stRpl1 a') : a = a' := by
  simp only [stRpl1, stRpl] at h
  try simp [strs_inj, ints_inj, bools_inj, eL_eIs_inj, eCaps_inj, eCap_iff, eL_eCaps_inj, eMchs_inj, eMch_iff, eWrds_inj, eWrd_iff, eFnds_inj, eFnd_iff, eRatios_inj, eRatio_iff, eWays_inj, eWay_iff] at h
  grind

theorem unstRpl (s : ByteArray) (out : ByteArray) : unenc stRpl1 (St.mk [(4, (vS out)), (0, (vS s))] []) = some (s, out) := unenc_of stRpl_inj (s, out) rfl

def outRpl (s : ByteArray) (out : ByteArray) : T (Ex × St) := .ifB (F.found (F.plB s.size s out)) (.ret (.exit 0, ⟨[(4, vS (F.got (F.plB s.size s out) ⟨⟨[]⟩⟩))], []⟩)) (.ret (.ret, ⟨[(3, vB false), (2, vS ⟨⟨[]⟩⟩)], []⟩))

noncomputable def prlRpl (s : ByteArray) (out : ByteArray) : Bool := decide (s.size + out.size ≤ 4294967280)

noncomputable def lpRpl : Nat × (St → T (Ex × St)) := (2, lpo [4, 0] [] stRpl1 (fun a => prlRpl a.1 a.2) fun a => outRpl a.1 a.2)

noncomputable def enRpl : Env := envH ty noG lks [oHsP, oRLin] [] [] [lpRpl]

theorem enRpl_ok : EnvOK Tryz.prog enRpl := by
  refine envH_ok lks_ok ty_ok ?_ ?_
  · simp only [List.forall_mem_cons]
    exact ⟨okHsP, okRLin, by simp⟩
  · simp

theorem evRplL (s : ByteArray) (out : ByteArray) : ((exec enRpl (loopN Tryz.f18 0) (stRpl s out)).bind (lessX ([4, 0], []) ([4], []) ([3, 2], []))).val =
  bif !ByteArray.toList s == ByteArray.toList (ByteArray.mk (Array.mk [])) then Option.bind (unenc encHsP [(vS s), (vS (ByteArray.mk (Array.mk [(38 : UInt8), (97 : UInt8),
  (109 : UInt8), (112 : UInt8), (59 : UInt8)])))]) fun (z : ByteArray × ByteArray) => bif F.hasP z.fst z.snd then bif Nat.ble (ByteArray.size out + ByteArray.size
  (ByteArray.mk (Array.mk [(38 : UInt8)]))) (9223372036854775807 : Nat) then bif Nat.ble (5 : Nat) (ByteArray.size s) && Nat.ble (ByteArray.size s) (ByteArray.size s) then
  some (Ex.normal, St.mk [(4, (vS (out ++ ByteArray.mk (Array.mk [(38 : UInt8)])))), (0, (vS (ByteArray.extract s (5 : Nat) (ByteArray.size s))))] []) else none else none
  else Option.bind (unenc encHsP [(vS s), (vS (ByteArray.mk (Array.mk [(38 : UInt8), (108 : UInt8), (116 : UInt8), (59 : UInt8)])))]) fun (z : ByteArray × ByteArray) => bif
  F.hasP z.fst z.snd then bif Nat.ble (ByteArray.size out + ByteArray.size (ByteArray.mk (Array.mk [(60 : UInt8)]))) (9223372036854775807 : Nat) then bif Nat.ble (4 : Nat)
  (ByteArray.size s) && Nat.ble (ByteArray.size s) (ByteArray.size s) then some (Ex.normal, St.mk [(4, (vS (out ++ ByteArray.mk (Array.mk [(60 : UInt8)])))), (0, (vS
  (ByteArray.extract s (4 : Nat) (ByteArray.size s))))] []) else none else none else Option.bind s[(0 : Nat)]? fun (z : UInt8) => bif !(↑(UInt8.toNat z) : Int) == (38 : Int)
  then Option.bind s[(0 : Nat)]? fun (z : UInt8) => bif (↑(UInt8.toNat z) : Int) == (60 : Int) then some (Ex.ret, St.mk [(3, (vB false)), (2, (vS (ByteArray.mk (Array.mk
  []))))] []) else bif Nat.ble (1 : Nat) (ByteArray.size s) then bif Nat.ble (ByteArray.size out + ByteArray.size (ByteArray.extract s (0 : Nat) (1 : Nat)))
  (9223372036854775807 : Nat) then bif Nat.ble (1 : Nat) (ByteArray.size s) && Nat.ble (ByteArray.size s) (ByteArray.size s) then some (Ex.normal, St.mk [(4, (vS (out ++
  ByteArray.extract s (0 : Nat) (1 : Nat)))), (0, (vS (ByteArray.extract s (1 : Nat) (ByteArray.size s))))] []) else none else none else none else some (Ex.ret, St.mk [(3,
  (vB false)), (2, (vS (ByteArray.mk (Array.mk []))))] []) else some (Ex.exit (0 : Nat), St.mk [(4, (vS out))] []) := (execR_bind _ _ _).symm.trans (by kernel_rfl)

theorem lpRpl_ok (s : ByteArray) (out : ByteArray) (hp : prlRpl s out = true) : ∀ ex s', (outRpl s out).val = some (ex, s') → LoopOK enRpl (loopN Tryz.f18 0) (stRpl s out) ex s' := by
  simp only [prlRpl, Bool.and_eq_true, decide_eq_true_eq] at hp
  refine loop_gen (st := fun b : ByteArray × ByteArray => stRpl b.1 b.2) (out := fun b => outRpl b.1 b.2) (I := fun b => b.1.size + b.2.size ≤ 4294967280) (n := ([4, 0], [])) (e := ([4], [])) (r := ([3, 2], [])) (fun b => b.1.size) ?_ (s, out) hp
  rintro ⟨s, out⟩ i1
  simp only at i1
  have ey : (s.toList == (⟨⟨[]⟩⟩ : ByteArray).toList) = F.emp s := rfl
  have ea : (⟨⟨[38, 97, 109, 112, 59]⟩⟩ : ByteArray) = F.amp5 := rfl
  have el : (⟨⟨[38, 108, 116, 59]⟩⟩ : ByteArray) = F.lt4 := rfl
  have eA : (⟨⟨[38]⟩⟩ : ByteArray) = F.ampB := rfl
  have eL : (⟨⟨[60]⟩⟩ : ByteArray) = F.ltB := rfl
  cases he : F.emp s
  case true =>
    left
    have hz : s.size = 0 := by rw [F.emp_size] at he; exact of_decide_eq_true he
    refine ⟨(.exit 0, ⟨[(4, vS out)], []⟩), ?_, ?_, by simp, rfl⟩
    · rw [evRplL]
      simp only [unHsP, unRLin, preHsP1, preRLin1, unstRpl, prlRpl, outRpl, etaCap, etaMch, etaWrd, etaFnd, etaRatio, etaWay, Option.bind_some, List.length_map, unStrs, unInts, unBools, uneL_eIs, unCaps, uneL_eCaps, unMchs, unWrds, unFnds, unRatios, unWays, F.lt, F.le, cond_true, cond_false, Bool.and_true, Bool.true_and, ey, he]
      try rfl
    · simp only [outRpl, hz, F.plB]
      rfl
  have hz : s.size ≠ 0 := by rw [F.emp_size] at he; exact of_decide_eq_false he
  obtain ⟨f, hf⟩ : ∃ f, s.size = f + 1 := ⟨s.size - 1, by omega⟩
  have o1 : ∀ k o, 1 ≤ k → F.plB f (s.extract k s.size) o = F.plB (s.extract k s.size).size (s.extract k s.size) o := fun k o hk => plx s o k f hf hk
  cases h5 : F.hasP s F.amp5
  case true =>
    right
    have hl : 5 ≤ s.size := F.hasP_le h5
    have e5 := F.ext_sz s 5
    have eo : (out ++ F.ampB).size = out.size + 1 := by rw [ByteArray.size_append]; rfl
    refine ⟨(s.extract 5 s.size, out ++ F.ampB), ?_, rfl, by simp only; omega, by simp only; omega, ?_⟩
    · rw [evRplL]
      simp only [unHsP, unRLin, preHsP1, preRLin1, unstRpl, prlRpl, outRpl, etaCap, etaMch, etaWrd, etaFnd, etaRatio, etaWay, Option.bind_some, List.length_map, unStrs, unInts, unBools, uneL_eIs, unCaps, uneL_eCaps, unMchs, unWrds, unFnds, unRatios, unWays, F.lt, F.le, cond_true, cond_false, Bool.and_true, Bool.true_and, ey, he, ea, el, eA, eL, h5, Bool.not_false]
      rw [ble_t (show out.size + F.ampB.size ≤ 9223372036854775807 by have : F.ampB.size = 1 := rfl; omega), ble_t hl, ble_t (Nat.le_refl _)]
      rfl
    · simp only [outRpl, hf, F.plB, he, h5, cond_true, cond_false]
      rw [← hf, o1 5 _ (by omega)]
  cases h4 : F.hasP s F.lt4
  case true =>
    right
    have hl : 4 ≤ s.size := F.hasP_le h4
    have e5 := F.ext_sz s 4
    have eo : (out ++ F.ltB).size = out.size + 1 := by rw [ByteArray.size_append]; rfl
    refine ⟨(s.extract 4 s.size, out ++ F.ltB), ?_, rfl, by simp only; omega, by simp only; omega, ?_⟩
    · rw [evRplL]
      simp only [unHsP, unRLin, preHsP1, preRLin1, unstRpl, prlRpl, outRpl, etaCap, etaMch, etaWrd, etaFnd, etaRatio, etaWay, Option.bind_some, List.length_map, unStrs, unInts, unBools, uneL_eIs, unCaps, uneL_eCaps, unMchs, unWrds, unFnds, unRatios, unWays, F.lt, F.le, cond_true, cond_false, Bool.and_true, Bool.true_and, ey, he, ea, el, eA, eL, h5, h4, Bool.not_false]
      rw [ble_t (show out.size + F.ltB.size ≤ 9223372036854775807 by have : F.ltB.size = 1 := rfl; omega), ble_t hl, ble_t (Nat.le_refl _)]
      rfl
    · simp only [outRpl, hf, F.plB, he, h5, h4, cond_true, cond_false]
      rw [← hf, o1 4 _ (by omega)]
  obtain ⟨b, r, hs⟩ : ∃ b r, F.bs s = b :: r := by
    cases h : F.bs s with
    | nil => have := F.bs_len s; rw [h] at this; simp at this; omega
    | cons b r => exact ⟨b, r, rfl⟩
  have h0 : (F.bs s)[0]? = some b := by rw [hs]; rfl
  have hsg : F.sgn s = (b == 38 || b == 60) := by unfold F.sgn; rw [h0]
  cases hg : F.sgn s
  case true =>
    left
    rw [hg] at hsg
    refine ⟨(.ret, ⟨[(3, vB false), (2, vS ⟨⟨[]⟩⟩)], []⟩), ?_, ?_, by simp, rfl⟩
    · rw [evRplL]
      rw [F.bs_get, h0]
      simp only [unHsP, unRLin, preHsP1, preRLin1, unstRpl, prlRpl, outRpl, etaCap, etaMch, etaWrd, etaFnd, etaRatio, etaWay, Option.bind_some, List.length_map, unStrs, unInts, unBools, uneL_eIs, unCaps, uneL_eCaps, unMchs, unWrds, unFnds, unRatios, unWays, F.lt, F.le, cond_true, cond_false, Bool.and_true, Bool.true_and, ey, he, ea, el, eA, eL, h5, h4, F.eq38, F.eq60, Bool.not_false]
      cases h1 : b == 38
      · rw [h1, Bool.false_or] at hsg
        rw [← hsg]; rfl
      · rfl
    · simp only [outRpl, hf, F.plB, he, h5, h4, hg, cond_true, cond_false]
      rfl
  right
  have hsg2 := hsg
  rw [hg] at hsg2
  have g1 : (b == 38) = false := by cases h1 : b == 38; rfl; rw [h1] at hsg2; cases hsg2
  have g2 : (b == 60) = false := by cases h1 : b == 60; rfl; rw [h1, Bool.or_true] at hsg2; cases hsg2
  have e1 := F.ext_sz s 1
  have e0 : (s.extract 0 1).size = 1 := by rw [ByteArray.size_extract]; omega
  have eo : (out ++ s.extract 0 1).size = out.size + 1 := by rw [ByteArray.size_append, e0]
  refine ⟨(s.extract 1 s.size, out ++ s.extract 0 1), ?_, rfl, by simp only; omega, by simp only; omega, ?_⟩
  · rw [evRplL]
    rw [F.bs_get, h0]
    simp only [unHsP, unRLin, preHsP1, preRLin1, unstRpl, prlRpl, outRpl, etaCap, etaMch, etaWrd, etaFnd, etaRatio, etaWay, Option.bind_some, List.length_map, unStrs, unInts, unBools, uneL_eIs, unCaps, uneL_eCaps, unMchs, unWrds, unFnds, unRatios, unWays, F.lt, F.le, cond_true, cond_false, Bool.and_true, Bool.true_and, ey, he, ea, el, eA, eL, h5, h4, F.eq38, F.eq60, g1, g2, Bool.not_false, Bool.not_true]
    rw [ble_t (show 1 ≤ s.size by omega), ble_t (show out.size + (s.extract 0 1).size ≤ 9223372036854775807 by omega)]
    try rw [ble_t (Nat.le_refl s.size)]
    rfl
  · simp only [outRpl, hf, F.plB, he, h5, h4, hg, cond_true, cond_false]
    rw [← hf, o1 1 _ (by omega)]

theorem evRpl (s : ByteArray) : (runF enRpl false Tryz.f18 [vS s]).val =
  Option.bind (unenc stRpl1 (St.mk [(4, (vS (ByteArray.mk (Array.mk [])))), (0, (vS s))] [])) fun (z : ByteArray × ByteArray) => bif decide (ByteArray.size z.fst +
  ByteArray.size z.snd ≤ (4294967280 : Nat)) && true then bif F.found (F.plB (ByteArray.size z.fst) z.fst z.snd) then Option.bind (unenc encRLin [(vS (F.got (F.plB
  (ByteArray.size z.fst) z.fst z.snd) (ByteArray.mk (Array.mk []))))]) fun (z_1 : ByteArray) => bif F.small z_1 then some (AV.tup [(vS (F.got (F.plB (ByteArray.size z.fst)
  z.fst z.snd) (ByteArray.mk (Array.mk [])))), (vB (F.line z_1))], []) else none else some (AV.tup [(vS (ByteArray.mk (Array.mk []))), (vB false)], []) else none := (runFR_val).symm.trans (by kernel_rfl)

def encRpl1 (s : ByteArray) : List AV := [vS s]

def encRpl (a : ByteArray) : List AV := encRpl1 a

theorem encRpl_inj (a a' : ByteArray) (h : encRpl a = encRpl a') : a = a' := by
  simp only [encRpl, encRpl1] at h
  try simp [strs_inj, ints_inj, bools_inj, eL_eIs_inj, eCaps_inj, eCap_iff, eL_eCaps_inj, eMchs_inj, eMch_iff, eWrds_inj, eWrd_iff, eFnds_inj, eFnd_iff, eRatios_inj, eRatio_iff, eWays_inj, eWay_iff] at h
  grind

theorem unRpl (s : ByteArray) : unenc encRpl ([(vS s)]) = some (s) := unenc_of encRpl_inj (s) rfl

def resRpl1 (s : ByteArray) : AV × Heap := (.tup [vS (F.plV s), vB (F.plG s && F.line (F.plV s))], [])

def preRpl1 (s : ByteArray) : Bool := F.small s

noncomputable def oRpl : Orc := orc 18 true encRpl (fun a => preRpl1 a) fun a => resRpl1 a

theorem okRpl : OrcOK Tryz.prog noG oRpl := by
  refine mk_ok Tryz.f18 (keep := false) (by kernel_rfl) (by kernel_rfl) enRpl_ok mixed (one_loop (x0 := loopN Tryz.f18 0) (by kernel_rfl) (lpo_ok ?_)) (by first | exact fun _ _ => ⟨rfl, rfl⟩ | (intro h; cases h)) ?_
  · rintro ⟨s, out⟩ hp
    exact lpRpl_ok s out hp
  rintro s hpre hok
  show (runF enRpl false _ (encRpl1 _)).val = some (resRpl1 _)
  unfold encRpl1 resRpl1
  rw [evRpl]
  simp only [preRpl1, F.small, decide_eq_true_eq] at hpre
  have e0 : s.size + (⟨⟨[]⟩⟩ : ByteArray).size ≤ 4294967280 := hpre
  have er : F.plB s.size s ⟨⟨[]⟩⟩ = F.plR s := rfl
  have hs : F.small (F.plV s) = true := F.small_le (F.plV_size s) hpre
  simp only [unHsP, unRLin, preHsP1, preRLin1, unstRpl, prlRpl, outRpl, etaCap, etaMch, etaWrd, etaFnd, etaRatio, etaWay, Option.bind_some, List.length_map, unStrs, unInts, unBools, uneL_eIs, unCaps, uneL_eCaps, unMchs, unWrds, unFnds, unRatios, unWays, F.lt, F.le, cond_true, cond_false, Bool.and_true, Bool.true_and, decide_eq_true e0, er]
  unfold F.plV at hs
  unfold F.plV F.plG
  rw [hs]
  cases F.plR s <;> rfl

noncomputable def enStg : Env := envH ty noG lks [oCuPo, oCut, oDig, oAto] [] [] []

theorem enStg_ok : EnvOK Tryz.prog enStg := by
  refine envH_ok lks_ok ty_ok ?_ ?_
  · simp only [List.forall_mem_cons]
    exact ⟨okCuPo, okCut, okDig, okAto, by simp⟩
  · simp

theorem evStg (s : ByteArray) (fr : Int) (tt : Int) : (runH enStg [] Tryz.f35 [vS s, .ptr 900 0 0] [(900, ⟨true, 0, 0, [[vI fr, vI tt, .e0, vI 0, vB false, vB false]]⟩)]).val =
  Option.bind (unenc encCuPo [(vS s), (vS (ByteArray.mk (Array.mk [(32 : UInt8), (108 : UInt8), (105 : UInt8), (110 : UInt8), (101 : UInt8), (58 : UInt8)])))]) fun (z :
  ByteArray × ByteArray) => bif F.small z.fst && decide (ByteArray.size z.snd ≤ (100 : Nat)) then bif (F.cutP z.fst z.snd).snd then Option.bind (unenc encCut [(vS (F.cutP
  z.fst z.snd).fst), (vS (ByteArray.mk (Array.mk [(32 : UInt8)])))]) fun (z : ByteArray × ByteArray) => bif decide (ByteArray.size z.fst ≤ (4294967280 : Nat)) then
  Option.bind (unenc encDig [(vS (F.cutH z.fst z.snd))]) fun (z_1 : ByteArray) => bif F.small z_1 then bif !!F.isNum z_1 then Option.bind (F.cutH z.fst z.snd)[(0 : Nat)]?
  fun (z_2 : UInt8) => bif (↑(UInt8.toNat z_2) : Int) == (48 : Int) then some ((vB false), [(900, Blk.mk true 0 0 [[(vI fr), (vI tt), AV.e0, (vI (0 : Int)), (vB false), (vB
  false)]])], []) else Option.bind (unenc encAto [(vS (F.cutH z.fst z.snd))]) fun (z_3 : ByteArray) => bif F.isNum z_3 then bif F.cutF z.fst z.snd then bif Nat.ble
  (ByteArray.size (ByteArray.mk (Array.mk [(32 : UInt8)])) + ByteArray.size (F.cutT z.fst z.snd)) (9223372036854775807 : Nat) then Option.bind (unenc encCuPo [(vS
  (ByteArray.mk (Array.mk [(32 : UInt8)]) ++ F.cutT z.fst z.snd)), (vS (ByteArray.mk (Array.mk [(32 : UInt8), (98 : UInt8), (101 : UInt8), (102 : UInt8), (111 : UInt8), (114
  : UInt8), (101 : UInt8)])))]) fun (z : ByteArray × ByteArray) => bif F.small z.fst && decide (ByteArray.size z.snd ≤ (100 : Nat)) then Option.bind (unenc encCuPo [(vS
  (F.cutP z.fst z.snd).fst), (vS (ByteArray.mk (Array.mk [(32 : UInt8), (97 : UInt8), (102 : UInt8), (116 : UInt8), (101 : UInt8), (114 : UInt8)])))]) fun (z_4 : ByteArray ×
  ByteArray) => bif F.small z_4.fst && decide (ByteArray.size z_4.snd ≤ (100 : Nat)) then some ((vB (ByteArray.toList (F.cutP z_4.fst z_4.snd).fst == ByteArray.toList
  (ByteArray.mk (Array.mk [])))), [(900, Blk.mk true 0 0 [[(vI fr), (vI tt), AV.e0, (vI (F.ato z_3)), (vB (F.cutP z.fst z.snd).snd), (vB (F.cutP z_4.fst z_4.snd).snd)]])],
  []) else none else none else none else Option.bind (unenc encCuPo [(vS (F.cutT z.fst z.snd)), (vS (ByteArray.mk (Array.mk [(32 : UInt8), (98 : UInt8), (101 : UInt8), (102
  : UInt8), (111 : UInt8), (114 : UInt8), (101 : UInt8)])))]) fun (z : ByteArray × ByteArray) => bif F.small z.fst && decide (ByteArray.size z.snd ≤ (100 : Nat)) then
  Option.bind (unenc encCuPo [(vS (F.cutP z.fst z.snd).fst), (vS (ByteArray.mk (Array.mk [(32 : UInt8), (97 : UInt8), (102 : UInt8), (116 : UInt8), (101 : UInt8), (114 :
  UInt8)])))]) fun (z_4 : ByteArray × ByteArray) => bif F.small z_4.fst && decide (ByteArray.size z_4.snd ≤ (100 : Nat)) then some ((vB (ByteArray.toList (F.cutP z_4.fst
  z_4.snd).fst == ByteArray.toList (ByteArray.mk (Array.mk [])))), [(900, Blk.mk true 0 0 [[(vI fr), (vI tt), AV.e0, (vI (F.ato z_3)), (vB (F.cutP z.fst z.snd).snd), (vB
  (F.cutP z_4.fst z_4.snd).snd)]])], []) else none else none else none else some ((vB false), [(900, Blk.mk true 0 0 [[(vI fr), (vI tt), AV.e0, (vI (0 : Int)), (vB false),
  (vB false)]])], []) else none else none else Option.bind (unenc encCuPo [(vS s), (vS (ByteArray.mk (Array.mk [(32 : UInt8), (98 : UInt8), (101 : UInt8), (102 : UInt8),
  (111 : UInt8), (114 : UInt8), (101 : UInt8)])))]) fun (z : ByteArray × ByteArray) => bif F.small z.fst && decide (ByteArray.size z.snd ≤ (100 : Nat)) then Option.bind
  (unenc encCuPo [(vS (F.cutP z.fst z.snd).fst), (vS (ByteArray.mk (Array.mk [(32 : UInt8), (97 : UInt8), (102 : UInt8), (116 : UInt8), (101 : UInt8), (114 : UInt8)])))])
  fun (z_1 : ByteArray × ByteArray) => bif F.small z_1.fst && decide (ByteArray.size z_1.snd ≤ (100 : Nat)) then some ((vB (ByteArray.toList (F.cutP z_1.fst z_1.snd).fst ==
  ByteArray.toList (ByteArray.mk (Array.mk [])))), [(900, Blk.mk true 0 0 [[(vI fr), (vI tt), AV.e0, (vI (0 : Int)), (vB (F.cutP z.fst z.snd).snd), (vB (F.cutP z_1.fst
  z_1.snd).snd)]])], []) else none else none else none := (runHR_val).symm.trans (by kernel_rfl)

def encStg1 (s : ByteArray) (fr : Int) (tt : Int) : List AV × Heap := ([vS s, .ptr 900 0 0], [(900, ⟨true, 0, 0, [[vI fr, vI tt, .e0, vI 0, vB false, vB false]]⟩)])

def encStg (a : ByteArray × Int × Int) : List AV × Heap := encStg1 a.1 a.2.1 a.2.2

theorem encStg_inj (a a' : ByteArray × Int × Int) (h : encStg a = encStg a') : a = a' := by
  simp only [encStg, encStg1] at h
  try simp [strs_inj, ints_inj, bools_inj, eL_eIs_inj, eCaps_inj, eCap_iff, eL_eCaps_inj, eMchs_inj, eMch_iff, eWrds_inj, eWrd_iff, eFnds_inj, eFnd_iff, eRatios_inj, eRatio_iff, eWays_inj, eWay_iff] at h
  grind

theorem unStg (s : ByteArray) (fr : Int) (tt : Int) : unenc encStg (([(vS s), .ptr 900 0 0], [(900, Blk.mk true 0 0 [[(vI fr), (vI tt), AV.e0, (vI (0 : Int)), (vB false), (vB false)]])])) = some (s, fr, tt) := unenc_of encStg_inj (s, fr, tt) rfl

def resStg1 (s : ByteArray) (fr : Int) (tt : Int) : AV × Heap × List Nat := (vB (F.mkOk s), [(900, ⟨true, 0, 0, [[vI fr, vI tt, .e0, vI (F.mkRow s), vB (F.mkBef s), vB (F.mkAft s)]]⟩)], [])

def preStg1 (s : ByteArray) (fr : Int) (tt : Int) : Bool := F.small s

noncomputable def oStg : OrcH := orcH 35 encStg (fun a => preStg1 a.1 a.2.1 a.2.2) fun a => resStg1 a.1 a.2.1 a.2.2

theorem okStg : OrcHOK Tryz.prog noG oStg := by
  refine mkH_ok (mv := []) Tryz.f35 (by kernel_rfl) (by kernel_rfl) enStg_ok mixed (no_loops (by kernel_rfl)) ?_
  rintro ⟨s, fr, tt⟩ hpre hok hokh
  show (runH enStg [] _ (encStg1 _ _ _).1 (encStg1 _ _ _).2).val = some (resStg1 _ _ _)
  unfold encStg1 resStg1
  rw [evStg]
  simp only [preStg1, F.small, decide_eq_true_eq] at hpre
  have eL : (⟨⟨[32, 108, 105, 110, 101, 58]⟩⟩ : ByteArray) = F.lineB := rfl
  have eB : (⟨⟨[32, 98, 101, 102, 111, 114, 101]⟩⟩ : ByteArray) = F.befB := rfl
  have eA : (⟨⟨[32, 97, 102, 116, 101, 114]⟩⟩ : ByteArray) = F.aftB := rfl
  have eS : (⟨⟨[32]⟩⟩ : ByteArray) = F.spB := rfl
  have ey : ∀ y : ByteArray, (y.toList == (⟨⟨[]⟩⟩ : ByteArray).toList) = F.emp y := fun _ => rfl
  have d1 : decide (F.lineB.size ≤ 100) = true := rfl
  have d2 : decide (F.befB.size ≤ 100) = true := rfl
  have d3 : decide (F.aftB.size ≤ 100) = true := rfl
  have s1 : F.small s = true := decide_eq_true hpre
  have hb : ∀ y : ByteArray, y.size ≤ 4294967280 → F.small y = true ∧ F.small (F.cutP y F.befB).1 = true := fun y hy =>
    ⟨decide_eq_true hy, F.small_le (F.cutP_size y F.befB) hy⟩
  have ht := F.cutP_size s F.lineB
  simp only [unCuPo, unCut, unDig, unAto, preCuPo1, preCut1, preDig1, preAto1, etaCap, etaMch, etaWrd, etaFnd, etaRatio, etaWay, Option.bind_some, List.length_map, unStrs, unInts, unBools, uneL_eIs, unCaps, uneL_eCaps, unMchs, unWrds, unFnds, unRatios, unWays, F.lt, F.le, cond_true, cond_false, Bool.and_true, Bool.true_and, eL, eB, eA, eS, ey, d1, d2, d3, s1, F.mkOk, F.mkRow, F.mkBef, F.mkAft, F.mk1, F.mkR, F.mkS, F.numOk, F.rstP]
  cases hc : (F.cutP s F.lineB).2
  · obtain ⟨b1, b2⟩ := hb s hpre
    simp only [b2, cond_true, cond_false, Bool.not_false, Bool.true_or, Bool.true_and]
  have hlt : (F.cutP s F.lineB).1.size + 6 ≤ s.size := by
    unfold F.cutP at hc ⊢
    cases h : F.hasP s F.lineB
    · rw [h] at hc; cases hc
    · have := F.hasP_le h
      have h6 : F.lineB.size = 6 := rfl
      have := F.ext_sz s 6
      rw [h6]
      simp only [cond_true]; omega
  generalize (F.cutP s F.lineB).1 = u at hlt ht ⊢
  have h1 := F.cutH_size u F.spB
  have h2 := F.cutT_size u F.spB
  have hs : (F.spB ++ F.cutT u F.spB).size = 1 + (F.cutT u F.spB).size := by rw [ByteArray.size_append]; rfl
  have k1 : decide (u.size ≤ 4294967280) = true := decide_eq_true (by omega)
  have k2 : F.small (F.cutH u F.spB) = true := F.small_le h1 (by omega)
  have k3 : Nat.ble (F.spB.size + (F.cutT u F.spB).size) 9223372036854775807 = true := ble_t (by have : F.spB.size = 1 := rfl; omega)
  obtain ⟨b1, b2⟩ := hb (F.spB ++ F.cutT u F.spB) (by omega)
  obtain ⟨b3, b4⟩ := hb (F.cutT u F.spB) (by omega)
  simp only [k1, k2, k3, b1, b2, b3, b4, cond_true, cond_false, Bool.and_self, Bool.not_true, Bool.false_or]
  cases hn : F.isNum (F.cutH u F.spB)
  · simp only [Bool.not_true, Bool.not_false, cond_true, cond_false, Bool.false_and]
  obtain ⟨b, hb0⟩ : ∃ b, (F.bs (F.cutH u F.spB))[0]? = some b := by
    have : 1 ≤ (F.cutH u F.spB).size := by
      unfold F.isNum at hn
      simp only [Bool.and_eq_true, decide_eq_true_eq] at hn
      exact hn.1.2
    exact ⟨_, List.getElem?_eq_getElem (by rw [F.bs_len]; omega)⟩
  have hz : F.zer (F.cutH u F.spB) = ((b.toNat : Int) == 48) := by unfold F.zer; rw [hb0]
  rw [F.bs_get, hb0, hz]
  simp only [Option.bind_some, Bool.not_true, Bool.not_false, cond_true, cond_false, Bool.true_and]
  cases ((b.toNat : Int) == 48)
  · cases F.cutF u F.spB <;> rfl
  · rfl

end M
end Go.Proofs.YthcfbeckhgngiaaGreatDoor
