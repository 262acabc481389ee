/- What is proved here: the reading of captions in the short form, of the program (no statement of the seat). -/
import Derived.Test.YthcfbeckhgngiaaDoorC118
namespace Go.Proofs.YthcfbeckhgngiaaDoor
open Go Go.RowKit
set_option linter.unusedVariables false
set_option linter.unusedSimpArgs false

namespace F

def comma : ByteArray := ⟨⟨[44]⟩⟩

/-- Is this line one of times, and of nothing else? -/
def tmOk (L : List ByteArray) (a : Nat) : Bool := tkB L a && (rtP (tkS L a) comma).2.2.2 && emp (rtP (tkS L a) comma).2.2.1

def capOf (s : ByteArray) (ls : List ByteArray) : Cap := ⟨(rtP s comma).1, (rtP s comma).2.1, ls, 0, false, false⟩

/-- Captions from a line on that is not empty. -/
def shL (L : List ByteArray) : Nat → List Cap → Nat → Bool × List Cap × Nat
  | 0, out, a => (true, out, a)
  | f + 1, out, a =>
    bif tkB L a then
      bif isNum (tkS L a) then
        bif tmOk L (a + 1) then
          bif (bd (L.drop (a + 1 + 1)) [] (a + 1 + 1)).1 then
            shL L f (out ++ [capOf (tkS L (a + 1)) (bd (L.drop (a + 1 + 1)) [] (a + 1 + 1)).2.1]) ((bd (L.drop (a + 1 + 1)) [] (a + 1 + 1)).2.2 + lead (L.drop (bd (L.drop (a + 1 + 1)) [] (a + 1 + 1)).2.2))
          else (false, [], (bd (L.drop (a + 1 + 1)) [] (a + 1 + 1)).2.2)
        else (false, [], a + 1 + 1)
      else (false, [], a + 1)
    else (true, out, a)

theorem bd_ge : ∀ (M acc : List ByteArray) (a : Nat), a ≤ (bd M acc a).2.2
  | [], acc, a => by
    rw [bd]
    cases acc.isEmpty <;> simp
  | x :: r, acc, a => by
    rw [bd]
    have := bd_ge r (acc ++ [x]) (a + 1)
    cases emp x && !acc.isEmpty
    · cases line x
      · simp
      · simp only [cond_false, cond_true]; omega
    · simp

theorem bd_le : ∀ (M acc : List ByteArray) (a : Nat), (bd M acc a).2.2 ≤ a + M.length + 1
  | [], acc, a => by
    rw [bd]
    cases acc.isEmpty <;> simp
  | x :: r, acc, a => by
    rw [bd]
    have := bd_le r (acc ++ [x]) (a + 1)
    cases emp x && !acc.isEmpty
    · cases line x
      · simp
      · simp only [cond_false, cond_true, List.length_cons]; omega
    · simp only [cond_true, List.length_cons]; omega

theorem bd_le_t : ∀ (M acc : List ByteArray) (a : Nat), (bd M acc a).1 = true → (bd M acc a).2.2 ≤ a + M.length
  | [], acc, a, h => by
    rw [bd] at h ⊢
    cases he : acc.isEmpty
    · simp
    · rw [he] at h; cases h
  | x :: r, acc, a, h => by
    rw [bd] at h ⊢
    have := bd_le_t r (acc ++ [x]) (a + 1)
    cases he : emp x && !acc.isEmpty
    · rw [he] at h
      cases hl : line x
      · rw [hl] at h; cases h
      · rw [hl] at h
        simp only [cond_false, cond_true, List.length_cons] at h ⊢
        have := this h
        omega
    · simp

theorem shL_fuel (L : List ByteArray) : ∀ (f g : Nat) (out : List Cap) (a : Nat), L.length < f + a → L.length < g + a → shL L f out a = shL L g out a
  | 0, 0, out, a, _, _ => rfl
  | 0, g + 1, out, a, h, _ => by
    have ht : tkB L a = false := decide_eq_false (by omega)
    rw [shL, shL, ht]; rfl
  | f + 1, 0, out, a, _, h => by
    have ht : tkB L a = false := decide_eq_false (by omega)
    rw [shL, shL, ht]; rfl
  | f + 1, g + 1, out, a, h1, h2 => by
    have hb := bd_ge (L.drop (a + 1 + 1)) [] (a + 1 + 1)
    rw [shL, shL]
    rw [shL_fuel L f g _ _ (by omega) (by omega)]

/-- What the program reads of lines in the short form. -/
def shA (L : List ByteArray) (a : Nat) : Bool × List Cap × Nat := shL L (L.length + 1 - (a + lead (L.drop a))) [] (a + lead (L.drop a))

end F

namespace M

def stSho (L : List ByteArray) (out : List Cap) (a : Nat) : St := ⟨[(4, .own 4), (0, .ptr 900 0 0)], [(900, ⟨true, 0, 0, [[.sl (L.map eStr), vI a]]⟩), (4, ⟨false, 42, 6, out.map eCap⟩)]⟩

def stSho1 (a : (List ByteArray) × (List Cap) × Nat) : St := stSho a.1 a.2.1 a.2.2

theorem stSho_inj (a a' : (List ByteArray) × (List Cap) × Nat) (h : stSho1 a = stSho1 a') : a = a' := by
  simp only [stSho1, stSho] at h
  try simp [strs_inj, ints_inj, bools_inj, eL_eIs_inj, eCaps_inj, eCap_iff, eL_eCaps_inj, eMchs_inj, eMch_iff, eWrds_inj, eWrd_iff, eFnds_inj, eFnd_iff, eRatios_inj, eRatio_iff, eWays_inj, eWay_iff] at h
  grind

theorem unstSho (L : List ByteArray) (out : List Cap) (a : Nat) : unenc stSho1 (St.mk [(4, .own 4), (0, .ptr 900 0 0)] [(900, Blk.mk true 0 0 [[AV.sl (List.map eStr L), (vI (↑a : Int))]]), (4, Blk.mk false 42 6 (List.map eCap out))]) = some (L, out, a) := unenc_of stSho_inj (L, out, a) rfl

theorem unstSho0 (L : List ByteArray) (a : Nat)  : unenc stSho1 (St.mk [(4, .own 4), (0, .ptr 900 0 0)] [(900, Blk.mk true 0 0 [[AV.sl (List.map eStr L), (vI (↑a : Int))]]), (4, Blk.mk false 42 6 [])]) = some (L, [], a) := unenc_of stSho_inj (L, [], a) rfl

def outSho (L : List ByteArray) (out : List Cap) (a : Nat) : T (Ex × St) := .ifB (F.shL L (L.length + 1 - a) out a).1
      (.ret (.exit 0, ⟨[(4, .own 4)], [(900, ⟨true, 0, 0, [[.sl (L.map eStr), vI (F.shL L (L.length + 1 - a) out a).2.2]]⟩), (4, ⟨false, 42, 6, (F.shL L (L.length + 1 - a) out a).2.1.map eCap⟩)]⟩))
      (.ret (.ret, ⟨[(3, vB false), (2, .own 2)], [(900, ⟨true, 0, 0, [[.sl (L.map eStr), vI (F.shL L (L.length + 1 - a) out a).2.2]]⟩), (2, ⟨false, 42, 6, []⟩)]⟩))

noncomputable def prlSho (L : List ByteArray) (out : List Cap) (a : Nat) : Bool := F.linesOk L && decide (a ≤ 200001) && decide (out.length ≤ a)

noncomputable def lpSho : Nat × (St → T (Ex × St)) := (3, lpo [4, 0] [900, 4] stSho1 (fun a => prlSho a.1 a.2.1 a.2.2) fun a => outSho a.1 a.2.1 a.2.2)

noncomputable def enSho : Env := envH ty noG lks [oDig, oMor] [oBla, oTak, oRtp, oBod] [] [lpSho]

theorem enSho_ok : EnvOK Tryd.prog enSho := by
  refine envH_ok lks_ok ty_ok ?_ ?_
  · simp only [List.forall_mem_cons]
    exact ⟨okDig, okMor, by simp⟩
  · simp only [List.forall_mem_cons]
    exact ⟨okBla, okTak, okRtp, okBod, by simp⟩

theorem evShoL (L : List ByteArray) (out : List Cap) (a : Nat) : ((exec enSho (loopN Tryd.f15 0) (stSho L out a)).bind (lessX ([4, 0], [900, 4]) ([4], [900, 4]) ([3, 2], [900, 2]))).val =
  Option.bind (unenc encMor [AV.pel [AV.sl (List.map eStr L), (vI (↑a : Int))] (0 : Nat)]) fun (z : List ByteArray × Nat) => bif F.tkB z.fst z.snd then Option.bind (unenc
  encTak ([.ptr 900 0 0], [(900, Blk.mk true 0 0 [[AV.sl (List.map eStr L), (vI (↑a : Int))]])])) fun (z : List ByteArray × Nat) => bif F.linesOk z.fst && decide (z.snd ≤
  (200001 : Nat)) then Option.bind (unenc encDig [(vS (F.tkS z.fst z.snd))]) fun (z_1 : ByteArray) => bif F.small z_1 then bif !F.isNum z_1 then some (Ex.ret, St.mk [(3, (vB
  false)), (2, .own 2)] [(900, Blk.mk true 0 0 [[AV.sl (List.map eStr z.fst), (vI (↑(z.snd + (1 : Nat)) : Int))]]), (2, Blk.mk false 42 6 [])]) else Option.bind (unenc
  encTak ([.ptr 900 0 0], [(900, Blk.mk true 0 0 [[AV.sl (List.map eStr z.fst), (vI (↑(z.snd + (1 : Nat)) : Int))]])])) fun (z : List ByteArray × Nat) => bif F.linesOk z.fst
  && decide (z.snd ≤ (200001 : Nat)) then Option.bind (unenc encRtp ([(vS (F.tkS z.fst z.snd)), (vS (ByteArray.mk (Array.mk [(44 : UInt8)]))), .ptr 900 0 0], [(900, Blk.mk
  true 0 0 [[(vI (0 : Int)), (vI (0 : Int)), AV.e0, (vI (0 : Int)), (vB false), (vB false)]])])) fun (z_2 : ByteArray × ByteArray) => bif F.small z_2.fst && decide
  (ByteArray.size z_2.snd = (1 : Nat)) then bif !bif bif !F.tkB z.fst z.snd then true else !((F.rdT z_2.fst z_2.snd).snd.snd && (F.cutP (F.rdT z_2.fst z_2.snd).snd.fst
  F.arrow).snd && (F.rdT (F.cutP (F.rdT z_2.fst z_2.snd).snd.fst F.arrow).fst z_2.snd).snd.snd) then true else !ByteArray.toList (F.rdT (F.cutP (F.rdT z_2.fst
  z_2.snd).snd.fst F.arrow).fst z_2.snd).snd.fst == ByteArray.toList (ByteArray.mk (Array.mk [])) then Option.bind (unenc encBod ([.ptr 900 0 0, .ptr 901 0 0, AV.fn (46 :
  Nat) []], [(901, Blk.mk true 0 0 [[(vI (F.rdT z_2.fst z_2.snd).fst), (vI (F.rdT (F.cutP (F.rdT z_2.fst z_2.snd).snd.fst F.arrow).fst z_2.snd).fst), AV.e0, (vI (0 : Int)),
  (vB false), (vB false)]]), (900, Blk.mk true 0 0 [[AV.sl (List.map eStr z.fst), (vI (↑(z.snd + (1 : Nat)) : Int))]])])) fun (z : List ByteArray × Int × Int × Nat) => bif
  F.linesOk z.fst && decide (z.snd.snd.snd ≤ (200001 : Nat)) then bif (F.bd (List.drop z.snd.snd.snd z.fst) [] z.snd.snd.snd).fst then bif Nat.ble ((List.length (List.map
  eCap out) + (1 : Nat)) * (56 : Nat)) (140737488355328 : Nat) && true then Option.bind (unenc encBla ([.ptr 900 0 0], [(900, Blk.mk true 0 0 [[AV.sl (List.map eStr z.fst),
  (vI (↑(F.bd (List.drop z.snd.snd.snd z.fst) [] z.snd.snd.snd).snd.snd : Int))]])])) fun (z_3 : List ByteArray × Nat) => bif F.linesOk z_3.fst && decide (z_3.snd ≤ (200001
  : Nat)) then some (Ex.normal, St.mk [(4, .own 4), (0, .ptr 900 0 0)] [(900, Blk.mk true 0 0 [[AV.sl (List.map eStr z_3.fst), (vI (↑(z_3.snd + F.lead (List.drop z_3.snd
  z_3.fst)) : Int))]]), (4, Blk.mk false 42 6 (List.map eCap out ++ [[(vI z.snd.fst), (vI z.snd.snd.fst), AV.sl (List.map eStr (F.bd (List.drop z.snd.snd.snd z.fst) []
  z.snd.snd.snd).snd.fst), (vI (0 : Int)), (vB false), (vB false)]]))]) else none else none else bif F.isE (F.bd (List.drop z.snd.snd.snd z.fst) [] z.snd.snd.snd).snd.fst
  then some (Ex.ret, St.mk [(3, (vB false)), (2, .own 2)] [(900, Blk.mk true 0 0 [[AV.sl (List.map eStr z.fst), (vI (↑(F.bd (List.drop z.snd.snd.snd z.fst) []
  z.snd.snd.snd).snd.snd : Int))]]), (2, Blk.mk false 42 6 [])]) else some (Ex.ret, St.mk [(3, (vB false)), (2, .own 2)] [(900, Blk.mk true 0 0 [[AV.sl (List.map eStr
  z.fst), (vI (↑(F.bd (List.drop z.snd.snd.snd z.fst) [] z.snd.snd.snd).snd.snd : Int))]]), (2, Blk.mk false 42 6 [])]) else none else some (Ex.ret, St.mk [(3, (vB false)),
  (2, .own 2)] [(900, Blk.mk true 0 0 [[AV.sl (List.map eStr z.fst), (vI (↑(z.snd + (1 : Nat)) : Int))]]), (2, Blk.mk false 42 6 [])]) else none else none else none else
  none else some (Ex.exit (0 : Nat), St.mk [(4, .own 4)] [(900, Blk.mk true 0 0 [[AV.sl (List.map eStr L), (vI (↑a : Int))]]), (4, Blk.mk false 42 6 (List.map eCap out))]) := (execR_bind _ _ _).symm.trans (by kernel_rfl)

theorem lpSho_ok (L : List ByteArray) (out : List Cap) (a : Nat) (hp : prlSho L out a = true) : ∀ ex s', (outSho L out a).val = some (ex, s') → LoopOK enSho (loopN Tryd.f15 0) (stSho L out a) ex s' := by
  simp only [prlSho, Bool.and_eq_true, decide_eq_true_eq] at hp
  obtain ⟨⟨h1, h2⟩, h3⟩ := hp
  have hL : L.length ≤ 200001 ∧ L.all F.small = true := by simpa [F.linesOk] using h1
  refine loop_gen (st := fun b : List Cap × Nat => stSho L b.1 b.2) (out := fun b => outSho L b.1 b.2) (I := fun b => b.2 ≤ 200001 ∧ b.1.length ≤ b.2) (n := ([4, 0], [900, 4])) (e := ([4], [900, 4])) (r := ([3, 2], [900, 2])) (fun b => L.length + 1 - b.2) ?_ (out, a) ⟨h2, h3⟩
  rintro ⟨out, a⟩ ⟨i1, i2⟩
  simp only at i1 i2
  have hsm : ∀ k, F.small (F.tkS L k) = true := fun k => by
    unfold F.tkS F.tkB
    by_cases hk : k < L.length
    · rw [decide_eq_true hk, cond_true]
      have hy : L[k]? = some L[k] := List.getElem?_eq_getElem hk
      rw [getD_at hy]
      exact List.all_eq_true.1 hL.2 _ (List.mem_of_getElem? hy)
    · rw [decide_eq_false hk]; rfl
  have ec : (⟨⟨[44]⟩⟩ : ByteArray) = F.comma := rfl
  have e1 : decide (F.comma.size = 1) = true := rfl
  have ey : ∀ y : ByteArray, (y.toList == (⟨⟨[]⟩⟩ : ByteArray).toList) = F.emp y := fun _ => rfl
  cases ht : F.tkB L a
  · left
    obtain ⟨f, hf⟩ : ∃ f, L.length + 1 - a = f := ⟨_, rfl⟩
    refine ⟨(.exit 0, ⟨[(4, .own 4)], [(900, ⟨true, 0, 0, [[.sl (L.map eStr), vI a]]⟩), (4, ⟨false, 42, 6, out.map eCap⟩)]⟩), ?_, ?_, by simp, rfl⟩
    · rw [evShoL]
      simp only [unDig, unMor, unBla, unTak, unRtp, unBod, preDig1, preMor1, preBla1, preTak1, preRtp1, preBod1, unstSho, unstSho0, prlSho, outSho, etaCap, etaMch, etaWrd, etaFnd, etaRatio, etaWay, Option.bind_some, List.length_map, unStrs, unInts, unBools, uneL_eIs, unCaps, uneL_eCaps, unMchs, unWrds, unFnds, unRatios, unWays, F.lt, F.le, cond_true, cond_false, Bool.and_true, Bool.true_and, ht]
    · have : F.shL L (L.length + 1 - a) out a = (true, out, a) := by
        cases L.length + 1 - a with
        | zero => rfl
        | succ f => rw [F.shL, ht]; rfl
      simp only [outSho, this]
      rfl
  have ha : a < L.length := by simpa [F.tkB] using ht
  obtain ⟨f, hf⟩ : ∃ f, L.length + 1 - a = f + 1 := ⟨L.length - a, by omega⟩
  have h2 : decide (a ≤ 200001) = true := decide_eq_true i1
  have h2' : decide (a + 1 ≤ 200001) = true := decide_eq_true (by omega)
  cases hn : F.isNum (F.tkS L a)
  · left
    refine ⟨(.ret, ⟨[(3, vB false), (2, .own 2)], [(900, ⟨true, 0, 0, [[.sl (L.map eStr), vI (a + 1 : Nat)]]⟩), (2, ⟨false, 42, 6, []⟩)]⟩), ?_, ?_, by simp, rfl⟩
    · rw [evShoL]
      simp only [unDig, unMor, unBla, unTak, unRtp, unBod, preDig1, preMor1, preBla1, preTak1, preRtp1, preBod1, unstSho, unstSho0, prlSho, outSho, etaCap, etaMch, etaWrd, etaFnd, etaRatio, etaWay, Option.bind_some, List.length_map, unStrs, unInts, unBools, uneL_eIs, unCaps, uneL_eCaps, unMchs, unWrds, unFnds, unRatios, unWays, F.lt, F.le, cond_true, cond_false, Bool.and_true, Bool.true_and, ht, hn, h1, h2, hsm, Bool.and_self, Bool.not_true, Bool.not_false]
      done
    · simp only [outSho, hf, F.shL, ht, hn, cond_true, cond_false]
      rfl
  have failT : ∀ (w : (F.tkB L (a + 1) && (F.rtP (F.tkS L (a + 1)) F.comma).2.2.2 && F.emp (F.rtP (F.tkS L (a + 1)) F.comma).2.2.1) = false), (outSho L out a).val = some (.ret, ⟨[(3, vB false), (2, .own 2)], [(900, ⟨true, 0, 0, [[.sl (L.map eStr), vI (a + 1 + 1 : Nat)]]⟩), (2, ⟨false, 42, 6, []⟩)]⟩) := fun w => by
    have w : F.tmOk L (a + 1) = false := w
    simp only [outSho, hf, F.shL, ht, hn, w, cond_true, cond_false]
    rfl
  cases hk : F.tkB L (a + 1)
  · left
    refine ⟨_, ?_, failT (by rw [hk]; rfl), by simp, rfl⟩
    rw [evShoL]
    simp only [unDig, unMor, unBla, unTak, unRtp, unBod, preDig1, preMor1, preBla1, preTak1, preRtp1, preBod1, unstSho, unstSho0, prlSho, outSho, etaCap, etaMch, etaWrd, etaFnd, etaRatio, etaWay, Option.bind_some, List.length_map, unStrs, unInts, unBools, uneL_eIs, unCaps, uneL_eCaps, unMchs, unWrds, unFnds, unRatios, unWays, F.lt, F.le, cond_true, cond_false, Bool.and_true, Bool.true_and, ht, hn, hk, h1, h2, h2', hsm, ec, e1, ey, Bool.and_self, Bool.not_true, Bool.not_false]
    done
  cases hg : (F.rtP (F.tkS L (a + 1)) F.comma).2.2.2
  · left
    refine ⟨_, ?_, failT (by rw [hk, hg]; rfl), by simp, rfl⟩
    simp only [F.rtP] at hg
    rw [evShoL]
    simp only [unDig, unMor, unBla, unTak, unRtp, unBod, preDig1, preMor1, preBla1, preTak1, preRtp1, preBod1, unstSho, unstSho0, prlSho, outSho, etaCap, etaMch, etaWrd, etaFnd, etaRatio, etaWay, Option.bind_some, List.length_map, unStrs, unInts, unBools, uneL_eIs, unCaps, uneL_eCaps, unMchs, unWrds, unFnds, unRatios, unWays, F.lt, F.le, cond_true, cond_false, Bool.and_true, Bool.true_and, ht, hn, hk, hg, h1, h2, h2', hsm, ec, e1, ey, Bool.and_self, Bool.not_true, Bool.not_false]
    done
  cases he : F.emp (F.rtP (F.tkS L (a + 1)) F.comma).2.2.1
  · left
    refine ⟨_, ?_, failT (by rw [hk, hg, he]; rfl), by simp, rfl⟩
    simp only [F.rtP] at hg he
    rw [evShoL]
    simp only [unDig, unMor, unBla, unTak, unRtp, unBod, preDig1, preMor1, preBla1, preTak1, preRtp1, preBod1, unstSho, unstSho0, prlSho, outSho, etaCap, etaMch, etaWrd, etaFnd, etaRatio, etaWay, Option.bind_some, List.length_map, unStrs, unInts, unBools, uneL_eIs, unCaps, uneL_eCaps, unMchs, unWrds, unFnds, unRatios, unWays, F.lt, F.le, cond_true, cond_false, Bool.and_true, Bool.true_and, ht, hn, hk, hg, he, h1, h2, h2', hsm, ec, e1, ey, Bool.and_self, Bool.not_true, Bool.not_false]
    done
  have htm : F.tmOk L (a + 1) = true := by unfold F.tmOk; rw [hk, hg, he]; rfl
  have ha1 : a + 1 < L.length := by simpa [F.tkB] using hk
  have h2'' : decide (a + 1 + 1 ≤ 200001) = true := decide_eq_true (by omega)
  have hg' := hg
  have he' := he
  simp only [F.rtP] at hg' he'
  cases hb : (F.bd (L.drop (a + 1 + 1)) [] (a + 1 + 1)).1
  · left
    refine ⟨(.ret, ⟨[(3, vB false), (2, .own 2)], [(900, ⟨true, 0, 0, [[.sl (L.map eStr), vI (F.bd (L.drop (a + 1 + 1)) [] (a + 1 + 1)).2.2]]⟩), (2, ⟨false, 42, 6, []⟩)]⟩), ?_, ?_, by simp, rfl⟩
    · rw [evShoL]
      simp only [unDig, unMor, unBla, unTak, unRtp, unBod, preDig1, preMor1, preBla1, preTak1, preRtp1, preBod1, unstSho, unstSho0, prlSho, outSho, etaCap, etaMch, etaWrd, etaFnd, etaRatio, etaWay, Option.bind_some, List.length_map, unStrs, unInts, unBools, uneL_eIs, unCaps, uneL_eCaps, unMchs, unWrds, unFnds, unRatios, unWays, F.lt, F.le, cond_true, cond_false, Bool.and_true, Bool.true_and, ht, hn, hk, hg', he', hb, h1, h2, h2', h2'', hsm, ec, e1, ey, Bool.and_self, Bool.not_true, Bool.not_false]
      cases F.isE (F.bd (L.drop (a + 1 + 1)) [] (a + 1 + 1)).2.1 <;> rfl
    · simp only [outSho, hf, F.shL, ht, hn, htm, hb, cond_true, cond_false]
      rfl
  · right
    have b1 := F.bd_ge (L.drop (a + 1 + 1)) [] (a + 1 + 1)
    have b2 := F.bd_le_t (L.drop (a + 1 + 1)) [] (a + 1 + 1) hb
    rw [List.length_drop] at b2
    have b3 := F.lead_le (L.drop (F.bd (L.drop (a + 1 + 1)) [] (a + 1 + 1)).2.2)
    rw [List.length_drop] at b3
    have h4 : decide ((F.bd (L.drop (a + 1 + 1)) [] (a + 1 + 1)).2.2 ≤ 200001) = true := decide_eq_true (by omega)
    refine ⟨(out ++ [F.capOf (F.tkS L (a + 1)) (F.bd (L.drop (a + 1 + 1)) [] (a + 1 + 1)).2.1], (F.bd (L.drop (a + 1 + 1)) [] (a + 1 + 1)).2.2 + F.lead (L.drop (F.bd (L.drop (a + 1 + 1)) [] (a + 1 + 1)).2.2)), ?_, rfl, ⟨by simp only; omega, by simp; omega⟩, by simp only; omega, ?_⟩
    · rw [evShoL]
      simp only [unDig, unMor, unBla, unTak, unRtp, unBod, preDig1, preMor1, preBla1, preTak1, preRtp1, preBod1, unstSho, unstSho0, prlSho, outSho, etaCap, etaMch, etaWrd, etaFnd, etaRatio, etaWay, Option.bind_some, List.length_map, unStrs, unInts, unBools, uneL_eIs, unCaps, uneL_eCaps, unMchs, unWrds, unFnds, unRatios, unWays, F.lt, F.le, cond_true, cond_false, Bool.and_true, Bool.true_and, ht, hn, hk, hg', he', hb, h1, h2, h2', h2'', h4, hsm, ec, e1, ey, Bool.and_self, Bool.not_true, Bool.not_false]
      have em : out.map eCap ++ [[vI (F.rdT (F.tkS L (a + 1)) F.comma).1, vI (F.rdT (F.cutP (F.rdT (F.tkS L (a + 1)) F.comma).2.1 F.arrow).1 F.comma).1, .sl ((F.bd (L.drop (a + 1 + 1)) [] (a + 1 + 1)).2.1.map eStr), vI 0, vB false, vB false]] = (out ++ [F.capOf (F.tkS L (a + 1)) (F.bd (L.drop (a + 1 + 1)) [] (a + 1 + 1)).2.1]).map eCap := by
        rw [List.map_append]; rfl
      rw [em, ble_t (show (out.length + 1) * 56 ≤ 140737488355328 by omega)]
      rfl
    · have key := F.shL_fuel L (L.length + 1 - ((F.bd (L.drop (a + 1 + 1)) [] (a + 1 + 1)).2.2 + F.lead (L.drop (F.bd (L.drop (a + 1 + 1)) [] (a + 1 + 1)).2.2))) f (out ++ [F.capOf (F.tkS L (a + 1)) (F.bd (L.drop (a + 1 + 1)) [] (a + 1 + 1)).2.1]) ((F.bd (L.drop (a + 1 + 1)) [] (a + 1 + 1)).2.2 + F.lead (L.drop (F.bd (L.drop (a + 1 + 1)) [] (a + 1 + 1)).2.2)) (by omega) (by omega)
      simp only [outSho, hf, F.shL, ht, hn, htm, hb, cond_true, cond_false, key]

theorem evSho (L : List ByteArray) (a : Nat) : (runH enSho [] Tryd.f15 [.ptr 900 0 0] [(900, ⟨true, 0, 0, [[.sl (L.map eStr), vI a]]⟩)]).val =
  Option.bind (unenc encBla ([.ptr 900 0 0], [(900, Blk.mk true 0 0 [[AV.sl (List.map eStr L), (vI (↑a : Int))]])])) fun (z : List ByteArray × Nat) => bif F.linesOk z.fst &&
  decide (z.snd ≤ (200001 : Nat)) then Option.bind (unenc stSho1 (St.mk [(4, .own 4), (0, .ptr 900 0 0)] [(900, Blk.mk true 0 0 [[AV.sl (List.map eStr z.fst), (vI (↑(z.snd +
  F.lead (List.drop z.snd z.fst)) : Int))]]), (4, Blk.mk false 42 6 [])])) fun (z : List ByteArray × List Cap × Nat) => bif F.linesOk z.fst && decide (z.snd.snd ≤ (200001 :
  Nat)) && decide (List.length z.snd.fst ≤ z.snd.snd) && true then bif (F.shL z.fst (List.length z.fst + (1 : Nat) - z.snd.snd) z.snd.fst z.snd.snd).fst then some (AV.tup
  [.own 0, (vB true)], [(900, Blk.mk true 0 0 [[AV.sl (List.map eStr z.fst), (vI (↑(F.shL z.fst (List.length z.fst + (1 : Nat) - z.snd.snd) z.snd.fst z.snd.snd).snd.snd :
  Int))]]), (0, Blk.mk false 42 6 (List.map eCap (F.shL z.fst (List.length z.fst + (1 : Nat) - z.snd.snd) z.snd.fst z.snd.snd).snd.fst))], []) else some (AV.tup [.own 0, (vB
  false)], [(900, Blk.mk true 0 0 [[AV.sl (List.map eStr z.fst), (vI (↑(F.shL z.fst (List.length z.fst + (1 : Nat) - z.snd.snd) z.snd.fst z.snd.snd).snd.snd : Int))]]), (0,
  Blk.mk false 42 6 [])], []) else none else none := (runHR_val).symm.trans (by kernel_rfl)

def encSho1 (L : List ByteArray) (a : Nat) : List AV × Heap := ([.ptr 900 0 0], [(900, ⟨true, 0, 0, [[.sl (L.map eStr), vI a]]⟩)])

def encSho (a : (List ByteArray) × Nat) : List AV × Heap := encSho1 a.1 a.2

theorem encSho_inj (a a' : (List ByteArray) × Nat) (h : encSho a = encSho a') : a = a' := by
  simp only [encSho, encSho1] at h
  try simp [strs_inj, ints_inj, bools_inj, eL_eIs_inj, eCaps_inj, eCap_iff, eL_eCaps_inj, eMchs_inj, eMch_iff, eWrds_inj, eWrd_iff, eFnds_inj, eFnd_iff, eRatios_inj, eRatio_iff, eWays_inj, eWay_iff] at h
  grind

theorem unSho (L : List ByteArray) (a : Nat) : unenc encSho (([.ptr 900 0 0], [(900, Blk.mk true 0 0 [[AV.sl (List.map eStr L), (vI (↑a : Int))]])])) = some (L, a) := unenc_of encSho_inj (L, a) rfl

def resSho1 (L : List ByteArray) (a : Nat) : AV × Heap × List Nat := (.tup [.own 0, vB (F.shA L a).1], [(900, ⟨true, 0, 0, [[.sl (L.map eStr), vI (F.shA L a).2.2]]⟩), (0, ⟨false, 42, 6, (bif (F.shA L a).1 then (F.shA L a).2.1 else []).map eCap⟩)], [])

def preSho1 (L : List ByteArray) (a : Nat) : Bool := F.linesOk L && decide (a ≤ L.length)

noncomputable def oSho : OrcH := orcH 15 encSho (fun a => preSho1 a.1 a.2) fun a => resSho1 a.1 a.2

theorem okSho : OrcHOK Tryd.prog noG oSho := by
  refine mkH_ok (mv := []) Tryd.f15 (by kernel_rfl) (by kernel_rfl) enSho_ok mixed (one_loop (x0 := loopN Tryd.f15 0) (by kernel_rfl) (lpo_ok ?_)) ?_
  · rintro ⟨L, out, a⟩ hp
    exact lpSho_ok L out a hp
  rintro ⟨L, a⟩ hpre hok hokh
  show (runH enSho [] _ (encSho1 _ _).1 (encSho1 _ _).2).val = some (resSho1 _ _)
  unfold encSho1 resSho1
  rw [evSho]
  simp only [preSho1, Bool.and_eq_true, decide_eq_true_eq] at hpre
  obtain ⟨h1, h2⟩ := hpre
  have hL : L.length ≤ 200001 ∧ L.all F.small = true := by simpa [F.linesOk] using h1
  have b3 := F.lead_le (L.drop a)
  rw [List.length_drop] at b3
  simp only [unDig, unMor, unBla, unTak, unRtp, unBod, preDig1, preMor1, preBla1, preTak1, preRtp1, preBod1, unstSho, unstSho0, prlSho, outSho, etaCap, etaMch, etaWrd, etaFnd, etaRatio, etaWay, Option.bind_some, List.length_map, unStrs, unInts, unBools, uneL_eIs, unCaps, uneL_eCaps, unMchs, unWrds, unFnds, unRatios, unWays, F.lt, F.le, cond_true, cond_false, Bool.and_true, Bool.true_and, h1, decide_eq_true (show a ≤ 200001 by omega), decide_eq_true (show a + F.lead (L.drop a) ≤ 200001 by omega), Nat.zero_le, List.length_nil, decide_true, Bool.and_self]
  have e : F.shL L (L.length + 1 - (a + F.lead (L.drop a))) [] (a + F.lead (L.drop a)) = F.shA L a := rfl
  rw [e]
  generalize F.shA L a = q
  obtain ⟨q1, q2, q3⟩ := q
  cases q1 <;> rfl

end M
end Go.Proofs.YthcfbeckhgngiaaDoor
