/- What is proved here: the reading of captions in the long form, of the program (no statement of the seat). -/
import Derived.Test.YthcfbeckhgngiaaGreatDoorC134
namespace Go.Proofs.YthcfbeckhgngiaaGreatDoor
open Go Go.RowKit
set_option linter.unusedVariables false
set_option linter.unusedSimpArgs false

namespace F

def dot : ByteArray := ⟨⟨[46]⟩⟩

def webB : ByteArray := ⟨⟨[87, 69, 66, 86, 84, 84]⟩⟩

/-- Is this line one of times and marks? -/
def lgOk (s : ByteArray) : Bool := (rtP s dot).2.2.2 && mkOk (rtP s dot).2.2.1

def lgCap (s : ByteArray) (ls : List ByteArray) : Cap := ⟨(rtP s dot).1, (rtP s dot).2.1, ls, mkRow (rtP s dot).2.2.1, mkBef (rtP s dot).2.2.1, mkAft (rtP s dot).2.2.1⟩

/-- Captions in the long form from a line on that is not empty. -/
def lgL (L : List ByteArray) : Nat → List Cap → Nat → Bool × List Cap × Nat
  | 0, out, a => (true, out, a)
  | f + 1, out, a =>
    bif tkB L a then
      bif lgOk (tkS L a) then
        bif (bdP (L.drop (a + 1)) [] (a + 1)).1 then
          lgL L f (out ++ [lgCap (tkS L a) (bdP (L.drop (a + 1)) [] (a + 1)).2.1]) ((bdP (L.drop (a + 1)) [] (a + 1)).2.2 + lead (L.drop (bdP (L.drop (a + 1)) [] (a + 1)).2.2))
        else (false, [], (bdP (L.drop (a + 1)) [] (a + 1)).2.2)
      else (false, [], a + 1)
    else (true, out, a)

theorem bdP_ge : ∀ (M acc : List ByteArray) (a : Nat), a ≤ (bdP M acc a).2.2
  | [], acc, a => by
    rw [bdP]
    cases acc.isEmpty <;> simp
  | x :: r, acc, a => by
    rw [bdP]
    have := bdP_ge r (acc ++ [plV x]) (a + 1)
    cases emp x && !acc.isEmpty
    · cases plOk x
      · simp
      · simp only [cond_false, cond_true]; omega
    · simp

theorem bdP_le_t : ∀ (M acc : List ByteArray) (a : Nat), (bdP M acc a).1 = true → (bdP M acc a).2.2 ≤ a + M.length
  | [], acc, a, h => by
    rw [bdP] at h ⊢
    cases he : acc.isEmpty
    · simp
    · rw [he] at h; cases h
  | x :: r, acc, a, h => by
    rw [bdP] at h ⊢
    have := bdP_le_t r (acc ++ [plV x]) (a + 1)
    cases he : emp x && !acc.isEmpty
    · rw [he] at h
      cases hl : plOk x
      · rw [hl] at h; cases h
      · rw [hl] at h
        simp only [cond_false, cond_true, List.length_cons] at h ⊢
        have := this h
        omega
    · simp

theorem lgL_fuel (L : List ByteArray) : ∀ (f g : Nat) (out : List Cap) (a : Nat), L.length < f + a → L.length < g + a → lgL L f out a = lgL L g out a
  | 0, 0, out, a, _, _ => rfl
  | 0, g + 1, out, a, h, _ => by
    have ht : tkB L a = false := decide_eq_false (by omega)
    rw [lgL, lgL, ht]; rfl
  | f + 1, 0, out, a, _, h => by
    have ht : tkB L a = false := decide_eq_false (by omega)
    rw [lgL, lgL, ht]; rfl
  | f + 1, g + 1, out, a, h1, h2 => by
    have hb := bdP_ge (L.drop (a + 1)) [] (a + 1)
    rw [lgL, lgL]
    rw [lgL_fuel L f g _ _ (by omega) (by omega)]

/-- Is the head of a text in the long form as it ought to be: its first line; behind it. -/
def hd1 (L : List ByteArray) : Bool := tkB L 0 && seq (tkS L 0) webB

def hd2 (L : List ByteArray) : Bool := ((lead (L.drop 1) : Int) == 0) && tkB L 1

/-- What the program reads of lines in the long form. -/
def lgA (L : List ByteArray) : Bool × List Cap × Nat :=
  bif hd1 L then (bif hd2 L then (false, [], 2) else lgL L (L.length + 1 - (1 + lead (L.drop 1))) [] (1 + lead (L.drop 1))) else (false, [], 1)

end F

namespace M

theorem lgCap_row (s : ByteArray) (ls : List ByteArray) : eCap (F.lgCap s ls) = [vI (F.rdT s F.dot).1, vI (F.rdT (F.cutP (F.rdT s F.dot).2.1 F.arrow).1 F.dot).1, .sl (ls.map eStr), vI (F.mkRow (F.rdT (F.cutP (F.rdT s F.dot).2.1 F.arrow).1 F.dot).2.1), vB (F.mkBef (F.rdT (F.cutP (F.rdT s F.dot).2.1 F.arrow).1 F.dot).2.1), vB (F.mkAft (F.rdT (F.cutP (F.rdT s F.dot).2.1 F.arrow).1 F.dot).2.1)] := by
  simp only [eCap, F.lgCap, F.rtP]

def stLgo (L : List ByteArray) (out : List Cap) (a : Nat) : St := ⟨[(7, .own 7), (0, .ptr 900 0 0)], [(900, ⟨true, 0, 0, [[.sl (L.map eStr), vI a]]⟩), (7, ⟨false, 41, 6, out.map eCap⟩)]⟩

def stLgo1 (a : (List ByteArray) × (List Cap) × Nat) : St := stLgo a.1 a.2.1 a.2.2

theorem stLgo_inj (a a' : (List ByteArray) × (List Cap) × Nat) (h : stLgo1 a = stLgo1 a') : a = a' := by
  simp only [stLgo1, stLgo] at h
  try simp [strs_inj, ints_inj, bools_inj, eL_eIs_inj, eCaps_inj, eCap_iff, eL_eCaps_inj, eMchs_inj, eMch_iff, eWrds_inj, eWrd_iff, eFnds_inj, eFnd_iff, eRatios_inj, eRatio_iff, eWays_inj, eWay_iff] at h
  grind

theorem unstLgo (L : List ByteArray) (out : List Cap) (a : Nat) : unenc stLgo1 (St.mk [(7, .own 7), (0, .ptr 900 0 0)] [(900, Blk.mk true 0 0 [[AV.sl (List.map eStr L), (vI (↑a : Int))]]), (7, Blk.mk false 41 6 (List.map eCap out))]) = some (L, out, a) := unenc_of stLgo_inj (L, out, a) rfl

theorem unstLgo0 (L : List ByteArray) (a : Nat)  : unenc stLgo1 (St.mk [(7, .own 7), (0, .ptr 900 0 0)] [(900, Blk.mk true 0 0 [[AV.sl (List.map eStr L), (vI (↑a : Int))]]), (7, Blk.mk false 41 6 [])]) = some (L, [], a) := unenc_of stLgo_inj (L, [], a) rfl

def outLgo (L : List ByteArray) (out : List Cap) (a : Nat) : T (Ex × St) := .ifB (F.lgL L (L.length + 1 - a) out a).1
      (.ret (.exit 0, ⟨[(7, .own 7)], [(900, ⟨true, 0, 0, [[.sl (L.map eStr), vI (F.lgL L (L.length + 1 - a) out a).2.2]]⟩), (7, ⟨false, 41, 6, (F.lgL L (L.length + 1 - a) out a).2.1.map eCap⟩)]⟩))
      (.ret (.ret, ⟨[(3, vB false), (2, .own 2)], [(900, ⟨true, 0, 0, [[.sl (L.map eStr), vI (F.lgL L (L.length + 1 - a) out a).2.2]]⟩), (2, ⟨false, 41, 6, []⟩)]⟩))

noncomputable def prlLgo (L : List ByteArray) (out : List Cap) (a : Nat) : Bool := F.linesOk L && decide (a ≤ 200001) && decide (out.length ≤ a)

noncomputable def lpLgo : Nat × (St → T (Ex × St)) := (9, lpo [7, 0] [900, 7] stLgo1 (fun a => prlLgo a.1 a.2.1 a.2.2) fun a => outLgo a.1 a.2.1 a.2.2)

noncomputable def enLgo : Env := envH ty noG lks [oMor] [oBla, oTak, oRtp, oStg, oBdp] [2] [lpLgo]

theorem enLgo_ok : EnvOK Tryz.prog enLgo := by
  refine envH_ok lks_ok ty_ok ?_ ?_
  · simp only [List.forall_mem_cons]
    exact ⟨okMor, by simp⟩
  · simp only [List.forall_mem_cons]
    exact ⟨okBla, okTak, okRtp, okStg, okBdp, by simp⟩

theorem evLgoL (L : List ByteArray) (out : List Cap) (a : Nat) : ((exec enLgo (loopN Tryz.f13 0) (stLgo L out a)).bind (lessX ([7, 0], [900, 7]) ([7], [900, 7]) ([3, 2], [900, 2]))).val =
  Option.bind (unenc encMor [AV.pel [AV.sl (List.map eStr L), (vI (↑a : Int))] (0 : Nat)]) fun (z : List ByteArray × Nat) => bif F.tkB z.fst z.snd then Option.bind (unenc
  encTak ([.ptr 900 0 0], [(900, Blk.mk true 0 0 [[AV.sl (List.map eStr L), (vI (↑a : Int))]])])) fun (z : List ByteArray × Nat) => bif F.linesOk z.fst && decide (z.snd ≤
  (200001 : Nat)) then Option.bind (unenc encRtp ([(vS (F.tkS z.fst z.snd)), (vS (ByteArray.mk (Array.mk [(46 : UInt8)]))), .ptr 900 0 0], [(900, Blk.mk true 0 0 [[(vI (0 :
  Int)), (vI (0 : Int)), AV.e0, (vI (0 : Int)), (vB false), (vB false)]])])) fun (z_1 : ByteArray × ByteArray) => bif F.small z_1.fst && decide (ByteArray.size z_1.snd = (1
  : Nat)) then bif !!((F.rdT z_1.fst z_1.snd).snd.snd && (F.cutP (F.rdT z_1.fst z_1.snd).snd.fst F.arrow).snd && (F.rdT (F.cutP (F.rdT z_1.fst z_1.snd).snd.fst F.arrow).fst
  z_1.snd).snd.snd) then Option.bind (unenc encStg ([(vS (F.rdT (F.cutP (F.rdT z_1.fst z_1.snd).snd.fst F.arrow).fst z_1.snd).snd.fst), .ptr 900 0 0], [(900, Blk.mk true 0 0
  [[(vI (F.rdT z_1.fst z_1.snd).fst), (vI (F.rdT (F.cutP (F.rdT z_1.fst z_1.snd).snd.fst F.arrow).fst z_1.snd).fst), AV.e0, (vI (0 : Int)), (vB false), (vB false)]])])) fun
  (z_2 : ByteArray × Int × Int) => bif F.small z_2.fst then bif !!F.mkOk z_2.fst then Option.bind (unenc encBdp ([.ptr 900 0 0, .ptr 901 0 0, AV.fn (37 : Nat) []], [(901,
  Blk.mk true 0 0 [[(vI z_2.snd.fst), (vI z_2.snd.snd), AV.e0, (vI (F.mkRow z_2.fst)), (vB (F.mkBef z_2.fst)), (vB (F.mkAft z_2.fst))]]), (900, Blk.mk true 0 0 [[AV.sl
  (List.map eStr z.fst), (vI (↑(z.snd + (1 : Nat)) : Int))]])])) fun (z : List ByteArray × Int × Int × Int × Bool × Bool × Nat) => bif F.linesOk z.fst && decide
  (z.snd.snd.snd.snd.snd.snd ≤ (200001 : Nat)) then bif (F.bdP (List.drop z.snd.snd.snd.snd.snd.snd z.fst) [] z.snd.snd.snd.snd.snd.snd).fst then bif Nat.ble ((List.length
  (List.map eCap out) + (1 : Nat)) * (56 : Nat)) (140737488355328 : Nat) && true then Option.bind (unenc encBla ([.ptr 900 0 0], [(900, Blk.mk true 0 0 [[AV.sl (List.map
  eStr z.fst), (vI (↑(F.bdP (List.drop z.snd.snd.snd.snd.snd.snd z.fst) [] z.snd.snd.snd.snd.snd.snd).snd.snd : Int))]])])) fun (z_3 : List ByteArray × Nat) => bif F.linesOk
  z_3.fst && decide (z_3.snd ≤ (200001 : Nat)) then some (Ex.normal, St.mk [(7, .own 7), (0, .ptr 900 0 0)] [(900, Blk.mk true 0 0 [[AV.sl (List.map eStr z_3.fst), (vI
  (↑(z_3.snd + F.lead (List.drop z_3.snd z_3.fst)) : Int))]]), (7, Blk.mk false 41 6 (List.map eCap out ++ [[(vI z.snd.fst), (vI z.snd.snd.fst), AV.sl (List.map eStr (F.bdP
  (List.drop z.snd.snd.snd.snd.snd.snd z.fst) [] z.snd.snd.snd.snd.snd.snd).snd.fst), (vI z.snd.snd.snd.fst), (vB z.snd.snd.snd.snd.fst), (vB
  z.snd.snd.snd.snd.snd.fst)]]))]) else none else none else bif F.isEp (F.bdP (List.drop z.snd.snd.snd.snd.snd.snd z.fst) [] z.snd.snd.snd.snd.snd.snd).snd.fst then some
  (Ex.ret, St.mk [(3, (vB false)), (2, .own 2)] [(900, Blk.mk true 0 0 [[AV.sl (List.map eStr z.fst), (vI (↑(F.bdP (List.drop z.snd.snd.snd.snd.snd.snd z.fst) []
  z.snd.snd.snd.snd.snd.snd).snd.snd : Int))]]), (2, Blk.mk false 41 6 [])]) else some (Ex.ret, St.mk [(3, (vB false)), (2, .own 2)] [(900, Blk.mk true 0 0 [[AV.sl (List.map
  eStr z.fst), (vI (↑(F.bdP (List.drop z.snd.snd.snd.snd.snd.snd z.fst) [] z.snd.snd.snd.snd.snd.snd).snd.snd : Int))]]), (2, Blk.mk false 41 6 [])]) else none else some
  (Ex.ret, St.mk [(3, (vB false)), (2, .own 2)] [(900, Blk.mk true 0 0 [[AV.sl (List.map eStr z.fst), (vI (↑(z.snd + (1 : Nat)) : Int))]]), (2, Blk.mk false 41 6 [])]) else
  none else some (Ex.ret, St.mk [(3, (vB false)), (2, .own 2)] [(900, Blk.mk true 0 0 [[AV.sl (List.map eStr z.fst), (vI (↑(z.snd + (1 : Nat)) : Int))]]), (2, Blk.mk false
  41 6 [])]) else none else none else some (Ex.exit (0 : Nat), St.mk [(7, .own 7)] [(900, Blk.mk true 0 0 [[AV.sl (List.map eStr L), (vI (↑a : Int))]]), (7, Blk.mk false 41
  6 (List.map eCap out))]) := (execR_bind _ _ _).symm.trans (by kernel_rfl)

theorem lpLgo_ok (L : List ByteArray) (out : List Cap) (a : Nat) (hp : prlLgo L out a = true) : ∀ ex s', (outLgo L out a).val = some (ex, s') → LoopOK enLgo (loopN Tryz.f13 0) (stLgo L out a) ex s' := by
  simp only [prlLgo, Bool.and_eq_true, decide_eq_true_eq] at hp
  obtain ⟨⟨h1, h2⟩, h3⟩ := hp
  have hL : L.length ≤ 200001 ∧ L.all F.small = true := by simpa [F.linesOk] using h1
  refine loop_gen (st := fun b : List Cap × Nat => stLgo L b.1 b.2) (out := fun b => outLgo L b.1 b.2) (I := fun b => b.2 ≤ 200001 ∧ b.1.length ≤ b.2) (n := ([7, 0], [900, 7])) (e := ([7], [900, 7])) (r := ([3, 2], [900, 2])) (fun b => L.length + 1 - b.2) ?_ (out, a) ⟨h2, h3⟩
  rintro ⟨out, a⟩ ⟨i1, i2⟩
  simp only at i1 i2
  have hsm : ∀ k, F.small (F.tkS L k) = true := fun k => by
    unfold F.tkS F.tkB
    by_cases hk : k < L.length
    · rw [decide_eq_true hk, cond_true]
      have hy : L[k]? = some L[k] := List.getElem?_eq_getElem hk
      rw [getD_at hy]
      exact List.all_eq_true.1 hL.2 _ (List.mem_of_getElem? hy)
    · rw [decide_eq_false hk]; rfl
  have ec : (⟨⟨[46]⟩⟩ : ByteArray) = F.dot := rfl
  have e1 : decide (F.dot.size = 1) = true := rfl
  cases ht : F.tkB L a
  · left
    refine ⟨(.exit 0, ⟨[(7, .own 7)], [(900, ⟨true, 0, 0, [[.sl (L.map eStr), vI a]]⟩), (7, ⟨false, 41, 6, out.map eCap⟩)]⟩), ?_, ?_, by simp, rfl⟩
    · rw [evLgoL]
      simp only [unMor, unBla, unTak, unRtp, unStg, unBdp, preMor1, preBla1, preTak1, preRtp1, preStg1, preBdp1, unstLgo, unstLgo0, prlLgo, outLgo, etaCap, etaMch, etaWrd, etaFnd, etaRatio, etaWay, Option.bind_some, List.length_map, unStrs, unInts, unBools, uneL_eIs, unCaps, uneL_eCaps, unMchs, unWrds, unFnds, unRatios, unWays, F.lt, F.le, cond_true, cond_false, Bool.and_true, Bool.true_and, ht]
    · have : F.lgL L (L.length + 1 - a) out a = (true, out, a) := by
        cases L.length + 1 - a with
        | zero => rfl
        | succ f => rw [F.lgL, ht]; rfl
      simp only [outLgo, this]
      rfl
  have ha : a < L.length := by simpa [F.tkB] using ht
  obtain ⟨f, hf⟩ : ∃ f, L.length + 1 - a = f + 1 := ⟨L.length - a, by omega⟩
  have h2 : decide (a ≤ 200001) = true := decide_eq_true i1
  have h2' : decide (a + 1 ≤ 200001) = true := decide_eq_true (by omega)
  have hrs : F.small (F.rtP (F.tkS L a) F.dot).2.2.1 = true := F.small_le (Nat.le_trans (F.rdT_size _ _) (Nat.le_trans (F.cutP_size _ _) (F.rdT_size _ _))) (of_decide_eq_true (hsm a))
  have failT : F.lgOk (F.tkS L a) = false → (outLgo L out a).val = some (.ret, ⟨[(3, vB false), (2, .own 2)], [(900, ⟨true, 0, 0, [[.sl (L.map eStr), vI (a + 1 : Nat)]]⟩), (2, ⟨false, 41, 6, []⟩)]⟩) := fun w => by
    simp only [outLgo, hf, F.lgL, ht, w, cond_true, cond_false]
    rfl
  cases hg : (F.rtP (F.tkS L a) F.dot).2.2.2
  · left
    refine ⟨_, ?_, failT (by unfold F.lgOk; rw [hg]; rfl), by simp, rfl⟩
    simp only [F.rtP] at hg
    rw [evLgoL]
    simp only [unMor, unBla, unTak, unRtp, unStg, unBdp, preMor1, preBla1, preTak1, preRtp1, preStg1, preBdp1, unstLgo, unstLgo0, prlLgo, outLgo, etaCap, etaMch, etaWrd, etaFnd, etaRatio, etaWay, Option.bind_some, List.length_map, unStrs, unInts, unBools, uneL_eIs, unCaps, uneL_eCaps, unMchs, unWrds, unFnds, unRatios, unWays, F.lt, F.le, cond_true, cond_false, Bool.and_true, Bool.true_and, ht, hg, h1, h2, h2', hsm, ec, e1, Bool.and_self, Bool.not_true, Bool.not_false]
    try rfl
  cases hm : F.mkOk (F.rtP (F.tkS L a) F.dot).2.2.1
  · left
    refine ⟨_, ?_, failT (by unfold F.lgOk; rw [hg, hm]; rfl), by simp, rfl⟩
    simp only [F.rtP] at hg hm hrs
    rw [evLgoL]
    simp only [unMor, unBla, unTak, unRtp, unStg, unBdp, preMor1, preBla1, preTak1, preRtp1, preStg1, preBdp1, unstLgo, unstLgo0, prlLgo, outLgo, etaCap, etaMch, etaWrd, etaFnd, etaRatio, etaWay, Option.bind_some, List.length_map, unStrs, unInts, unBools, uneL_eIs, unCaps, uneL_eCaps, unMchs, unWrds, unFnds, unRatios, unWays, F.lt, F.le, cond_true, cond_false, Bool.and_true, Bool.true_and, ht, hg, hm, hrs, h1, h2, h2', hsm, ec, e1, Bool.and_self, Bool.not_true, Bool.not_false]
    done
  have hok : F.lgOk (F.tkS L a) = true := by unfold F.lgOk; rw [hg, hm]; rfl
  have hg' := hg
  have hm' := hm
  have hrs' := hrs
  simp only [F.rtP] at hg' hm' hrs'
  cases hb : (F.bdP (L.drop (a + 1)) [] (a + 1)).1
  · left
    refine ⟨(.ret, ⟨[(3, vB false), (2, .own 2)], [(900, ⟨true, 0, 0, [[.sl (L.map eStr), vI (F.bdP (L.drop (a + 1)) [] (a + 1)).2.2]]⟩), (2, ⟨false, 41, 6, []⟩)]⟩), ?_, ?_, by simp, rfl⟩
    · rw [evLgoL]
      simp only [unMor, unBla, unTak, unRtp, unStg, unBdp, preMor1, preBla1, preTak1, preRtp1, preStg1, preBdp1, unstLgo, unstLgo0, prlLgo, outLgo, etaCap, etaMch, etaWrd, etaFnd, etaRatio, etaWay, Option.bind_some, List.length_map, unStrs, unInts, unBools, uneL_eIs, unCaps, uneL_eCaps, unMchs, unWrds, unFnds, unRatios, unWays, F.lt, F.le, cond_true, cond_false, Bool.and_true, Bool.true_and, ht, hg', hm', hrs', hb, h1, h2, h2', hsm, ec, e1, Bool.and_self, Bool.not_true, Bool.not_false]
      cases F.isEp (F.bdP (L.drop (a + 1)) [] (a + 1)).2.1 <;> rfl
    · simp only [outLgo, hf, F.lgL, ht, hok, hb, cond_true, cond_false]
      rfl
  · right
    have b1 := F.bdP_ge (L.drop (a + 1)) [] (a + 1)
    have b2 := F.bdP_le_t (L.drop (a + 1)) [] (a + 1) hb
    rw [List.length_drop] at b2
    have b3 := F.lead_le (L.drop (F.bdP (L.drop (a + 1)) [] (a + 1)).2.2)
    rw [List.length_drop] at b3
    have h4 : decide ((F.bdP (L.drop (a + 1)) [] (a + 1)).2.2 ≤ 200001) = true := decide_eq_true (by omega)
    refine ⟨(out ++ [F.lgCap (F.tkS L a) (F.bdP (L.drop (a + 1)) [] (a + 1)).2.1], (F.bdP (L.drop (a + 1)) [] (a + 1)).2.2 + F.lead (L.drop (F.bdP (L.drop (a + 1)) [] (a + 1)).2.2)), ?_, rfl, ⟨by simp only; omega, by simp; omega⟩, by simp only; omega, ?_⟩
    · rw [evLgoL]
      simp only [unMor, unBla, unTak, unRtp, unStg, unBdp, preMor1, preBla1, preTak1, preRtp1, preStg1, preBdp1, unstLgo, unstLgo0, prlLgo, outLgo, etaCap, etaMch, etaWrd, etaFnd, etaRatio, etaWay, Option.bind_some, List.length_map, unStrs, unInts, unBools, uneL_eIs, unCaps, uneL_eCaps, unMchs, unWrds, unFnds, unRatios, unWays, F.lt, F.le, cond_true, cond_false, Bool.and_true, Bool.true_and, ht, hg', hm', hrs', hb, h1, h2, h2', h4, hsm, ec, e1, Bool.and_self, Bool.not_true, Bool.not_false]
      have em : out.map eCap ++ [[vI (F.rdT (F.tkS L a) F.dot).1, vI (F.rdT (F.cutP (F.rdT (F.tkS L a) F.dot).2.1 F.arrow).1 F.dot).1, .sl ((F.bdP (L.drop (a + 1)) [] (a + 1)).2.1.map eStr), vI (F.mkRow (F.rdT (F.cutP (F.rdT (F.tkS L a) F.dot).2.1 F.arrow).1 F.dot).2.1), vB (F.mkBef (F.rdT (F.cutP (F.rdT (F.tkS L a) F.dot).2.1 F.arrow).1 F.dot).2.1), vB (F.mkAft (F.rdT (F.cutP (F.rdT (F.tkS L a) F.dot).2.1 F.arrow).1 F.dot).2.1)]] = (out ++ [F.lgCap (F.tkS L a) (F.bdP (L.drop (a + 1)) [] (a + 1)).2.1]).map eCap := by
        rw [List.map_append, List.map_cons, List.map_nil, lgCap_row]
      rw [em, ble_t (show (out.length + 1) * 56 ≤ 140737488355328 by omega)]
      rfl
    · have key := F.lgL_fuel L (L.length + 1 - ((F.bdP (L.drop (a + 1)) [] (a + 1)).2.2 + F.lead (L.drop (F.bdP (L.drop (a + 1)) [] (a + 1)).2.2))) f (out ++ [F.lgCap (F.tkS L a) (F.bdP (L.drop (a + 1)) [] (a + 1)).2.1]) ((F.bdP (L.drop (a + 1)) [] (a + 1)).2.2 + F.lead (L.drop (F.bdP (L.drop (a + 1)) [] (a + 1)).2.2)) (by omega) (by omega)
      simp only [outLgo, hf, F.lgL, ht, hok, hb, cond_true, cond_false, key]

theorem evLgo (L : List ByteArray) : (runH enLgo [] Tryz.f13 [.ptr 900 0 0] [(900, ⟨true, 0, 0, [[.sl (L.map eStr), vI 0]]⟩)]).val =
  Option.bind (unenc encTak ([.ptr 900 0 0], [(900, Blk.mk true 0 0 [[AV.sl (List.map eStr L), (vI (0 : Int))]])])) fun (z : List ByteArray × Nat) => bif F.linesOk z.fst &&
  decide (z.snd ≤ (200001 : Nat)) then bif bif !F.tkB z.fst z.snd then true else !ByteArray.toList (F.tkS z.fst z.snd) == ByteArray.toList (ByteArray.mk (Array.mk [(87 :
  UInt8), (69 : UInt8), (66 : UInt8), (86 : UInt8), (84 : UInt8), (84 : UInt8)])) then some (AV.tup [.own 0, (vB false)], [(900, Blk.mk true 0 0 [[AV.sl (List.map eStr
  z.fst), (vI (↑(z.snd + (1 : Nat)) : Int))]]), (0, Blk.mk false 41 6 [])], []) else Option.bind (unenc encBla ([.ptr 900 0 0], [(900, Blk.mk true 0 0 [[AV.sl (List.map eStr
  z.fst), (vI (↑(z.snd + (1 : Nat)) : Int))]])])) fun (z : List ByteArray × Nat) => bif F.linesOk z.fst && decide (z.snd ≤ (200001 : Nat)) then bif (↑(F.lead (List.drop
  z.snd z.fst)) : Int) == (0 : Int) then Option.bind (unenc encMor [AV.pel [AV.sl (List.map eStr z.fst), (vI (↑(z.snd + F.lead (List.drop z.snd z.fst)) : Int))] (0 : Nat)])
  fun (z_1 : List ByteArray × Nat) => bif F.tkB z_1.fst z_1.snd then some (AV.tup [.own 0, (vB false)], [(900, Blk.mk true 0 0 [[AV.sl (List.map eStr z.fst), (vI
  (IntKind.wrap IntKind.i64 ((↑(z.snd + F.lead (List.drop z.snd z.fst)) : Int) + (1 : Int))))]]), (0, Blk.mk false 41 6 [])], []) else Option.bind (unenc stLgo1 (St.mk [(7,
  .own 7), (0, .ptr 900 0 0)] [(900, Blk.mk true 0 0 [[AV.sl (List.map eStr z.fst), (vI (↑(z.snd + F.lead (List.drop z.snd z.fst)) : Int))]]), (7, Blk.mk false 41 6 [])]))
  fun (z : List ByteArray × List Cap × Nat) => bif F.linesOk z.fst && decide (z.snd.snd ≤ (200001 : Nat)) && decide (List.length z.snd.fst ≤ z.snd.snd) && true then bif
  (F.lgL z.fst (List.length z.fst + (1 : Nat) - z.snd.snd) z.snd.fst z.snd.snd).fst then some (AV.tup [.own 0, (vB true)], [(900, Blk.mk true 0 0 [[AV.sl (List.map eStr
  z.fst), (vI (↑(F.lgL z.fst (List.length z.fst + (1 : Nat) - z.snd.snd) z.snd.fst z.snd.snd).snd.snd : Int))]]), (0, Blk.mk false 41 6 (List.map eCap (F.lgL z.fst
  (List.length z.fst + (1 : Nat) - z.snd.snd) z.snd.fst z.snd.snd).snd.fst))], []) else some (AV.tup [.own 0, (vB false)], [(900, Blk.mk true 0 0 [[AV.sl (List.map eStr
  z.fst), (vI (↑(F.lgL z.fst (List.length z.fst + (1 : Nat) - z.snd.snd) z.snd.fst z.snd.snd).snd.snd : Int))]]), (0, Blk.mk false 41 6 [])], []) else none else Option.bind
  (unenc stLgo1 (St.mk [(7, .own 7), (0, .ptr 900 0 0)] [(900, Blk.mk true 0 0 [[AV.sl (List.map eStr z.fst), (vI (↑(z.snd + F.lead (List.drop z.snd z.fst)) : Int))]]), (7,
  Blk.mk false 41 6 [])])) fun (z : List ByteArray × List Cap × Nat) => bif F.linesOk z.fst && decide (z.snd.snd ≤ (200001 : Nat)) && decide (List.length z.snd.fst ≤
  z.snd.snd) && true then bif (F.lgL z.fst (List.length z.fst + (1 : Nat) - z.snd.snd) z.snd.fst z.snd.snd).fst then some (AV.tup [.own 0, (vB true)], [(900, Blk.mk true 0 0
  [[AV.sl (List.map eStr z.fst), (vI (↑(F.lgL z.fst (List.length z.fst + (1 : Nat) - z.snd.snd) z.snd.fst z.snd.snd).snd.snd : Int))]]), (0, Blk.mk false 41 6 (List.map eCap
  (F.lgL z.fst (List.length z.fst + (1 : Nat) - z.snd.snd) z.snd.fst z.snd.snd).snd.fst))], []) else some (AV.tup [.own 0, (vB false)], [(900, Blk.mk true 0 0 [[AV.sl
  (List.map eStr z.fst), (vI (↑(F.lgL z.fst (List.length z.fst + (1 : Nat) - z.snd.snd) z.snd.fst z.snd.snd).snd.snd : Int))]]), (0, Blk.mk false 41 6 [])], []) else none
  else none else none := (runHR_val).symm.trans (by kernel_rfl)

def encLgo1 (L : List ByteArray) : List AV × Heap := ([.ptr 900 0 0], [(900, ⟨true, 0, 0, [[.sl (L.map eStr), vI 0]]⟩)])

def encLgo (a : (List ByteArray)) : List AV × Heap := encLgo1 a

theorem encLgo_inj (a a' : (List ByteArray)) (h : encLgo a = encLgo a') : a = a' := by
  simp only [encLgo, encLgo1] at h
  try simp [strs_inj, ints_inj, bools_inj, eL_eIs_inj, eCaps_inj, eCap_iff, eL_eCaps_inj, eMchs_inj, eMch_iff, eWrds_inj, eWrd_iff, eFnds_inj, eFnd_iff, eRatios_inj, eRatio_iff, eWays_inj, eWay_iff] at h
  grind

theorem unLgo (L : List ByteArray) : unenc encLgo (([.ptr 900 0 0], [(900, Blk.mk true 0 0 [[AV.sl (List.map eStr L), (vI (0 : Int))]])])) = some (L) := unenc_of encLgo_inj (L) rfl

def resLgo1 (L : List ByteArray) : AV × Heap × List Nat := (.tup [.own 0, vB (F.lgA L).1], [(900, ⟨true, 0, 0, [[.sl (L.map eStr), vI (F.lgA L).2.2]]⟩), (0, ⟨false, 41, 6, (bif (F.lgA L).1 then (F.lgA L).2.1 else []).map eCap⟩)], [])

def preLgo1 (L : List ByteArray) : Bool := F.linesOk L

noncomputable def oLgo : OrcH := orcH 13 encLgo (fun a => preLgo1 a) fun a => resLgo1 a

theorem okLgo : OrcHOK Tryz.prog noG oLgo := by
  refine mkH_ok (mv := []) Tryz.f13 (by kernel_rfl) (by kernel_rfl) enLgo_ok mixed (one_loop (x0 := loopN Tryz.f13 0) (by kernel_rfl) (lpo_ok ?_)) ?_
  · rintro ⟨L, out, a⟩ hp
    exact lpLgo_ok L out a hp
  rintro L hpre hok hokh
  show (runH enLgo [] _ (encLgo1 _).1 (encLgo1 _).2).val = some (resLgo1 _)
  unfold encLgo1 resLgo1
  rw [evLgo]
  simp only [preLgo1] at hpre
  have hL : L.length ≤ 200001 ∧ L.all F.small = true := by simpa [F.linesOk] using hpre
  have b3 := F.lead_le (L.drop 1)
  rw [List.length_drop] at b3
  have u0 : unenc encTak ([.ptr 900 0 0], [(900, ⟨true, 0, 0, [[.sl (L.map eStr), vI 0]]⟩)]) = some (L, 0) := unTak L 0
  have eW : (⟨⟨[87, 69, 66, 86, 84, 84]⟩⟩ : ByteArray) = F.webB := rfl
  have es : ∀ x y : ByteArray, (x.toList == y.toList) = F.seq x y := fun _ _ => rfl
  simp only [unMor, unBla, unTak, unRtp, unStg, unBdp, preMor1, preBla1, preTak1, preRtp1, preStg1, preBdp1, unstLgo, unstLgo0, prlLgo, outLgo, etaCap, etaMch, etaWrd, etaFnd, etaRatio, etaWay, Option.bind_some, List.length_map, unStrs, unInts, unBools, uneL_eIs, unCaps, uneL_eCaps, unMchs, unWrds, unFnds, unRatios, unWays, F.lt, F.le, cond_true, cond_false, Bool.and_true, Bool.true_and, hpre, u0, eW, es, Nat.zero_le, decide_true, Bool.and_self, F.lgA, F.hd1, F.hd2, Nat.zero_add]
  cases hA : F.tkB L 0
  · simp only [Bool.not_false, cond_true, cond_false, Bool.false_and, List.map_nil]
    try rfl
  cases hB : F.seq (F.tkS L 0) F.webB
  · simp only [Bool.not_false, Bool.not_true, cond_true, cond_false, Bool.true_and, List.map_nil]
    try rfl
  have hA1 : 1 ≤ L.length := by
    have : (0 : Nat) < L.length := by simpa [F.tkB] using hA
    omega
  have q1 : decide (1 ≤ 200001) = true := rfl
  have q2 : decide (1 + F.lead (L.drop 1) ≤ 200001) = true := decide_eq_true (by omega)
  have q3 : decide (([] : List Cap).length ≤ 1 + F.lead (L.drop 1)) = true := decide_eq_true (Nat.zero_le _)
  simp only [Bool.not_true, cond_true, cond_false, Bool.true_and, Bool.and_self, q1, q2, q3]
  by_cases hl : F.lead (L.drop 1) = 0
  · rw [hl]
    have e0 : (((0 : Nat) : Int) == 0) = true := rfl
    have e1 : IntKind.i64.wrap (((1 + 0 : Nat) : Int) + 1) = 2 := rfl
    simp only [e0, e1, Nat.add_zero, cond_true, Bool.true_and]
    cases F.tkB L 1
    · simp only [cond_false]
      generalize F.lgL L (L.length + 1 - 1) [] 1 = q
      obtain ⟨q1, q2, q3⟩ := q
      cases q1 <;> rfl
    · simp only [cond_true, List.map_nil]
      try rfl
  · have e0 : ((F.lead (L.drop 1) : Int) == 0) = false := by rw [beq_eq_false_iff_ne]; omega
    simp only [e0, cond_false, Bool.false_and]
    generalize F.lgL L (L.length + 1 - (1 + F.lead (L.drop 1))) [] (1 + F.lead (L.drop 1)) = q
    obtain ⟨q1, q2, q3⟩ := q
    cases q1 <;> rfl

end M
end Go.Proofs.YthcfbeckhgngiaaGreatDoor
