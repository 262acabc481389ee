/- What is proved here: ReadShort of the program (no statement of the seat). -/
import Derived.Test.YthcfbeckhgngiaaDoorC119
namespace Go.Proofs.YthcfbeckhgngiaaDoor
open Go Go.RowKit
set_option linter.unusedVariables false
set_option linter.unusedSimpArgs false

namespace F

theorem bd_small : ∀ (M acc : List ByteArray) (a : Nat), smL M = true → smL acc = true → smL (bd M acc a).2.1 = true
  | [], acc, a, _, h => by
    rw [bd]
    cases acc.isEmpty <;> exact h
  | x :: r, acc, a, hM, h => by
    have hM : (small x && smL r) = true := hM
    rw [Bool.and_eq_true] at hM
    rw [bd]
    have ih := bd_small r (acc ++ [x]) (a + 1) hM.2 (by unfold smL at h ⊢; rw [List.all_append, h]; simp [hM.1])
    cases emp x && !acc.isEmpty
    · cases line x
      · exact h
      · exact ih
    · exact h

theorem smL_drop {L : List ByteArray} (h : smL L = true) (k : Nat) : smL (L.drop k) = true :=
  List.all_eq_true.2 fun x hx => List.all_eq_true.1 h x (List.mem_of_mem_drop hx)

theorem shL_small {L : List ByteArray} (hL : smL L = true) : ∀ (f : Nat) (out : List Cap) (a : Nat), smC out = true → smC (shL L f out a).2.1 = true
  | 0, out, a, h => h
  | f + 1, out, a, h => by
    have hb := bd_small (L.drop (a + 1 + 1)) [] (a + 1 + 1) (smL_drop hL _) rfl
    have ih := shL_small hL f (out ++ [capOf (tkS L (a + 1)) (bd (L.drop (a + 1 + 1)) [] (a + 1 + 1)).2.1]) ((bd (L.drop (a + 1 + 1)) [] (a + 1 + 1)).2.2 + lead (L.drop (bd (L.drop (a + 1 + 1)) [] (a + 1 + 1)).2.2)) (by
      unfold smC at h ⊢
      rw [List.all_append, h]
      simp [capOf, hb])
    rw [shL]
    cases tkB L a
    · exact h
    cases isNum (tkS L a)
    · rfl
    cases tmOk L (a + 1)
    · rfl
    cases (bd (L.drop (a + 1 + 1)) [] (a + 1 + 1)).1
    · rfl
    · exact ih

theorem lns_ok {s : ByteArray} (h : s.size ≤ 200000) : linesOk (lns s) = true := by
  unfold linesOk
  rw [Bool.and_eq_true]
  refine ⟨decide_eq_true (by have := lns_len s; omega), List.all_eq_true.2 fun x hx => ?_⟩
  have := lns_mem hx
  exact decide_eq_true (by omega)

theorem linesOk_sm {L : List ByteArray} (h : linesOk L = true) : smL L = true := (Bool.and_eq_true _ _ ▸ h : decide (L.length ≤ 200001) = true ∧ L.all small = true).2

/-- The captions that were read, checked. -/
def rdK (q : Bool × List Cap × Nat) : List Cap × Int × Int :=
  bif q.1 then (bif chkC q.2.1 != 0 then ([], 0, chkC q.2.1) else (q.2.1, 0, 0)) else ([], (q.2.2 : Int), 10)

def rdSh (s : ByteArray) : List Cap × Int × Int := bif decide (200000 < s.size) then ([], 0, 2) else rdK (shA (lns s) 0)

end F

namespace M

noncomputable def enCl1 : Env := envH ty noG lks [] [oSho] [] []

theorem enCl1_ok : EnvOK Tryd.prog enCl1 := by
  refine envH_ok lks_ok ty_ok ?_ ?_
  · simp
  · simp only [List.forall_mem_cons]
    exact ⟨okSho, by simp⟩

theorem evCl1 (L : List ByteArray) (a : Nat) : (runH enCl1 [] Tryd.f14 [.ptr 900 0 0] [(900, ⟨true, 0, 0, [[.sl (L.map eStr), vI a]]⟩)]).val =
  Option.bind (unenc encSho ([.ptr 900 0 0], [(900, Blk.mk true 0 0 [[AV.sl (List.map eStr L), (vI (↑a : Int))]])])) fun (z : List ByteArray × Nat) => bif F.linesOk z.fst &&
  decide (z.snd ≤ List.length z.fst) then some (AV.tup [.own 0, (vB (F.shA z.fst z.snd).fst)], [(900, Blk.mk true 0 0 [[AV.sl (List.map eStr z.fst), (vI (↑(F.shA z.fst
  z.snd).snd.snd : Int))]]), (0, Blk.mk false 42 6 (List.map eCap (bif (F.shA z.fst z.snd).fst then (F.shA z.fst z.snd).snd.fst else [])))], []) else none := (runHR_val).symm.trans (by kernel_rfl)

def encCl11 (L : List ByteArray) (a : Nat) : List AV × Heap := ([.ptr 900 0 0], [(900, ⟨true, 0, 0, [[.sl (L.map eStr), vI a]]⟩)])

def encCl1 (a : (List ByteArray) × Nat) : List AV × Heap := encCl11 a.1 a.2

theorem encCl1_inj (a a' : (List ByteArray) × Nat) (h : encCl1 a = encCl1 a') : a = a' := by
  simp only [encCl1, encCl11] at h
  try simp [strs_inj, ints_inj, bools_inj, eL_eIs_inj, eCaps_inj, eCap_iff, eL_eCaps_inj, eMchs_inj, eMch_iff, eWrds_inj, eWrd_iff, eFnds_inj, eFnd_iff, eRatios_inj, eRatio_iff, eWays_inj, eWay_iff] at h
  grind

theorem unCl1 (L : List ByteArray) (a : Nat) : unenc encCl1 (([.ptr 900 0 0], [(900, Blk.mk true 0 0 [[AV.sl (List.map eStr L), (vI (↑a : Int))]])])) = some (L, a) := unenc_of encCl1_inj (L, a) rfl

def resCl11 (L : List ByteArray) (a : Nat) : AV × Heap × List Nat := (.tup [.own 0, vB (F.shA L a).1], [(900, ⟨true, 0, 0, [[.sl (L.map eStr), vI (F.shA L a).2.2]]⟩), (0, ⟨false, 42, 6, (bif (F.shA L a).1 then (F.shA L a).2.1 else []).map eCap⟩)], [])

def preCl11 (L : List ByteArray) (a : Nat) : Bool := F.linesOk L && decide (a ≤ L.length)

noncomputable def oCl1 : OrcH := orcH 14 encCl1 (fun a => preCl11 a.1 a.2) fun a => resCl11 a.1 a.2

theorem okCl1 : OrcHOK Tryd.prog noG oCl1 := by
  refine mkH_ok (mv := []) Tryd.f14 (by kernel_rfl) (by kernel_rfl) enCl1_ok mixed (no_loops (by kernel_rfl)) ?_
  rintro ⟨L, a⟩ hpre hok hokh
  show (runH enCl1 [] _ (encCl11 _ _).1 (encCl11 _ _).2).val = some (resCl11 _ _)
  unfold encCl11 resCl11
  rw [evCl1]
  simp only [preCl11] at hpre
  simp only [unSho, preSho1, etaCap, etaMch, etaWrd, etaFnd, etaRatio, etaWay, Option.bind_some, List.length_map, unStrs, unInts, unBools, uneL_eIs, unCaps, uneL_eCaps, unMchs, unWrds, unFnds, unRatios, unWays, F.lt, F.le, cond_true, cond_false, Bool.and_true, Bool.true_and, hpre]

noncomputable def enRea : Env := envH ty noG lks [oChC] [oNwP, oCl1] [] []

theorem enRea_ok : EnvOK Tryd.prog enRea := by
  refine envH_ok lks_ok ty_ok ?_ ?_
  · simp only [List.forall_mem_cons]
    exact ⟨okChC, by simp⟩
  · simp only [List.forall_mem_cons]
    exact ⟨okNwP, okCl1, by simp⟩

theorem evRea (s : ByteArray) : (runF enRea false Tryd.f13 [vS s, .fn 14 []]).val =
  bif decide ((200000 : Int) < (↑(ByteArray.size s) : Int)) then some (AV.tup [AV.sl [], (vI (0 : Int)), (vI (2 : Int))], []) else Option.bind (unenc encNwP ([(vS s)], []))
  fun (z : ByteArray) => bif F.small z then Option.bind (unenc encCl1 ([.ptr 900 0 0], [(900, Blk.mk true 0 0 [[AV.sl (List.map eStr (F.lns z)), (vI (0 : Int))]])])) fun (z
  : List ByteArray × Nat) => bif F.linesOk z.fst && decide (z.snd ≤ List.length z.fst) then bif !(F.shA z.fst z.snd).fst then some (AV.tup [AV.sl [], (vI (↑(F.shA z.fst
  z.snd).snd.snd : Int)), (vI (10 : Int))], []) else Option.bind (unenc encChC [AV.sl (List.map eCap (bif (F.shA z.fst z.snd).fst then (F.shA z.fst z.snd).snd.fst else
  []))]) fun (z_1 : List Cap) => bif F.smC z_1 then bif F.chkC z_1 != (0 : Int) then some (AV.tup [AV.sl [], (vI (0 : Int)), (vI (F.chkC z_1))], []) else some (AV.tup [AV.sl
  (List.map eCap (bif (F.shA z.fst z.snd).fst then (F.shA z.fst z.snd).snd.fst else [])), (vI (0 : Int)), (vI (0 : Int))], []) else none else none else none := (runFR_val).symm.trans (by kernel_rfl)

def encRea1 (s : ByteArray) : List AV := [vS s, .fn 14 []]

def encRea (a : ByteArray) : List AV := encRea1 a

theorem encRea_inj (a a' : ByteArray) (h : encRea a = encRea a') : a = a' := by
  simp only [encRea, encRea1] at h
  try simp [strs_inj, ints_inj, bools_inj, eL_eIs_inj, eCaps_inj, eCap_iff, eL_eCaps_inj, eMchs_inj, eMch_iff, eWrds_inj, eWrd_iff, eFnds_inj, eFnd_iff, eRatios_inj, eRatio_iff, eWays_inj, eWay_iff] at h
  grind

theorem unRea (s : ByteArray) : unenc encRea ([(vS s), AV.fn (14 : FuncId) []]) = some (s) := unenc_of encRea_inj (s) rfl

def resRea1 (s : ByteArray) : AV × Heap := (.tup [.sl ((F.rdSh s).1.map eCap), vI (F.rdSh s).2.1, vI (F.rdSh s).2.2], [])

def preRea1 (s : ByteArray) : Bool := F.small s

noncomputable def oRea : Orc := orc 13 false encRea (fun a => preRea1 a) fun a => resRea1 a

theorem okRea : OrcOK Tryd.prog noG oRea := by
  refine mk_ok Tryd.f13 (keep := false) (by kernel_rfl) (by kernel_rfl) enRea_ok mixed (no_loops (by kernel_rfl)) (by first | exact fun _ _ => ⟨rfl, rfl⟩ | (intro h; cases h)) ?_
  rintro s hpre hok
  show (runF enRea false _ (encRea1 _)).val = some (resRea1 _)
  unfold encRea1 resRea1
  rw [evRea]
  simp only [preRea1] at hpre
  have u0 : unenc encCl1 ([.ptr 900 0 0], [(900, ⟨true, 0, 0, [[.sl ((F.lns s).map eStr), vI 0]]⟩)]) = some (F.lns s, 0) := unCl1 (F.lns s) 0
  simp only [unChC, unNwP, unCl1, preChC1, preNwP1, preCl11, etaCap, etaMch, etaWrd, etaFnd, etaRatio, etaWay, Option.bind_some, List.length_map, unStrs, unInts, unBools, uneL_eIs, unCaps, uneL_eCaps, unMchs, unWrds, unFnds, unRatios, unWays, F.lt, F.le, cond_true, cond_false, Bool.and_true, Bool.true_and, hpre, F.rdSh, u0, Nat.zero_le, decide_true]
  by_cases hb : 200000 < s.size
  · rw [decide_eq_true (show (200000 : Int) < s.size by omega), decide_eq_true hb]
    rfl
  have hl := F.lns_ok (s := s) (by omega)
  rw [decide_eq_false (show ¬ (200000 : Int) < s.size by omega), decide_eq_false hb, hl]
  have hq : F.smC (F.shA (F.lns s) 0).2.1 = true := F.shL_small (F.linesOk_sm hl) _ _ _ rfl
  generalize F.shA (F.lns s) 0 = q at hq
  obtain ⟨q1, q2, q3⟩ := q
  simp only at hq
  simp only [F.rdK, hq, cond_true, cond_false]
  cases q1
  · rfl
  · simp only [hq, cond_true, cond_false, Bool.not_true]
    cases F.chkC q2 != 0 <;> rfl

noncomputable def enRSt : Env := envH ty noG lks [oRea] [] [] []

theorem enRSt_ok : EnvOK Tryd.prog enRSt := by
  refine envH_ok lks_ok ty_ok ?_ ?_
  · simp only [List.forall_mem_cons]
    exact ⟨okRea, by simp⟩
  · simp

theorem evRSt (s : ByteArray) : (runF enRSt false Tryd.f5 [vS s]).val =
  Option.bind (unenc encRea [(vS s), AV.fn (14 : Nat) []]) fun (z : ByteArray) => bif F.small z then some (AV.tup [AV.sl (List.map eCap (F.rdSh z).fst), (vI (F.rdSh
  z).snd.fst), (vI (F.rdSh z).snd.snd)], []) else none := (runFR_val).symm.trans (by kernel_rfl)

def encRSt1 (s : ByteArray) : List AV := [vS s]

def encRSt (a : ByteArray) : List AV := encRSt1 a

theorem encRSt_inj (a a' : ByteArray) (h : encRSt a = encRSt a') : a = a' := by
  simp only [encRSt, encRSt1] at h
  try simp [strs_inj, ints_inj, bools_inj, eL_eIs_inj, eCaps_inj, eCap_iff, eL_eCaps_inj, eMchs_inj, eMch_iff, eWrds_inj, eWrd_iff, eFnds_inj, eFnd_iff, eRatios_inj, eRatio_iff, eWays_inj, eWay_iff] at h
  grind

theorem unRSt (s : ByteArray) : unenc encRSt ([(vS s)]) = some (s) := unenc_of encRSt_inj (s) rfl

def resRSt1 (s : ByteArray) : AV × Heap := (.tup [.sl ((F.rdSh s).1.map eCap), vI (F.rdSh s).2.1, vI (F.rdSh s).2.2], [])

def preRSt1 (s : ByteArray) : Bool := F.small s

noncomputable def oRSt : Orc := orc 5 false encRSt (fun a => preRSt1 a) fun a => resRSt1 a

theorem okRSt : OrcOK Tryd.prog noG oRSt := by
  refine mk_ok Tryd.f5 (keep := false) (by kernel_rfl) (by kernel_rfl) enRSt_ok mixed (no_loops (by kernel_rfl)) (by first | exact fun _ _ => ⟨rfl, rfl⟩ | (intro h; cases h)) ?_
  rintro s hpre hok
  show (runF enRSt false _ (encRSt1 _)).val = some (resRSt1 _)
  unfold encRSt1 resRSt1
  rw [evRSt]
  simp only [preRSt1] at hpre
  simp only [unRea, preRea1, etaCap, etaMch, etaWrd, etaFnd, etaRatio, etaWay, Option.bind_some, List.length_map, unStrs, unInts, unBools, uneL_eIs, unCaps, uneL_eCaps, unMchs, unWrds, unFnds, unRatios, unWays, F.lt, F.le, cond_true, cond_false, Bool.and_true, Bool.true_and, hpre]

end M
end Go.Proofs.YthcfbeckhgngiaaDoor
