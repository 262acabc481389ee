/- What is proved here: ReadLong of the program (no statement of the seat). -/
import Derived.Test.YthcfbeckhgngiaaGreatDoorC135
namespace Go.Proofs.YthcfbeckhgngiaaGreatDoor
open Go Go.RowKit
set_option linter.unusedVariables false
set_option linter.unusedSimpArgs false

namespace F

theorem bdP_small : ∀ (M acc : List ByteArray) (a : Nat), smL M = true → smL acc = true → smL (bdP M acc a).2.1 = true
  | [], acc, a, _, h => by
    rw [bdP]
    cases acc.isEmpty <;> exact h
  | x :: r, acc, a, hM, h => by
    have hM : (small x && smL r) = true := hM
    rw [Bool.and_eq_true] at hM
    rw [bdP]
    have hx : small (plV x) = true := small_le (plV_size x) (of_decide_eq_true hM.1)
    have ih := bdP_small r (acc ++ [plV x]) (a + 1) hM.2 (by unfold smL at h ⊢; rw [List.all_append, h]; simp [hx])
    cases emp x && !acc.isEmpty
    · cases plOk x
      · exact h
      · exact ih
    · exact h

theorem smL_dropL {L : List ByteArray} (h : smL L = true) (k : Nat) : smL (L.drop k) = true :=
  List.all_eq_true.2 fun x hx => List.all_eq_true.1 h x (List.mem_of_mem_drop hx)

theorem lgL_small {L : List ByteArray} (hL : smL L = true) : ∀ (f : Nat) (out : List Cap) (a : Nat), smC out = true → smC (lgL L f out a).2.1 = true
  | 0, out, a, h => h
  | f + 1, out, a, h => by
    have hb := bdP_small (L.drop (a + 1)) [] (a + 1) (smL_dropL hL _) rfl
    have ih := lgL_small hL f (out ++ [lgCap (tkS L a) (bdP (L.drop (a + 1)) [] (a + 1)).2.1]) ((bdP (L.drop (a + 1)) [] (a + 1)).2.2 + lead (L.drop (bdP (L.drop (a + 1)) [] (a + 1)).2.2)) (by
      unfold smC at h ⊢
      rw [List.all_append, h]
      simp [lgCap, hb])
    rw [lgL]
    cases tkB L a
    · exact h
    cases lgOk (tkS L a)
    · rfl
    cases (bdP (L.drop (a + 1)) [] (a + 1)).1
    · rfl
    · exact ih

theorem lgA_small {L : List ByteArray} (hL : smL L = true) : smC (lgA L).2.1 = true := by
  unfold lgA
  cases hd1 L
  · rfl
  cases hd2 L
  · exact lgL_small hL _ _ _ rfl
  · rfl

theorem lns_okL {s : ByteArray} (h : s.size ≤ 200000) : linesOk (lns s) = true := by
  unfold linesOk
  rw [Bool.and_eq_true]
  refine ⟨decide_eq_true (by have := lns_len s; omega), List.all_eq_true.2 fun x hx => ?_⟩
  have := lns_mem hx
  exact decide_eq_true (by omega)

theorem linesOk_smL {L : List ByteArray} (h : linesOk L = true) : smL L = true := (Bool.and_eq_true _ _ ▸ h : decide (L.length ≤ 200001) = true ∧ L.all small = true).2

/-- The captions that were read, checked. -/
def rdKL (q : Bool × List Cap × Nat) : List Cap × Int × Int :=
  bif q.1 then (bif chkC q.2.1 != 0 then ([], 0, chkC q.2.1) else (q.2.1, 0, 0)) else ([], (q.2.2 : Int), 10)

def rdLo (s : ByteArray) : List Cap × Int × Int := bif decide (200000 < s.size) then ([], 0, 2) else rdKL (lgA (lns s))

end F

namespace M

noncomputable def enCl2 : Env := envH ty noG lks [] [oLgo] [] []

theorem enCl2_ok : EnvOK Tryz.prog enCl2 := by
  refine envH_ok lks_ok ty_ok ?_ ?_
  · simp
  · simp only [List.forall_mem_cons]
    exact ⟨okLgo, by simp⟩

theorem evCl2 (L : List ByteArray) : (runH enCl2 [] Tryz.f12 [.ptr 900 0 0] [(900, ⟨true, 0, 0, [[.sl (L.map eStr), vI 0]]⟩)]).val =
  Option.bind (unenc encLgo ([.ptr 900 0 0], [(900, Blk.mk true 0 0 [[AV.sl (List.map eStr L), (vI (0 : Int))]])])) fun (z : List ByteArray) => bif F.linesOk z then some
  (AV.tup [.own 0, (vB (F.lgA z).fst)], [(900, Blk.mk true 0 0 [[AV.sl (List.map eStr z), (vI (↑(F.lgA z).snd.snd : Int))]]), (0, Blk.mk false 41 6 (List.map eCap (bif
  (F.lgA z).fst then (F.lgA z).snd.fst else [])))], []) else none := (runHR_val).symm.trans (by kernel_rfl)

def encCl21 (L : List ByteArray) : List AV × Heap := ([.ptr 900 0 0], [(900, ⟨true, 0, 0, [[.sl (L.map eStr), vI 0]]⟩)])

def encCl2 (a : (List ByteArray)) : List AV × Heap := encCl21 a

theorem encCl2_inj (a a' : (List ByteArray)) (h : encCl2 a = encCl2 a') : a = a' := by
  simp only [encCl2, encCl21] at h
  try simp [strs_inj, ints_inj, bools_inj, eL_eIs_inj, eCaps_inj, eCap_iff, eL_eCaps_inj, eMchs_inj, eMch_iff, eWrds_inj, eWrd_iff, eFnds_inj, eFnd_iff, eRatios_inj, eRatio_iff, eWays_inj, eWay_iff] at h
  grind

theorem unCl2 (L : List ByteArray) : unenc encCl2 (([.ptr 900 0 0], [(900, Blk.mk true 0 0 [[AV.sl (List.map eStr L), (vI (0 : Int))]])])) = some (L) := unenc_of encCl2_inj (L) rfl

def resCl21 (L : List ByteArray) : AV × Heap × List Nat := (.tup [.own 0, vB (F.lgA L).1], [(900, ⟨true, 0, 0, [[.sl (L.map eStr), vI (F.lgA L).2.2]]⟩), (0, ⟨false, 41, 6, (bif (F.lgA L).1 then (F.lgA L).2.1 else []).map eCap⟩)], [])

def preCl21 (L : List ByteArray) : Bool := F.linesOk L

noncomputable def oCl2 : OrcH := orcH 12 encCl2 (fun a => preCl21 a) fun a => resCl21 a

theorem okCl2 : OrcHOK Tryz.prog noG oCl2 := by
  refine mkH_ok (mv := []) Tryz.f12 (by kernel_rfl) (by kernel_rfl) enCl2_ok mixed (no_loops (by kernel_rfl)) ?_
  rintro L hpre hok hokh
  show (runH enCl2 [] _ (encCl21 _).1 (encCl21 _).2).val = some (resCl21 _)
  unfold encCl21 resCl21
  rw [evCl2]
  simp only [preCl21] at hpre
  simp only [unLgo, preLgo1, etaCap, etaMch, etaWrd, etaFnd, etaRatio, etaWay, Option.bind_some, List.length_map, unStrs, unInts, unBools, uneL_eIs, unCaps, uneL_eCaps, unMchs, unWrds, unFnds, unRatios, unWays, F.lt, F.le, cond_true, cond_false, Bool.and_true, Bool.true_and, hpre]

noncomputable def enReL : Env := envH ty noG lks [oChC] [oNwP, oCl2] [] []

theorem enReL_ok : EnvOK Tryz.prog enReL := by
  refine envH_ok lks_ok ty_ok ?_ ?_
  · simp only [List.forall_mem_cons]
    exact ⟨okChC, by simp⟩
  · simp only [List.forall_mem_cons]
    exact ⟨okNwP, okCl2, by simp⟩

theorem evReL (s : ByteArray) : (runF enReL false Tryz.f11 [vS s, .fn 12 []]).val =
  bif decide ((200000 : Int) < (↑(ByteArray.size s) : Int)) then some (AV.tup [AV.sl [], (vI (0 : Int)), (vI (2 : Int))], []) else Option.bind (unenc encNwP ([(vS s)], []))
  fun (z : ByteArray) => bif F.small z then Option.bind (unenc encCl2 ([.ptr 900 0 0], [(900, Blk.mk true 0 0 [[AV.sl (List.map eStr (F.lns z)), (vI (0 : Int))]])])) fun (z
  : List ByteArray) => bif F.linesOk z then bif !(F.lgA z).fst then some (AV.tup [AV.sl [], (vI (↑(F.lgA z).snd.snd : Int)), (vI (10 : Int))], []) else Option.bind (unenc
  encChC [AV.sl (List.map eCap (bif (F.lgA z).fst then (F.lgA z).snd.fst else []))]) fun (z_1 : List Cap) => bif F.smC z_1 then bif F.chkC z_1 != (0 : Int) then some (AV.tup
  [AV.sl [], (vI (0 : Int)), (vI (F.chkC z_1))], []) else some (AV.tup [AV.sl (List.map eCap (bif (F.lgA z).fst then (F.lgA z).snd.fst else [])), (vI (0 : Int)), (vI (0 :
  Int))], []) else none else none else none := (runFR_val).symm.trans (by kernel_rfl)

def encReL1 (s : ByteArray) : List AV := [vS s, .fn 12 []]

def encReL (a : ByteArray) : List AV := encReL1 a

theorem encReL_inj (a a' : ByteArray) (h : encReL a = encReL a') : a = a' := by
  simp only [encReL, encReL1] at h
  try simp [strs_inj, ints_inj, bools_inj, eL_eIs_inj, eCaps_inj, eCap_iff, eL_eCaps_inj, eMchs_inj, eMch_iff, eWrds_inj, eWrd_iff, eFnds_inj, eFnd_iff, eRatios_inj, eRatio_iff, eWays_inj, eWay_iff] at h
  grind

theorem unReL (s : ByteArray) : unenc encReL ([(vS s), AV.fn (12 : FuncId) []]) = some (s) := unenc_of encReL_inj (s) rfl

def resReL1 (s : ByteArray) : AV × Heap := (.tup [.sl ((F.rdLo s).1.map eCap), vI (F.rdLo s).2.1, vI (F.rdLo s).2.2], [])

def preReL1 (s : ByteArray) : Bool := F.small s

noncomputable def oReL : Orc := orc 11 false encReL (fun a => preReL1 a) fun a => resReL1 a

theorem okReL : OrcOK Tryz.prog noG oReL := by
  refine mk_ok Tryz.f11 (keep := false) (by kernel_rfl) (by kernel_rfl) enReL_ok mixed (no_loops (by kernel_rfl)) (by first | exact fun _ _ => ⟨rfl, rfl⟩ | (intro h; cases h)) ?_
  rintro s hpre hok
  show (runF enReL false _ (encReL1 _)).val = some (resReL1 _)
  unfold encReL1 resReL1
  rw [evReL]
  simp only [preReL1] at hpre
  simp only [unChC, unNwP, unCl2, preChC1, preNwP1, preCl21, etaCap, etaMch, etaWrd, etaFnd, etaRatio, etaWay, Option.bind_some, List.length_map, unStrs, unInts, unBools, uneL_eIs, unCaps, uneL_eCaps, unMchs, unWrds, unFnds, unRatios, unWays, F.lt, F.le, cond_true, cond_false, Bool.and_true, Bool.true_and, hpre, F.rdLo]
  by_cases hb : 200000 < s.size
  · rw [decide_eq_true (show (200000 : Int) < s.size by omega), decide_eq_true hb]
    rfl
  have hl := F.lns_okL (s := s) (by omega)
  rw [decide_eq_false (show ¬ (200000 : Int) < s.size by omega), decide_eq_false hb, hl]
  have hq : F.smC (F.lgA (F.lns s)).2.1 = true := F.lgA_small (F.linesOk_smL hl)
  generalize F.lgA (F.lns s) = q at hq
  obtain ⟨q1, q2, q3⟩ := q
  simp only at hq
  simp only [F.rdKL, hq, cond_true, cond_false]
  cases q1
  · rfl
  · simp only [hq, cond_true, cond_false, Bool.not_true]
    cases F.chkC q2 != 0 <;> rfl

noncomputable def enRLo : Env := envH ty noG lks [oReL] [] [] []

theorem enRLo_ok : EnvOK Tryz.prog enRLo := by
  refine envH_ok lks_ok ty_ok ?_ ?_
  · simp only [List.forall_mem_cons]
    exact ⟨okReL, by simp⟩
  · simp

theorem evRLo (s : ByteArray) : (runF enRLo false Tryz.f5 [vS s]).val =
  Option.bind (unenc encReL [(vS s), AV.fn (12 : Nat) []]) fun (z : ByteArray) => bif F.small z then some (AV.tup [AV.sl (List.map eCap (F.rdLo z).fst), (vI (F.rdLo
  z).snd.fst), (vI (F.rdLo z).snd.snd)], []) else none := (runFR_val).symm.trans (by kernel_rfl)

def encRLo1 (s : ByteArray) : List AV := [vS s]

def encRLo (a : ByteArray) : List AV := encRLo1 a

theorem encRLo_inj (a a' : ByteArray) (h : encRLo a = encRLo a') : a = a' := by
  simp only [encRLo, encRLo1] at h
  try simp [strs_inj, ints_inj, bools_inj, eL_eIs_inj, eCaps_inj, eCap_iff, eL_eCaps_inj, eMchs_inj, eMch_iff, eWrds_inj, eWrd_iff, eFnds_inj, eFnd_iff, eRatios_inj, eRatio_iff, eWays_inj, eWay_iff] at h
  grind

theorem unRLo (s : ByteArray) : unenc encRLo ([(vS s)]) = some (s) := unenc_of encRLo_inj (s) rfl

def resRLo1 (s : ByteArray) : AV × Heap := (.tup [.sl ((F.rdLo s).1.map eCap), vI (F.rdLo s).2.1, vI (F.rdLo s).2.2], [])

def preRLo1 (s : ByteArray) : Bool := F.small s

noncomputable def oRLo : Orc := orc 5 false encRLo (fun a => preRLo1 a) fun a => resRLo1 a

theorem okRLo : OrcOK Tryz.prog noG oRLo := by
  refine mk_ok Tryz.f5 (keep := false) (by kernel_rfl) (by kernel_rfl) enRLo_ok mixed (no_loops (by kernel_rfl)) (by first | exact fun _ _ => ⟨rfl, rfl⟩ | (intro h; cases h)) ?_
  rintro s hpre hok
  show (runF enRLo false _ (encRLo1 _)).val = some (resRLo1 _)
  unfold encRLo1 resRLo1
  rw [evRLo]
  simp only [preRLo1] at hpre
  simp only [unReL, preReL1, etaCap, etaMch, etaWrd, etaFnd, etaRatio, etaWay, Option.bind_some, List.length_map, unStrs, unInts, unBools, uneL_eIs, unCaps, uneL_eCaps, unMchs, unWrds, unFnds, unRatios, unWays, F.lt, F.le, cond_true, cond_false, Bool.and_true, Bool.true_and, hpre]

end M
end Go.Proofs.YthcfbeckhgngiaaGreatDoor
