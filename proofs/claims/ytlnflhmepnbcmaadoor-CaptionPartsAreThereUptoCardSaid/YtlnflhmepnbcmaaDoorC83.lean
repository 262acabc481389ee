/- What is proved here: SameLines, Some and Below (no statement of the seat). -/
import Derived.Test.YtlnflhmepnbcmaaDoorC82
import Derived.Test.YtlnflhmepnbcmaaDoorC90
import Derived.Test.YtlnflhmepnbcmaaDoorC53
import Derived.Test.YtlnflhmepnbcmaaDoorC10
namespace Go.Proofs.YtlnflhmepnbcmaaDoor
open Go Go.RowKit
set_option linter.unusedVariables false
set_option linter.unusedSimpArgs false
set_option maxHeartbeats 1000000

/-- What is left, if each of these has one of the others with its lines and row. -/
def F.slE : List Cap → List Cap → Option (List Cap)
  | [], rest => some rest
  | c :: a, rest => match F.findI (fun x => Jn.key x c) 0 rest with
    | none => none
    | some i => F.slE a (rest.eraseIdx i)

def F.slR (a rest : List Cap) : Bool := F.found (F.slE a rest) && (F.got (F.slE a rest) []).isEmpty

def F.slI (c : Cap) (at0 : Int) (j : Nat) (xs : List Cap) : Int := bif decide (at0 < 0) then F.idxI (F.findI (fun x => Jn.key x c) j xs) else at0

def F.atL (l : List Cap) (n : Int) : Option Cap := bif decide (0 ≤ n) && decide (n < (l.length : Int)) then l[n.toNat]? else none

def F.some (l : List Cap) (ns : List Int) : List Cap := ns.filterMap (F.atL l)

def F.below (x n : Int) : Int := bif decide (x.tmod n < 0) then x.tmod n + n else x.tmod n

theorem F.slI_some {c : Cap} {n : Nat} {j : Nat} {xs : List Cap} : F.slI c (n : Int) j xs = (n : Int) := by
  unfold F.slI
  rw [decide_eq_false (by omega), cond_false]

namespace M

def stSL1 (a : List Cap) (rest : List Cap) (k : Nat) : St := ⟨[(15, vI k), (14, vI a.length), (13, .sl (a.map eCap)), (5, .own 13000)], [(13000, ⟨false, 67, 6, rest.map eCap⟩)]⟩

def stSL11 (a : (List Cap) × (List Cap) × Nat) : St := stSL1 a.1 a.2.1 a.2.2

theorem stSL1_inj (a a' : (List Cap) × (List Cap) × Nat) (h : stSL11 a = stSL11 a') : a = a' := by
  simp only [stSL11, stSL1] at h
  try simp [strs_inj, ints_inj, bools_inj, eCaps_inj, eCap_iff, eL_eCaps_inj, eMchs_inj, eMch_iff, eWrds_inj, eWrd_iff, eFnds_inj, eFnd_iff, eRatios_inj, eRatio_iff, eWays_inj, eWay_iff] at h
  grind

theorem unstSL1 (a : List Cap) (rest : List Cap) (k : Nat) : unenc stSL11 (St.mk [(15, (vI (↑k : Int))), (14, (vI (↑(List.length a) : Int))), (13, AV.sl (List.map eCap a)), (5, .own 13000)] [(13000, Blk.mk false 67 6 (List.map eCap rest))]) = some (a, rest, k) := unenc_of stSL1_inj (a, rest, k) rfl

theorem unstSL10 (a : List Cap) (rest : List Cap)  : unenc stSL11 (St.mk [(15, (vI (0 : Int))), (14, (vI (↑(List.length a) : Int))), (13, AV.sl (List.map eCap a)), (5, .own 13000)] [(13000, Blk.mk false 67 6 (List.map eCap rest))]) = some (a, rest, 0) := unenc_of stSL1_inj (a, rest, 0) rfl

def outSL1 (a : List Cap) (rest : List Cap) (k : Nat) : T (Ex × St) := .ifB (F.found (F.slE (a.drop k) rest)) (.ret (.exit 0, ⟨[(5, .own 13000)], [(13000, ⟨false, 67, 6, (F.got (F.slE (a.drop k) rest) []).map eCap⟩)]⟩)) (.ret (.ret, ⟨[(4, vB false)], []⟩))

noncomputable def prlSL1 (a : List Cap) (rest : List Cap) (k : Nat) : Bool := decide (a.length ≤ 100000 ∧ rest.length ≤ 100000 ∧ k ≤ a.length)

noncomputable def lpSL1 : Nat × (St → T (Ex × St)) := (3, lpo [15, 14, 13, 5] [13000] stSL11 (fun a => prlSL1 a.1 a.2.1 a.2.2) fun a => outSL1 a.1 a.2.1 a.2.2)

def stSL2 (a : List Cap) (rest : List Cap) (k : Nat) (c : Cap) (at0 : Int) (j : Nat) : St := ⟨[(21, vI j), (20, vI rest.length), (19, .own 13000), (15, vI k), (14, vI a.length), (13, .sl (a.map eCap)), (8, vI at0), (7, .ptr 7 0 0), (5, .own 13000)], [(13000, ⟨false, 67, 6, rest.map eCap⟩), (7, ⟨true, 0, 0, [eCap c]⟩)]⟩

def stSL21 (a : (List Cap) × (List Cap) × Nat × Cap × Int × Nat) : St := stSL2 a.1 a.2.1 a.2.2.1 a.2.2.2.1 a.2.2.2.2.1 a.2.2.2.2.2

theorem stSL2_inj (a a' : (List Cap) × (List Cap) × Nat × Cap × Int × Nat) (h : stSL21 a = stSL21 a') : a = a' := by
  simp only [stSL21, stSL2] at h
  try simp [strs_inj, ints_inj, bools_inj, eCaps_inj, eCap_iff, eL_eCaps_inj, eMchs_inj, eMch_iff, eWrds_inj, eWrd_iff, eFnds_inj, eFnd_iff, eRatios_inj, eRatio_iff, eWays_inj, eWay_iff] at h
  grind

theorem unstSL2 (a : List Cap) (rest : List Cap) (k : Nat) (c : Cap) (at0 : Int) (j : Nat) : unenc stSL21 (St.mk [(21, (vI (↑j : Int))), (20, (vI (↑(List.length rest) : Int))), (19, .own 13000), (15, (vI (↑k : Int))), (14, (vI (↑(List.length a) : Int))), (13, AV.sl (List.map
  eCap a)), (8, (vI at0)), (7, .ptr 7 0 0), (5, .own 13000)] [(13000, Blk.mk false 67 6 (List.map eCap rest)), (7, Blk.mk true 0 0 [[(vI c.fr), (vI c.to), AV.sl (List.map
  eStr c.lines), (vI c.row), (vB c.bef), (vB c.aft)]])]) = some (a, rest, k, c, at0, j) := unenc_of stSL2_inj (a, rest, k, c, at0, j) rfl

theorem unstSL20 (a : List Cap) (rest : List Cap) (k : Nat) (c : Cap)  : unenc stSL21 (St.mk [(21, (vI (0 : Int))), (20, (vI (↑(List.length rest) : Int))), (19, .own 13000), (15, (vI (↑k : Int))), (14, (vI (↑(List.length a) : Int))), (13, AV.sl (List.map
  eCap a)), (8, (vI (-1 : Int))), (7, .ptr 7 0 0), (5, .own 13000)] [(13000, Blk.mk false 67 6 (List.map eCap rest)), (7, Blk.mk true 0 0 [[(vI c.fr), (vI c.to), AV.sl
  (List.map eStr c.lines), (vI c.row), (vB c.bef), (vB c.aft)]])]) = some (a, rest, k, c, (-1), 0) := unenc_of stSL2_inj (a, rest, k, c, (-1), 0) rfl

def outSL2 (a : List Cap) (rest : List Cap) (k : Nat) (c : Cap) (at0 : Int) (j : Nat) : T (Ex × St) := .ret (.exit 2, ⟨[(15, vI k), (14, vI a.length), (13, .sl (a.map eCap)), (8, vI (F.slI c at0 j (rest.drop j))), (5, .own 13000)], [(13000, ⟨false, 67, 6, rest.map eCap⟩)]⟩)

noncomputable def prlSL2 (a : List Cap) (rest : List Cap) (k : Nat) (c : Cap) (at0 : Int) (j : Nat) : Bool := decide (rest.length ≤ 100000 ∧ j ≤ rest.length ∧ -1 ≤ at0)

noncomputable def lpSL2 : Nat × (St → T (Ex × St)) := (7, lpo [21, 20, 19, 15, 14, 13, 8, 7, 5] [13000, 7] stSL21 (fun a => prlSL2 a.1 a.2.1 a.2.2.1 a.2.2.2.1 a.2.2.2.2.1 a.2.2.2.2.2) fun a => outSL2 a.1 a.2.1 a.2.2.1 a.2.2.2.1 a.2.2.2.2.1 a.2.2.2.2.2)

noncomputable def enSL : Env := envH ty noG lks [oClK, oEqS] [oDelO] [13000] [lpSL1, lpSL2]

theorem enSL_ok : EnvOK Tryd.prog enSL := by
  refine envH_ok lks_ok ty_ok ?_ ?_
  · simp only [List.forall_mem_cons]
    exact ⟨okClK, okEqS, by simp⟩
  · simp only [List.forall_mem_cons]
    exact ⟨okDelO, by simp⟩

theorem evSL2L (a : List Cap) (rest : List Cap) (k : Nat) (c : Cap) (at0 : Int) (j : Nat) : ((exec enSL (loopN Tryd.f19 1) (stSL2 a rest k c at0 j)).bind (lessX ([21, 20, 19, 15, 14, 13, 8, 7, 5], [13000, 7]) ([15, 14, 13, 8, 5], [13000]) ([], []))).val =
  bif decide ((↑j : Int) < (↑(List.length rest) : Int)) then bif decide (j < List.length (Blk.mk false 67 6 (List.map eCap rest)).rows) then Option.bind (unenc (List.map
  eCap) (List.map eCap rest)) fun (z : List Cap) => bif decide (j < List.length z) then bif bif decide (at0 < (0 : Int)) then (List.getD z j (Cap.mk (0 : Int) (0 : Int) []
  (0 : Int) false false)).row == c.row else false then Option.bind (unenc encEqS [AV.sl (List.map eStr (List.getD z j (Cap.mk (0 : Int) (0 : Int) [] (0 : Int) false
  false)).lines), AV.sl (List.map eStr c.lines)]) fun (z : List ByteArray × List ByteArray) => bif F.sameSL z.fst z.snd then some (Ex.normal, St.mk [(21, (vI (IntKind.wrap
  IntKind.i64 ((↑j : Int) + (1 : Int))))), (20, (vI (↑(List.length rest) : Int))), (19, .own 13000), (15, (vI (↑k : Int))), (14, (vI (↑(List.length a) : Int))), (13, AV.sl
  (List.map eCap a)), (8, (vI (↑j : Int))), (7, .ptr 7 0 0), (5, .own 13000)] [(13000, Blk.mk false 67 6 (List.map eCap rest)), (7, Blk.mk true 0 0 [[(vI c.fr), (vI c.to),
  AV.sl (List.map eStr c.lines), (vI c.row), (vB c.bef), (vB c.aft)]])]) else some (Ex.normal, St.mk [(21, (vI (IntKind.wrap IntKind.i64 ((↑j : Int) + (1 : Int))))), (20,
  (vI (↑(List.length rest) : Int))), (19, .own 13000), (15, (vI (↑k : Int))), (14, (vI (↑(List.length a) : Int))), (13, AV.sl (List.map eCap a)), (8, (vI at0)), (7, .ptr 7 0
  0), (5, .own 13000)] [(13000, Blk.mk false 67 6 (List.map eCap rest)), (7, Blk.mk true 0 0 [[(vI c.fr), (vI c.to), AV.sl (List.map eStr c.lines), (vI c.row), (vB c.bef),
  (vB c.aft)]])]) else some (Ex.normal, St.mk [(21, (vI (IntKind.wrap IntKind.i64 ((↑j : Int) + (1 : Int))))), (20, (vI (↑(List.length rest) : Int))), (19, .own 13000), (15,
  (vI (↑k : Int))), (14, (vI (↑(List.length a) : Int))), (13, AV.sl (List.map eCap a)), (8, (vI at0)), (7, .ptr 7 0 0), (5, .own 13000)] [(13000, Blk.mk false 67 6 (List.map
  eCap rest)), (7, Blk.mk true 0 0 [[(vI c.fr), (vI c.to), AV.sl (List.map eStr c.lines), (vI c.row), (vB c.bef), (vB c.aft)]])]) else none else none else some (Ex.exit (2 :
  Nat), St.mk [(15, (vI (↑k : Int))), (14, (vI (↑(List.length a) : Int))), (13, AV.sl (List.map eCap a)), (8, (vI at0)), (5, .own 13000)] [(13000, Blk.mk false 67 6
  (List.map eCap rest))]) := (execR_bind _ _ _).symm.trans (by kernel_rfl)

theorem lpSL2_ok (a : List Cap) (rest : List Cap) (k : Nat) (c : Cap) (at0 : Int) (j : Nat) (hp : prlSL2 a rest k c at0 j = true) : ∀ ex s', (outSL2 a rest k c at0 j).val = some (ex, s') → LoopOK enSL (loopN Tryd.f19 1) (stSL2 a rest k c at0 j) ex s' := by
  simp only [prlSL2, Bool.and_eq_true, decide_eq_true_eq] at hp
  obtain ⟨h1, h2, h3⟩ := hp
  refine loop_gen (st := fun s : Int × Nat => stSL2 a rest k c s.1 s.2) (out := fun s => outSL2 a rest k c s.1 s.2) (I := fun s => s.2 ≤ rest.length ∧ -1 ≤ s.1) (n := ([21, 20, 19, 15, 14, 13, 8, 7, 5], [13000, 7])) (e := ([15, 14, 13, 8, 5], [13000])) (r := ([], [])) (fun s => rest.length - s.2) ?_ (at0, j) ⟨h2, h3⟩
  rintro ⟨at0, j⟩ ⟨h2, h3⟩
  simp only at h2 h3
  by_cases hlt : j < rest.length
  · right
    have hy : rest[j]? = some rest[j] := List.getElem?_eq_getElem hlt
    generalize rest[j] = y at hy
    have hd := drop_at hy
    refine ⟨(bif decide (at0 < 0) && Jn.key y c then (j : Int) else at0, j + 1), ?_, rfl, ⟨hlt, ?_⟩, by simp only; omega, ?_⟩
    · rw [evSL2L]
      simp only [unClK, unEqS, unDelO, preClK1, preEqS1, preDelO1, unstSL1, unstSL2, unstSL10, unstSL20, prlSL1, prlSL2, outSL1, outSL2, etaCap, etaMch, etaWrd, etaFnd, etaRatio, etaWay, Option.bind_some, List.length_map, unStrs, unInts, unBools, unCaps, uneL_eCaps, unMchs, unWrds, unFnds, unRatios, unWays, F.lt, F.le, cond_true, cond_false, Bool.and_true, Bool.true_and, cast_lt hlt, decide_eq_true hlt, getD_at hy, next_at hlt (by omega : rest.length ≤ 9223372036854775807), stSL2, Jn.key]
      cases decide (at0 < 0) <;> cases (y.row == c.row) <;> cases F.sameSL y.lines c.lines <;> rfl
    · simp only
      cases decide (at0 < 0) && Jn.key y c
      · exact h3
      · show -1 ≤ (j : Int)
        omega
    · have e : F.slI c (bif decide (at0 < 0) && Jn.key y c then (j : Int) else at0) (j + 1) (rest.drop (j + 1)) = F.slI c at0 j (y :: rest.drop (j + 1)) := by
        cases ha : decide (at0 < 0)
        · simp only [F.slI, ha, Bool.false_and, cond_false]
        · cases hk : Jn.key y c
          · simp only [F.slI, ha, F.findI, hk, Bool.true_and, cond_false, cond_true]
          · simp only [Bool.true_and, cond_true, F.slI_some]
            simp only [F.slI, ha, F.findI, hk, cond_true]
            rfl
      simp only [outSL2, hd, e]
  · left
    have : j = rest.length := by omega
    subst this
    have e : F.slI c at0 rest.length [] = at0 := by
      unfold F.slI
      by_cases ha : at0 < 0
      · rw [decide_eq_true ha, cond_true]
        show (-1 : Int) = at0
        omega
      · rw [decide_eq_false ha, cond_false]
    refine ⟨_, ?_, rfl, by simp, rfl⟩
    rw [evSL2L]
    simp only [cast_ge, cond_false, List.drop_length, e, List.length_map]

theorem evSL1L (a : List Cap) (rest : List Cap) (k : Nat) : ((exec enSL (loopN Tryd.f19 0) (stSL1 a rest k)).bind (lessX ([15, 14, 13, 5], [13000]) ([5], [13000]) ([4], []))).val =
  bif decide ((↑k : Int) < (↑(List.length a) : Int)) then Option.bind (unenc (List.map eCap) (List.map eCap a)) fun (z : List Cap) => bif decide (k < List.length z) then
  Option.bind (unenc stSL21 (St.mk [(21, (vI (0 : Int))), (20, (vI (↑(List.length (List.map eCap rest)) : Int))), (19, .own 13000), (15, (vI (↑k : Int))), (14, (vI
  (↑(List.length a) : Int))), (13, AV.sl (List.map eCap a)), (8, (vI (-1 : Int))), (7, .ptr 7 0 0), (5, .own 13000)] [(13000, Blk.mk false 67 6 (List.map eCap rest)), (7,
  Blk.mk true 0 0 [[(vI (List.getD z k (Cap.mk (0 : Int) (0 : Int) [] (0 : Int) false false)).fr), (vI (List.getD z k (Cap.mk (0 : Int) (0 : Int) [] (0 : Int) false
  false)).to), AV.sl (List.map eStr (List.getD z k (Cap.mk (0 : Int) (0 : Int) [] (0 : Int) false false)).lines), (vI (List.getD z k (Cap.mk (0 : Int) (0 : Int) [] (0 : Int)
  false false)).row), (vB (List.getD z k (Cap.mk (0 : Int) (0 : Int) [] (0 : Int) false false)).bef), (vB (List.getD z k (Cap.mk (0 : Int) (0 : Int) [] (0 : Int) false
  false)).aft)]])])) fun (z : List Cap × List Cap × Nat × Cap × Int × Nat) => bif decide (List.length z.snd.fst ≤ (100000 : Nat) ∧ z.snd.snd.snd.snd.snd ≤ List.length
  z.snd.fst ∧ (-1 : Int) ≤ z.snd.snd.snd.snd.fst) && true then bif decide (F.slI z.snd.snd.snd.fst z.snd.snd.snd.snd.fst z.snd.snd.snd.snd.snd (List.drop
  z.snd.snd.snd.snd.snd z.snd.fst) < (0 : Int)) then some (Ex.ret, St.mk [(4, (vB false))] []) else Option.bind (unenc encDelO ([.own 900, (vI (F.slI z.snd.snd.snd.fst
  z.snd.snd.snd.snd.fst z.snd.snd.snd.snd.snd (List.drop z.snd.snd.snd.snd.snd z.snd.fst))), (vI (IntKind.wrap IntKind.i64 (F.slI z.snd.snd.snd.fst z.snd.snd.snd.snd.fst
  z.snd.snd.snd.snd.snd (List.drop z.snd.snd.snd.snd.snd z.snd.fst) + (1 : Int))))], [(900, Blk.mk false 67 6 (List.map eCap z.snd.fst))])) fun (z_1 : List Cap × Nat) => bif
  decide (z_1.snd < List.length z_1.fst ∧ List.length z_1.fst ≤ (100000 : Nat)) then some (Ex.normal, St.mk [(15, (vI (IntKind.wrap IntKind.i64 ((↑z.snd.snd.fst : Int) + (1
  : Int))))), (14, (vI (↑(List.length z.fst) : Int))), (13, AV.sl (List.map eCap z.fst)), (5, AV.own (List.getD [(13000 : Nat)] (0 : Nat) (0 : Nat)))] [(List.getD [(13000 :
  Nat)] (0 : Nat) (0 : Nat), Blk.mk false 67 6 (List.map eCap (List.eraseIdx z_1.fst z_1.snd)))]) else none else none else none else some (Ex.exit (0 : Nat), St.mk [(5, .own
  13000)] [(13000, Blk.mk false 67 6 (List.map eCap rest))]) := (execR_bind _ _ _).symm.trans (by kernel_rfl)

theorem lpSL1_ok (a : List Cap) (rest : List Cap) (k : Nat) (hp : prlSL1 a rest k = true) : ∀ ex s', (outSL1 a rest k).val = some (ex, s') → LoopOK enSL (loopN Tryd.f19 0) (stSL1 a rest k) ex s' := by
  simp only [prlSL1, Bool.and_eq_true, decide_eq_true_eq] at hp
  obtain ⟨h1, h2, h3⟩ := hp
  refine loop_gen (st := fun s : List Cap × Nat => stSL1 a s.1 s.2) (out := fun s => outSL1 a s.1 s.2) (I := fun s => s.1.length ≤ 100000 ∧ s.2 ≤ a.length) (n := ([15, 14, 13, 5], [13000])) (e := ([5], [13000])) (r := ([4], [])) (fun s => a.length - s.2) ?_ (rest, k) ⟨h2, h3⟩
  rintro ⟨rest, k⟩ ⟨h2, h3⟩
  simp only at h2 h3
  by_cases hlt : k < a.length
  · have hy : a[k]? = some a[k] := List.getElem?_eq_getElem hlt
    generalize a[k] = y at hy
    have hd := drop_at hy
    have q1 : rest.length ≤ 100000 ∧ 0 ≤ rest.length ∧ (-1 : Int) ≤ -1 := ⟨h2, Nat.zero_le _, Int.le_refl _⟩
    have e0 : F.slI y (-1) 0 rest = F.idxI (F.findI (fun x => Jn.key x y) 0 rest) := rfl
    cases hf : F.findI (fun x => Jn.key x y) 0 rest with
    | none =>
      left
      have hE : F.slE (a.drop k) rest = none := by rw [hd, F.slE, hf]
      refine ⟨(.ret, ⟨[(4, vB false)], []⟩), ?_, ?_, by simp, rfl⟩
      · rw [evSL1L]
        have hi : F.idxI none = -1 := rfl
        have hm : decide ((-1 : Int) < 0) = true := rfl
        simp only [unClK, unEqS, unDelO, preClK1, preEqS1, preDelO1, unstSL1, unstSL2, unstSL10, unstSL20, prlSL1, prlSL2, outSL1, outSL2, etaCap, etaMch, etaWrd, etaFnd, etaRatio, etaWay, Option.bind_some, List.length_map, unStrs, unInts, unBools, unCaps, uneL_eCaps, unMchs, unWrds, unFnds, unRatios, unWays, F.lt, F.le, cond_true, cond_false, Bool.and_true, Bool.true_and, cast_lt hlt, decide_eq_true hlt, getD_at hy, decide_eq_true q1, List.drop_zero, e0, hf, hi, hm]
      · simp only [outSL1, hE]
        rfl
    | some i =>
      right
      have hil : i < rest.length := by have := F.findI_lt hf; omega
      have hE : F.slE (a.drop k) rest = F.slE (a.drop (k + 1)) (rest.eraseIdx i) := by rw [hd, F.slE, hf]
      have hel : (rest.eraseIdx i).length = rest.length - 1 := by rw [List.length_eraseIdx, if_pos hil]
      refine ⟨(rest.eraseIdx i, k + 1), ?_, rfl, ⟨by simp only; omega, hlt⟩, by simp only; omega, ?_⟩
      · rw [evSL1L]
        have hi : F.idxI (some i) = ((i : Nat) : Int) := rfl
        have hm : decide (((i : Nat) : Int) < 0) = false := decide_eq_false (by omega)
        simp only [unClK, unEqS, unDelO, preClK1, preEqS1, preDelO1, unstSL1, unstSL2, unstSL10, unstSL20, prlSL1, prlSL2, outSL1, outSL2, etaCap, etaMch, etaWrd, etaFnd, etaRatio, etaWay, Option.bind_some, List.length_map, unStrs, unInts, unBools, unCaps, uneL_eCaps, unMchs, unWrds, unFnds, unRatios, unWays, F.lt, F.le, cond_true, cond_false, Bool.and_true, Bool.true_and, cast_lt hlt, decide_eq_true hlt, getD_at hy, decide_eq_true q1, List.drop_zero, e0, hf, hi, hm, w_add1 (show i < 9223372036854775807 by omega), decide_eq_true (show i < rest.length ∧ rest.length ≤ 100000 from ⟨hil, h2⟩), next_at hlt (by omega : a.length ≤ 9223372036854775807), stSL1]
        rfl
      · simp only [outSL1, hE]
  · left
    have : k = a.length := by omega
    subst this
    refine ⟨(.exit 0, ⟨[(5, .own 13000)], [(13000, ⟨false, 67, 6, rest.map eCap⟩)]⟩), ?_, ?_, by simp, rfl⟩
    · rw [evSL1L]; simp
    · simp only [outSL1, List.drop_length, F.slE]
      rfl

theorem evSL (a : List Cap) (b : List Cap) : (runF enSL false Tryd.f19 [.sl (a.map eCap), .sl (b.map eCap)]).val =
  Option.bind (unenc encClK [AV.sl (List.map eCap b)]) fun (z : List Cap) => bif decide (List.length z ≤ (500 : Nat)) then Option.bind (unenc stSL11 (St.mk [(15, (vI (0 :
  Int))), (14, (vI (↑(List.length (List.map eCap a)) : Int))), (13, AV.sl (List.map eCap a)), (5, .own 13000)] [(13000, Blk.mk false 67 6 (List.map eCap z))])) fun (z : List
  Cap × List Cap × Nat) => bif decide (List.length z.fst ≤ (100000 : Nat) ∧ List.length z.snd.fst ≤ (100000 : Nat) ∧ z.snd.snd ≤ List.length z.fst) && true then bif F.found
  (F.slE (List.drop z.snd.snd z.fst) z.snd.fst) then some ((vB ((↑(List.length (List.map eCap (F.got (F.slE (List.drop z.snd.snd z.fst) z.snd.fst) []))) : Int) == (0 :
  Int))), []) else some ((vB false), []) else none else none := (runFR_val).symm.trans (by kernel_rfl)

def encSL1 (a : List Cap) (b : List Cap) : List AV := [.sl (a.map eCap), .sl (b.map eCap)]

def encSL (a : (List Cap) × (List Cap)) : List AV := encSL1 a.1 a.2

theorem encSL_inj (a a' : (List Cap) × (List Cap)) (h : encSL a = encSL a') : a = a' := by
  simp only [encSL, encSL1] at h
  try simp [strs_inj, ints_inj, bools_inj, eCaps_inj, eCap_iff, eL_eCaps_inj, eMchs_inj, eMch_iff, eWrds_inj, eWrd_iff, eFnds_inj, eFnd_iff, eRatios_inj, eRatio_iff, eWays_inj, eWay_iff] at h
  grind

theorem unSL (a : List Cap) (b : List Cap) : unenc encSL ([AV.sl (List.map eCap a), AV.sl (List.map eCap b)]) = some (a, b) := unenc_of encSL_inj (a, b) rfl

def resSL1 (a : List Cap) (b : List Cap) : AV × Heap := (vB (F.slR a b), [])

def preSL1 (a : List Cap) (b : List Cap) : Bool := decide (a.length ≤ 500 ∧ b.length ≤ 500)

noncomputable def oSL : Orc := orc 19 true encSL (fun a => preSL1 a.1 a.2) fun a => resSL1 a.1 a.2

theorem okSL : OrcOK Tryd.prog noG oSL := by
  refine mk_ok Tryd.f19 (keep := false) (by kernel_rfl) (by kernel_rfl) enSL_ok mixed (two_loops (x0 := loopN Tryd.f19 0) (x1 := loopN Tryd.f19 1) (by kernel_rfl) (lpo_ok ?_) (lpo_ok ?_)) (by first | exact fun _ _ => ⟨rfl, rfl⟩ | (intro h; cases h)) ?_
  · rintro ⟨a, rest, k⟩ hp
    exact lpSL1_ok a rest k hp
  · rintro ⟨a, rest, k, c, at0, j⟩ hp
    exact lpSL2_ok a rest k c at0 j hp
  rintro ⟨a, b⟩ hpre hok
  show (runF enSL false _ (encSL1 _ _)).val = some (resSL1 _ _)
  unfold encSL1 resSL1
  rw [evSL]
  simp only [preSL1, decide_eq_true_eq] at hpre
  obtain ⟨p1, p2⟩ := hpre
  have q : a.length ≤ 100000 ∧ b.length ≤ 100000 ∧ 0 ≤ a.length := ⟨by omega, by omega, Nat.zero_le _⟩
  simp only [unClK, unEqS, unDelO, preClK1, preEqS1, preDelO1, unstSL1, unstSL2, unstSL10, unstSL20, prlSL1, prlSL2, outSL1, outSL2, etaCap, etaMch, etaWrd, etaFnd, etaRatio, etaWay, Option.bind_some, List.length_map, unStrs, unInts, unBools, unCaps, uneL_eCaps, unMchs, unWrds, unFnds, unRatios, unWays, F.lt, F.le, cond_true, cond_false, Bool.and_true, Bool.true_and, decide_eq_true p2, decide_eq_true q, List.drop_zero, F.slR, isE]
  cases F.found (F.slE a b) <;> rfl

def stSm (l : List Cap) (ns : List Int) (out : List Cap) (k : Nat) : St := ⟨[(10, vI k), (9, vI ns.length), (8, .sl (ns.map eI)), (5, .own 5), (0, .sl (l.map eCap))], [(5, ⟨false, 67, 6, out.map eCap⟩)]⟩

def stSm1 (a : (List Cap) × (List Int) × (List Cap) × Nat) : St := stSm a.1 a.2.1 a.2.2.1 a.2.2.2

theorem stSm_inj (a a' : (List Cap) × (List Int) × (List Cap) × Nat) (h : stSm1 a = stSm1 a') : a = a' := by
  simp only [stSm1, stSm] at h
  try simp [strs_inj, ints_inj, bools_inj, eCaps_inj, eCap_iff, eL_eCaps_inj, eMchs_inj, eMch_iff, eWrds_inj, eWrd_iff, eFnds_inj, eFnd_iff, eRatios_inj, eRatio_iff, eWays_inj, eWay_iff] at h
  grind

theorem unstSm (l : List Cap) (ns : List Int) (out : List Cap) (k : Nat) : unenc stSm1 (St.mk [(10, (vI (↑k : Int))), (9, (vI (↑(List.length ns) : Int))), (8, AV.sl (List.map eI ns)), (5, .own 5), (0, AV.sl (List.map eCap l))] [(5, Blk.mk false 67 6 (List.map
  eCap out))]) = some (l, ns, out, k) := unenc_of stSm_inj (l, ns, out, k) rfl

theorem unstSm0 (l : List Cap) (ns : List Int)  : unenc stSm1 (St.mk [(10, (vI (0 : Int))), (9, (vI (↑(List.length ns) : Int))), (8, AV.sl (List.map eI ns)), (5, .own 5), (0, AV.sl (List.map eCap l))] [(5, Blk.mk false 67 6 [])]) = some (l, ns, [], 0) := unenc_of stSm_inj (l, ns, [], 0) rfl

def outSm (l : List Cap) (ns : List Int) (out : List Cap) (k : Nat) : T (Ex × St) := .ret (.exit 0, ⟨[(5, .own 5)], [(5, ⟨false, 67, 6, (out ++ (ns.drop k).filterMap (F.atL l)).map eCap⟩)]⟩)

noncomputable def prlSm (l : List Cap) (ns : List Int) (out : List Cap) (k : Nat) : Bool := decide (l.length ≤ 100000 ∧ ns.length ≤ 100000 ∧ k ≤ ns.length ∧ out.length ≤ k)

noncomputable def lpSm : Nat × (St → T (Ex × St)) := (3, lpo [10, 9, 8, 5, 0] [5] stSm1 (fun a => prlSm a.1 a.2.1 a.2.2.1 a.2.2.2) fun a => outSm a.1 a.2.1 a.2.2.1 a.2.2.2)

noncomputable def enSm : Env := envH ty noG lks [] [] [] [lpSm]

theorem enSm_ok : EnvOK Tryd.prog enSm := by
  refine envH_ok lks_ok ty_ok ?_ ?_
  · simp
  · simp

theorem evSmL (l : List Cap) (ns : List Int) (out : List Cap) (k : Nat) : ((exec enSm (loopN Tryd.f20 0) (stSm l ns out k)).bind (lessX ([10, 9, 8, 5, 0], [5]) ([5], [5]) ([], []))).val =
  bif decide ((↑k : Int) < (↑(List.length ns) : Int)) then Option.bind (unenc (List.map eI) (List.map eI ns)) fun (z : List Int) => bif decide (k < List.length z) then bif
  bif decide ((0 : Int) ≤ List.getD z k (0 : Int)) then decide (List.getD z k (0 : Int) < (↑(List.length (List.map eCap l)) : Int)) else false then Option.bind (idx
  (List.getD z k (0 : Int))) fun (z : Nat) => Option.bind (unenc (List.map eCap) (List.map eCap l)) fun (z_1 : List Cap) => bif decide (z < List.length z_1) then bif Nat.ble
  ((List.length (List.map eCap out) + (1 : Nat)) * (56 : Nat)) (140737488355328 : Nat) && true then some (Ex.normal, St.mk [(10, (vI (IntKind.wrap IntKind.i64 ((↑k : Int) +
  (1 : Int))))), (9, (vI (↑(List.length ns) : Int))), (8, AV.sl (List.map eI ns)), (5, .own 5), (0, AV.sl (List.map eCap l))] [(5, Blk.mk false 67 6 (List.map eCap out ++
  [[(vI (List.getD z_1 z (Cap.mk (0 : Int) (0 : Int) [] (0 : Int) false false)).fr), (vI (List.getD z_1 z (Cap.mk (0 : Int) (0 : Int) [] (0 : Int) false false)).to), AV.sl
  (List.map eStr (List.getD z_1 z (Cap.mk (0 : Int) (0 : Int) [] (0 : Int) false false)).lines), (vI (List.getD z_1 z (Cap.mk (0 : Int) (0 : Int) [] (0 : Int) false
  false)).row), (vB (List.getD z_1 z (Cap.mk (0 : Int) (0 : Int) [] (0 : Int) false false)).bef), (vB (List.getD z_1 z (Cap.mk (0 : Int) (0 : Int) [] (0 : Int) false
  false)).aft)]]))]) else none else none else some (Ex.normal, St.mk [(10, (vI (IntKind.wrap IntKind.i64 ((↑k : Int) + (1 : Int))))), (9, (vI (↑(List.length ns) : Int))),
  (8, AV.sl (List.map eI ns)), (5, .own 5), (0, AV.sl (List.map eCap l))] [(5, Blk.mk false 67 6 (List.map eCap out))]) else none else some (Ex.exit (0 : Nat), St.mk [(5,
  .own 5)] [(5, Blk.mk false 67 6 (List.map eCap out))]) := (execR_bind _ _ _).symm.trans (by kernel_rfl)

theorem lpSm_ok (l : List Cap) (ns : List Int) (out : List Cap) (k : Nat) (hp : prlSm l ns out k = true) : ∀ ex s', (outSm l ns out k).val = some (ex, s') → LoopOK enSm (loopN Tryd.f20 0) (stSm l ns out k) ex s' := by
  simp only [prlSm, Bool.and_eq_true, decide_eq_true_eq] at hp
  obtain ⟨h1, h2, h3, h4⟩ := hp
  refine loop_gen (st := fun s : List Cap × Nat => stSm l ns s.1 s.2) (out := fun s => outSm l ns s.1 s.2) (I := fun s => s.2 ≤ ns.length ∧ s.1.length ≤ s.2) (n := ([10, 9, 8, 5, 0], [5])) (e := ([5], [5])) (r := ([], [])) (fun s => ns.length - s.2) ?_ (out, k) ⟨h3, h4⟩
  rintro ⟨out, k⟩ ⟨h3, h4⟩
  simp only at h3 h4
  by_cases hlt : k < ns.length
  · right
    have hy : ns[k]? = some ns[k] := List.getElem?_eq_getElem hlt
    generalize ns[k] = n at hy
    have hd := drop_at hy
    have hbl : Nat.ble ((out.length + 1) * 56) 140737488355328 = true := ble_t (by omega)
    by_cases h0 : 0 ≤ n
    · obtain ⟨m, rfl⟩ := Int.eq_ofNat_of_zero_le h0
      by_cases hm : m < l.length
      · obtain ⟨c, hc⟩ := at_lt hm
        have e : F.atL l ((m : Nat) : Int) = some c := by
          unfold F.atL
          rw [decide_eq_true h0, decide_eq_true (show ((m : Nat) : Int) < (l.length : Int) by omega)]
          exact hc
        refine ⟨(out ++ [c], k + 1), ?_, rfl, ⟨hlt, by simp only [List.length_append, List.length_singleton]; omega⟩, by simp only; omega, ?_⟩
        · rw [evSmL]
          simp only [unstSm, unstSm0, prlSm, outSm, etaCap, etaMch, etaWrd, etaFnd, etaRatio, etaWay, Option.bind_some, List.length_map, unStrs, unInts, unBools, unCaps, uneL_eCaps, unMchs, unWrds, unFnds, unRatios, unWays, F.lt, F.le, cond_true, cond_false, Bool.and_true, Bool.true_and, cast_lt hlt, decide_eq_true hlt, getD_at hy, decide_eq_true h0, dlt, decide_eq_true hm, idx_nat, getD_at hc, hbl, next_at hlt (by omega : ns.length ≤ 9223372036854775807), appWCaps, stSm]
        · simp only [outSm, hd, List.filterMap_cons, e, List.append_assoc, List.singleton_append]
      · have e : F.atL l ((m : Nat) : Int) = none := by
          unfold F.atL
          rw [decide_eq_false (show ¬ ((m : Nat) : Int) < (l.length : Int) by omega), Bool.and_false]
          rfl
        refine ⟨(out, k + 1), ?_, rfl, ⟨hlt, by simp only; omega⟩, by simp only; omega, ?_⟩
        · rw [evSmL]
          simp only [unstSm, unstSm0, prlSm, outSm, etaCap, etaMch, etaWrd, etaFnd, etaRatio, etaWay, Option.bind_some, List.length_map, unStrs, unInts, unBools, unCaps, uneL_eCaps, unMchs, unWrds, unFnds, unRatios, unWays, F.lt, F.le, cond_true, cond_false, Bool.and_true, Bool.true_and, cast_lt hlt, decide_eq_true hlt, getD_at hy, decide_eq_true h0, dlt, decide_eq_false hm, next_at hlt (by omega : ns.length ≤ 9223372036854775807), stSm]
        · simp only [outSm, hd, List.filterMap_cons, e]
    · have e : F.atL l n = none := by
        unfold F.atL
        rw [decide_eq_false h0, Bool.false_and]
        rfl
      refine ⟨(out, k + 1), ?_, rfl, ⟨hlt, by simp only; omega⟩, by simp only; omega, ?_⟩
      · rw [evSmL]
        simp only [unstSm, unstSm0, prlSm, outSm, etaCap, etaMch, etaWrd, etaFnd, etaRatio, etaWay, Option.bind_some, List.length_map, unStrs, unInts, unBools, unCaps, uneL_eCaps, unMchs, unWrds, unFnds, unRatios, unWays, F.lt, F.le, cond_true, cond_false, Bool.and_true, Bool.true_and, cast_lt hlt, decide_eq_true hlt, getD_at hy, decide_eq_false h0, next_at hlt (by omega : ns.length ≤ 9223372036854775807), stSm]
      · simp only [outSm, hd, List.filterMap_cons, e]
  · left
    have : k = ns.length := by omega
    subst this
    refine ⟨_, ?_, rfl, by simp, rfl⟩
    rw [evSmL]
    simp

theorem evSm (l : List Cap) (ns : List Int) : (runF enSm false Tryd.f20 [.sl (l.map eCap), .sl (ns.map eI)]).val =
  Option.bind (unenc stSm1 (St.mk [(10, (vI (0 : Int))), (9, (vI (↑(List.length (List.map eI ns)) : Int))), (8, AV.sl (List.map eI ns)), (5, .own 5), (0, AV.sl (List.map
  eCap l))] [(5, Blk.mk false 67 6 [])])) fun (z : List Cap × List Int × List Cap × Nat) => bif decide (List.length z.fst ≤ (100000 : Nat) ∧ List.length z.snd.fst ≤ (100000
  : Nat) ∧ z.snd.snd.snd ≤ List.length z.snd.fst ∧ List.length z.snd.snd.fst ≤ z.snd.snd.snd) && true then some (AV.sl (List.map eCap (z.snd.snd.fst ++ List.filterMap (F.atL
  z.fst) (List.drop z.snd.snd.snd z.snd.fst))), []) else none := (runFR_val).symm.trans (by kernel_rfl)

def encSm1 (l : List Cap) (ns : List Int) : List AV := [.sl (l.map eCap), .sl (ns.map eI)]

def encSm (a : (List Cap) × (List Int)) : List AV := encSm1 a.1 a.2

theorem encSm_inj (a a' : (List Cap) × (List Int)) (h : encSm a = encSm a') : a = a' := by
  simp only [encSm, encSm1] at h
  try simp [strs_inj, ints_inj, bools_inj, eCaps_inj, eCap_iff, eL_eCaps_inj, eMchs_inj, eMch_iff, eWrds_inj, eWrd_iff, eFnds_inj, eFnd_iff, eRatios_inj, eRatio_iff, eWays_inj, eWay_iff] at h
  grind

theorem unSm (l : List Cap) (ns : List Int) : unenc encSm ([AV.sl (List.map eCap l), AV.sl (List.map eI ns)]) = some (l, ns) := unenc_of encSm_inj (l, ns) rfl

def resSm1 (l : List Cap) (ns : List Int) : AV × Heap := (.sl ((F.some l ns).map eCap), [])

def preSm1 (l : List Cap) (ns : List Int) : Bool := decide (l.length ≤ 100000 ∧ ns.length ≤ 100000)

noncomputable def oSm : Orc := orc 20 false encSm (fun a => preSm1 a.1 a.2) fun a => resSm1 a.1 a.2

theorem okSm : OrcOK Tryd.prog noG oSm := by
  refine mk_ok Tryd.f20 (keep := false) (by kernel_rfl) (by kernel_rfl) enSm_ok mixed (one_loop (x0 := loopN Tryd.f20 0) (by kernel_rfl) (lpo_ok ?_)) (by first | exact fun _ _ => ⟨rfl, rfl⟩ | (intro h; cases h)) ?_
  · rintro ⟨l, ns, out, k⟩ hp
    exact lpSm_ok l ns out k hp
  rintro ⟨l, ns⟩ hpre hok
  show (runF enSm false _ (encSm1 _ _)).val = some (resSm1 _ _)
  unfold encSm1 resSm1
  rw [evSm]
  simp only [preSm1, decide_eq_true_eq] at hpre
  obtain ⟨p1, p2⟩ := hpre
  have q : l.length ≤ 100000 ∧ ns.length ≤ 100000 ∧ 0 ≤ ns.length ∧ ([] : List Cap).length ≤ 0 := ⟨p1, p2, Nat.zero_le _, Nat.le_refl _⟩
  simp only [unstSm, unstSm0, prlSm, outSm, etaCap, etaMch, etaWrd, etaFnd, etaRatio, etaWay, Option.bind_some, List.length_map, unStrs, unInts, unBools, unCaps, uneL_eCaps, unMchs, unWrds, unFnds, unRatios, unWays, F.lt, F.le, cond_true, cond_false, Bool.and_true, Bool.true_and, decide_eq_true q, List.drop_zero, List.nil_append, F.some]

theorem evBlw (x : Int) (n : Int) : (runF en0 false Tryd.f17 [vI x, vI n]).val =
  bif n == (0 : Int) then none else bif decide (Int.tmod x n < (0 : Int)) then some ((vI (IntKind.wrap IntKind.i64 (Int.tmod x n + n))), []) else some ((vI (Int.tmod x n)),
  []) := (runFR_val).symm.trans (by kernel_rfl)

def encBlw1 (x : Int) (n : Int) : List AV := [vI x, vI n]

def encBlw (a : Int × Int) : List AV := encBlw1 a.1 a.2

theorem encBlw_inj (a a' : Int × Int) (h : encBlw a = encBlw a') : a = a' := by
  simp only [encBlw, encBlw1] at h
  try simp [strs_inj, ints_inj, bools_inj, eCaps_inj, eCap_iff, eL_eCaps_inj, eMchs_inj, eMch_iff, eWrds_inj, eWrd_iff, eFnds_inj, eFnd_iff, eRatios_inj, eRatio_iff, eWays_inj, eWay_iff] at h
  grind

theorem unBlw (x : Int) (n : Int) : unenc encBlw ([(vI x), (vI n)]) = some (x, n) := unenc_of encBlw_inj (x, n) rfl

def resBlw1 (x : Int) (n : Int) : AV × Heap := (vI (F.below x n), [])

def preBlw1 (x : Int) (n : Int) : Bool := decide (0 < n ∧ n ≤ 1000000000)

noncomputable def oBlw : Orc := orc 17 true encBlw (fun a => preBlw1 a.1 a.2) fun a => resBlw1 a.1 a.2

theorem okBlw : OrcOK Tryd.prog noG oBlw := by
  refine mk_ok Tryd.f17 (keep := false) (by kernel_rfl) (by kernel_rfl) en0_ok mixed (no_loops (by kernel_rfl)) (by first | exact fun _ _ => ⟨rfl, rfl⟩ | (intro h; cases h)) ?_
  rintro ⟨x, n⟩ hpre hok
  show (runF en0 false _ (encBlw1 _ _)).val = some (resBlw1 _ _)
  unfold encBlw1 resBlw1
  rw [evBlw]
  simp only [preBlw1, decide_eq_true_eq] at hpre
  obtain ⟨p1, p2⟩ := hpre
  have hz : (n == 0) = false := by simp; omega
  have hx := okA_v (hok _ (List.mem_cons_self ..))
  have h1 : (x.tmod n).natAbs < n.natAbs := by rw [Int.natAbs_tmod]; exact Nat.mod_lt _ (by omega)
  have hw : IntKind.i64.wrap (x.tmod n + n) = x.tmod n + n := wrap_id (by omega) (by omega)
  simp only [etaCap, etaMch, etaWrd, etaFnd, etaRatio, etaWay, Option.bind_some, List.length_map, unStrs, unInts, unBools, unCaps, uneL_eCaps, unMchs, unWrds, unFnds, unRatios, unWays, F.lt, F.le, cond_true, cond_false, Bool.and_true, Bool.true_and, hz, hw, F.below]
  cases decide (x.tmod n < 0) <;> rfl

end M
end Go.Proofs.YtlnflhmepnbcmaaDoor
