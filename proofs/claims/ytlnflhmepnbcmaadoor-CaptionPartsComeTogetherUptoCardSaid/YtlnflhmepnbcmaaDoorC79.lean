/- What is proved here: AreApart; what it means for Split and Join (no statement of the seat). -/
import Derived.Test.YtlnflhmepnbcmaaDoorC78
namespace Go.Proofs.YtlnflhmepnbcmaaDoor
open Go Go.RowKit
set_option linter.unusedVariables false
set_option linter.unusedSimpArgs false
set_option maxHeartbeats 1000000

/-- x does not touch c with the same lines and row. -/
def F.ntC (c x : Cap) : Bool := !((x.row == c.row) && F.sameSL x.lines c.lines && F.le x.fr c.to && F.le c.fr x.to)

def F.apO (a b : Int) (c : Cap) : Bool := !(F.lt c.fr a || F.lt b c.to || c.bef || c.aft)

def F.apR (a b : Int) : List Cap → List Cap → Bool
  | _, [] => true
  | p, c :: r => F.apO a b c && (p.all (F.ntC c) && F.apR a b (p ++ [c]) r)

namespace M

def stAa1 (l : List Cap) (bs : List Int) (k : Nat) : St := ⟨[(11, vI k), (10, vI l.length), (9, .sl (l.map eCap)), (1, .sl (bs.map eI)), (0, .sl (l.map eCap))], []⟩

def stAa11 (a : (List Cap) × (List Int) × Nat) : St := stAa1 a.1 a.2.1 a.2.2

theorem stAa1_inj (a a' : (List Cap) × (List Int) × Nat) (h : stAa11 a = stAa11 a') : a = a' := by
  simp only [stAa11, stAa1] at h
  try simp [strs_inj, ints_inj, bools_inj, eCaps_inj, eCap_iff, eL_eCaps_inj, eMchs_inj, eMch_iff, eWrds_inj, eWrd_iff, eFnds_inj, eFnd_iff, eRatios_inj, eRatio_iff, eWays_inj, eWay_iff] at h
  grind

theorem unstAa1 (l : List Cap) (bs : List Int) (k : Nat) : unenc stAa11 (St.mk [(11, (vI (↑k : Int))), (10, (vI (↑(List.length l) : Int))), (9, AV.sl (List.map eCap l)), (1, AV.sl (List.map eI bs)), (0, AV.sl (List.map eCap l))] []) = some (l, bs, k) := unenc_of stAa1_inj (l, bs, k) rfl

theorem unstAa10 (l : List Cap) (bs : List Int)  : unenc stAa11 (St.mk [(11, (vI (0 : Int))), (10, (vI (↑(List.length l) : Int))), (9, AV.sl (List.map eCap l)), (1, AV.sl (List.map eI bs)), (0, AV.sl (List.map eCap l))] []) = some (l, bs, 0) := unenc_of stAa1_inj (l, bs, 0) rfl

def outAa1 (l : List Cap) (bs : List Int) (k : Nat) : T (Ex × St) := .ifB (F.apR (bs.getD 0 0) (bs.getD (bs.length - 1) 0) (l.take k) (l.drop k)) (.ret (.exit 0, ⟨[], []⟩)) (.ret (.ret, ⟨[(4, vB false)], []⟩))

noncomputable def prlAa1 (l : List Cap) (bs : List Int) (k : Nat) : Bool := decide (l.length ≤ 100000 ∧ 1 ≤ bs.length ∧ bs.length ≤ 100000 ∧ k ≤ l.length)

noncomputable def lpAa1 : Nat × (St → T (Ex × St)) := (2, lpo [11, 10, 9, 1, 0] [] stAa11 (fun a => prlAa1 a.1 a.2.1 a.2.2) fun a => outAa1 a.1 a.2.1 a.2.2)

def stAa2 (l : List Cap) (bs : List Int) (k : Nat) (c : Cap) (j : Nat) : St := ⟨[(45, vI j), (44, vI (l.take k).length), (43, .sl ((l.take k).map eCap)), (11, vI k), (10, vI l.length), (9, .sl (l.map eCap)), (6, .ptr 6 0 0), (1, .sl (bs.map eI)), (0, .sl (l.map eCap))], [(6, ⟨true, 0, 0, [eCap c]⟩)]⟩

def stAa21 (a : (List Cap) × (List Int) × Nat × Cap × Nat) : St := stAa2 a.1 a.2.1 a.2.2.1 a.2.2.2.1 a.2.2.2.2

theorem stAa2_inj (a a' : (List Cap) × (List Int) × Nat × Cap × Nat) (h : stAa21 a = stAa21 a') : a = a' := by
  simp only [stAa21, stAa2] at h
  try simp [strs_inj, ints_inj, bools_inj, eCaps_inj, eCap_iff, eL_eCaps_inj, eMchs_inj, eMch_iff, eWrds_inj, eWrd_iff, eFnds_inj, eFnd_iff, eRatios_inj, eRatio_iff, eWays_inj, eWay_iff] at h
  grind

theorem unstAa2 (l : List Cap) (bs : List Int) (k : Nat) (c : Cap) (j : Nat) : unenc stAa21 (St.mk [(45, (vI (↑j : Int))), (44, (vI (↑(List.length (List.take k l)) : Int))), (43, AV.sl (List.map eCap (List.take k l))), (11, (vI (↑k : Int))), (10, (vI
  (↑(List.length l) : Int))), (9, AV.sl (List.map eCap l)), (6, .ptr 6 0 0), (1, AV.sl (List.map eI bs)), (0, AV.sl (List.map eCap l))] [(6, Blk.mk true 0 0 [[(vI c.fr), (vI
  c.to), AV.sl (List.map eStr c.lines), (vI c.row), (vB c.bef), (vB c.aft)]])]) = some (l, bs, k, c, j) := unenc_of stAa2_inj (l, bs, k, c, j) rfl

theorem unstAa20 (l : List Cap) (bs : List Int) (k : Nat) (c : Cap)  : unenc stAa21 (St.mk [(45, (vI (0 : Int))), (44, (vI (↑(List.length (List.take k l)) : Int))), (43, AV.sl (List.map eCap (List.take k l))), (11, (vI (↑k : Int))), (10, (vI (↑(List.length
  l) : Int))), (9, AV.sl (List.map eCap l)), (6, .ptr 6 0 0), (1, AV.sl (List.map eI bs)), (0, AV.sl (List.map eCap l))] [(6, Blk.mk true 0 0 [[(vI c.fr), (vI c.to), AV.sl
  (List.map eStr c.lines), (vI c.row), (vB c.bef), (vB c.aft)]])]) = some (l, bs, k, c, 0) := unenc_of stAa2_inj (l, bs, k, c, 0) rfl

def outAa2 (l : List Cap) (bs : List Int) (k : Nat) (c : Cap) (j : Nat) : T (Ex × St) := .ifB (((l.take k).drop j).all (F.ntC c)) (.ret (.exit 2, ⟨[(11, vI k), (10, vI l.length), (9, .sl (l.map eCap)), (1, .sl (bs.map eI)), (0, .sl (l.map eCap))], []⟩)) (.ret (.ret, ⟨[(4, vB false)], []⟩))

noncomputable def prlAa2 (l : List Cap) (bs : List Int) (k : Nat) (c : Cap) (j : Nat) : Bool := decide (l.length ≤ 100000 ∧ j ≤ (l.take k).length)

noncomputable def lpAa2 : Nat × (St → T (Ex × St)) := (7, lpo [45, 44, 43, 11, 10, 9, 6, 1, 0] [6] stAa21 (fun a => prlAa2 a.1 a.2.1 a.2.2.1 a.2.2.2.1 a.2.2.2.2) fun a => outAa2 a.1 a.2.1 a.2.2.1 a.2.2.2.1 a.2.2.2.2)

noncomputable def enAa : Env := envH ty noG lks [oEqS] [] [] [lpAa1, lpAa2]

theorem enAa_ok : EnvOK Tryd.prog enAa := by
  refine envH_ok lks_ok ty_ok ?_ ?_
  · simp only [List.forall_mem_cons]
    exact ⟨okEqS, by simp⟩
  · simp

theorem evAa2L (l : List Cap) (bs : List Int) (k : Nat) (c : Cap) (j : Nat) : ((exec enAa (loopN Tryd.f21 1) (stAa2 l bs k c j)).bind (lessX ([45, 44, 43, 11, 10, 9, 6, 1, 0], [6]) ([11, 10, 9, 1, 0], []) ([4], []))).val =
  bif decide ((↑j : Int) < (↑(List.length (List.take k l)) : Int)) then Option.bind (unenc (List.map eCap) (List.map eCap (List.take k l))) fun (z : List Cap) => bif decide
  (j < List.length z) then bif (List.getD z j (Cap.mk (0 : Int) (0 : Int) [] (0 : Int) false false)).row == c.row then Option.bind (unenc encEqS [AV.sl (List.map eStr
  (List.getD z j (Cap.mk (0 : Int) (0 : Int) [] (0 : Int) false false)).lines), AV.sl (List.map eStr c.lines)]) fun (z_1 : List ByteArray × List ByteArray) => bif bif bif
  F.sameSL z_1.fst z_1.snd then decide ((List.getD z j (Cap.mk (0 : Int) (0 : Int) [] (0 : Int) false false)).fr ≤ c.to) else false then decide (c.fr ≤ (List.getD z j
  (Cap.mk (0 : Int) (0 : Int) [] (0 : Int) false false)).to) else false then some (Ex.ret, St.mk [(4, (vB false))] []) else some (Ex.normal, St.mk [(45, (vI (IntKind.wrap
  IntKind.i64 ((↑j : Int) + (1 : Int))))), (44, (vI (↑(List.length (List.take k l)) : Int))), (43, AV.sl (List.map eCap (List.take k l))), (11, (vI (↑k : Int))), (10, (vI
  (↑(List.length l) : Int))), (9, AV.sl (List.map eCap l)), (6, .ptr 6 0 0), (1, AV.sl (List.map eI bs)), (0, AV.sl (List.map eCap l))] [(6, Blk.mk true 0 0 [[(vI c.fr), (vI
  c.to), AV.sl (List.map eStr c.lines), (vI c.row), (vB c.bef), (vB c.aft)]])]) else some (Ex.normal, St.mk [(45, (vI (IntKind.wrap IntKind.i64 ((↑j : Int) + (1 : Int))))),
  (44, (vI (↑(List.length (List.take k l)) : Int))), (43, AV.sl (List.map eCap (List.take k l))), (11, (vI (↑k : Int))), (10, (vI (↑(List.length l) : Int))), (9, AV.sl
  (List.map eCap l)), (6, .ptr 6 0 0), (1, AV.sl (List.map eI bs)), (0, AV.sl (List.map eCap l))] [(6, Blk.mk true 0 0 [[(vI c.fr), (vI c.to), AV.sl (List.map eStr c.lines),
  (vI c.row), (vB c.bef), (vB c.aft)]])]) else none else some (Ex.exit (2 : Nat), St.mk [(11, (vI (↑k : Int))), (10, (vI (↑(List.length l) : Int))), (9, AV.sl (List.map eCap
  l)), (1, AV.sl (List.map eI bs)), (0, AV.sl (List.map eCap l))] []) := (execR_bind _ _ _).symm.trans (by kernel_rfl)

theorem lpAa2_ok (l : List Cap) (bs : List Int) (k : Nat) (c : Cap) (j : Nat) (hp : prlAa2 l bs k c j = true) : ∀ ex s', (outAa2 l bs k c j).val = some (ex, s') → LoopOK enAa (loopN Tryd.f21 1) (stAa2 l bs k c j) ex s' := by
  simp only [prlAa2, Bool.and_eq_true, decide_eq_true_eq] at hp
  obtain ⟨h1, h2⟩ := hp
  have htl : (l.take k).length ≤ l.length := by rw [List.length_take]; omega
  refine loop_all (xs := l.take k) (st := stAa2 l bs k c) (p := F.ntC c) (n := ([45, 44, 43, 11, 10, 9, 6, 1, 0], [6])) (e := ([11, 10, 9, 1, 0], [])) (r := ([4], [])) ?_ ⟨by simp, rfl⟩ ⟨by simp, rfl⟩ (fun _ => rfl) ?_ j h2
  · rw [evAa2L]; simp
  · intro j y hy
    have hlt := lt_at hy
    rw [evAa2L]
    simp only [unEqS, preEqS1, unstAa1, unstAa2, unstAa10, unstAa20, prlAa1, prlAa2, outAa1, outAa2, etaCap, etaMch, etaWrd, etaFnd, etaRatio, etaWay, Option.bind_some, List.length_map, unStrs, unInts, unBools, unCaps, uneL_eCaps, unMchs, unWrds, unFnds, unRatios, unWays, F.lt, F.le, cond_true, cond_false, Bool.and_true, Bool.true_and, cast_lt hlt, decide_eq_true hlt, next_at hlt (by omega : (l.take k).length ≤ 9223372036854775807), getD_at hy, stAa2, F.ntC]
    cases (y.row == c.row) <;> cases F.sameSL y.lines c.lines <;> cases decide (y.fr ≤ c.to) <;> cases decide (c.fr ≤ y.to) <;> rfl

theorem evAa1L (l : List Cap) (bs : List Int) (k : Nat) : ((exec enAa (loopN Tryd.f21 0) (stAa1 l bs k)).bind (lessX ([11, 10, 9, 1, 0], []) ([], []) ([4], []))).val =
  bif decide ((↑k : Int) < (↑(List.length l) : Int)) then Option.bind (unenc (List.map eCap) (List.map eCap l)) fun (z : List Cap) => bif decide (k < List.length z) then
  Option.bind (unenc (List.map eI) (List.map eI bs)) fun (z_1 : List Int) => bif decide ((0 : Nat) < List.length z_1) then bif !decide ((List.getD z k (Cap.mk (0 : Int) (0 :
  Int) [] (0 : Int) false false)).fr < List.getD z_1 (0 : Nat) (0 : Int)) then Option.bind (idx (IntKind.wrap IntKind.i64 ((↑(List.length (List.map eI bs)) : Int) - (1 :
  Int)))) fun (z_2 : Nat) => Option.bind (unenc (List.map eI) (List.map eI bs)) fun (z_3 : List Int) => bif decide (z_2 < List.length z_3) then bif bif bif decide (List.getD
  z_3 z_2 (0 : Int) < (List.getD z k (Cap.mk (0 : Int) (0 : Int) [] (0 : Int) false false)).to) then true else (List.getD z k (Cap.mk (0 : Int) (0 : Int) [] (0 : Int) false
  false)).bef then true else (List.getD z k (Cap.mk (0 : Int) (0 : Int) [] (0 : Int) false false)).aft then some (Ex.ret, St.mk [(4, (vB false))] []) else bif Nat.ble (0 :
  Nat) k && Nat.ble k (List.length (List.map eCap l)) && List.all (List.map eCap l) fun (r : Row) => Nat.beq (List.length r) (6 : Nat) then Option.bind (unenc stAa21 (St.mk
  [(45, (vI (0 : Int))), (44, (vI (↑(List.length (List.take k (List.map eCap l))) : Int))), (43, AV.sl (List.take k (List.map eCap l))), (11, (vI (↑k : Int))), (10, (vI
  (↑(List.length l) : Int))), (9, AV.sl (List.map eCap l)), (6, .ptr 6 0 0), (1, AV.sl (List.map eI bs)), (0, AV.sl (List.map eCap l))] [(6, Blk.mk true 0 0 [[(vI (List.getD
  z k (Cap.mk (0 : Int) (0 : Int) [] (0 : Int) false false)).fr), (vI (List.getD z k (Cap.mk (0 : Int) (0 : Int) [] (0 : Int) false false)).to), AV.sl (List.map eStr
  (List.getD z k (Cap.mk (0 : Int) (0 : Int) [] (0 : Int) false false)).lines), (vI (List.getD z k (Cap.mk (0 : Int) (0 : Int) [] (0 : Int) false false)).row), (vB
  (List.getD z k (Cap.mk (0 : Int) (0 : Int) [] (0 : Int) false false)).bef), (vB (List.getD z k (Cap.mk (0 : Int) (0 : Int) [] (0 : Int) false false)).aft)]])])) fun (z :
  List Cap × List Int × Nat × Cap × Nat) => bif decide (List.length z.fst ≤ (100000 : Nat) ∧ z.snd.snd.snd.snd ≤ List.length (List.take z.snd.snd.fst z.fst)) && true then
  bif List.all (List.drop z.snd.snd.snd.snd (List.take z.snd.snd.fst z.fst)) (F.ntC z.snd.snd.snd.fst) then some (Ex.normal, St.mk [(11, (vI (IntKind.wrap IntKind.i64
  ((↑z.snd.snd.fst : Int) + (1 : Int))))), (10, (vI (↑(List.length z.fst) : Int))), (9, AV.sl (List.map eCap z.fst)), (1, AV.sl (List.map eI z.snd.fst)), (0, AV.sl (List.map
  eCap z.fst))] []) else some (Ex.ret, St.mk [(4, (vB false))] []) else none else none else none else some (Ex.ret, St.mk [(4, (vB false))] []) else none else none else some
  (Ex.exit (0 : Nat), St.mk [] []) := (execR_bind _ _ _).symm.trans (by kernel_rfl)

theorem lpAa1_ok (l : List Cap) (bs : List Int) (k : Nat) (hp : prlAa1 l bs k = true) : ∀ ex s', (outAa1 l bs k).val = some (ex, s') → LoopOK enAa (loopN Tryd.f21 0) (stAa1 l bs k) ex s' := by
  simp only [prlAa1, Bool.and_eq_true, decide_eq_true_eq] at hp
  obtain ⟨h1, h2, h3, h4⟩ := hp
  refine loop_gen (st := stAa1 l bs) (out := outAa1 l bs) (I := fun k => k ≤ l.length) (n := ([11, 10, 9, 1, 0], [])) (e := ([], [])) (r := ([4], [])) (fun k => l.length - k) ?_ k h4
  intro k hk
  obtain ⟨a, ha⟩ := at_lt (show 0 < bs.length by omega)
  obtain ⟨b, hb⟩ := at_lt (show bs.length - 1 < bs.length by omega)
  by_cases hlt : k < l.length
  · have hy : l[k]? = some l[k] := List.getElem?_eq_getElem hlt
    generalize l[k] = y at hy
    have hd := drop_at hy
    have ht : l.take (k + 1) = l.take k ++ [y] := by rw [List.take_add_one, hy]; rfl
    have hw : IntKind.i64.wrap ((bs.length : Int) - 1) = ((bs.length - 1 : Nat) : Int) := w_sub1 h2 (by omega)
    have hall : ∀ xs : List Cap, ((xs.map eCap).all fun r => Nat.beq (List.length r) 6) = true := all_Caps
    have hbl : Nat.ble k l.length = true := ble_t hk
    have hb0 : Nat.ble 0 k = true := ble_t (Nat.zero_le _)
    have q2 : l.length ≤ 100000 ∧ 0 ≤ (l.take k).length := ⟨h1, Nat.zero_le _⟩
    cases hO : F.apO a b y
    · left
      refine ⟨(.ret, ⟨[(4, vB false)], []⟩), ?_, ?_, by simp, rfl⟩
      · rw [evAa1L]
        simp only [unEqS, preEqS1, unstAa1, unstAa2, unstAa10, unstAa20, prlAa1, prlAa2, outAa1, outAa2, etaCap, etaMch, etaWrd, etaFnd, etaRatio, etaWay, Option.bind_some, List.length_map, unStrs, unInts, unBools, unCaps, uneL_eCaps, unMchs, unWrds, unFnds, unRatios, unWays, F.lt, F.le, cond_true, cond_false, Bool.and_true, Bool.true_and, cast_lt hlt, decide_eq_true hlt, getD_at hy, hw, idx_nat, decide_eq_true (lt_at ha), decide_eq_true (lt_at hb), getD_at ha, getD_at hb]
        unfold F.apO F.lt at hO
        revert hO
        cases decide (y.fr < a) <;> cases decide (b < y.to) <;> cases y.bef <;> cases y.aft <;> intro hO <;> first | rfl | cases hO
      · simp only [outAa1, hd, F.apR, getD_at ha, getD_at hb, hO, Bool.false_and]
        rfl
    · cases hN : (l.take k).all (F.ntC y)
      · left
        refine ⟨(.ret, ⟨[(4, vB false)], []⟩), ?_, ?_, by simp, rfl⟩
        · rw [evAa1L]
          simp only [unEqS, preEqS1, unstAa1, unstAa2, unstAa10, unstAa20, prlAa1, prlAa2, outAa1, outAa2, etaCap, etaMch, etaWrd, etaFnd, etaRatio, etaWay, Option.bind_some, List.length_map, unStrs, unInts, unBools, unCaps, uneL_eCaps, unMchs, unWrds, unFnds, unRatios, unWays, F.lt, F.le, cond_true, cond_false, Bool.and_true, Bool.true_and, cast_lt hlt, decide_eq_true hlt, getD_at hy, hw, idx_nat, decide_eq_true (lt_at ha), decide_eq_true (lt_at hb), getD_at ha, getD_at hb, hall, hbl, hb0, ← List.map_take, decide_eq_true q2, List.drop_zero, hN]
          unfold F.apO F.lt at hO
          revert hO
          cases decide (y.fr < a) <;> cases decide (b < y.to) <;> cases y.bef <;> cases y.aft <;> intro hO <;> first | rfl | cases hO
        · simp only [outAa1, hd, F.apR, getD_at ha, getD_at hb, hO, hN, Bool.true_and, Bool.false_and]
          rfl
      · right
        refine ⟨k + 1, ?_, rfl, hlt, by omega, ?_⟩
        · rw [evAa1L]
          simp only [unEqS, preEqS1, unstAa1, unstAa2, unstAa10, unstAa20, prlAa1, prlAa2, outAa1, outAa2, etaCap, etaMch, etaWrd, etaFnd, etaRatio, etaWay, Option.bind_some, List.length_map, unStrs, unInts, unBools, unCaps, uneL_eCaps, unMchs, unWrds, unFnds, unRatios, unWays, F.lt, F.le, cond_true, cond_false, Bool.and_true, Bool.true_and, cast_lt hlt, decide_eq_true hlt, getD_at hy, hw, idx_nat, decide_eq_true (lt_at ha), decide_eq_true (lt_at hb), getD_at ha, getD_at hb, hall, hbl, hb0, ← List.map_take, decide_eq_true q2, List.drop_zero, hN, next_at hlt (by omega : l.length ≤ 9223372036854775807), stAa1]
          unfold F.apO F.lt at hO
          revert hO
          cases decide (y.fr < a) <;> cases decide (b < y.to) <;> cases y.bef <;> cases y.aft <;> intro hO <;> first | rfl | cases hO
        · simp only [outAa1, hd, F.apR, getD_at ha, getD_at hb, hO, hN, Bool.true_and, ht]
  · have : k = l.length := by omega
    subst this
    left
    refine ⟨(.exit 0, ⟨[], []⟩), ?_, ?_, by simp, rfl⟩
    · rw [evAa1L]; simp
    · simp [outAa1, F.apR, T.val]

theorem evAa (l : List Cap) (bs : List Int) : (runF enAa false Tryd.f21 [.sl (l.map eCap), .sl (bs.map eI)]).val =
  Option.bind (unenc stAa11 (St.mk [(11, (vI (0 : Int))), (10, (vI (↑(List.length (List.map eCap l)) : Int))), (9, AV.sl (List.map eCap l)), (1, AV.sl (List.map eI bs)), (0,
  AV.sl (List.map eCap l))] [])) fun (z : List Cap × List Int × Nat) => bif decide (List.length z.fst ≤ (100000 : Nat) ∧ (1 : Nat) ≤ List.length z.snd.fst ∧ List.length
  z.snd.fst ≤ (100000 : Nat) ∧ z.snd.snd ≤ List.length z.fst) && true then bif F.apR (List.getD z.snd.fst (0 : Nat) (0 : Int)) (List.getD z.snd.fst (List.length z.snd.fst -
  (1 : Nat)) (0 : Int)) (List.take z.snd.snd z.fst) (List.drop z.snd.snd z.fst) then some ((vB true), []) else some ((vB false), []) else none := (runFR_val).symm.trans (by kernel_rfl)

def encAa1 (l : List Cap) (bs : List Int) : List AV := [.sl (l.map eCap), .sl (bs.map eI)]

def encAa (a : (List Cap) × (List Int)) : List AV := encAa1 a.1 a.2

theorem encAa_inj (a a' : (List Cap) × (List Int)) (h : encAa a = encAa a') : a = a' := by
  simp only [encAa, encAa1] at h
  try simp [strs_inj, ints_inj, bools_inj, eCaps_inj, eCap_iff, eL_eCaps_inj, eMchs_inj, eMch_iff, eWrds_inj, eWrd_iff, eFnds_inj, eFnd_iff, eRatios_inj, eRatio_iff, eWays_inj, eWay_iff] at h
  grind

theorem unAa (l : List Cap) (bs : List Int) : unenc encAa ([AV.sl (List.map eCap l), AV.sl (List.map eI bs)]) = some (l, bs) := unenc_of encAa_inj (l, bs) rfl

def resAa1 (l : List Cap) (bs : List Int) : AV × Heap := (vB (F.apR (bs.getD 0 0) (bs.getD (bs.length - 1) 0) [] l), [])

def preAa1 (l : List Cap) (bs : List Int) : Bool := decide (l.length ≤ 100000 ∧ 1 ≤ bs.length ∧ bs.length ≤ 100000)

noncomputable def oAa : Orc := orc 21 true encAa (fun a => preAa1 a.1 a.2) fun a => resAa1 a.1 a.2

theorem okAa : OrcOK Tryd.prog noG oAa := by
  refine mk_ok Tryd.f21 (keep := false) (by kernel_rfl) (by kernel_rfl) enAa_ok mixed (two_loops (x0 := loopN Tryd.f21 0) (x1 := loopN Tryd.f21 1) (by kernel_rfl) (lpo_ok ?_) (lpo_ok ?_)) (by first | exact fun _ _ => ⟨rfl, rfl⟩ | (intro h; cases h)) ?_
  · rintro ⟨l, bs, k⟩ hp
    exact lpAa1_ok l bs k hp
  · rintro ⟨l, bs, k, c, j⟩ hp
    exact lpAa2_ok l bs k c j hp
  rintro ⟨l, bs⟩ hpre hok
  show (runF enAa false _ (encAa1 _ _)).val = some (resAa1 _ _)
  unfold encAa1 resAa1
  rw [evAa]
  simp only [preAa1, decide_eq_true_eq] at hpre
  obtain ⟨h1, h2, h3⟩ := hpre
  have q : l.length ≤ 100000 ∧ 1 ≤ bs.length ∧ bs.length ≤ 100000 ∧ 0 ≤ l.length := ⟨h1, h2, h3, Nat.zero_le _⟩
  simp only [unEqS, preEqS1, unstAa1, unstAa2, unstAa10, unstAa20, prlAa1, prlAa2, outAa1, outAa2, etaCap, etaMch, etaWrd, etaFnd, etaRatio, etaWay, Option.bind_some, List.length_map, unStrs, unInts, unBools, unCaps, uneL_eCaps, unMchs, unWrds, unFnds, unRatios, unWays, F.lt, F.le, cond_true, cond_false, Bool.and_true, Bool.true_and, decide_eq_true q, List.take_zero, List.drop_zero]
  cases F.apR (bs.getD 0 0) (bs.getD (bs.length - 1) 0) [] l <;> rfl

end M

namespace Jn

theorem apR_spec {a b : Int} : ∀ {l p : List Cap}, F.apR a b p l = true → (∀ c ∈ l, F.apO a b c = true) ∧ (∀ u ∈ p, ∀ c ∈ l, F.ntC c u = true) ∧ l.Pairwise (fun u c => F.ntC c u = true)
  | [], p, _ => ⟨fun _ h => absurd h List.not_mem_nil, fun _ _ _ h => absurd h List.not_mem_nil, List.Pairwise.nil⟩
  | c :: r, p, h => by
    rw [F.apR, Bool.and_eq_true, Bool.and_eq_true] at h
    obtain ⟨h1, h2, h3⟩ := h
    obtain ⟨i1, i2, i3⟩ := apR_spec h3
    have h2 := List.all_eq_true.1 h2
    refine ⟨fun d hd => ?_, fun u hu d hd => ?_, List.Pairwise.cons (fun d hd => i2 c (by simp) d hd) i3⟩
    · rcases List.mem_cons.1 hd with rfl | hd
      · exact h1
      · exact i1 d hd
    · rcases List.mem_cons.1 hd with rfl | hd
      · exact h2 u hu
      · exact i2 u (by simp [hu]) d hd

theorem ntC_spec {c x : Cap} (h : F.ntC c x = true) (h1 : x.fr ≤ c.to) (h2 : c.fr ≤ x.to) : key x c = false := by
  unfold F.ntC F.le at h
  rw [decide_eq_true h1, decide_eq_true h2, Bool.and_true, Bool.and_true, Bool.not_eq_true'] at h
  exact h

theorem chk_lt {l : List Cap} (h : F.chkC l = 0) : ∀ c ∈ l, c.fr < c.to := fun c hc => by
  obtain ⟨q, hq⟩ := F.chk_at h hc
  have := (F.capF_ok hq).2.2.1
  simp only [F.le, decide_eq_false_iff_not] at this
  omega

theorem ok_of {l : List Cap} {a b : Int} (hc : F.chkC l = 0) (h : F.apR a b [] l = true) : Ok l ∧ (∀ c ∈ l, a ≤ c.fr) ∧ (∀ c ∈ l, c.to ≤ b) := by
  obtain ⟨h1, -, h3⟩ := apR_spec h
  have hlt := chk_lt hc
  have hO : ∀ c ∈ l, a ≤ c.fr ∧ c.to ≤ b ∧ c.bef = false ∧ c.aft = false := fun c hcl => by
    have := h1 c hcl
    unfold F.apO F.lt at this
    simp only [Bool.not_eq_true', Bool.or_eq_false_iff, decide_eq_false_iff_not] at this
    exact ⟨by omega, by omega, this.1.2, this.2⟩
  refine ⟨⟨?_, fun u hu v hv hne t1 t2 => ?_, hlt, fun c hcl => (hO c hcl).2.2⟩, fun c hcl => (hO c hcl).1, fun c hcl => (hO c hcl).2.1⟩
  · refine List.pairwise_iff_getElem.2 fun i j hi hj hij e => ?_
    have := List.pairwise_iff_getElem.1 h3 i j hi hj hij
    have hl := hlt _ (List.getElem_mem hj)
    rw [e] at this
    have hk := ntC_spec this (by omega) (by omega)
    rw [key_refl] at hk
    cases hk
  · obtain ⟨i, hi⟩ := List.getElem?_of_mem hu
    obtain ⟨j, hj⟩ := List.getElem?_of_mem hv
    obtain ⟨hi1, hi2⟩ := List.getElem?_eq_some_iff.1 hi
    obtain ⟨hj1, hj2⟩ := List.getElem?_eq_some_iff.1 hj
    rcases Nat.lt_trichotomy i j with hlt | heq | hgt
    · have := List.pairwise_iff_getElem.1 h3 i j hi1 hj1 hlt
      rw [hi2, hj2] at this
      exact ntC_spec this t1 t2
    · subst heq
      exact absurd (hi2.symm.trans hj2) hne
    · have := List.pairwise_iff_getElem.1 h3 j i hj1 hi1 hgt
      rw [hi2, hj2] at this
      rw [key_symm]
      exact ntC_spec this t2 t1

theorem srt_of_chk : ∀ {l : List Cap} {p : Option Cap}, F.chkP F.capF p l = 0 → K.Srt F.ltC l ∧ ∀ q, p = some q → ∀ x ∈ l, F.ltC x q = false
  | [], _, _ => ⟨List.Pairwise.nil, fun _ _ _ h => absurd h List.not_mem_nil⟩
  | c :: l, p, h => by
    rw [F.chkP] at h
    by_cases h1 : F.capF p c = 0
    · rw [M.bne0 h1, cond_false] at h
      obtain ⟨h2, h3⟩ := srt_of_chk h
      refine ⟨List.Pairwise.cons (fun x hx => h3 c rfl x hx) h2, fun q hq x hx => ?_⟩
      have hq0 : F.ltC c q = false := by
        have := (F.capF_ok h1).2.2.2.1
        rw [hq] at this
        rw [F.ltC_eq]; exact this
      rcases List.mem_cons.1 hx with rfl | hx
      · exact hq0
      · exact F.swC.tr q c x hq0 (h3 c rfl x hx)
    · rw [M.bne1 h1, cond_true] at h; exact absurd h h1

theorem srt_chk {l : List Cap} (h : F.chkC l = 0) : K.Srt F.ltC l := by
  have h1 := F.chk_len h
  unfold F.chkC at h
  rw [decide_eq_false (by omega)] at h
  exact (srt_of_chk h).1

/-- What is right, and sorted, has no fault. -/
theorem chk_of_srt : ∀ {l : List Cap} {p : Option Cap}, K.Srt F.ltC l → (∀ c ∈ l, F.capF none c = 0) → (∀ q, p = some q → ∀ x ∈ l, F.ltC x q = false) → F.chkP F.capF p l = 0
  | [], _, _, _, _ => rfl
  | c :: l, p, hs, hc, hp => by
    have h0 := hc c (by simp)
    have hcap : F.capF p c = 0 := by
      have hb : F.befP p c = false := by
        cases p with
        | none => rfl
        | some q =>
          have := hp q rfl c (by simp)
          rw [F.ltC_eq] at this
          exact this
      have hb0 : F.befP none c = false := rfl
      unfold F.capF at h0 ⊢
      rw [hb]
      rw [hb0] at h0
      exact h0
    rw [F.chkP, M.bne0 hcap, cond_false]
    exact chk_of_srt (List.pairwise_cons.1 hs).2 (fun d hd => hc d (by simp [hd])) (fun q hq x hx => by
      cases hq
      exact (List.pairwise_cons.1 hs).1 x hx)

end Jn
end Go.Proofs.YtlnflhmepnbcmaaDoor
