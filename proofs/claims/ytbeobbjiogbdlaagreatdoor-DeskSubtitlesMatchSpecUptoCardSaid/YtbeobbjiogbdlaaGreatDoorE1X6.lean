/- What is proved here: what headendref1.IsTime and IsScale return, and that a time is turned by long numbers that are not too long (no statement of the seat). -/
import Derived.Lib.AtoiAll
import Derived.Lib.AtoiAllCases
import Derived.Lib.ItoaMem
import Derived.Handy
import Derived.BigGuard
import Derived.WalkKit
import Derived.Lib.Walk
import Derived.BigCall
import Derived.Lib.AtoiErrMem
import Derived.Lib.Repeat
import Derived.Test.YtbeobbjiogbdlaaGreatDoorE1X5

namespace Go.Proofs.YtbeobbjiogbdlaaGreatDoor
open Go Go.RowKit
set_option linter.unusedVariables false
set_option linter.unusedSimpArgs false
set_option maxHeartbeats 1000000

def F.sgB (s : Seg) : Bool := F.noTm s.begin || F.noTm s.lead || F.noTm s.length || F.noTm (s.begin + s.lead + s.length)

def F.bdN (n sc : Int) : Int := F.scl n 1000 sc 2

def F.bdG (f : Int → Int) : List Seg → List Int
 | [] => []
 | [s] => [f (s.begin + s.lead), f (s.begin + s.lead + s.length)]
 | s :: t :: r => f (s.begin + s.lead) :: F.bdG f (t :: r)

def F.bdL (sc : Int) (g : List Seg) : List Int := F.bdG (fun n => F.bdN n sc) g

def F.txs (ps : List (List Cap)) : List ByteArray × Int := bif M.ffI F.longF ps != 0 then ([], M.ffI F.longF ps) else (ps.map F.longS, 0)

def F.subs (l : List Cap) (g : List Seg) (sc : Int) : List ByteArray × Int :=
 bif F.chkC l != 0 then ([], F.chkC l) else bif decide (g.length = 0) then ([], 9) else bif F.noScale sc then ([], 1) else bif g.any F.sgB then ([], 1) else
 bif (F.cutL l (F.bdL sc g)).2 != 0 then ([], (F.cutL l (F.bdL sc g)).2) else F.txs (F.cutL l (F.bdL sc g)).1

theorem F.sgB_ok {s : Seg} (h : F.sgB s = false) : (-1000000000000000 ≤ s.begin ∧ s.begin ≤ 1000000000000000) ∧ (-1000000000000000 ≤ s.lead ∧ s.lead ≤ 1000000000000000) ∧ (-1000000000000000 ≤ s.length ∧ s.length ≤ 1000000000000000) ∧ (-1000000000000000 ≤ s.begin + s.lead + s.length ∧ s.begin + s.lead + s.length ≤ 1000000000000000) := by
 unfold F.sgB F.noTm F.out at h
 simp only [Bool.or_eq_false_iff, decide_eq_false_iff_not] at h
 omega

def F.sgW (s : Seg) : Bool := F.noTm s.begin || (F.noTm s.lead || (F.noTm s.length || F.noTm (IntKind.i64.wrap (IntKind.i64.wrap (s.begin + s.lead) + s.length))))

theorem F.sgW_eq (s : Seg) : F.sgW s = F.sgB s := by
 unfold F.sgW F.sgB
 cases h1 : F.noTm s.begin
 ·cases h2 : F.noTm s.lead
  ·cases h3 : F.noTm s.length
   ·unfold F.noTm F.out at h1 h2 h3
    simp only [Bool.or_eq_false_iff, decide_eq_false_iff_not] at h1 h2 h3
    rw [M.wrap_id (n := s.begin + s.lead) (by omega) (by omega), M.wrap_id (by omega) (by omega)]
    rfl
   ·rfl
  ·rfl
 ·rfl

theorem F.scl_pre {n sc : Int} (hn : -2000000000000000 ≤ n ∧ n ≤ 2000000000000000) (hs : F.noScale sc = false) : F.i64B n = true ∧ n.natAbs * (1000 : Int).natAbs < 9223372036854775808 ∧ 1 ≤ sc ∧ sc ≤ 1000000000 := by
 unfold F.noScale F.out at hs
 simp only [Bool.or_eq_false_iff, decide_eq_false_iff_not] at hs
 have h3 : (1000 : Int).natAbs = 1000 := rfl
 refine ⟨?_, by rw [h3]; omega, by omega, by omega⟩
 unfold F.i64B
 rw [decide_eq_true (by omega), decide_eq_true (by omega)]
 rfl

theorem F.bdG_last (f : Int → Int) (s : Seg) : F.bdG f [s] = [f (s.begin + s.lead), f (s.begin + s.lead + s.length)] := rfl

theorem F.bdG_more (f : Int → Int) (s : Seg) {r : List Seg} (h : r ≠ []) : F.bdG f (s :: r) = f (s.begin + s.lead) :: F.bdG f r := by
 cases r with
 | nil => exact absurd rfl h
 | cons t r => rfl

namespace M

def stSb1 (l : List Cap) (g : List Seg) (sc : Int) (acc : List Int) (k : Nat) : St := ⟨[(33, vI k), (32, vI g.length), (31, .sl (g.map eSeg)), (9, .own 9), (2, vI sc), (1, .sl (g.map eSeg)), (0, .sl (l.map eCap))], [(9, ⟨false, 3, 1, acc.map eI⟩)]⟩

def stSb11 (a : (List Cap) × (List Seg) × Int × (List Int) × Nat) : St := stSb1 a.1 a.2.1 a.2.2.1 a.2.2.2.1 a.2.2.2.2

theorem stSb1_inj (a a' : (List Cap) × (List Seg) × Int × (List Int) × Nat) (h : stSb11 a = stSb11 a') : a = a' := by
 simp only [stSb11, stSb1] at h
 try simp [ints_inj, eCaps_inj, eSegs_inj] at h
 grind

theorem unstSb10 (l : List Cap) (g : List Seg) (sc : Int)  : unenc stSb11 (St.mk [(33, (vI (0 : Int))), (32, (vI (↑(List.length g) : Int))), (31, AV.sl (List.map eSeg g)), (9, .own 9), (2, (vI sc)), (1, AV.sl (List.map eSeg g)), (0, AV.sl
 (List.map eCap l))] [(9, Blk.mk false 3 1 [])]) = some (l, g, sc, [], 0) := unenc_of stSb1_inj (l, g, sc, [], 0) rfl

def outSb1 (l : List Cap) (g : List Seg) (sc : Int) (acc : List Int) (k : Nat) : T (Ex × St) := .ifB (!((g.drop k).any F.sgB)) (.ret (.exit 1, ⟨[(9, .own 9), (0, .sl (l.map eCap))], [(9, ⟨false, 3, 1, (acc ++ F.bdL sc (g.drop k)).map eI⟩)]⟩)) (.ret (.ret, ⟨[(7, vI 1), (6, .own 6)], [(6, ⟨false, 9, 1, []⟩)]⟩))

noncomputable def prlSb1 (l : List Cap) (g : List Seg) (sc : Int) (acc : List Int) (k : Nat) : Bool := decide (g.length ≤ 1048576) && decide (k ≤ g.length) && decide (acc.length ≤ k ∨ k = g.length) && !F.noScale sc

noncomputable def lpSb1 : Nat × (St → T (Ex × St)) := (10, lpo [33, 32, 31, 9, 2, 1, 0] [9] stSb11 (fun a => prlSb1 a.1 a.2.1 a.2.2.1 a.2.2.2.1 a.2.2.2.2) fun a => outSb1 a.1 a.2.1 a.2.2.1 a.2.2.2.1 a.2.2.2.2)

def stSb2 (ps : List (List Cap)) (acc : List ByteArray) (k : Nat) : St := ⟨[(102, vI k), (101, vI ps.length), (100, .sl (ps.map eL_eCap)), (14, .own 14)], [(14, ⟨false, 9, 1, acc.map eStr⟩)]⟩

def stSb21 (a : (List (List Cap)) × (List ByteArray) × Nat) : St := stSb2 a.1 a.2.1 a.2.2

theorem stSb2_inj (a a' : (List (List Cap)) × (List ByteArray) × Nat) (h : stSb21 a = stSb21 a') : a = a' := by
 simp only [stSb21, stSb2] at h
 try simp [strs_inj, eL_eCaps_inj] at h
 grind

theorem unstSb20 (ps : List (List Cap))  : unenc stSb21 (St.mk [(102, (vI (0 : Int))), (101, (vI (↑(List.length ps) : Int))), (100, AV.sl (List.map eL_eCap ps)), (14, .own 14)] [(14, Blk.mk false 9 1 [])]) = some (ps, [], 0) := unenc_of stSb2_inj (ps, [], 0) rfl

def outSb2 (ps : List (List Cap)) (acc : List ByteArray) (k : Nat) : T (Ex × St) := .ifB (decide (M.ffI F.longF (ps.drop k) = 0)) (.ret (.exit 3, ⟨[(14, .own 14)], [(14, ⟨false, 9, 1, (acc ++ (ps.drop k).map F.longS).map eStr⟩)]⟩)) (.ret (.ret, ⟨[(7, vI (M.ffI F.longF (ps.drop k))), (6, .own 6)], [(6, ⟨false, 9, 1, []⟩)]⟩))

noncomputable def prlSb2 (ps : List (List Cap)) (acc : List ByteArray) (k : Nat) : Bool := F.smLL ps && decide (ps.length ≤ 1000) && decide (k ≤ ps.length) && decide (acc.length ≤ k)

noncomputable def lpSb2 : Nat × (St → T (Ex × St)) := (23, lpo [102, 101, 100, 14] [14] stSb21 (fun a => prlSb2 a.1 a.2.1 a.2.2) fun a => outSb2 a.1 a.2.1 a.2.2)

noncomputable def enSb : Env := envH ty noG lks [oChC, oNoS, oNoTm, oScl, oSp, oLgp] [] [] [lpSb1, lpSb2]

theorem enSb_ok : EnvOK Tryz.prog enSb := by
 refine envH_ok lks_ok ty_ok ?_ ?_
 ·simp only [List.forall_mem_cons]
  exact ⟨okChC, okNoS, okNoTm, okScl, okSp, okLgp, by simp⟩
 ·simp

theorem evSb1L (l : List Cap) (g : List Seg) (sc : Int) (acc : List Int) (k : Nat) : ((exec enSb (loopN Tryz.f13 0) (stSb1 l g sc acc k)).bind (lessX ([33, 32, 31, 9, 2, 1, 0], [9]) ([9, 0], [9]) ([7, 6], [6]))).val =
 (fun (q : Seg) => (fun (q_1 : List AV) => (fun (q_2 : Option (Ex × St)) => (fun (q_3 : List (Nat × AV)) => bif decide ((↑k : Int) < (↑(List.length g) : Int)) then
 Option.bind (unenc (List.map eSeg) (List.map eSeg g)) fun z => (fun (q_4 : Int) => (fun (q_5 : AV) => bif decide (k < List.length z) then Option.bind (unenc
 encNoTm [(vI (List.getD z k q).begin)]) fun z_1 => bif !F.noTm z_1 then Option.bind (unenc encNoTm [(vI (List.getD z k q).lead)]) fun z_2 => bif !F.noTm
 z_2 then Option.bind (unenc encNoTm [(vI (List.getD z k q).length)]) fun z => bif !F.noTm z then Option.bind (unenc encNoTm [q_5]) fun z => bif F.noTm z
 then q_2 else Option.bind (unenc encScl ((vI q_4) :: q_1)) fun z => (fun (q : List Row) => bif F.i64B z.1 && decide ((0 : Int) ≤ z.2.1) &&
 decide (z.2.1 ≤ 1000000) && decide ((1 : Int) ≤ z.2.2.1) && decide (z.2.2.1 ≤ 9223372036854775807) && decide (Int.natAbs z.1 * Int.natAbs
 z.2.1 < 9223372036854775808) then bif Nat.ble ((List.length (List.map eI acc) + 1) * 8) 140737488355328 && true then bif (↑k : Int) ==
 IntKind.i64.wrap ((↑(List.length (List.map eSeg g)) : Int) - (1 : Int)) then Option.bind (unenc encScl (q_5 :: q_1)) fun z => bif F.i64B
 z.1 && decide ((0 : Int) ≤ z.2.1) && decide (z.2.1 ≤ 1000000) && decide ((1 : Int) ≤ z.2.2.1) && decide (z.2.2.1 ≤ 9223372036854775807) && decide (Int.natAbs z.1 * Int.natAbs z.2.1 < 9223372036854775808) then bif Nat.ble ((List.length q + 1) * 8) 140737488355328
 && true then some (Ex.normal, St.mk q_3 [(9, Blk.mk false 3 1 (q ++ [[(vI (F.scl z.1 z.2.1 z.2.2.1 z.2.2.2))]]))]) else none else none else some
 (Ex.normal, St.mk q_3 [(9, Blk.mk false 3 1 q)]) else none else none) (List.map eI acc ++ [[(vI (F.scl z.1 z.2.1 z.2.2.1 z.2.2.2))]]) else q_2 else q_2
 else q_2 else none) ((vI (IntKind.i64.wrap (q_4 + (List.getD z k q).length))))) (IntKind.i64.wrap ((List.getD z k q).begin + (List.getD z k q).lead)) else
 some (Ex.exit (1 : Nat), St.mk [(9, .own 9), (0, AV.sl (List.map eCap l))] [(9, Blk.mk false 3 1 (List.map eI acc))])) [(33, (vI (IntKind.i64.wrap ((↑k : Int) + 1)))), (32, (vI (↑(List.length g) : Int))), (31, AV.sl (List.map eSeg g)), (9, .own 9), (2, (vI sc)), (1, AV.sl (List.map eSeg g)), (0, AV.sl (List.map eCap l))])
 (some (Ex.ret, St.mk [(7, (vI 1)), (6, .own 6)] [(6, Blk.mk false 9 1 [])]))) [(vI 1000), (vI sc), (vI 2)]) (Seg.mk (0 : Int) (0 : Int) (0 : Int)
 (0 : Int) (0 : Int) (0 : Int) (0 : Int)) := (execR_bind _ _ _).symm.trans (by kernel_rfl)

theorem lpSb1_ok (l : List Cap) (g : List Seg) (sc : Int) (acc : List Int) (k : Nat) (hp : prlSb1 l g sc acc k = true) : ∀ ex s', (outSb1 l g sc acc k).val = some (ex, s') → LoopOK enSb (loopN Tryz.f13 0) (stSb1 l g sc acc k) ex s' := by
 simp only [prlSb1, Bool.and_eq_true, decide_eq_true_eq] at hp
 obtain ⟨⟨⟨h1, h2⟩, h3⟩, h4⟩ := hp
 have h4 : F.noScale sc = false := by simpa using h4
 refine loop_gen (st := fun a : List Int × Nat => stSb1 l g sc a.1 a.2) (out := fun a => outSb1 l g sc a.1 a.2) (I := fun a => a.2 ≤ g.length ∧ (a.1.length ≤ a.2 ∨ a.2 = g.length)) (n := ([33, 32, 31, 9, 2, 1, 0], [9])) (e := ([9, 0], [9])) (r := ([7, 6], [6])) (fun a => g.length - a.2) ?_ (acc, k) ⟨h2, h3⟩
 clear h2 h3 acc k
 rintro ⟨acc, k⟩ ⟨h2, h3⟩
 simp only at h2 h3
 by_cases hlt : k < g.length
 ·have hy : g[k]? = some g[k] := List.getElem?_eq_getElem hlt
  have hd : g.drop k = g[k] :: g.drop (k + 1) := List.drop_eq_getElem_cons hlt
  generalize g[k] = s at hy hd
  have hN := next_at hlt (by omega : g.length ≤ 9223372036854775807)
  have hW := F.sgW_eq s
  have h3 : acc.length ≤ k := h3.resolve_right (by omega)
  have z1 : decide ((0 : Int) ≤ 1000) = true := rfl
  have z2 : decide ((1000 : Int) ≤ 1000000) = true := rfl
  cases hb : F.sgB s
  ·obtain ⟨a1, a2, a3, a4⟩ := F.sgB_ok hb
   have w1 : IntKind.i64.wrap (s.begin + s.lead) = s.begin + s.lead := wrap_id (by omega) (by omega)
   have w2 : IntKind.i64.wrap (s.begin + s.lead + s.length) = s.begin + s.lead + s.length := wrap_id (by omega) (by omega)
   have w3 : IntKind.i64.wrap ((g.length : Int) - 1) = (g.length : Int) - 1 := wrap_id (by omega) (by omega)
   obtain ⟨p1, p2, p3, p4⟩ := F.scl_pre (n := s.begin + s.lead) (by omega) h4
   obtain ⟨q1, q2, q3, q4⟩ := F.scl_pre (n := s.begin + s.lead + s.length) (by omega) h4
   have n1 : F.noTm s.begin = false := by unfold F.noTm F.out; rw [decide_eq_false (by omega), decide_eq_false (by omega)]; rfl
   have n2 : F.noTm s.lead = false := by unfold F.noTm F.out; rw [decide_eq_false (by omega), decide_eq_false (by omega)]; rfl
   have n3 : F.noTm s.length = false := by unfold F.noTm F.out; rw [decide_eq_false (by omega), decide_eq_false (by omega)]; rfl
   have n4 : F.noTm (s.begin + s.lead + s.length) = false := by unfold F.noTm F.out; rw [decide_eq_false (by omega), decide_eq_false (by omega)]; rfl
   have b1 : Nat.ble ((acc.length + 1) * 8) 140737488355328 = true := ble_t (by omega)
   have b2 : Nat.ble ((acc.length + 1 + 1) * 8) 140737488355328 = true := ble_t (by omega)
   have b3 : decide (sc ≤ 9223372036854775807) = true := decide_eq_true (by omega)
   right
   by_cases hlast : k + 1 = g.length
   ·have hdn : g.drop (k + 1) = [] := List.drop_eq_nil_of_le (by omega)
    have hi : ((k : Int) == (g.length : Int) - 1) = true := by rw [beq_iff_eq]; omega
    refine ⟨(acc ++ [F.bdN (s.begin + s.lead) sc, F.bdN (s.begin + s.lead + s.length) sc], k + 1), ?_, rfl, ⟨hlt, .inr hlast⟩, by simp only; omega, ?_⟩
    ·rw [evSb1L]
     simp only [unNoTm, unScl, Option.bind_some, List.length_map, unSegs, cond_true, cond_false, Bool.and_true, cast_lt hlt, decide_eq_true hlt, getD_at hy, hN, w1, w2, w3, n1, n2, n3, n4, p1, q1, decide_eq_true p2, decide_eq_true q2, decide_eq_true p3, hi, z1, z2, b3, Bool.and_self, Bool.not_false, List.length_append, List.length_singleton, b1, b2, appInts', List.append_assoc, List.singleton_append]
     try rfl
    ·simp only [outSb1, hd, hdn, F.bdL, F.bdG_last, List.any_cons, List.any_nil, hb, Bool.or_false, F.bdG, List.append_nil]
   ·have hdn : g.drop (k + 1) ≠ [] := fun e => by
     have := congrArg List.length e
     rw [List.length_drop] at this
     simp at this
     omega
    have hi : ((k : Int) == (g.length : Int) - 1) = false := by rw [beq_eq_false_iff_ne]; omega
    refine ⟨(acc ++ [F.bdN (s.begin + s.lead) sc], k + 1), ?_, rfl, ⟨hlt, .inl (by simp only [List.length_append, List.length_singleton]; omega)⟩, by simp only; omega, ?_⟩
    ·rw [evSb1L]
     simp only [unNoTm, unScl, Option.bind_some, List.length_map, unSegs, cond_true, cond_false, Bool.and_true, cast_lt hlt, decide_eq_true hlt, getD_at hy, hN, w1, w2, w3, n1, n2, n3, n4, p1, decide_eq_true p2, decide_eq_true p3, hi, z1, z2, b3, Bool.and_self, Bool.not_false, List.length_append, List.length_singleton, b1, b2, appInts']
     try rfl
    ·simp only [outSb1, hd, F.bdL, F.bdG_more _ s hdn, List.any_cons, hb, Bool.false_or, List.append_assoc, List.singleton_append]
  ·left
   refine ⟨(.ret, ⟨[(7, vI 1), (6, .own 6)], [(6, ⟨false, 9, 1, []⟩)]⟩), ?_, ?_, by simp, rfl⟩
   ·rw [hb] at hW
    unfold F.sgW at hW
    rw [evSb1L]
    simp only [unNoTm, unScl, Option.bind_some, List.length_map, unSegs, cond_true, Bool.and_true, cast_lt hlt, decide_eq_true hlt, getD_at hy]
    cases c1 : F.noTm s.begin
    ·rw [c1, Bool.false_or] at hW
     cases c2 : F.noTm s.lead
     ·rw [c2, Bool.false_or] at hW
      cases c3 : F.noTm s.length
      ·rw [c3, Bool.false_or] at hW
       simp only [hW, cond_true, Bool.not_false]
       try rfl
      ·rfl
     ·rfl
    ·rfl
   ·simp only [outSb1, hd, List.any_cons, hb, Bool.true_or, Bool.not_true]
    rfl
 ·have : k = g.length := by omega
  subst this
  left
  refine ⟨(.exit 1, ⟨[(9, .own 9), (0, .sl (l.map eCap))], [(9, ⟨false, 3, 1, acc.map eI⟩)]⟩), ?_, ?_, by simp, rfl⟩
  ·rw [evSb1L]
   simp only [unNoTm, unScl, Option.bind_some, List.length_map, unSegs, cond_false, Bool.and_true, cast_ge]
   try rfl
  ·simp only [outSb1, List.drop_length, F.bdL, F.bdG, List.any_nil, List.append_nil]
   rfl

theorem evSb2L (ps : List (List Cap)) (acc : List ByteArray) (k : Nat) : ((exec enSb (loopN Tryz.f13 1) (stSb2 ps acc k)).bind (lessX ([102, 101, 100, 14], [14]) ([14], [14]) ([7, 6], [6]))).val =
 bif decide ((↑k : Int) < (↑(List.length ps) : Int)) then Option.bind (unenc (List.map eL_eCap) (List.map eL_eCap ps)) fun z => bif decide (k <
 List.length z) then Option.bind (unenc encLgp [AV.sl (List.map eCap (List.getD z k []))]) fun z => bif F.smC z then bif F.longF z != 0 then some
 (Ex.ret, St.mk [(7, (vI (F.longF z))), (6, .own 6)] [(6, Blk.mk false 9 1 [])]) else bif Nat.ble ((List.length (List.map eStr acc) + 1) * 16)
 (140737488355328 : Nat) && true then some (Ex.normal, St.mk [(102, (vI (IntKind.i64.wrap ((↑k : Int) + 1)))), (101, (vI (↑(List.length ps) : Int))), (100,
 AV.sl (List.map eL_eCap ps)), (14, .own 14)] [(14, Blk.mk false 9 1 (List.map eStr acc ++ [[(vS (F.longS z))]]))]) else none else none else none else some (Ex.exit (3 :
 Nat), St.mk [(14, .own 14)] [(14, Blk.mk false 9 1 (List.map eStr acc))]) := (execR_bind _ _ _).symm.trans (by kernel_rfl)

theorem lpSb2_ok (ps : List (List Cap)) (acc : List ByteArray) (k : Nat) (hp : prlSb2 ps acc k = true) : ∀ ex s', (outSb2 ps acc k).val = some (ex, s') → LoopOK enSb (loopN Tryz.f13 1) (stSb2 ps acc k) ex s' := by
 simp only [prlSb2, Bool.and_eq_true, decide_eq_true_eq] at hp
 obtain ⟨⟨⟨h1, h2⟩, h3⟩, h4⟩ := hp
 refine loop_gen (st := fun a : List ByteArray × Nat => stSb2 ps a.1 a.2) (out := fun a => outSb2 ps a.1 a.2) (I := fun a => a.2 ≤ ps.length ∧ a.1.length ≤ a.2) (n := ([102, 101, 100, 14], [14])) (e := ([14], [14])) (r := ([7, 6], [6])) (fun a => ps.length - a.2) ?_ (acc, k) ⟨h3, h4⟩
 clear h3 h4 acc k
 rintro ⟨acc, k⟩ ⟨h3, h4⟩
 simp only at h3 h4
 by_cases hlt : k < ps.length
 ·have hy : ps[k]? = some ps[k] := List.getElem?_eq_getElem hlt
  have hd : ps.drop k = ps[k] :: ps.drop (k + 1) := List.drop_eq_getElem_cons hlt
  generalize ps[k] = p at hy hd
  have hN := next_at hlt (by omega : ps.length ≤ 9223372036854775807)
  have hsm : F.smC p = true := List.all_eq_true.1 h1 p (List.mem_of_getElem? hy)
  have b1 : Nat.ble ((acc.length + 1) * 16) 140737488355328 = true := ble_t (by omega)
  by_cases h0 : F.longF p = 0
  ·right
   have hb : (F.longF p != 0) = false := by simp [h0]
   refine ⟨(acc ++ [F.longS p], k + 1), ?_, rfl, ⟨hlt, by simp only [List.length_append, List.length_singleton]; omega⟩, by simp only; omega, ?_⟩
   ·rw [evSb2L]
    simp only [unLgp, Option.bind_some, List.length_map, uneL_eCaps, cond_true, cond_false, Bool.and_true, cast_lt hlt, decide_eq_true hlt, getD_at hy, hN, hsm, hb, b1, appStrs']
    try rfl
   ·simp only [outSb2, hd, M.ffI, h0, if_true, List.map_cons, List.append_assoc, List.singleton_append]
  ·left
   have hb : (F.longF p != 0) = true := by simp [h0]
   refine ⟨(.ret, ⟨[(7, vI (F.longF p)), (6, .own 6)], [(6, ⟨false, 9, 1, []⟩)]⟩), ?_, ?_, by simp, rfl⟩
   ·rw [evSb2L]
    simp only [unLgp, Option.bind_some, List.length_map, uneL_eCaps, cond_true, Bool.and_true, cast_lt hlt, decide_eq_true hlt, getD_at hy, hN, hsm, hb]
    try rfl
   ·simp only [outSb2, hd, M.ffI, h0, if_false, decide_false]
    rfl
 ·have : k = ps.length := by omega
  subst this
  left
  refine ⟨(.exit 3, ⟨[(14, .own 14)], [(14, ⟨false, 9, 1, acc.map eStr⟩)]⟩), ?_, ?_, by simp, rfl⟩
  ·rw [evSb2L]
   simp only [unLgp, Option.bind_some, List.length_map, uneL_eCaps, cond_false, Bool.and_true, cast_ge]
   try rfl
  ·simp only [outSb2, List.drop_length, M.ffI, List.map_nil, List.append_nil, decide_true]
   rfl

theorem evSb (l : List Cap) (g : List Seg) (sc : Int) : (runF enSb false Tryz.f13 [.sl (l.map eCap), .sl (g.map eSeg), vI sc]).val =
 Option.bind (unenc encChC [AV.sl (List.map eCap l)]) fun z => bif F.smC z then bif F.chkC z != 0 then some (AV.tup [AV.sl [], (vI (F.chkC z))], [])
 else bif (↑(List.length (List.map eSeg g)) : Int) == 0 then some (AV.tup [AV.sl [], (vI 9)], []) else Option.bind (unenc encNoS [(vI sc)]) fun z =>
 bif F.noScale z then some (AV.tup [AV.sl [], (vI 1)], []) else Option.bind (unenc stSb11 (St.mk [(33, (vI 0)), (32, (vI (↑(List.length (List.map eSeg g)) :
 Int))), (31, AV.sl (List.map eSeg g)), (9, .own 9), (2, (vI sc)), (1, AV.sl (List.map eSeg g)), (0, AV.sl (List.map eCap l))] [(9, Blk.mk false 3 1 [])])) fun z => (fun (q : Nat) => bif decide (List.length z.2.1 ≤ 1048576) && decide (q ≤ List.length z.2.1) && decide
 (List.length z.2.2.2.1 ≤ q ∨ q = List.length z.2.1) && !F.noScale z.2.2.1 && true then bif !List.any (List.drop q z.2.1) F.sgB then Option.bind
 (unenc encSp [AV.sl (List.map eCap z.1), AV.sl (List.map eI (z.2.2.2.1 ++ F.bdL z.2.2.1 (List.drop q z.2.1)))]) fun z => bif
 F.smC z.1 then bif (F.cutL z.1 z.2).snd != 0 then some (AV.tup [AV.sl [], (vI (F.cutL z.1 z.2).snd)], []) else Option.bind (unenc stSb21 (St.mk [(102,
 (vI 0)), (101, (vI (↑(List.length (List.map eL_eCap (F.cutL z.1 z.2).fst)) : Int))), (100, AV.sl (List.map eL_eCap (F.cutL z.1 z.2).fst)), (14, .own 14)]
 [(14, Blk.mk false 9 1 [])])) fun z => (fun (q : Int) => bif F.smLL z.1 && decide (List.length z.1 ≤ 1000) && decide
 (z.2.2 ≤ List.length z.1) && decide (List.length z.2.1 ≤ z.2.2) && true then bif decide (q = (0 : Int)) then some (AV.tup [AV.sl (List.map eStr (z.2.1 ++
 List.map F.longS (List.drop z.2.2 z.1))), (vI 0)], []) else some (AV.tup [AV.sl [], (vI q)], []) else none) (ffI F.longF (List.drop z.2.2 z.1)) else
 none else some (AV.tup [AV.sl [], (vI 1)], []) else none) z.2.2.2.2 else none := (runFR_val).symm.trans (by kernel_rfl)

def encSb1 (l : List Cap) (g : List Seg) (sc : Int) : List AV := [.sl (l.map eCap), .sl (g.map eSeg), vI sc]

def encSb (a : (List Cap) × (List Seg) × Int) : List AV := encSb1 a.1 a.2.1 a.2.2

theorem encSb_inj (a a' : (List Cap) × (List Seg) × Int) (h : encSb a = encSb a') : a = a' := by
 simp only [encSb, encSb1] at h
 try simp [eCaps_inj, eSegs_inj] at h
 grind

theorem unSb (l : List Cap) (g : List Seg) (sc : Int) : unenc encSb ([AV.sl (List.map eCap l), AV.sl (List.map eSeg g), (vI sc)]) = some (l, g, sc) := unenc_of encSb_inj (l, g, sc) rfl

def resSb1 (l : List Cap) (g : List Seg) (sc : Int) : AV × Heap := (.tup [.sl ((F.subs l g sc).1.map eStr), vI (F.subs l g sc).2], [])

def preSb1 (l : List Cap) (g : List Seg) (sc : Int) : Bool := F.smC l && decide (g.length ≤ 1048576)

noncomputable def oSb : Orc := orc 13 false encSb (fun a => preSb1 a.1 a.2.1 a.2.2) fun a => resSb1 a.1 a.2.1 a.2.2

theorem okSb : OrcOK Tryz.prog noG oSb := by
 refine mk_ok Tryz.f13 (keep := false) (by kernel_rfl) (by kernel_rfl) enSb_ok mixed (two_loops (x0 := loopN Tryz.f13 0) (x1 := loopN Tryz.f13 1) (by kernel_rfl) (lpo_ok ?_) (lpo_ok ?_)) (by first | exact fun _ _ => ⟨rfl, rfl⟩ | (intro h; cases h)) ?_
 ·rintro ⟨l, g, sc, acc, k⟩ hp
  exact lpSb1_ok l g sc acc k hp
 ·rintro ⟨ps, acc, k⟩ hp
  exact lpSb2_ok ps acc k hp
 rintro ⟨l, g, sc⟩ hpre hok
 show (runF enSb false _ (encSb1 _ _ _)).val = some (resSb1 _ _ _)
 unfold encSb1 resSb1
 rw [evSb]
 simp only [preSb1, Bool.and_eq_true, decide_eq_true_eq] at hpre
 obtain ⟨hsm, hlen⟩ := hpre
 simp only
 simp only [unChC, unNoS, unSp, unstSb10, unstSb20, Option.bind_some, List.length_map, cond_true, Bool.and_true, hsm, List.drop_zero, List.nil_append]
 unfold F.subs F.txs
 by_cases hc : F.chkC l = 0
 case neg =>
  rw [bne1 hc]
  rfl
 rw [bne0 hc]
 simp only [cond_false]
 have hg0 : (((g.length : Nat) : Int) == 0) = decide (g.length = 0) := by
  by_cases h : g.length = 0
  ·rw [h]; rfl
  ·rw [decide_eq_false h, beq_eq_false_iff_ne]; omega
 rw [hg0]
 cases hg : decide (g.length = 0)
 case true => rfl
 simp only [cond_false]
 cases hs : F.noScale sc
 case true => rfl
 simp only [cond_false, Bool.not_false, decide_eq_true hlen, decide_eq_true (Nat.zero_le g.length), List.length_nil, Nat.le_refl, true_or, decide_true, Bool.and_self, cond_true]
 cases ha : g.any F.sgB
 case true => rfl
 simp only [Bool.not_false, cond_true, cond_false]
 by_cases hk : (F.cutL l (F.bdL sc g)).2 = 0
 case neg =>
  rw [bne1 hk]
  rfl
 rw [bne0 hk]
 have e : (F.cutL l (F.bdL sc g)).1 = F.splitB l (F.bdL sc g) := by
  unfold F.cutL at hk ⊢
  rw [bne0 hc] at hk ⊢
  by_cases hb : F.bnds (F.bdL sc g) = 0
  ·rw [bne0 hb]; rfl
  ·rw [bne1 hb] at hk; exact absurd hk hb
 have hsl : F.smLL (F.cutL l (F.bdL sc g)).1 = true := by rw [e]; exact Jn.split_sm hsm _
 have hln : (F.cutL l (F.bdL sc g)).1.length ≤ 1000 := by
  have hb : F.bnds (F.bdL sc g) = 0 := by
   unfold F.cutL at hk
   rw [bne0 hc] at hk
   by_cases hb : F.bnds (F.bdL sc g) = 0
   ·exact hb
   ·rw [bne1 hb] at hk; exact absurd hk hb
  obtain ⟨b1, b2⟩ := F.bnds_ok hb
  rw [e]
  have := Jn.split_len (l := l) (bs := F.bdL sc g) (by intro e; rw [e] at b1; simp at b1)
  omega
 simp only [cond_false, hsl, decide_eq_true hln, decide_eq_true (Nat.zero_le (F.cutL l (F.bdL sc g)).1.length), Bool.and_self, cond_true]
 by_cases h0 : M.ffI F.longF (F.cutL l (F.bdL sc g)).1 = 0
 ·rw [h0]
  rfl
 ·rw [decide_eq_false h0, bne1 h0]
  rfl

end M

def F.vl : List Int → Int
 | [] => 0
 | x :: l => x + 10000 * F.vl l

def F.lb (n : Nat) : List Int := if h : n = 0 then [] else ((n % 10000 : Nat) : Int) :: F.lb (n / 10000)
termination_by n
decreasing_by omega

def F.okLm (l : List Int) : Prop := ∀ x ∈ l, 0 ≤ x ∧ x ≤ 9999

theorem F.lb_zero : F.lb 0 = [] := by rw [F.lb]; rfl

theorem F.lb_pos {n : Nat} (h : n ≠ 0) : F.lb n = ((n % 10000 : Nat) : Int) :: F.lb (n / 10000) := by rw [F.lb, dif_neg h]

theorem F.vl_lb (n : Nat) : F.vl (F.lb n) = n := by
 induction n using Nat.strongRecOn with
 | ind n ih =>
  by_cases h : n = 0
  ·subst h; rw [F.lb_zero]; rfl
  ·rw [F.lb_pos h, F.vl, ih (n / 10000) (by omega)]
   omega

theorem F.lb_ok (n : Nat) : F.okLm (F.lb n) := by
 induction n using Nat.strongRecOn with
 | ind n ih =>
  by_cases h : n = 0
  ·subst h; rw [F.lb_zero]; intro x hx; cases hx
  ·rw [F.lb_pos h]
   intro x hx
   rcases List.mem_cons.1 hx with rfl | hx
   ·omega
   ·exact ih (n / 10000) (by omega) x hx

theorem F.vl_nn : ∀ {l : List Int}, F.okLm l → 0 ≤ F.vl l
 | [], _ => Int.le_refl _
 | x :: l, h => by
  have h1 := h x (List.mem_cons_self ..)
  have h2 := F.vl_nn (l := l) fun y hy => h y (List.mem_cons_of_mem _ hy)
  rw [F.vl]; omega

def F.trimL : List Int → List Int
 | [] => []
 | x :: l => match F.trimL l with
  | [] => if x = 0 then [] else [x]
  | y :: r => x :: y :: r

theorem F.trimL_eq : ∀ {l : List Int}, F.okLm l → F.trimL l = F.lb (F.vl l).toNat
 | [], _ => by rw [F.vl]; exact F.lb_zero.symm
 | x :: l, h => by
  have h1 := h x (List.mem_cons_self ..)
  have h2 : F.okLm l := fun y hy => h y (List.mem_cons_of_mem _ hy)
  have h3 := F.vl_nn h2
  have ih := F.trimL_eq h2
  rw [F.trimL, ih, F.vl]
  by_cases hz : (F.vl l).toNat = 0
  ·rw [hz, F.lb_zero]
   by_cases hx : x = 0
   ·rw [if_pos hx, show (x + 10000 * F.vl l).toNat = 0 by omega, F.lb_zero]
   ·rw [if_neg hx, F.lb_pos (by omega), show (x + 10000 * F.vl l).toNat / 10000 = 0 by omega, F.lb_zero]
    simp only [List.cons.injEq, and_true]
    omega
  ·rw [F.lb_pos (n := (x + 10000 * F.vl l).toNat) (by omega), show (x + 10000 * F.vl l).toNat / 10000 = (F.vl l).toNat by omega]
   rw [F.lb_pos hz]
   simp only [List.cons.injEq, and_true]
   omega

theorem F.lb_len {k : Nat} : ∀ {n : Nat}, n < 10000 ^ k → (F.lb n).length ≤ k := by
  induction k with
  | zero => intro n h; have : n = 0 := by simpa using h
            subst this; rw [F.lb_zero]; exact Nat.le_refl _
  | succ k ih =>
    intro n h
    by_cases hz : n = 0
    · subst hz; rw [F.lb_zero]; exact Nat.zero_le _
    · rw [F.lb_pos hz, List.length_cons]
      have := ih (n := n / 10000) (by rw [Nat.pow_succ] at h; omega)
      omega

theorem F.lb_ge {k : Nat} : ∀ {n : Nat}, 10000 ^ k ≤ n → k < (F.lb n).length := by
  induction k with
  | zero => intro n h; rw [F.lb_pos (by have : 1 ≤ n := by simpa using h
                                        omega), List.length_cons]; omega
  | succ k ih =>
    intro n h
    have hp : 1 ≤ 10000 ^ k := Nat.one_le_pow _ _ (by decide)
    rw [Nat.pow_succ] at h
    rw [F.lb_pos (by omega), List.length_cons]
    have := ih (n := n / 10000) (by omega)
    omega

def F.addL : Int → List Int → List Int → List Int
 | c, [], [] => if 0 < c then [c] else []
 | c, x :: a, [] => (c + x) % 10000 :: F.addL ((c + x) / 10000) a []
 | c, [], y :: b => (c + y) % 10000 :: F.addL ((c + y) / 10000) [] b
 | c, x :: a, y :: b => (c + x + y) % 10000 :: F.addL ((c + x + y) / 10000) a b
termination_by _ a b => a.length + b.length

theorem F.addL_eq : ∀ (k m n c : Nat), m + n ≤ k → c ≤ 1 → F.addL c (F.lb m) (F.lb n) = F.lb (c + m + n) := by
 intro k
 induction k with
 | zero =>
  intro m n c hk hc
  have hm : m = 0 := by omega
  have hn : n = 0 := by omega
  subst hm; subst hn
  rw [F.lb_zero, F.addL]
  by_cases h : c = 0
  ·subst h; simp [F.lb_zero]
  ·have : c = 1 := by omega
   subst this
   rw [F.lb_pos (by omega), F.lb_zero]; simp
 | succ k ih =>
  intro m n c hk hc
  by_cases hm : m = 0
  ·subst hm
   by_cases hn : n = 0
   ·subst hn
    exact ih 0 0 c (by omega) hc
   ·rw [F.lb_zero, F.lb_pos hn, F.addL]
    have h2 := ih 0 (n / 10000) ((c + n % 10000) / 10000) (by omega) (by omega)
    rw [F.lb_zero] at h2
    rw [F.lb_pos (n := c + 0 + n) (by omega), show (c + 0 + n) / 10000 = (c + n % 10000) / 10000 + 0 + n / 10000 by omega, ← h2]
    congr 1
    omega
  ·by_cases hn : n = 0
   ·subst hn
    rw [F.lb_zero, F.lb_pos hm, F.addL]
    have h2 := ih (m / 10000) 0 ((c + m % 10000) / 10000) (by omega) (by omega)
    rw [F.lb_zero] at h2
    rw [F.lb_pos (n := c + m + 0) (by omega), show (c + m + 0) / 10000 = (c + m % 10000) / 10000 + m / 10000 + 0 by omega, ← h2]
    congr 1
    omega
   ·rw [F.lb_pos hm, F.lb_pos hn, F.addL]
    have h2 := ih (m / 10000) (n / 10000) ((c + m % 10000 + n % 10000) / 10000) (by omega) (by omega)
    rw [F.lb_pos (n := c + m + n) (by omega), show (c + m + n) / 10000 = (c + m % 10000 + n % 10000) / 10000 + m / 10000 + n / 10000 by omega, ← h2]
    congr 1
    omega

def F.subL : Int → List Int → List Int → List Int
 | _, [], _ => []
 | c, x :: a, [] => if x - c < 0 then (x - c + 10000) :: F.subL 1 a [] else (x - c) :: F.subL 0 a []
 | c, x :: a, y :: b => if x - c - y < 0 then (x - c - y + 10000) :: F.subL 1 a b else (x - c - y) :: F.subL 0 a b

theorem F.okLm_cons {x : Int} {l : List Int} (h1 : 0 ≤ x ∧ x ≤ 9999) (h2 : F.okLm l) : F.okLm (x :: l) := fun y hy => by
 rcases List.mem_cons.1 hy with rfl | hy
 ·exact h1
 ·exact h2 y hy

theorem F.okLm_nil : F.okLm [] := fun y hy => by cases hy

theorem F.subL_eq : ∀ (a b : List Int) (c : Int), F.okLm a → F.okLm b → b.length ≤ a.length → (c = 0 ∨ c = 1) →
  F.okLm (F.subL c a b) ∧ (F.vl (F.subL c a b) = F.vl a - F.vl b - c ∨ F.vl a - F.vl b - c < 0)
 | [], [], c, _, _, _, hc => ⟨by rw [F.subL]; exact F.okLm_nil, by
   simp only [F.subL, F.vl]; omega⟩
 | [], y :: b, c, _, _, h, _ => by simp at h
 | x :: a, [], c, ha, hb, _, hc => by
  have h1 := ha x (List.mem_cons_self ..)
  have h2 : F.okLm a := fun y hy => ha y (List.mem_cons_of_mem _ hy)
  rw [F.subL]
  by_cases hx : x - c < 0
  ·rw [if_pos hx]
   obtain ⟨q1, q2⟩ := F.subL_eq a [] 1 h2 hb (by simp) (.inr rfl)
   refine ⟨F.okLm_cons (by omega) q1, ?_⟩
   simp only [F.vl] at q2 ⊢
   omega
  ·rw [if_neg hx]
   obtain ⟨q1, q2⟩ := F.subL_eq a [] 0 h2 hb (by simp) (.inl rfl)
   refine ⟨F.okLm_cons (by omega) q1, ?_⟩
   simp only [F.vl] at q2 ⊢
   omega
 | x :: a, y :: b, c, ha, hb, h, hc => by
  have h1 := ha x (List.mem_cons_self ..)
  have h2 : F.okLm a := fun y hy => ha y (List.mem_cons_of_mem _ hy)
  have h3 := hb y (List.mem_cons_self ..)
  have h4 : F.okLm b := fun z hz => hb z (List.mem_cons_of_mem _ hz)
  rw [F.subL]
  by_cases hx : x - c - y < 0
  ·rw [if_pos hx]
   obtain ⟨q1, q2⟩ := F.subL_eq a b 1 h2 h4 (by simpa using h) (.inr rfl)
   refine ⟨F.okLm_cons (by omega) q1, ?_⟩
   simp only [F.vl] at q2 ⊢
   omega
  ·rw [if_neg hx]
   obtain ⟨q1, q2⟩ := F.subL_eq a b 0 h2 h4 (by simpa using h) (.inl rfl)
   refine ⟨F.okLm_cons (by omega) q1, ?_⟩
   simp only [F.vl] at q2 ⊢
   omega

theorem F.lb_mono {m n : Nat} (h : m ≤ n) : (F.lb m).length ≤ (F.lb n).length := by
 rcases Nat.eq_zero_or_pos (F.lb m).length with h0 | h0
 ·omega
 ·obtain ⟨k, hk⟩ : ∃ k, (F.lb m).length = k + 1 := ⟨(F.lb m).length - 1, by omega⟩
  rcases Nat.lt_or_ge m (10000 ^ k) with h1 | h1
  ·have := F.lb_len h1; omega
  ·have := F.lb_ge (Nat.le_trans h1 h); omega

theorem F.sub_lb {m n : Nat} (h : n ≤ m) : F.trimL (F.subL 0 (F.lb m) (F.lb n)) = F.lb (m - n) := by
 obtain ⟨q1, q2⟩ := F.subL_eq (F.lb m) (F.lb n) 0 (F.lb_ok m) (F.lb_ok n) (F.lb_mono h) (.inl rfl)
 rw [F.vl_lb, F.vl_lb] at q2
 rw [F.trimL_eq q1]
 congr 1
 omega

def F.cmpA : List Int → List Int → Int
 | x :: a, y :: b => if F.cmpA a b ≠ 0 then F.cmpA a b else if x < y then -1 else if y < x then 1 else 0
 | _, _ => 0

def F.cmpL (a b : List Int) : Int := if a.length < b.length then -1 else if b.length < a.length then 1 else F.cmpA a b

def F.sgnL (a b : Int) : Int := if a < b then -1 else if b < a then 1 else 0

theorem F.sgnL_step {x y p q : Int} (h1 : 0 ≤ x ∧ x ≤ 9999) (h3 : 0 ≤ y ∧ y ≤ 9999) :
  (if F.sgnL p q ≠ 0 then F.sgnL p q else if x < y then -1 else if y < x then 1 else 0) = F.sgnL (x + 10000 * p) (y + 10000 * q) := by
 unfold F.sgnL
 by_cases c1 : p < q
 ·rw [if_pos c1, if_pos (by decide), if_pos (show x + 10000 * p < y + 10000 * q by omega)]
 ·by_cases c2 : q < p
  ·rw [if_neg c1, if_pos c2, if_pos (by decide), if_neg (show ¬ x + 10000 * p < y + 10000 * q by omega), if_pos (show y + 10000 * q < x + 10000 * p by omega)]
  ·have : p = q := by omega
   subst this
   rw [if_neg c1, if_neg c1, if_neg (by decide)]
   by_cases d1 : x < y
   ·rw [if_pos d1, if_pos (by omega)]
   ·by_cases d2 : y < x
    ·rw [if_neg d1, if_pos d2, if_neg (by omega), if_pos (by omega)]
    ·rw [if_neg d1, if_neg d2, if_neg (by omega), if_neg (by omega)]

theorem F.cmpA_eq : ∀ {a b : List Int}, F.okLm a → F.okLm b → a.length = b.length → F.cmpA a b = F.sgnL (F.vl a) (F.vl b)
 | [], [], _, _, _ => rfl
 | x :: a, y :: b, ha, hb, h => by
  have h1 := ha x (List.mem_cons_self ..)
  have h3 := hb y (List.mem_cons_self ..)
  have ih := F.cmpA_eq (a := a) (b := b) (fun z hz => ha z (List.mem_cons_of_mem _ hz)) (fun z hz => hb z (List.mem_cons_of_mem _ hz)) (by simpa using h)
  rw [F.cmpA, ih]
  exact F.sgnL_step h1 h3
 | [], y :: b, _, _, h => by simp at h
 | x :: a, [], _, _, h => by simp at h

theorem F.cmp_lb (m n : Nat) : F.cmpL (F.lb m) (F.lb n) = F.sgnL m n := by
 unfold F.cmpL
 by_cases h1 : (F.lb m).length < (F.lb n).length
 ·have : m < n := Nat.lt_of_not_le fun h => by have := F.lb_mono h; omega
  rw [if_pos h1, F.sgnL, if_pos (by omega)]
 ·by_cases h2 : (F.lb n).length < (F.lb m).length
  ·have : n < m := Nat.lt_of_not_le fun h => by have := F.lb_mono h; omega
   rw [if_neg h1, if_pos h2, F.sgnL, if_neg (by omega), if_pos (by omega)]
  ·rw [if_neg h1, if_neg h2, F.cmpA_eq (F.lb_ok m) (F.lb_ok n) (by omega), F.vl_lb, F.vl_lb]

def F.mrow (x : Int) : Int → List Int → List Int → List Int
 | c, o :: os, y :: b => (o + x * y + c) % 10000 :: F.mrow x ((o + x * y + c) / 10000) os b
 | c, o :: os, [] => (o + c) :: os
 | _, [], _ => []

theorem F.mul_bd {x y : Int} (hx : 0 ≤ x ∧ x ≤ 9999) (hy : 0 ≤ y ∧ y ≤ 9999) : 0 ≤ x * y ∧ x * y ≤ 99980001 := by
 refine ⟨Int.mul_nonneg hx.1 hy.1, ?_⟩
 have h1 : x * y ≤ 9999 * y := Int.mul_le_mul_of_nonneg_right hx.2 hy.1
 omega

theorem F.mrow_eq {x : Int} (hx : 0 ≤ x ∧ x ≤ 9999) : ∀ (b os : List Int) (c : Int), F.okLm b → F.okLm os → b.length < os.length → (0 ≤ c ∧ c ≤ 9999) →
  F.vl (F.mrow x c os b) = F.vl os + x * F.vl b + c ∧ (F.mrow x c os b).length = os.length
 | [], o :: os, c, _, _, _, _ => by
  rw [F.mrow]
  refine ⟨?_, rfl⟩
  simp only [F.vl, Int.mul_zero]
  omega
 | y :: b, o :: os, c, hb, ho2, h, hc => by
  have h3 := hb y (List.mem_cons_self ..)
  rw [F.mrow]
  have hm := F.mul_bd hx h3
  have ho := ho2 o (List.mem_cons_self ..)
  obtain ⟨q1, q2⟩ := F.mrow_eq hx b os ((o + x * y + c) / 10000) (fun z hz => hb z (List.mem_cons_of_mem _ hz)) (fun z hz => ho2 z (List.mem_cons_of_mem _ hz)) (by simpa using h) (by omega)
  refine ⟨?_, by rw [List.length_cons, q2, List.length_cons]⟩
  simp only [F.vl, q1, Int.mul_add]
  rw [show x * (10000 * F.vl b) = 10000 * (x * F.vl b) by rw [← Int.mul_assoc, Int.mul_comm x 10000, Int.mul_assoc]]
  omega
 | [], [], c, _, _, h, _ => by simp at h
 | y :: b, [], c, _, _, h, _ => by simp at h

def F.zeroFrom (k : Nat) (l : List Int) : Prop := ∀ z ∈ l.drop k, z = 0

theorem F.mrow_ok {x : Int} (hx : 0 ≤ x ∧ x ≤ 9999) : ∀ (b os : List Int) (c : Int), F.okLm b → F.okLm os → F.zeroFrom b.length os → (0 ≤ c ∧ c ≤ 9999) →
  F.okLm (F.mrow x c os b) ∧ F.zeroFrom (b.length + 1) (F.mrow x c os b)
 | [], o :: os, c, _, ho, hz, hc => by
  have h0 : o = 0 := hz o (by simp)
  rw [F.mrow]
  refine ⟨F.okLm_cons (by omega) fun z h => ho z (List.mem_cons_of_mem _ h), fun z h => hz z ?_⟩
  exact List.mem_cons_of_mem _ (by simpa using h)
 | y :: b, o :: os, c, hb, ho2, hz, hc => by
  have h3 := hb y (List.mem_cons_self ..)
  have hm := F.mul_bd hx h3
  have ho := ho2 o (List.mem_cons_self ..)
  rw [F.mrow]
  obtain ⟨q1, q2⟩ := F.mrow_ok hx b os ((o + x * y + c) / 10000) (fun z hz => hb z (List.mem_cons_of_mem _ hz)) (fun z hz => ho2 z (List.mem_cons_of_mem _ hz)) (fun z h => hz z (by simpa using h)) (by omega)
  exact ⟨F.okLm_cons (by omega) q1, fun z h => q2 z (by simpa using h)⟩
 | [], [], c, _, _, _, _ => by
  rw [F.mrow]
  exact ⟨F.okLm_nil, fun z h => by simp at h⟩
 | y :: b, [], c, _, _, _, _ => by
  rw [F.mrow]
  exact ⟨F.okLm_nil, fun z h => by simp at h⟩

def F.mulR (b : List Int) : List Int → List Int → List Int
 | [], out => out
 | x :: a, out => match F.mrow x 0 out b with
  | [] => []
  | o :: os => o :: F.mulR b a os

theorem F.mulR_eq {b : List Int} (hb : F.okLm b) : ∀ (a out : List Int), F.okLm a → F.okLm out → F.zeroFrom b.length out → a.length + b.length ≤ out.length →
  F.okLm (F.mulR b a out) ∧ F.vl (F.mulR b a out) = F.vl out + F.vl a * F.vl b ∧ (F.mulR b a out).length = out.length
 | [], out, _, ho, _, _ => by
  rw [F.mulR]
  exact ⟨ho, by rw [F.vl, Int.zero_mul]; omega, rfl⟩
 | x :: a, out, ha, ho, hz, hl => by
  have h1 := ha x (List.mem_cons_self ..)
  rw [List.length_cons] at hl
  obtain ⟨q1, q2⟩ := F.mrow_eq h1 b out 0 hb ho (by omega) (by omega)
  obtain ⟨q3, q4⟩ := F.mrow_ok h1 b out 0 hb ho hz (by omega)
  rw [F.mulR]
  cases hr : F.mrow x 0 out b with
  | nil => rw [hr] at q2; simp at q2; omega
  | cons o os =>
   rw [hr] at q1 q2 q3 q4
   rw [List.length_cons] at q2
   obtain ⟨r1, r2, r3⟩ := F.mulR_eq hb a os (fun z h => ha z (List.mem_cons_of_mem _ h)) (fun z h => q3 z (List.mem_cons_of_mem _ h)) (fun z h => q4 z (by simpa using h)) (by omega)
   refine ⟨F.okLm_cons (q3 o (List.mem_cons_self ..)) r1, ?_, by simp only [List.length_cons, r3]; omega⟩
   simp only [F.vl, r2] at q1 ⊢
   rw [Int.add_mul, Int.mul_assoc]
   omega

theorem F.mul_lb (m n : Nat) : F.trimL (F.mulR (F.lb n) (F.lb m) (List.replicate ((F.lb m).length + (F.lb n).length) 0)) = F.lb (m * n) := by
 have hz : ∀ k : Nat, F.vl (List.replicate k 0) = 0 := fun k => by
  induction k with
  | zero => rfl
  | succ k ih => rw [List.replicate_succ, F.vl, ih]; rfl
 obtain ⟨q1, q2, q3⟩ := F.mulR_eq (F.lb_ok n) (F.lb m) (List.replicate ((F.lb m).length + (F.lb n).length) 0) (F.lb_ok m)
  (fun x hx => by have := (List.mem_replicate.1 hx).2; omega) (fun x hx => (List.mem_replicate.1 (List.mem_of_mem_drop hx)).2) (by simp)
 rw [F.trimL_eq q1, q2, hz, F.vl_lb, F.vl_lb]
 congr 1
 have : (0 : Int) + (m : Int) * (n : Int) = ((m * n : Nat) : Int) := by rw [Int.natCast_mul]; omega
 rw [this]
 rfl

def F.nv (l : List Int) : Nat := (F.vl l).toNat

theorem F.nv_lb (n : Nat) : F.nv (F.lb n) = n := by unfold F.nv; rw [F.vl_lb]; rfl

def F.nk (k : Nat) (l : List Int) : Bool := decide (F.lb (F.nv l) = l) && decide (l.length ≤ k)

theorem F.nk_of {k : Nat} {l : List Int} (h : F.nk k l = true) : ∃ n, l = F.lb n ∧ n < 10000 ^ k := by
 unfold F.nk at h
 simp only [Bool.and_eq_true, decide_eq_true_eq] at h
 refine ⟨F.nv l, h.1.symm, ?_⟩
 rcases Nat.lt_or_ge (F.nv l) (10000 ^ k) with h1 | h1
 ·exact h1
 ·have := F.lb_ge h1
  rw [h.1] at this
  omega

theorem F.nk_lb {k n : Nat} (h : n < 10000 ^ k) : F.nk k (F.lb n) = true := by
 unfold F.nk
 rw [F.nv_lb, decide_eq_true rfl, decide_eq_true (F.lb_len h)]
 rfl

theorem F.nk_len {k : Nat} {l : List Int} (h : F.nk k l = true) : l.length ≤ k := by
 unfold F.nk at h
 simp only [Bool.and_eq_true, decide_eq_true_eq] at h
 exact h.2

theorem F.lb_nil {n : Nat} : F.lb n = [] ↔ n = 0 := by
 constructor
 ·intro h
  have := congrArg F.nv h
  rw [F.nv_lb] at this
  exact this
 ·rintro rfl; exact F.lb_zero

theorem F.lb_emp (n : Nat) : (F.lb n).length = 0 ↔ n = 0 := by rw [List.length_eq_zero_iff, F.lb_nil]

theorem F.lb_one : F.lb 1 = [1] := by rw [F.lb_pos (by decide), show (1 : Nat) / 10000 = 0 by decide, F.lb_zero]; rfl

theorem F.trimL_cons {x r : Nat} (hx : x ≤ 9999) : F.trimL ((x : Int) :: F.lb r) = F.lb (x + 10000 * r) := by
 rw [F.trimL_eq (F.okLm_cons (by omega) (F.lb_ok r)), F.vl, F.vl_lb]
 congr 1

def F.dqo (b : Nat) : List Int → List Int × Nat
 | [] => ([], 0)
 | x :: l => ((((x.toNat + 10000 * (F.dqo b l).2) / b : Nat) : Int) :: (F.dqo b l).1, (x.toNat + 10000 * (F.dqo b l).2) % b)

theorem F.dqo_eq {b : Nat} (hb : 0 < b) : ∀ {l : List Int}, F.okLm l →
  F.okLm (F.dqo b l).1 ∧ F.vl (F.dqo b l).1 = ((F.nv l / b : Nat) : Int) ∧ (F.dqo b l).2 = F.nv l % b ∧ (F.dqo b l).1.length = l.length
 | [], _ => ⟨F.okLm_nil, by rw [F.dqo, F.vl, show F.nv [] = 0 from rfl, Nat.zero_div]; rfl, by rw [F.dqo, show F.nv [] = 0 from rfl, Nat.zero_mod], rfl⟩
 | x :: l, h => by
  have h1 := h x (List.mem_cons_self ..)
  have h2 : F.okLm l := fun y hy => h y (List.mem_cons_of_mem _ hy)
  obtain ⟨q1, q2, q3, q4⟩ := F.dqo_eq hb h2
  have h3 := F.vl_nn h2
  have hr : (F.dqo b l).2 < b := by rw [q3]; exact Nat.mod_lt _ hb
  have hv : F.nv (x :: l) = x.toNat + 10000 * F.nv l := by unfold F.nv; rw [F.vl]; omega
  have e1 := Nat.div_add_mod (F.nv l) b
  rw [← q3] at e1
  have hd : F.nv (x :: l) = (x.toNat + 10000 * (F.dqo b l).2) + b * (10000 * (F.nv l / b)) := by
   rw [hv, Nat.mul_left_comm]; omega
  have hlt : (x.toNat + 10000 * (F.dqo b l).2) / b < 10000 := by
   rw [Nat.div_lt_iff_lt_mul hb]; omega
  rw [F.dqo]
  refine ⟨F.okLm_cons (by generalize (x.toNat + 10000 * (F.dqo b l).2) / b = q at hlt ⊢; omega) q1, ?_, ?_, by simp [q4]⟩
  ·show F.vl (_ :: _) = _
   rw [F.vl, q2, hd, Nat.add_mul_div_left _ _ hb]
   omega
  ·show _ % b = _
   rw [hd, Nat.add_mul_mod_self_left]

theorem F.dqo_lb {b : Nat} (hb : 0 < b) (a : Nat) : F.trimL (F.dqo b (F.lb a)).1 = F.lb (a / b) ∧ (F.dqo b (F.lb a)).2 = a % b := by
 obtain ⟨q1, q2, q3, q4⟩ := F.dqo_eq hb (F.lb_ok a)
 rw [F.nv_lb] at q2 q3
 refine ⟨?_, q3⟩
 rw [F.trimL_eq q1, q2]; rfl

theorem F.lb_lt {m k n : Nat} (h : n < 10000 ^ m) (hm : m ≤ k) : n < 10000 ^ k := Nat.lt_of_lt_of_le h (Nat.pow_le_pow_right (by decide) hm)

theorem F.mul_lt {m n j k : Nat} (h1 : m < 10000 ^ j) (h2 : n < 10000 ^ k) : m * n < 10000 ^ (j + k) := by
 rw [Nat.pow_add]; exact Nat.mul_lt_mul'' h1 h2

theorem F.add_lt {m n k : Nat} (h1 : m < 10000 ^ k) (h2 : n < 10000 ^ k) : m + n < 10000 ^ (k + 1) := by
 rw [Nat.pow_succ]; omega

theorem F.sgnL_le (m n : Nat) : decide (F.sgnL (m : Int) (n : Int) ≤ 0) = decide (m ≤ n) := by
 unfold F.sgnL
 by_cases h : m ≤ n
 ·rw [decide_eq_true h]
  by_cases h2 : m < n
  ·rw [if_pos (by omega)]; rfl
  ·rw [if_neg (by omega), if_neg (by omega)]; rfl
 ·rw [decide_eq_false h, if_neg (by omega), if_pos (by omega)]; rfl

theorem F.sgnL_ge (m n : Nat) : decide (0 ≤ F.sgnL (m : Int) (n : Int)) = decide (n ≤ m) := by
 unfold F.sgnL
 by_cases h : n ≤ m
 ·rw [decide_eq_true h, if_neg (by omega)]
  by_cases h2 : n < m
  ·rw [if_pos (by omega)]; rfl
  ·rw [if_neg (by omega)]; rfl
 ·rw [decide_eq_false h, if_pos (by omega)]; rfl

theorem F.sgnL_eq (m n : Nat) : (F.sgnL (m : Int) (n : Int) == 0) = decide (m = n) := by
 unfold F.sgnL
 by_cases h : m = n
 ·rw [decide_eq_true h, if_neg (by omega), if_neg (by omega)]; rfl
 ·rw [decide_eq_false h]
  by_cases h2 : m < n
  ·rw [if_pos (by omega)]; rfl
  ·rw [if_neg (by omega), if_pos (by omega)]; rfl

theorem F.div_le {b R mid : Nat} (hb : 0 < b) : b * mid ≤ R ↔ mid ≤ R / b := by
 rw [Nat.le_div_iff_mul_le hb, Nat.mul_comm]

def F.trimN (l : List Int) : Nat → Nat
 | 0 => 0
 | n + 1 => bif l.getD n 0 == 0 then F.trimN l n else n + 1

theorem F.trimN_le (l : List Int) : ∀ n, F.trimN l n ≤ n
 | 0 => Nat.le_refl _
 | n + 1 => by
  have := F.trimN_le l n
  rw [F.trimN]
  cases l.getD n 0 == 0
  ·exact Nat.le_refl _
  ·exact Nat.le_succ_of_le this

theorem F.trimL_z : ∀ l : List Int, F.trimL (l ++ [0]) = F.trimL l
 | [] => rfl
 | x :: l => by
  have ih := F.trimL_z l
  rw [List.cons_append, F.trimL, ih, F.trimL]

theorem F.trimL_x {x : Int} (h : x ≠ 0) : ∀ l : List Int, F.trimL (l ++ [x]) = l ++ [x]
 | [] => by rw [List.nil_append, F.trimL, F.trimL]; simp [h]
 | y :: l => by
  have ih := F.trimL_x h l
  rw [List.cons_append, F.trimL, ih]
  cases l <;> rfl

theorem F.trimN_eq (l : List Int) : ∀ n, n ≤ l.length → l.take (F.trimN l n) = F.trimL (l.take n)
 | 0, _ => by rw [F.trimN, List.take_zero]; rfl
 | n + 1, h => by
  have hlt : n < l.length := h
  have ih := F.trimN_eq l n (by omega)
  have hg : l.getD n 0 = l[n] := by simp [List.getD, List.getElem?_eq_getElem hlt]
  rw [F.trimN, hg, List.take_succ_eq_append_getElem hlt]
  cases hc : l[n] == 0
  ·have hx : l[n] ≠ 0 := by simpa using hc
   rw [F.trimL_x hx, cond_false, List.take_succ_eq_append_getElem hlt]
  ·have hx : l[n] = 0 := by simpa using hc
   rw [hx, F.trimL_z, cond_true, ih]

namespace M

theorem idx_n {j : Nat} (h : j + 1 ≤ 9223372036854775807) : idx (j : Int) = some j := by
 have hw : IntKind.i64.wrap (((j + 1 : Nat) : Int) - 1) = (j : Int) := by rw [wrap_id (by omega) (by omega)]; omega
 have := idx_sub h
 rw [hw] at this
 exact this

def stTrm (l : List Int) (n : Nat) : St := ⟨[(3, vI n), (0, .sl (l.map eI))], []⟩

def stTrm1 (a : (List Int) × Nat) : St := stTrm a.1 a.2

theorem stTrm_inj (a a' : (List Int) × Nat) (h : stTrm1 a = stTrm1 a') : a = a' := by
 simp only [stTrm1, stTrm] at h
 try simp [ints_inj] at h
 grind

theorem unstTrm (l : List Int) (n : Nat) : unenc stTrm1 (St.mk [(3, (vI (↑n : Int))), (0, AV.sl (List.map eI l))] []) = some (l, n) := unenc_of stTrm_inj (l, n) rfl

def outTrm (l : List Int) (n : Nat) : T (Ex × St) := .ret (.exit 0, ⟨[(3, vI (F.trimN l n)), (0, .sl (l.map eI))], []⟩)

noncomputable def prlTrm (l : List Int) (n : Nat) : Bool := decide (l.length ≤ 100000) && decide (n ≤ l.length)

noncomputable def lpTrm : Nat × (St → T (Ex × St)) := (2, lpo [3, 0] [] stTrm1 (fun a => prlTrm a.1 a.2) fun a => outTrm a.1 a.2)

noncomputable def enTrm : Env := envH ty noG lks [] [] [] [lpTrm]

theorem enTrm_ok : EnvOK Tryz.prog enTrm := by
 refine envH_ok lks_ok ty_ok ?_ ?_
 ·simp
 ·simp

theorem evTrmL (l : List Int) (n : Nat) : ((exec enTrm (loopN Tryz.f208 0) (stTrm l n)).bind (lessX ([3, 0], []) ([3, 0], []) ([], []))).val =
 bif decide ((0 : Int) < (↑n : Int)) then Option.bind (idx (IntKind.i64.wrap ((↑n : Int) - (1 : Int)))) fun z => Option.bind (unenc (List.map eI) (List.map
 eI l)) fun z_1 => bif decide (z < List.length z_1) then bif List.getD z_1 z 0 == 0 then some (Ex.normal, St.mk [(3, (vI (IntKind.wrap
 IntKind.i64 ((↑n : Int) - (1 : Int))))), (0, AV.sl (List.map eI l))] []) else some (Ex.exit (0 : Nat), St.mk [(3, (vI (↑n : Int))), (0, AV.sl (List.map eI l))] []) else
 none else some (Ex.exit (0 : Nat), St.mk [(3, (vI (↑n : Int))), (0, AV.sl (List.map eI l))] []) := (execR_bind _ _ _).symm.trans (by kernel_rfl)

theorem lpTrm_ok (l : List Int) (n : Nat) (hp : prlTrm l n = true) : ∀ ex s', (outTrm l n).val = some (ex, s') → LoopOK enTrm (loopN Tryz.f208 0) (stTrm l n) ex s' := by
 simp only [prlTrm, Bool.and_eq_true, decide_eq_true_eq] at hp
 refine loop_gen (st := fun n => stTrm l n) (out := fun n => outTrm l n) (I := fun n => n ≤ l.length) (n := ([3, 0], [])) (e := ([3, 0], [])) (r := ([], [])) (fun n => n) ?_ n hp.2
 intro n hn
 have h1 := hp.1
 cases n with
 | zero =>
  left
  refine ⟨(.exit 0, ⟨[(3, vI 0), (0, .sl (l.map eI))], []⟩), ?_, rfl, by simp, rfl⟩
  rw [evTrmL]
  simp
 | succ j =>
  have hlt : j < l.length := hn
  have hy : l[j]? = some l[j] := List.getElem?_eq_getElem hlt
  have hg : l.getD j 0 = l[j] := by simp [hy]
  generalize l[j] = y at hy hg
  have hz : decide ((0 : Int) < ((j + 1 : Nat) : Int)) = true := decide_eq_true (by omega)
  have hw : IntKind.i64.wrap (((j + 1 : Nat) : Int) - 1) = (j : Int) := by rw [wrap_id (by omega) (by omega)]; omega
  have hi : idx ((j : Nat) : Int) = some j := by
   have := idx_sub (j := j) (by omega)
   rw [hw] at this
   exact this
  cases hc : (y == 0)
  ·left
   refine ⟨(.exit 0, ⟨[(3, vI (j + 1 : Nat)), (0, .sl (l.map eI))], []⟩), ?_, ?_, by simp, rfl⟩
   ·rw [evTrmL]
    simp only [Option.bind_some, unInts, cond_true, cond_false, hz, idx_sub (by omega : j + 1 ≤ 9223372036854775807), decide_eq_true hlt, getD_at hy, hc]
   ·simp only [outTrm, F.trimN, hg, hc]
    rfl
  ·right
   refine ⟨j, ?_, rfl, by omega, by omega, ?_⟩
   ·rw [evTrmL]
    simp only [Option.bind_some, unInts, cond_true, hz, hw, hi, decide_eq_true hlt, getD_at hy, hc, stTrm]
   ·simp only [outTrm, F.trimN, hg, hc, cond_true]

theorem evTrm (l : List Int) : (runF enTrm false Tryz.f208 [.sl (l.map eI)]).val =
 Option.bind (unenc stTrm1 (St.mk [(3, (vI (↑(List.length (List.map eI l)) : Int))), (0, AV.sl (List.map eI l))] [])) fun z => bif decide (List.length
 z.1 ≤ 100000) && decide (z.2 ≤ List.length z.1) && true then bif Nat.ble (0 : Nat) (F.trimN z.1 z.2) && Nat.ble (F.trimN z.1 z.2) (List.length
 (List.map eI z.1)) && List.all (List.map eI z.1) fun (r : Row) => Nat.beq (List.length r) (1 : Nat) then some (AV.sl (List.take (F.trimN z.1 z.2) (List.map eI
 z.1)), []) else none else none := (runFR_val).symm.trans (by kernel_rfl)

def encTrm1 (l : List Int) : List AV := [.sl (l.map eI)]

def encTrm (a : (List Int)) : List AV := encTrm1 a

theorem encTrm_inj (a a' : (List Int)) (h : encTrm a = encTrm a') : a = a' := by
 simp only [encTrm, encTrm1] at h
 try simp [ints_inj] at h
 grind

theorem unTrm (l : List Int) : unenc encTrm ([AV.sl (List.map eI l)]) = some (l) := unenc_of encTrm_inj (l) rfl

def resTrm1 (l : List Int) : AV × Heap := (.sl ((F.trimL l).map eI), [])

def preTrm1 (l : List Int) : Bool := decide (l.length ≤ 100000)

noncomputable def oTrm : Orc := orc 208 false encTrm (fun a => preTrm1 a) fun a => resTrm1 a

theorem okTrm : OrcOK Tryz.prog noG oTrm := by
 refine mk_ok Tryz.f208 (keep := false) (by kernel_rfl) (by kernel_rfl) enTrm_ok mixed (one_loop (x0 := loopN Tryz.f208 0) (by kernel_rfl) (lpo_ok ?_)) (by first | exact fun _ _ => ⟨rfl, rfl⟩ | (intro h; cases h)) ?_
 ·rintro ⟨l, n⟩ hp
  exact lpTrm_ok l n hp
 rintro l hpre hok
 show (runF enTrm false _ (encTrm1 _)).val = some (resTrm1 _)
 unfold encTrm1 resTrm1
 rw [evTrm]
 have hx : l.length ≤ 100000 := of_decide_eq_true hpre
 have ht := F.trimN_le l l.length
 have e := F.trimN_eq l l.length (Nat.le_refl _)
 rw [List.take_length] at e
 simp only [unstTrm, Option.bind_some, List.length_map, cond_true, Bool.and_true, hx, Nat.le_refl, decide_true]
 have h3 : ((l.map eI).all fun r => (List.length r).beq 1) = true := List.all_eq_true.2 fun r hr => by
  obtain ⟨x, _, rfl⟩ := List.mem_map.1 hr
  rfl
 rw [ble_t (Nat.zero_le _), ble_t ht, h3, ← List.map_take, e]
 rfl

end M

def F.cmpK (a b : List Int) : Nat → Int
 | 0 => 0
 | k + 1 => bif decide (a.getD k 0 < b.getD k 0) then -1 else bif decide (b.getD k 0 < a.getD k 0) then 1 else F.cmpK a b k

theorem F.cmpA_app : ∀ (a b : List Int) (x y : Int), a.length = b.length → F.cmpA (a ++ [x]) (b ++ [y]) = if x < y then -1 else if y < x then 1 else F.cmpA a b
 | [], [], x, y, _ => by simp [F.cmpA]
 | p :: a, q :: b, x, y, h => by
  have ih := F.cmpA_app a b x y (by simpa using h)
  rw [List.cons_append, List.cons_append, F.cmpA, ih, F.cmpA]
  by_cases h1 : x < y
  ·simp [h1]
  ·by_cases h2 : y < x
   ·simp [h1, h2]
   ·simp [h1, h2]

theorem F.cmpK_eq {a b : List Int} (h : a.length = b.length) : ∀ k, k ≤ a.length → F.cmpK a b k = F.cmpA (a.take k) (b.take k)
 | 0, _ => rfl
 | k + 1, hk => by
  have h1 : k < a.length := hk
  have h2 : k < b.length := by omega
  have ih := F.cmpK_eq h k (by omega)
  rw [List.take_succ_eq_append_getElem h1, List.take_succ_eq_append_getElem h2, F.cmpA_app _ _ _ _ (by simp; omega), F.cmpK, ih]
  simp only [List.getD, List.getElem?_eq_getElem h1, List.getElem?_eq_getElem h2, Option.getD_some, Bool.cond_decide]

theorem F.cmpK_all {a b : List Int} (h : a.length = b.length) : F.cmpK a b a.length = F.cmpL a b := by
 rw [F.cmpK_eq h _ (Nat.le_refl _), List.take_length, h, List.take_length]
 unfold F.cmpL
 rw [if_neg (by omega), if_neg (by omega)]

namespace M

def stCpr (a : List Int) (b : List Int) (i : Int) : St := ⟨[(5, vI i), (1, .sl (b.map eI)), (0, .sl (a.map eI))], []⟩

def stCpr1 (a : (List Int) × (List Int) × Int) : St := stCpr a.1 a.2.1 a.2.2

theorem stCpr_inj (a a' : (List Int) × (List Int) × Int) (h : stCpr1 a = stCpr1 a') : a = a' := by
 simp only [stCpr1, stCpr] at h
 try simp [ints_inj] at h
 grind

theorem unstCpr (a : List Int) (b : List Int) (i : Int) : unenc stCpr1 (St.mk [(5, (vI i)), (1, AV.sl (List.map eI b)), (0, AV.sl (List.map eI a))] []) = some (a, b, i) := unenc_of stCpr_inj (a, b, i) rfl

def outCpr (a : List Int) (b : List Int) (i : Int) : T (Ex × St) := .ifB (F.cmpK a b (i + 1).toNat == 0) (.ret (.exit 0, ⟨[], []⟩)) (.ret (.ret, ⟨[(4, vI (F.cmpK a b (i + 1).toNat))], []⟩))

noncomputable def prlCpr (a : List Int) (b : List Int) (i : Int) : Bool := decide (a.length ≤ 1000) && decide (a.length = b.length) && decide (-1 ≤ i) && decide (i < a.length)

noncomputable def lpCpr : Nat × (St → T (Ex × St)) := (6, lpo [5, 1, 0] [] stCpr1 (fun a => prlCpr a.1 a.2.1 a.2.2) fun a => outCpr a.1 a.2.1 a.2.2)

noncomputable def enCpr : Env := envH ty noG lks [] [] [] [lpCpr]

theorem enCpr_ok : EnvOK Tryz.prog enCpr := by
 refine envH_ok lks_ok ty_ok ?_ ?_
 ·simp
 ·simp

theorem evCprL (a : List Int) (b : List Int) (i : Int) : ((exec enCpr (loopN Tryz.f162 0) (stCpr a b i)).bind (lessX ([5, 1, 0], []) ([], []) ([4], []))).val =
 bif decide ((0 : Int) ≤ i) then Option.bind (idx i) fun z => Option.bind (unenc (List.map eI) (List.map eI a)) fun z_1 => bif decide (z < List.length
 z_1) then Option.bind (idx i) fun z_2 => Option.bind (unenc (List.map eI) (List.map eI b)) fun z_3 => bif decide (z_2 < List.length z_3) then bif
 decide (List.getD z_1 z 0 < List.getD z_3 z_2 0) then some (Ex.ret, St.mk [(4, (vI (-1 : Int)))] []) else Option.bind (idx i) fun z => Option.bind
 (unenc (List.map eI) (List.map eI a)) fun z_4 => bif decide (z < List.length z_4) then Option.bind (idx i) fun z_5 => Option.bind (unenc (List.map eI)
 (List.map eI b)) fun z_6 => bif decide (z_5 < List.length z_6) then bif decide (List.getD z_6 z_5 0 < List.getD z_4 z 0) then some (Ex.ret,
 St.mk [(4, (vI 1))] []) else some (Ex.normal, St.mk [(5, (vI (IntKind.i64.wrap (i - (1 : Int))))), (1, AV.sl (List.map eI b)), (0, AV.sl (List.map eI a))]
 []) else none else none else none else none else some (Ex.exit (0 : Nat), St.mk [] []) := (execR_bind _ _ _).symm.trans (by kernel_rfl)

theorem lpCpr_ok (a : List Int) (b : List Int) (i : Int) (hp : prlCpr a b i = true) : ∀ ex s', (outCpr a b i).val = some (ex, s') → LoopOK enCpr (loopN Tryz.f162 0) (stCpr a b i) ex s' := by
 simp only [prlCpr, Bool.and_eq_true, decide_eq_true_eq] at hp
 obtain ⟨⟨⟨h1, h2⟩, h3⟩, h4⟩ := hp
 obtain ⟨n, rfl⟩ : ∃ n : Nat, i = (n : Int) - 1 := ⟨(i + 1).toNat, by omega⟩
 refine loop_gen (st := fun n : Nat => stCpr a b ((n : Int) - 1)) (out := fun n : Nat => outCpr a b ((n : Int) - 1)) (I := fun n => n ≤ a.length) (n := ([5, 1, 0], [])) (e := ([], [])) (r := ([4], [])) (fun n => n) ?_ n (by omega)
 intro n hn
 have e : ((n : Int) - 1 + 1).toNat = n := by omega
 cases n with
 | zero =>
  left
  refine ⟨(.exit 0, ⟨[], []⟩), ?_, ?_, by simp, rfl⟩
  ·rw [evCprL]; simp
  ·simp only [outCpr, e]; rfl
 | succ j =>
  have hlt : j < a.length := hn
  have hlt2 : j < b.length := by omega
  have hy : a[j]? = some a[j] := List.getElem?_eq_getElem hlt
  have hz : b[j]? = some b[j] := List.getElem?_eq_getElem hlt2
  have hg : a.getD j 0 = a[j] := by simp [hy]
  have hg2 : b.getD j 0 = b[j] := by simp [hz]
  generalize a[j] = y at hy hg
  generalize b[j] = z at hz hg2
  have hj : (((j + 1 : Nat) : Int) - 1) = (j : Int) := by omega
  have hw : IntKind.i64.wrap ((j : Int) - 1) = (j : Int) - 1 := wrap_id (by omega) (by omega)
  rw [hj] at e ⊢
  have hi : idx ((j : Nat) : Int) = some j := idx_n (by omega)
  have h0 : decide ((0 : Int) ≤ (j : Int)) = true := decide_eq_true (by omega)
  by_cases c1 : y < z
  ·left
   refine ⟨(.ret, ⟨[(4, vI (-1))], []⟩), ?_, ?_, by simp, rfl⟩
   ·rw [evCprL]
    simp only [Option.bind_some, unInts, cond_true, hi, h0, decide_eq_true hlt, decide_eq_true hlt2, getD_at hy, getD_at hz, decide_eq_true c1]
   ·simp only [outCpr, e, F.cmpK, hg, hg2, decide_eq_true c1]; rfl
  ·by_cases c2 : z < y
   ·left
    refine ⟨(.ret, ⟨[(4, vI 1)], []⟩), ?_, ?_, by simp, rfl⟩
    ·rw [evCprL]
     simp only [Option.bind_some, unInts, cond_true, cond_false, hi, h0, decide_eq_true hlt, decide_eq_true hlt2, getD_at hy, getD_at hz, decide_eq_false c1, decide_eq_true c2]
    ·simp only [outCpr, e, F.cmpK, hg, hg2, decide_eq_false c1, decide_eq_true c2]; rfl
   ·right
    refine ⟨j, ?_, rfl, by omega, by omega, ?_⟩
    ·rw [evCprL]
     simp only [Option.bind_some, unInts, cond_true, cond_false, hi, h0, decide_eq_true hlt, decide_eq_true hlt2, getD_at hy, getD_at hz, decide_eq_false c1, decide_eq_false c2, hw, stCpr]
    ·have e2 : ((j : Int) - 1 + 1).toNat = j := by omega
     simp only [outCpr, e, e2, F.cmpK, hg, hg2, decide_eq_false c1, decide_eq_false c2, cond_false]

theorem evCpr (a : List Int) (b : List Int) : (runF enCpr false Tryz.f162 [.sl (a.map eI), .sl (b.map eI)]).val =
 bif (↑(List.length (List.map eI a)) : Int) != (↑(List.length (List.map eI b)) : Int) then bif decide ((↑(List.length (List.map eI a)) : Int) < (↑(List.length (List.map eI
 b)) : Int)) then some ((vI (-1 : Int)), []) else some ((vI 1), []) else Option.bind (unenc stCpr1 (St.mk [(5, (vI (IntKind.i64.wrap ((↑(List.length
 (List.map eI a)) : Int) - (1 : Int))))), (1, AV.sl (List.map eI b)), (0, AV.sl (List.map eI a))] [])) fun z => bif decide (List.length z.1
 ≤ 1000) && decide (List.length z.1 = List.length z.2.1) && decide ((-1 : Int) ≤ z.2.2) && decide (z.2.2 < (↑(List.length z.1) : Int)) && true then
 bif F.cmpK z.1 z.2.1 (Int.toNat (z.2.2 + 1)) == 0 then some ((vI 0), []) else some ((vI (F.cmpK z.1 z.2.1 (Int.toNat (z.2.2 +
 (1 : Int))))), []) else none := (runFR_val).symm.trans (by kernel_rfl)

def encCpr1 (a : List Int) (b : List Int) : List AV := [.sl (a.map eI), .sl (b.map eI)]

def encCpr (a : (List Int) × (List Int)) : List AV := encCpr1 a.1 a.2

theorem encCpr_inj (a a' : (List Int) × (List Int)) (h : encCpr a = encCpr a') : a = a' := by
 simp only [encCpr, encCpr1] at h
 try simp [ints_inj] at h
 grind

theorem unCpr (a : List Int) (b : List Int) : unenc encCpr ([AV.sl (List.map eI a), AV.sl (List.map eI b)]) = some (a, b) := unenc_of encCpr_inj (a, b) rfl

def resCpr1 (a : List Int) (b : List Int) : AV × Heap := (vI (F.sgnL (F.nv a) (F.nv b)), [])

def preCpr1 (a : List Int) (b : List Int) : Bool := F.nk 1000 a && F.nk 1000 b

noncomputable def oCpr : Orc := orc 162 true encCpr (fun a => preCpr1 a.1 a.2) fun a => resCpr1 a.1 a.2

theorem okCpr : OrcOK Tryz.prog noG oCpr := by
 refine mk_ok Tryz.f162 (keep := false) (by kernel_rfl) (by kernel_rfl) enCpr_ok mixed (one_loop (x0 := loopN Tryz.f162 0) (by kernel_rfl) (lpo_ok ?_)) (by first | exact fun _ _ => ⟨rfl, rfl⟩ | (intro h; cases h)) ?_
 ·rintro ⟨a, b, i⟩ hp
  exact lpCpr_ok a b i hp
 rintro ⟨a, b⟩ hpre hok
 show (runF enCpr false _ (encCpr1 _ _)).val = some (resCpr1 _ _)
 unfold encCpr1 resCpr1
 rw [evCpr]
 have hpre : (F.nk 1000 a && F.nk 1000 b) = true := hpre
 rw [Bool.and_eq_true] at hpre
 have l1 := F.nk_len hpre.1
 have l2 := F.nk_len hpre.2
 have hres : F.sgnL ((F.nv a : Nat) : Int) ((F.nv b : Nat) : Int) = F.cmpL a b := by
  obtain ⟨m, hm1, hm⟩ := F.nk_of hpre.1
  obtain ⟨n, hn1, hn⟩ := F.nk_of hpre.2
  rw [hm1, hn1, F.nv_lb, F.nv_lb, F.cmp_lb]
 have hw : IntKind.i64.wrap ((a.length : Int) - 1) = (a.length : Int) - 1 := wrap_id (by omega) (by omega)
 by_cases h : a.length = b.length
 ·have e : (((a.length : Int) - 1) + 1).toNat = a.length := by omega
  have hk := F.cmpK_all h
  have hb : ((a.length : Int) != (b.length : Int)) = false := by rw [h]; simp
  simp only [unstCpr, Option.bind_some, List.length_map, cond_true, cond_false, Bool.and_true, hw, hb, e, hk, hres, decide_eq_true h, decide_eq_true l1, decide_eq_true (by omega : (-1 : Int) ≤ (a.length : Int) - 1), decide_eq_true (by omega : (a.length : Int) - 1 < (a.length : Int))]
  cases hc : F.cmpL a b == 0
  ·rfl
  ·have : F.cmpL a b = 0 := by simpa using hc
   rw [this]; rfl
 ·have hb : ((a.length : Int) != (b.length : Int)) = true := by simp; omega
  simp only [unstCpr, Option.bind_some, List.length_map, cond_true, Bool.and_true, hb, hres]
  unfold F.cmpL
  by_cases c : a.length < b.length
  ·rw [decide_eq_true (by omega : (a.length : Int) < (b.length : Int)), if_pos c]; rfl
  ·rw [decide_eq_false (by omega : ¬ (a.length : Int) < (b.length : Int)), if_neg c, if_pos (by omega)]; rfl

end M

def F.at0 (a : List Int) (k : Nat) : Int := bif decide (k < a.length) then a.getD k 0 else 0

def F.addR (a b : List Int) : Nat → Nat → Int → List Int × Int
 | 0, _, c => ([], c)
 | n + 1, k, c => ((c + F.at0 a k + F.at0 b k) % 10000 :: (F.addR a b n (k + 1) ((c + F.at0 a k + F.at0 b k) / 10000)).1, (F.addR a b n (k + 1) ((c + F.at0 a k + F.at0 b k) / 10000)).2)

theorem F.at0_nil (k : Nat) : F.at0 [] k = 0 := rfl

theorem F.at0_z (x : Int) (a : List Int) : F.at0 (x :: a) 0 = x := by simp [F.at0]

theorem F.at0_s (x : Int) (a : List Int) (k : Nat) : F.at0 (x :: a) (k + 1) = F.at0 a k := by
 unfold F.at0
 by_cases h : k < a.length
 ·simp [h]
 ·simp [h]

theorem F.addR_ss (x y : Int) (a b : List Int) : ∀ n k c, F.addR (x :: a) (y :: b) n (k + 1) c = F.addR a b n k c
 | 0, k, c => rfl
 | n + 1, k, c => by rw [F.addR, F.addR, F.at0_s, F.at0_s, F.addR_ss]

theorem F.addR_sn (x : Int) (a : List Int) : ∀ n k c, F.addR (x :: a) [] n (k + 1) c = F.addR a [] n k c
 | 0, k, c => rfl
 | n + 1, k, c => by rw [F.addR, F.addR, F.at0_s, F.at0_nil, F.at0_nil, F.addR_sn]

theorem F.addR_ns (y : Int) (b : List Int) : ∀ n k c, F.addR [] (y :: b) n (k + 1) c = F.addR [] b n k c
 | 0, k, c => rfl
 | n + 1, k, c => by rw [F.addR, F.addR, F.at0_s, F.at0_nil, F.at0_nil, F.addR_ns]

theorem F.addL_R : ∀ (c : Int) (a b : List Int), F.addL c a b = (F.addR a b (max a.length b.length) 0 c).1 ++ (if 0 < (F.addR a b (max a.length b.length) 0 c).2 then [(F.addR a b (max a.length b.length) 0 c).2] else [])
 | c, [], [] => by rw [F.addL]; rfl
 | c, x :: a, [] => by
  have ih := F.addL_R ((c + x) / 10000) a []
  have e : max (x :: a).length ([] : List Int).length = max a.length ([] : List Int).length + 1 := by simp
  rw [F.addL, ih, e, F.addR, F.at0_z, F.at0_nil, Int.add_zero, F.addR_sn]
  rfl
 | c, [], y :: b => by
  have ih := F.addL_R ((c + y) / 10000) [] b
  have e : max ([] : List Int).length (y :: b).length = max ([] : List Int).length b.length + 1 := by simp
  rw [F.addL, ih, e, F.addR, F.at0_z, F.at0_nil, Int.add_zero, F.addR_ns]
  rfl
 | c, x :: a, y :: b => by
  have ih := F.addL_R ((c + x + y) / 10000) a b
  have e : max (x :: a).length (y :: b).length = max a.length b.length + 1 := by simp only [List.length_cons]; omega
  rw [F.addL, ih, e, F.addR, F.at0_z, F.at0_z, F.addR_ss]
  rfl
termination_by _ a b => a.length + b.length

theorem F.addR_len (a b : List Int) : ∀ n k c, (F.addR a b n k c).1.length = n
 | 0, k, c => rfl
 | n + 1, k, c => by rw [F.addR]; simp only [List.length_cons, F.addR_len]

theorem F.at0_ok {a : List Int} (h : F.okLm a) (k : Nat) : 0 ≤ F.at0 a k ∧ F.at0 a k ≤ 9999 := by
 unfold F.at0
 by_cases hk : k < a.length
 ·simp only [decide_eq_true hk, cond_true, List.getD, List.getElem?_eq_getElem hk, Option.getD_some]
  exact h _ (List.getElem_mem hk)
 ·rw [decide_eq_false hk]; simp

theorem F.nk_ok {k : Nat} {a : List Int} (h : F.nk k a = true) : F.okLm a := by
 obtain ⟨m, rfl, _⟩ := F.nk_of h
 exact F.lb_ok m

theorem F.addR_c {a b : List Int} (ha : F.okLm a) (hb : F.okLm b) : ∀ n k c, 0 ≤ c ∧ c ≤ 1 → 0 ≤ (F.addR a b n k c).2 ∧ (F.addR a b n k c).2 ≤ 1
 | 0, k, c, h => h
 | n + 1, k, c, h => by
  rw [F.addR]
  have h1 := F.at0_ok ha k
  have h2 := F.at0_ok hb k
  exact F.addR_c ha hb n (k + 1) _ (by omega)

namespace M

def stAdd (a : List Int) (b : List Int) (acc : List Int) (c : Int) (k : Nat) : St := ⟨[(7, vI k), (6, vI c), (5, .own 5), (1, .sl (b.map eI)), (0, .sl (a.map eI))], [(5, ⟨false, 3, 1, acc.map eI⟩)]⟩

def stAdd1 (a : (List Int) × (List Int) × (List Int) × Int × Nat) : St := stAdd a.1 a.2.1 a.2.2.1 a.2.2.2.1 a.2.2.2.2

theorem stAdd_inj (a a' : (List Int) × (List Int) × (List Int) × Int × Nat) (h : stAdd1 a = stAdd1 a') : a = a' := by
 simp only [stAdd1, stAdd] at h
 try simp [ints_inj] at h
 grind

theorem unstAdd0 (a : List Int) (b : List Int)  : unenc stAdd1 (St.mk [(7, (vI (0 : Int))), (6, (vI (0 : Int))), (5, .own 5), (1, AV.sl (List.map eI b)), (0, AV.sl (List.map eI a))] [(5, Blk.mk false 3 1 [])]) = some (a, b, [], 0, 0) := unenc_of stAdd_inj (a, b, [], 0, 0) rfl

def outAdd (a : List Int) (b : List Int) (acc : List Int) (c : Int) (k : Nat) : T (Ex × St) := .ret (.exit 0, ⟨[(6, vI (F.addR a b (max a.length b.length - k) k c).2), (5, .own 5)], [(5, ⟨false, 3, 1, (acc ++ (F.addR a b (max a.length b.length - k) k c).1).map eI⟩)]⟩)

noncomputable def prlAdd (a : List Int) (b : List Int) (acc : List Int) (c : Int) (k : Nat) : Bool := F.nk 1000 a && F.nk 1000 b && decide (0 ≤ c) && decide (c ≤ 1) && decide (acc.length ≤ k) && decide (k ≤ max a.length b.length)

noncomputable def lpAdd : Nat × (St → T (Ex × St)) := (4, lpo [7, 6, 5, 1, 0] [5] stAdd1 (fun a => prlAdd a.1 a.2.1 a.2.2.1 a.2.2.2.1 a.2.2.2.2) fun a => outAdd a.1 a.2.1 a.2.2.1 a.2.2.2.1 a.2.2.2.2)

noncomputable def enAdd : Env := envH ty noG lks [] [] [] [lpAdd]

theorem enAdd_ok : EnvOK Tryz.prog enAdd := by
 refine envH_ok lks_ok ty_ok ?_ ?_
 ·simp
 ·simp

theorem evAddL (a : List Int) (b : List Int) (acc : List Int) (c : Int) (k : Nat) : ((exec enAdd (loopN Tryz.f207 0) (stAdd a b acc c k)).bind (lessX ([7, 6, 5, 1, 0], [5]) ([6, 5], [5]) ([], []))).val =
 (fun (q : Bool) => (fun (q_1 : Nat × AV) => (fun (q_2 : Bool) => (fun (q_3 : List (Nat × AV)) => bif bif decide ((↑k : Int) < (↑(List.length (List.map eI a)) : Int)) then
 true else q then bif decide ((↑k : Int) < (↑(List.length (List.map eI a)) : Int)) then Option.bind (unenc (List.map eI) (List.map eI a)) fun z => (fun (q_4 :
 Int) => bif decide (k < List.length z) then bif q then Option.bind (unenc (List.map eI) (List.map eI b)) fun z => bif decide (k < List.length z) then bif q_2
 then some (Ex.normal, St.mk (q_1 :: (6, (vI (IntKind.i64.wrap (Int.tdiv (IntKind.i64.wrap (q_4 + List.getD z k 0)) (10000 : Int))))) :: q_3) [(5,
 Blk.mk false 3 1 (List.map eI acc ++ [[(vI (Int.tmod (IntKind.i64.wrap (q_4 + List.getD z k 0)) (10000 : Int)))]]))]) else none else none else bif q_2 then
 some (Ex.normal, St.mk (q_1 :: (6, (vI (IntKind.i64.wrap (Int.tdiv q_4 (10000 : Int))))) :: q_3) [(5, Blk.mk false 3 1 (List.map eI acc ++ [[(vI (Int.tmod q_4
 (10000 : Int)))]]))]) else none else none) (IntKind.i64.wrap (c + List.getD z k 0)) else bif q then Option.bind (unenc (List.map eI) (List.map eI b)) fun
 (z : List Int) => bif decide (k < List.length z) then bif q_2 then some (Ex.normal, St.mk (q_1 :: (6, (vI (IntKind.i64.wrap (Int.tdiv (IntKind.i64.wrap (c
 + List.getD z k 0)) (10000 : Int))))) :: q_3) [(5, Blk.mk false 3 1 (List.map eI acc ++ [[(vI (Int.tmod (IntKind.i64.wrap (c + List.getD z k 0))
 (10000 : Int)))]]))]) else none else none else bif q_2 then some (Ex.normal, St.mk (q_1 :: (6, (vI (IntKind.i64.wrap (Int.tdiv c (10000 : Int))))) :: q_3) [(5,
 Blk.mk false 3 1 (List.map eI acc ++ [[(vI (Int.tmod c (10000 : Int)))]]))]) else none else some (Ex.exit (0 : Nat), St.mk [(6, (vI c)), (5, .own 5)] [(5, Blk.mk false 3 1
 (List.map eI acc))])) [(5, .own 5), (1, AV.sl (List.map eI b)), (0, AV.sl (List.map eI a))]) (Nat.ble ((List.length (List.map eI acc) + 1) * 8)
 (140737488355328 : Nat) && true)) (7, (vI (IntKind.i64.wrap ((↑k : Int) + 1))))) (decide ((↑k : Int) < (↑(List.length (List.map eI b)) : Int))) := (execR_bind _ _ _).symm.trans (by kernel_rfl)

theorem lpAdd_ok (a : List Int) (b : List Int) (acc : List Int) (c : Int) (k : Nat) (hp : prlAdd a b acc c k = true) : ∀ ex s', (outAdd a b acc c k).val = some (ex, s') → LoopOK enAdd (loopN Tryz.f207 0) (stAdd a b acc c k) ex s' := by
 simp only [prlAdd, Bool.and_eq_true, decide_eq_true_eq] at hp
 obtain ⟨⟨⟨⟨⟨h1, h2⟩, h3⟩, h4⟩, h5⟩, h6⟩ := hp
 have l1 := F.nk_len h1
 have l2 := F.nk_len h2
 have o1 := F.nk_ok h1
 have o2 := F.nk_ok h2
 clear h1 h2
 refine loop_gen (st := fun p : List Int × Int × Nat => stAdd a b p.1 p.2.1 p.2.2) (out := fun p => outAdd a b p.1 p.2.1 p.2.2) (I := fun p => (0 ≤ p.2.1 ∧ p.2.1 ≤ 1) ∧ p.1.length ≤ p.2.2 ∧ p.2.2 ≤ max a.length b.length) (n := ([7, 6, 5, 1, 0], [5])) (e := ([6, 5], [5])) (r := ([], [])) (fun p => max a.length b.length - p.2.2) ?_ (acc, c, k) ⟨⟨h3, h4⟩, h5, h6⟩
 rintro ⟨acc, c, k⟩ ⟨⟨g1, g2⟩, g3, g4⟩
 simp only at g1 g2 g3 g4
 by_cases hlt : k < max a.length b.length
 ·right
  have hb : Nat.ble ((acc.length + 1) * 8) 140737488355328 = true := ble_t (by omega)
  have q1 := F.at0_ok o1 k
  have q2 := F.at0_ok o2 k
  have hs : (0 ≤ c + F.at0 a k + F.at0 b k) ∧ c + F.at0 a k + F.at0 b k < 20000 := by omega
  have hn : max a.length b.length - k = (max a.length b.length - (k + 1)) + 1 := by omega
  have hw : IntKind.i64.wrap ((k : Int) + 1) = ((k + 1 : Nat) : Int) := by rw [wrap_id (by omega) (by omega)]; rfl
  have hm : (c + F.at0 a k + F.at0 b k).tmod 10000 = (c + F.at0 a k + F.at0 b k) % 10000 := Int.tmod_eq_emod_of_nonneg hs.1
  have hd : (c + F.at0 a k + F.at0 b k).tdiv 10000 = (c + F.at0 a k + F.at0 b k) / 10000 := Int.tdiv_eq_ediv_of_nonneg hs.1
  refine ⟨(acc ++ [(c + F.at0 a k + F.at0 b k) % 10000], (c + F.at0 a k + F.at0 b k) / 10000, k + 1), ?_, rfl, ⟨by simp only; omega, by simp only [List.length_append, List.length_singleton]; omega, by simp only; omega⟩, by simp only; omega, ?_⟩
  ·have hi : idx (k : Int) = some k := idx_n (by omega)
   by_cases ca : k < a.length
   ·have hy : a[k]? = some a[k] := List.getElem?_eq_getElem ca
    have ea : F.at0 a k = a[k] := by simp [F.at0, ca]
    rw [ea] at q1 hs hm hd ⊢
    generalize a[k] = x at hy ea q1 hs hm hd ⊢
    have w1 : IntKind.i64.wrap (c + x) = c + x := wrap_id (by omega) (by omega)
    by_cases cb : k < b.length
    ·have hz : b[k]? = some b[k] := List.getElem?_eq_getElem cb
     have eb : F.at0 b k = b[k] := by simp [F.at0, cb]
     rw [eb] at q2 hs hm hd ⊢
     generalize b[k] = y at hz eb q2 hs hm hd ⊢
     have w2 : IntKind.i64.wrap (c + x + y) = c + x + y := wrap_id (by omega) (by omega)
     have w3 : IntKind.i64.wrap ((c + x + y) % 10000) = (c + x + y) % 10000 := wrap_id (by omega) (by omega)
     have w4 : IntKind.i64.wrap ((c + x + y) / 10000) = (c + x + y) / 10000 := wrap_id (by omega) (by omega)
     rw [evAddL]
     simp only [Option.bind_some, List.length_map, unInts, cond_true, Bool.and_true, cast_lt ca, cast_lt cb, decide_eq_true ca, decide_eq_true cb, hw, getD_at hy, getD_at hz, w1, w2, hm, hd, w4, hb, stAdd]
     rw [List.map_append]
     rfl
    ·have eb : F.at0 b k = 0 := by simp [F.at0, cb]
     rw [eb, Int.add_zero] at hs hm hd ⊢
     have w3 : IntKind.i64.wrap ((c + x) % 10000) = (c + x) % 10000 := wrap_id (by omega) (by omega)
     have w4 : IntKind.i64.wrap ((c + x) / 10000) = (c + x) / 10000 := wrap_id (by omega) (by omega)
     have cb2 : ¬ (k : Int) < (b.length : Int) := by omega
     rw [evAddL]
     simp only [Option.bind_some, List.length_map, unInts, cond_true, cond_false, Bool.and_true, cast_lt ca, decide_eq_false cb2, decide_eq_true ca, hw, getD_at hy, w1, hm, hd, w4, hb, stAdd]
     rw [List.map_append]
     rfl
   ·have ea : F.at0 a k = 0 := by simp [F.at0, ca]
    have ca2 : ¬ (k : Int) < (a.length : Int) := by omega
    have cb : k < b.length := by omega
    have hz : b[k]? = some b[k] := List.getElem?_eq_getElem cb
    have eb : F.at0 b k = b[k] := by simp [F.at0, cb]
    rw [ea, eb, Int.add_zero] at hs hm hd ⊢
    rw [eb] at q2
    generalize b[k] = y at hz eb q2 hs hm hd ⊢
    have w2 : IntKind.i64.wrap (c + y) = c + y := wrap_id (by omega) (by omega)
    have w3 : IntKind.i64.wrap ((c + y) % 10000) = (c + y) % 10000 := wrap_id (by omega) (by omega)
    have w4 : IntKind.i64.wrap ((c + y) / 10000) = (c + y) / 10000 := wrap_id (by omega) (by omega)
    rw [evAddL]
    simp only [Option.bind_some, List.length_map, unInts, cond_true, cond_false, Bool.and_true, decide_eq_false ca2, cast_lt cb, decide_eq_true cb, hw, getD_at hz, w2, hm, hd, w4, hb, stAdd]
    rw [List.map_append]
    rfl
  ·simp only [outAdd, hn, F.addR, List.append_assoc, List.singleton_append]
   done
 ·have hk : k = max a.length b.length := by omega
  left
  refine ⟨(.exit 0, ⟨[(6, vI c), (5, .own 5)], [(5, ⟨false, 3, 1, acc.map eI⟩)]⟩), ?_, ?_, by simp, rfl⟩
  ·have ca2 : ¬ (k : Int) < (a.length : Int) := by omega
   have cb2 : ¬ (k : Int) < (b.length : Int) := by omega
   rw [evAddL]
   simp only [Option.bind_some, List.length_map, unInts, cond_false, Bool.and_true, decide_eq_false ca2, decide_eq_false cb2]
  ·have hn : max a.length b.length - k = 0 := by omega
   simp only [outAdd, hn, F.addR, List.append_nil]
   rfl

theorem evAdd (a : List Int) (b : List Int) : (runF enAdd false Tryz.f207 [.sl (a.map eI), .sl (b.map eI)]).val =
 Option.bind (unenc stAdd1 (St.mk [(7, (vI 0)), (6, (vI 0)), (5, .own 5), (1, AV.sl (List.map eI b)), (0, AV.sl (List.map eI a))] [(5, Blk.mk false 3 1
 [])])) fun z => bif F.nk (1000 : Nat) z.1 && F.nk (1000 : Nat) z.2.1 && decide ((0 : Int) ≤ z.2.2.2.1) &&
 decide (z.2.2.2.1 ≤ 1) && decide (List.length z.2.2.1 ≤ z.2.2.2.2) && decide (z.2.2.2.2 ≤ max (List.length z.1) (List.length
 z.2.1)) && true then bif decide ((0 : Int) < (F.addR z.1 z.2.1 (max (List.length z.1) (List.length z.2.1) - z.2.2.2.2) z.2.2.2.2
 z.2.2.2.1).snd) then bif Nat.ble ((List.length (List.map eI (z.2.2.1 ++ (F.addR z.1 z.2.1 (max (List.length z.1) (List.length z.2.1) -
 z.2.2.2.2) z.2.2.2.2 z.2.2.2.1).fst)) + 1) * 8) (140737488355328 : Nat) && true then some (AV.sl (List.map eI (z.2.2.1 ++
 (F.addR z.1 z.2.1 (max (List.length z.1) (List.length z.2.1) - z.2.2.2.2) z.2.2.2.2 z.2.2.2.1).fst) ++ [[(vI (F.addR z.1 z.2.1
 (max (List.length z.1) (List.length z.2.1) - z.2.2.2.2) z.2.2.2.2 z.2.2.2.1).snd)]]), []) else none else some (AV.sl (List.map eI
 (z.2.2.1 ++ (F.addR z.1 z.2.1 (max (List.length z.1) (List.length z.2.1) - z.2.2.2.2) z.2.2.2.2 z.2.2.2.1).fst)), []) else none := (runFR_val).symm.trans (by kernel_rfl)

def encAdd1 (a : List Int) (b : List Int) : List AV := [.sl (a.map eI), .sl (b.map eI)]

def encAdd (a : (List Int) × (List Int)) : List AV := encAdd1 a.1 a.2

theorem encAdd_inj (a a' : (List Int) × (List Int)) (h : encAdd a = encAdd a') : a = a' := by
 simp only [encAdd, encAdd1] at h
 try simp [ints_inj] at h
 grind

theorem unAdd (a : List Int) (b : List Int) : unenc encAdd ([AV.sl (List.map eI a), AV.sl (List.map eI b)]) = some (a, b) := unenc_of encAdd_inj (a, b) rfl

def resAdd1 (a : List Int) (b : List Int) : AV × Heap := (.sl ((F.lb (F.nv a + F.nv b)).map eI), [])

def preAdd1 (a : List Int) (b : List Int) : Bool := F.nk 1000 a && F.nk 1000 b

noncomputable def oAdd : Orc := orc 207 false encAdd (fun a => preAdd1 a.1 a.2) fun a => resAdd1 a.1 a.2

theorem okAdd : OrcOK Tryz.prog noG oAdd := by
 refine mk_ok Tryz.f207 (keep := false) (by kernel_rfl) (by kernel_rfl) enAdd_ok mixed (one_loop (x0 := loopN Tryz.f207 0) (by kernel_rfl) (lpo_ok ?_)) (by first | exact fun _ _ => ⟨rfl, rfl⟩ | (intro h; cases h)) ?_
 ·rintro ⟨a, b, acc, c, k⟩ hp
  exact lpAdd_ok a b acc c k hp
 rintro ⟨a, b⟩ hpre hok
 show (runF enAdd false _ (encAdd1 _ _)).val = some (resAdd1 _ _)
 unfold encAdd1 resAdd1
 rw [evAdd]
 have hpre : (F.nk 1000 a && F.nk 1000 b) = true := hpre
 have hpre2 := hpre
 rw [Bool.and_eq_true] at hpre2
 have l1 := F.nk_len hpre2.1
 have l2 := F.nk_len hpre2.2
 have hres : F.lb (F.nv a + F.nv b) = F.addL 0 a b := by
  obtain ⟨m, hm1, hm⟩ := F.nk_of hpre2.1
  obtain ⟨n, hn1, hn⟩ := F.nk_of hpre2.2
  have := F.addL_eq (m + n) m n 0 (Nat.le_refl _) (by decide)
  rw [Nat.zero_add] at this
  rw [hm1, hn1, F.nv_lb, F.nv_lb, ← this]
  rfl
 have hc := F.addR_c (F.nk_ok hpre2.1) (F.nk_ok hpre2.2) (max a.length b.length) 0 0 (by decide)
 have hl := F.addR_len a b (max a.length b.length) 0 0
 have hR := F.addL_R 0 a b
 have hb : Nat.ble (((F.addR a b (max a.length b.length) 0 0).1.length + 1) * 8) 140737488355328 = true := ble_t (by omega)
 simp only [unstAdd0, Option.bind_some, List.length_map, cond_true, Bool.and_true, hpre, hres, hR, decide_true, Nat.zero_le, Nat.sub_zero, List.nil_append, List.length_nil, Int.le_refl, hb, (by decide : decide ((0 : Int) ≤ 1) = true)]
 cases hq : decide (0 < (F.addR a b (max a.length b.length) 0 0).2)
 ·have hq := of_decide_eq_false hq
  simp [if_neg hq]
 ·have hq := of_decide_eq_true hq
  simp [if_pos hq]
  rfl

end M

def F.subV (v : Int) : Int := bif decide (v < 0) then v + 10000 else v

def F.subC (v : Int) : Int := bif decide (v < 0) then 1 else 0

def F.subR (a b : List Int) : Nat → Nat → Int → List Int
 | 0, _, _ => []
 | n + 1, k, c => F.subV (F.at0 a k - c - F.at0 b k) :: F.subR a b n (k + 1) (F.subC (F.at0 a k - c - F.at0 b k))

theorem F.subR_ss (x y : Int) (a b : List Int) : ∀ n k c, F.subR (x :: a) (y :: b) n (k + 1) c = F.subR a b n k c
 | 0, k, c => rfl
 | n + 1, k, c => by rw [F.subR, F.subR, F.at0_s, F.at0_s, F.subR_ss]

theorem F.subR_sn (x : Int) (a : List Int) : ∀ n k c, F.subR (x :: a) [] n (k + 1) c = F.subR a [] n k c
 | 0, k, c => rfl
 | n + 1, k, c => by rw [F.subR, F.subR, F.at0_s, F.at0_nil, F.at0_nil, F.subR_sn]

theorem F.subL_R : ∀ (c : Int) (a b : List Int), F.subL c a b = F.subR a b a.length 0 c
 | c, [], b => by cases b <;> rfl
 | c, x :: a, [] => by
  rw [F.subL, List.length_cons, F.subR, F.at0_z, F.at0_nil, Int.sub_zero, F.subR_sn, ← F.subL_R]
  unfold F.subV F.subC
  by_cases h : x - c < 0
  ·simp [h]
  ·simp [h]
 | c, x :: a, y :: b => by
  rw [F.subL, List.length_cons, F.subR, F.at0_z, F.at0_z, F.subR_ss, ← F.subL_R]
  unfold F.subV F.subC
  by_cases h : x - c - y < 0
  ·simp [h]
  ·simp [h]

theorem F.subR_len (a b : List Int) : ∀ n k c, (F.subR a b n k c).length = n
 | 0, k, c => rfl
 | n + 1, k, c => by rw [F.subR]; simp only [List.length_cons, F.subR_len]

namespace M

def stLes (a : List Int) (b : List Int) (acc : List Int) (c : Int) (k : Nat) : St := ⟨[(7, vI k), (6, vI c), (5, .own 5), (1, .sl (b.map eI)), (0, .sl (a.map eI))], [(5, ⟨false, 3, 1, acc.map eI⟩)]⟩

def stLes1 (a : (List Int) × (List Int) × (List Int) × Int × Nat) : St := stLes a.1 a.2.1 a.2.2.1 a.2.2.2.1 a.2.2.2.2

theorem stLes_inj (a a' : (List Int) × (List Int) × (List Int) × Int × Nat) (h : stLes1 a = stLes1 a') : a = a' := by
 simp only [stLes1, stLes] at h
 try simp [ints_inj] at h
 grind

theorem unstLes0 (a : List Int) (b : List Int)  : unenc stLes1 (St.mk [(7, (vI (0 : Int))), (6, (vI (0 : Int))), (5, .own 5), (1, AV.sl (List.map eI b)), (0, AV.sl (List.map eI a))] [(5, Blk.mk false 3 1 [])]) = some (a, b, [], 0, 0) := unenc_of stLes_inj (a, b, [], 0, 0) rfl

def outLes (a : List Int) (b : List Int) (acc : List Int) (c : Int) (k : Nat) : T (Ex × St) := .ret (.exit 0, ⟨[(5, .own 5)], [(5, ⟨false, 3, 1, (acc ++ F.subR a b (a.length - k) k c).map eI⟩)]⟩)

noncomputable def prlLes (a : List Int) (b : List Int) (acc : List Int) (c : Int) (k : Nat) : Bool := F.nk 1000 a && F.nk 1000 b && decide (0 ≤ c) && decide (c ≤ 1) && decide (acc.length ≤ k) && decide (k ≤ a.length)

noncomputable def lpLes : Nat × (St → T (Ex × St)) := (4, lpo [7, 6, 5, 1, 0] [5] stLes1 (fun a => prlLes a.1 a.2.1 a.2.2.1 a.2.2.2.1 a.2.2.2.2) fun a => outLes a.1 a.2.1 a.2.2.1 a.2.2.2.1 a.2.2.2.2)

noncomputable def enLes : Env := envH ty noG lks [oTrm] [] [] [lpLes]

theorem enLes_ok : EnvOK Tryz.prog enLes := by
 refine envH_ok lks_ok ty_ok ?_ ?_
 ·simp only [List.forall_mem_cons]
  exact ⟨okTrm, by simp⟩
 ·simp

theorem evLesL (a : List Int) (b : List Int) (acc : List Int) (c : Int) (k : Nat) : ((exec enLes (loopN Tryz.f238 0) (stLes a b acc c k)).bind (lessX ([7, 6, 5, 1, 0], [5]) ([5], [5]) ([], []))).val =
 (fun (q : Nat × AV) => (fun (q_1 : Bool) => (fun (q_2 : List (Nat × AV)) => (fun (q_3 : List (Nat × AV)) => (fun (q : List (Nat × AV)) => bif decide ((↑k : Int) <
 (↑(List.length (List.map eI a)) : Int)) then Option.bind (unenc (List.map eI) (List.map eI a)) fun z => (fun (q_4 : Int) => bif decide (k < List.length z)
 then bif decide ((↑k : Int) < (↑(List.length (List.map eI b)) : Int)) then Option.bind (unenc (List.map eI) (List.map eI b)) fun z => (fun (q_5 : Int) => bif
 decide (k < List.length z) then bif decide (q_5 < 0) then bif q_1 then some (Ex.normal, St.mk q [(5, Blk.mk false 3 1 (List.map eI acc ++ [[(vI (IntKind.wrap
 IntKind.i64 (q_5 + 10000)))]]))]) else none else bif q_1 then some (Ex.normal, St.mk q_3 [(5, Blk.mk false 3 1 (List.map eI acc ++ [[(vI q_5)]]))]) else none else
 none) (IntKind.i64.wrap (q_4 - List.getD z k 0)) else bif decide (q_4 < 0) then bif q_1 then some (Ex.normal, St.mk q [(5, Blk.mk false 3 1
 (List.map eI acc ++ [[(vI (IntKind.i64.wrap (q_4 + 10000)))]]))]) else none else bif q_1 then some (Ex.normal, St.mk q_3 [(5, Blk.mk false 3 1 (List.map eI
 acc ++ [[(vI q_4)]]))]) else none else none) (IntKind.i64.wrap (List.getD z k 0 - c)) else some (Ex.exit (0 : Nat), St.mk [(5, .own 5)] [(5, Blk.mk false 3
 1 (List.map eI acc))])) (q :: (6, (vI 1)) :: q_2)) (q :: (6, (vI 0)) :: q_2)) [(5, .own 5), (1, AV.sl (List.map eI b)), (0, AV.sl (List.map eI a))])
 (Nat.ble ((List.length (List.map eI acc) + 1) * 8) 140737488355328 && true)) (7, (vI (IntKind.i64.wrap ((↑k : Int) + 1)))) := (execR_bind _ _ _).symm.trans (by kernel_rfl)

theorem lpLes_ok (a : List Int) (b : List Int) (acc : List Int) (c : Int) (k : Nat) (hp : prlLes a b acc c k = true) : ∀ ex s', (outLes a b acc c k).val = some (ex, s') → LoopOK enLes (loopN Tryz.f238 0) (stLes a b acc c k) ex s' := by
 simp only [prlLes, Bool.and_eq_true, decide_eq_true_eq] at hp
 obtain ⟨⟨⟨⟨⟨h1, h2⟩, h3⟩, h4⟩, h5⟩, h6⟩ := hp
 have l1 := F.nk_len h1
 have l2 := F.nk_len h2
 have o1 := F.nk_ok h1
 have o2 := F.nk_ok h2
 clear h1 h2
 refine loop_gen (st := fun p : List Int × Int × Nat => stLes a b p.1 p.2.1 p.2.2) (out := fun p => outLes a b p.1 p.2.1 p.2.2) (I := fun p => (0 ≤ p.2.1 ∧ p.2.1 ≤ 1) ∧ p.1.length ≤ p.2.2 ∧ p.2.2 ≤ a.length) (n := ([7, 6, 5, 1, 0], [5])) (e := ([5], [5])) (r := ([], [])) (fun p => a.length - p.2.2) ?_ (acc, c, k) ⟨⟨h3, h4⟩, h5, h6⟩
 rintro ⟨acc, c, k⟩ ⟨⟨g1, g2⟩, g3, g4⟩
 simp only at g1 g2 g3 g4
 by_cases hlt : k < a.length
 ·right
  have hb : Nat.ble ((acc.length + 1) * 8) 140737488355328 = true := ble_t (by omega)
  have q1 := F.at0_ok o1 k
  have q2 := F.at0_ok o2 k
  have hn : a.length - k = (a.length - (k + 1)) + 1 := by omega
  have hw : IntKind.i64.wrap ((k : Int) + 1) = ((k + 1 : Nat) : Int) := by rw [wrap_id (by omega) (by omega)]; rfl
  have hcc : 0 ≤ F.subC (F.at0 a k - c - F.at0 b k) ∧ F.subC (F.at0 a k - c - F.at0 b k) ≤ 1 := by
   unfold F.subC
   cases decide (F.at0 a k - c - F.at0 b k < 0) <;> simp
  refine ⟨(acc ++ [F.subV (F.at0 a k - c - F.at0 b k)], F.subC (F.at0 a k - c - F.at0 b k), k + 1), ?_, rfl, ⟨hcc, by simp only [List.length_append, List.length_singleton]; omega, by simp only; omega⟩, by simp only; omega, ?_⟩
  ·have hi : idx (k : Int) = some k := idx_n (by omega)
   have hy : a[k]? = some a[k] := List.getElem?_eq_getElem hlt
   have ea : F.at0 a k = a[k] := by simp [F.at0, hlt]
   rw [ea] at q1 ⊢
   generalize a[k] = x at hy ea q1 ⊢
   have w1 : IntKind.i64.wrap (x - c) = x - c := wrap_id (by omega) (by omega)
   by_cases cb : k < b.length
   ·have hz : b[k]? = some b[k] := List.getElem?_eq_getElem cb
    have eb : F.at0 b k = b[k] := by simp [F.at0, cb]
    rw [eb] at q2 ⊢
    generalize b[k] = y at hz eb q2 ⊢
    have w2 : IntKind.i64.wrap (x - c - y) = x - c - y := wrap_id (by omega) (by omega)
    have w3 : IntKind.i64.wrap (x - c - y + 10000) = x - c - y + 10000 := wrap_id (by omega) (by omega)
    rw [evLesL]
    simp only [Option.bind_some, List.length_map, unInts, cond_true, Bool.and_true, cast_lt hlt, cast_lt cb, decide_eq_true hlt, decide_eq_true cb, hw, getD_at hy, getD_at hz, w1, w2, w3, hb, stLes, F.subV, F.subC]
    rw [List.map_append]
    cases decide (x - c - y < 0) <;> rfl
   ·have eb : F.at0 b k = 0 := by simp [F.at0, cb]
    rw [eb, Int.sub_zero]
    have w3 : IntKind.i64.wrap (x - c + 10000) = x - c + 10000 := wrap_id (by omega) (by omega)
    have cb2 : ¬ (k : Int) < (b.length : Int) := by omega
    rw [evLesL]
    simp only [Option.bind_some, List.length_map, unInts, cond_true, cond_false, Bool.and_true, cast_lt hlt, decide_eq_false cb2, decide_eq_true hlt, hw, getD_at hy, w1, w3, hb, stLes, F.subV, F.subC]
    rw [List.map_append]
    cases decide (x - c < 0) <;> rfl
  ·simp only [outLes, hn, F.subR, List.append_assoc, List.singleton_append]
 ·have hk : k = a.length := by omega
  left
  refine ⟨(.exit 0, ⟨[(5, .own 5)], [(5, ⟨false, 3, 1, acc.map eI⟩)]⟩), ?_, ?_, by simp, rfl⟩
  ·have ca2 : ¬ (k : Int) < (a.length : Int) := by omega
   rw [evLesL]
   simp only [Option.bind_some, List.length_map, unInts, cond_false, Bool.and_true, decide_eq_false ca2]
  ·have hn : a.length - k = 0 := by omega
   simp only [outLes, hn, F.subR, List.append_nil]
   rfl

theorem evLes (a : List Int) (b : List Int) : (runF enLes false Tryz.f238 [.sl (a.map eI), .sl (b.map eI)]).val =
 Option.bind (unenc stLes1 (St.mk [(7, (vI 0)), (6, (vI 0)), (5, .own 5), (1, AV.sl (List.map eI b)), (0, AV.sl (List.map eI a))] [(5, Blk.mk false 3 1
 [])])) fun z => bif F.nk (1000 : Nat) z.1 && F.nk (1000 : Nat) z.2.1 && decide ((0 : Int) ≤ z.2.2.2.1) &&
 decide (z.2.2.2.1 ≤ 1) && decide (List.length z.2.2.1 ≤ z.2.2.2.2) && decide (z.2.2.2.2 ≤ List.length z.1) && true then Option.bind
 (unenc encTrm [AV.sl (List.map eI (z.2.2.1 ++ F.subR z.1 z.2.1 (List.length z.1 - z.2.2.2.2) z.2.2.2.2 z.2.2.2.1))]) fun z => bif decide (List.length z ≤ 100000) then some (AV.sl (List.map eI (F.trimL z)), []) else none else none := (runFR_val).symm.trans (by kernel_rfl)

def encLes1 (a : List Int) (b : List Int) : List AV := [.sl (a.map eI), .sl (b.map eI)]

def encLes (a : (List Int) × (List Int)) : List AV := encLes1 a.1 a.2

theorem encLes_inj (a a' : (List Int) × (List Int)) (h : encLes a = encLes a') : a = a' := by
 simp only [encLes, encLes1] at h
 try simp [ints_inj] at h
 grind

theorem unLes (a : List Int) (b : List Int) : unenc encLes ([AV.sl (List.map eI a), AV.sl (List.map eI b)]) = some (a, b) := unenc_of encLes_inj (a, b) rfl

def resLes1 (a : List Int) (b : List Int) : AV × Heap := (.sl ((F.lb (F.nv a - F.nv b)).map eI), [])

def preLes1 (a : List Int) (b : List Int) : Bool := F.nk 1000 a && F.nk 1000 b && decide (F.nv b ≤ F.nv a)

noncomputable def oLes : Orc := orc 238 false encLes (fun a => preLes1 a.1 a.2) fun a => resLes1 a.1 a.2

theorem okLes : OrcOK Tryz.prog noG oLes := by
 refine mk_ok Tryz.f238 (keep := false) (by kernel_rfl) (by kernel_rfl) enLes_ok mixed (one_loop (x0 := loopN Tryz.f238 0) (by kernel_rfl) (lpo_ok ?_)) (by first | exact fun _ _ => ⟨rfl, rfl⟩ | (intro h; cases h)) ?_
 ·rintro ⟨a, b, acc, c, k⟩ hp
  exact lpLes_ok a b acc c k hp
 rintro ⟨a, b⟩ hpre hok
 show (runF enLes false _ (encLes1 _ _)).val = some (resLes1 _ _)
 unfold encLes1 resLes1
 rw [evLes]
 have hpre : (F.nk 1000 a && F.nk 1000 b && decide (F.nv b ≤ F.nv a)) = true := hpre
 have hpre2 := hpre
 rw [Bool.and_eq_true, Bool.and_eq_true, decide_eq_true_eq] at hpre2
 obtain ⟨⟨p1, p2⟩, p3⟩ := hpre2
 have l1 := F.nk_len p1
 have l2 := F.nk_len p2
 have hres : F.trimL (F.subR a b a.length 0 0) = F.lb (F.nv a - F.nv b) := by
  obtain ⟨m, hm1, hm⟩ := F.nk_of p1
  obtain ⟨n, hn1, hn⟩ := F.nk_of p2
  rw [← F.subL_R]
  rw [hm1, hn1, F.nv_lb, F.nv_lb] at p3 ⊢
  exact F.sub_lb p3
 have hl := F.subR_len a b a.length 0 0
 have hb : decide ((F.subR a b a.length 0 0).length ≤ 100000) = true := decide_eq_true (by omega)
 simp only [unTrm, unstLes0, Option.bind_some, cond_true, Bool.and_true, p1, p2, decide_true, Nat.zero_le, Nat.sub_zero, List.nil_append, List.length_nil, Int.le_refl, hb, hres, (by decide : decide ((0 : Int) ≤ 1) = true)]
 done

end M

def F.rowD (x : Int) : Int → List Int → List Int → List Int × Int
 | c, o :: os, y :: b => ((o + x * y + c) % 10000 :: (F.rowD x ((o + x * y + c) / 10000) os b).1, (F.rowD x ((o + x * y + c) / 10000) os b).2)
 | c, os, [] => (os, c)
 | c, [], _ :: _ => ([], c)

theorem F.rowD_nil (x c : Int) (os : List Int) : F.rowD x c os [] = (os, c) := by cases os <;> rfl

theorem F.mrow_D (x : Int) : ∀ (b os : List Int) (c : Int), b.length < os.length → F.mrow x c os b = (F.rowD x c os b).1.set b.length ((F.rowD x c os b).1.getD b.length 0 + (F.rowD x c os b).2)
 | [], o :: os, c, _ => by rw [F.mrow, F.rowD_nil]; rfl
 | y :: b, o :: os, c, h => by
  have ih := F.mrow_D x b os ((o + x * y + c) / 10000) (by simpa using h)
  rw [F.mrow, ih, F.rowD]
  rfl
 | [], [], c, h => by simp at h
 | y :: b, [], c, h => by simp at h

theorem F.rowD_len (x : Int) : ∀ (b os : List Int) (c : Int), (F.rowD x c os b).1.length = os.length
 | [], os, c => by rw [F.rowD_nil]
 | y :: b, o :: os, c => by rw [F.rowD]; simp only [List.length_cons, F.rowD_len]
 | y :: b, [], c => rfl

theorem F.rowD_ok {x : Int} (hx : 0 ≤ x ∧ x ≤ 9999) : ∀ (b os : List Int) (c : Int), F.okLm b → F.okLm os → (0 ≤ c ∧ c ≤ 9999) → F.okLm (F.rowD x c os b).1 ∧ 0 ≤ (F.rowD x c os b).2 ∧ (F.rowD x c os b).2 ≤ 9999
 | [], os, c, _, ho, hc => by rw [F.rowD_nil]; exact ⟨ho, hc⟩
 | y :: b, o :: os, c, hb, ho2, hc => by
  have h3 := hb y (List.mem_cons_self ..)
  have hm := F.mul_bd hx h3
  have ho := ho2 o (List.mem_cons_self ..)
  obtain ⟨q1, q2⟩ := F.rowD_ok hx b os ((o + x * y + c) / 10000) (fun z hz => hb z (List.mem_cons_of_mem _ hz)) (fun z hz => ho2 z (List.mem_cons_of_mem _ hz)) (by omega)
  rw [F.rowD]
  exact ⟨F.okLm_cons (by omega) q1, q2⟩
 | y :: b, [], c, _, _, hc => ⟨F.okLm_nil, hc⟩

theorem F.rowD_z {x : Int} : ∀ (b os : List Int) (c : Int), b.length < os.length → F.zeroFrom b.length os → (F.rowD x c os b).1.getD b.length 0 = 0
 | [], o :: os, c, _, hz => by rw [F.rowD_nil]; exact hz o (by simp)
 | y :: b, o :: os, c, h, hz => by
  have := F.rowD_z (x := x) b os ((o + x * y + c) / 10000) (by simpa using h) (fun z h => hz z (by simpa using h))
  rw [F.rowD]
  simpa using this
 | [], [], c, h, _ => by simp at h
 | y :: b, [], c, h, _ => by simp at h

def F.okBm (l : List Int) : Bool := l.all fun x => decide (0 ≤ x) && decide (x ≤ 9999)

theorem F.okBm_iff {l : List Int} : F.okBm l = true ↔ F.okLm l := by
 unfold F.okBm F.okLm
 rw [List.all_eq_true]
 constructor
 ·intro h x hx; have := h x hx; simpa using this
 ·intro h x hx; have := h x hx; simpa using this

def F.zB (k : Nat) (l : List Int) : Bool := (l.drop k).all fun x => x == 0

theorem F.zB_iff {k : Nat} {l : List Int} : F.zB k l = true ↔ F.zeroFrom k l := by
 unfold F.zB F.zeroFrom
 rw [List.all_eq_true]
 constructor
 ·intro h x hx; have := h x hx; simpa using this
 ·intro h x hx; have := h x hx; simpa using this

theorem F.okLm_app {a b : List Int} (h1 : F.okLm a) (h2 : F.okLm b) : F.okLm (a ++ b) := fun x hx => by
 rcases List.mem_append.1 hx with h | h
 ·exact h1 x h
 ·exact h2 x h

theorem F.okLm_drop {a : List Int} (k : Nat) (h : F.okLm a) : F.okLm (a.drop k) := fun x hx => h x (List.mem_of_mem_drop hx)

theorem F.okLm_take {a : List Int} (k : Nat) (h : F.okLm a) : F.okLm (a.take k) := fun x hx => h x (List.mem_of_mem_take hx)

namespace M

theorem drop_y {α : Type} {l : List α} {k : Nat} {y : α} (h : l[k]? = some y) : l.drop k = y :: l.drop (k + 1) := by
 obtain ⟨h1, rfl⟩ := List.getElem?_eq_some_iff.1 h
 exact List.drop_eq_getElem_cons h1

def stTin (a : List Int) (b : List Int) (i : Nat) (out : List Int) (c : Int) (k : Nat) : St := ⟨[(8, vI k), (7, vI c), (6, vI i), (5, .own 15), (1, .sl (b.map eI)), (0, .sl (a.map eI))], [(15, ⟨false, 3, 1, out.map eI⟩)]⟩

def stTin1 (a : (List Int) × (List Int) × Nat × (List Int) × Int × Nat) : St := stTin a.1 a.2.1 a.2.2.1 a.2.2.2.1 a.2.2.2.2.1 a.2.2.2.2.2

theorem stTin_inj (a a' : (List Int) × (List Int) × Nat × (List Int) × Int × Nat) (h : stTin1 a = stTin1 a') : a = a' := by
 simp only [stTin1, stTin] at h
 try simp [ints_inj] at h
 grind

theorem unstTin0 (a : List Int) (b : List Int) (i : Nat) (out : List Int)  : unenc stTin1 (St.mk [(8, (vI (0 : Int))), (7, (vI (0 : Int))), (6, (vI (↑i : Int))), (5, .own 15), (1, AV.sl (List.map eI b)), (0, AV.sl (List.map eI a))] [(15, Blk.mk false 3 1
 (List.map eI out))]) = some (a, b, i, out, 0, 0) := unenc_of stTin_inj (a, b, i, out, 0, 0) rfl

def outTin (a : List Int) (b : List Int) (i : Nat) (out : List Int) (c : Int) (k : Nat) : T (Ex × St) := .ret (.exit 2, ⟨[(7, vI (F.rowD (a.getD i 0) c (out.drop (i + k)) (b.drop k)).2), (6, vI i), (5, .own 15), (1, .sl (b.map eI)), (0, .sl (a.map eI))], [(15, ⟨false, 3, 1, (out.take (i + k) ++ (F.rowD (a.getD i 0) c (out.drop (i + k)) (b.drop k)).1).map eI⟩)]⟩)

noncomputable def prlTin (a : List Int) (b : List Int) (i : Nat) (out : List Int) (c : Int) (k : Nat) : Bool := F.nk 400 a && F.nk 400 b && F.okBm out && decide (0 ≤ c) && decide (c ≤ 9999) && decide (k ≤ b.length) && decide (i < a.length) && decide (out.length = a.length + b.length)

noncomputable def lpTin : Nat × (St → T (Ex × St)) := (7, lpo [8, 7, 6, 5, 1, 0] [15] stTin1 (fun a => prlTin a.1 a.2.1 a.2.2.1 a.2.2.2.1 a.2.2.2.2.1 a.2.2.2.2.2) fun a => outTin a.1 a.2.1 a.2.2.1 a.2.2.2.1 a.2.2.2.2.1 a.2.2.2.2.2)

def stTmz (a : List Int) (b : List Int) (out : List Int) (i : Nat) : St := ⟨[(6, vI i), (5, .own 15), (1, .sl (b.map eI)), (0, .sl (a.map eI))], [(15, ⟨false, 3, 1, out.map eI⟩)]⟩

def stTmz1 (a : (List Int) × (List Int) × (List Int) × Nat) : St := stTmz a.1 a.2.1 a.2.2.1 a.2.2.2

theorem stTmz_inj (a a' : (List Int) × (List Int) × (List Int) × Nat) (h : stTmz1 a = stTmz1 a') : a = a' := by
 simp only [stTmz1, stTmz] at h
 try simp [ints_inj] at h
 grind

theorem unstTmz0 (a : List Int) (b : List Int) (out : List Int)  : unenc stTmz1 (St.mk [(6, (vI (0 : Int))), (5, .own 15), (1, AV.sl (List.map eI b)), (0, AV.sl (List.map eI a))] [(15, Blk.mk false 3 1 (List.map eI out))]) = some (a, b, out, 0) := unenc_of stTmz_inj (a, b, out, 0) rfl

def outTmz (a : List Int) (b : List Int) (out : List Int) (i : Nat) : T (Ex × St) := .ret (.exit 0, ⟨[(5, .own 15)], [(15, ⟨false, 3, 1, (out.take i ++ F.mulR b (a.drop i) (out.drop i)).map eI⟩)]⟩)

noncomputable def prlTmz (a : List Int) (b : List Int) (out : List Int) (i : Nat) : Bool := F.nk 400 a && F.nk 400 b && F.okBm out && F.zB (i + b.length) out && decide (i ≤ a.length) && decide (out.length = a.length + b.length)

noncomputable def lpTmz : Nat × (St → T (Ex × St)) := (3, lpo [6, 5, 1, 0] [15] stTmz1 (fun a => prlTmz a.1 a.2.1 a.2.2.1 a.2.2.2) fun a => outTmz a.1 a.2.1 a.2.2.1 a.2.2.2)

noncomputable def enTmz : Env := envH ty noG lks [oTrm] [] [] [lpTmz, lpTin]

theorem enTmz_ok : EnvOK Tryz.prog enTmz := by
 refine envH_ok lks_ok ty_ok ?_ ?_
 ·simp only [List.forall_mem_cons]
  exact ⟨okTrm, by simp⟩
 ·simp

theorem evTinL (a : List Int) (b : List Int) (i : Nat) (out : List Int) (c : Int) (k : Nat) : ((exec enTmz (loopN Tryz.f167 1) (stTin a b i out c k)).bind (lessX ([8, 7, 6, 5, 1, 0], [15]) ([7, 6, 5, 1, 0], [15]) ([], []))).val =
 bif decide ((↑k : Int) < (↑(List.length (List.map eI b)) : Int)) then Option.bind (idx (IntKind.i64.wrap ((↑i : Int) + (↑k : Int)))) fun z => bif decide (z
 < List.length (Blk.mk false 3 1 (List.map eI out)).rows) then Option.bind (unenc (List.map eI) (List.map eI out)) fun z_1 => bif decide (z < List.length z_1)
 then Option.bind (unenc (List.map eI) (List.map eI a)) fun z_2 => bif decide (i < List.length z_2) then Option.bind (unenc (List.map eI) (List.map eI b)) fun
 (z_3 : List Int) => bif decide (k < List.length z_3) then Option.bind (idx (IntKind.i64.wrap ((↑i : Int) + (↑k : Int)))) fun z_4 => bif decide (z_4 <
 List.length (Blk.mk false 3 1 (List.map eI out)).rows) then Option.bind (unenc (List.map eI) (List.map eI out)) fun z_5 => bif decide (z_4 < List.length z_5)
 then some (Ex.normal, St.mk [(8, (vI (IntKind.i64.wrap ((↑k : Int) + 1)))), (7, (vI (IntKind.i64.wrap (Int.tdiv (IntKind.wrap IntKind.i64
 (IntKind.i64.wrap (List.getD z_1 z 0 + IntKind.i64.wrap (List.getD z_2 i 0 * List.getD z_3 k 0)) + c)) (10000 : Int))))), (6, (vI
 (↑i : Int))), (5, .own 15), (1, AV.sl (List.map eI b)), (0, AV.sl (List.map eI a))] [(15, Blk.mk false 3 1 (List.set (List.map eI out) z_4 [(vI (Int.tmod (IntKind.wrap
 IntKind.i64 (IntKind.i64.wrap (List.getD z_1 z 0 + IntKind.i64.wrap (List.getD z_2 i 0 * List.getD z_3 k 0)) + c)) (10000 :
 Int)))]))]) else none else none else none else none else none else none else some (Ex.exit (2 : Nat), St.mk [(7, (vI c)), (6, (vI (↑i : Int))), (5, .own 15), (1, AV.sl
 (List.map eI b)), (0, AV.sl (List.map eI a))] [(15, Blk.mk false 3 1 (List.map eI out))]) := (execR_bind _ _ _).symm.trans (by kernel_rfl)

theorem lpTin_ok (a : List Int) (b : List Int) (i : Nat) (out : List Int) (c : Int) (k : Nat) (hp : prlTin a b i out c k = true) : ∀ ex s', (outTin a b i out c k).val = some (ex, s') → LoopOK enTmz (loopN Tryz.f167 1) (stTin a b i out c k) ex s' := by
 simp only [prlTin, Bool.and_eq_true, decide_eq_true_eq] at hp
 obtain ⟨⟨⟨⟨⟨⟨⟨h1, h2⟩, h3⟩, h4⟩, h5⟩, h6⟩, h7⟩, h8⟩ := hp
 have l1 := F.nk_len h1
 have l2 := F.nk_len h2
 have o1 := F.nk_ok h1
 have o2 := F.nk_ok h2
 have h3 := F.okBm_iff.1 h3
 have hx : a[i]? = some a[i] := List.getElem?_eq_getElem h7
 have hxg : a.getD i 0 = a[i] := by simp [hx]
 have hxo := o1 _ (List.getElem_mem h7)
 clear h1 h2
 refine loop_gen (st := fun p : List Int × Int × Nat => stTin a b i p.1 p.2.1 p.2.2) (out := fun p => outTin a b i p.1 p.2.1 p.2.2) (I := fun p => F.okLm p.1 ∧ (0 ≤ p.2.1 ∧ p.2.1 ≤ 9999) ∧ p.2.2 ≤ b.length ∧ p.1.length = a.length + b.length) (n := ([8, 7, 6, 5, 1, 0], [15])) (e := ([7, 6, 5, 1, 0], [15])) (r := ([], [])) (fun p => b.length - p.2.2) ?_ (out, c, k) ⟨h3, ⟨h4, h5⟩, h6, h8⟩
 rintro ⟨out, c, k⟩ ⟨g0, ⟨g1, g2⟩, g3, g4⟩
 simp only at g0 g1 g2 g3 g4
 generalize hxe : a[i] = x at hx hxg hxo
 by_cases hlt : k < b.length
 ·right
  have hy : b[k]? = some b[k] := List.getElem?_eq_getElem hlt
  have hyo := o2 _ (List.getElem_mem hlt)
  have hq : i + k < out.length := by omega
  have ho : out[i + k]? = some out[i + k] := List.getElem?_eq_getElem hq
  have hoo := g0 _ (List.getElem_mem hq)
  generalize b[k] = y at hy hyo
  generalize out[i + k] = o at ho hoo
  have hm := F.mul_bd hxo hyo
  have w0 : IntKind.i64.wrap ((i : Int) + (k : Int)) = ((i + k : Nat) : Int) := by rw [wrap_id (by omega) (by omega)]; rfl
  have w1 : IntKind.i64.wrap (x * y) = x * y := wrap_id (by omega) (by omega)
  have w2 : IntKind.i64.wrap (o + x * y) = o + x * y := wrap_id (by omega) (by omega)
  have w3 : IntKind.i64.wrap (o + x * y + c) = o + x * y + c := wrap_id (by omega) (by omega)
  have hs : (0 : Int) ≤ o + x * y + c := by omega
  have w4 : IntKind.i64.wrap ((o + x * y + c) % 10000) = (o + x * y + c) % 10000 := wrap_id (by omega) (by omega)
  have w5 : IntKind.i64.wrap ((o + x * y + c) / 10000) = (o + x * y + c) / 10000 := wrap_id (by omega) (by omega)
  have m1 : (o + x * y + c).tmod 10000 = (o + x * y + c) % 10000 := Int.tmod_eq_emod_of_nonneg hs
  have m2 : (o + x * y + c).tdiv 10000 = (o + x * y + c) / 10000 := Int.tdiv_eq_ediv_of_nonneg hs
  have hw : IntKind.i64.wrap ((k : Int) + 1) = ((k + 1 : Nat) : Int) := by rw [wrap_id (by omega) (by omega)]; rfl
  have i1 : idx (k : Int) = some k := idx_n (by omega)
  have i2 : idx (i : Int) = some i := idx_n (by omega)
  have i3 : idx ((i + k : Nat) : Int) = some (i + k) := idx_n (by omega)
  have hd := drop_y hy
  have hod := drop_y ho
  refine ⟨(out.set (i + k) ((o + x * y + c) % 10000), (o + x * y + c) / 10000, k + 1), ?_, rfl, ⟨?_, by simp only; omega, by simp only; omega, by simp only [List.length_set]; omega⟩, by simp only; omega, ?_⟩
  ·rw [evTinL]
   simp only [Option.bind_some, List.length_map, unInts, cond_true, cast_lt hlt, decide_eq_true hlt, decide_eq_true h7, decide_eq_true hq, w0, i3, hw, getD_at hx, getD_at hy, getD_at ho, w1, w2, w3, m1, m2, w5, stTin]
   rw [List.map_set]
   rfl
  ·intro z hz
   rcases List.mem_or_eq_of_mem_set hz with h | rfl
   ·exact g0 z h
   ·omega
  ·have e1 : (out.set (i + k) ((o + x * y + c) % 10000)).drop (i + (k + 1)) = out.drop (i + k + 1) := by
    rw [List.drop_set_of_lt (by omega)]
    rfl
   have e2 : (out.set (i + k) ((o + x * y + c) % 10000)).take (i + (k + 1)) = out.take (i + k) ++ [(o + x * y + c) % 10000] := by
    rw [show i + (k + 1) = i + k + 1 from rfl, List.take_succ_eq_append_getElem (by simpa using hq), List.take_set_of_le (Nat.le_refl _), List.getElem_set_self]
   simp only [outTin, hxg, e1, e2, hd, hod, F.rowD, List.append_assoc, List.singleton_append]
 ·have hk : k = b.length := by omega
  left
  refine ⟨(.exit 2, ⟨[(7, vI c), (6, vI i), (5, .own 15), (1, .sl (b.map eI)), (0, .sl (a.map eI))], [(15, ⟨false, 3, 1, out.map eI⟩)]⟩), ?_, ?_, by simp, rfl⟩
  ·have c2 : ¬ (k : Int) < (b.length : Int) := by omega
   rw [evTinL]
   simp only [Option.bind_some, List.length_map, unInts, cond_false, decide_eq_false c2]
  ·simp only [outTin, hk, List.drop_length, F.rowD_nil, List.take_append_drop]
   rfl

end M

theorem F.mulR_cons (b : List Int) (x : Int) (a out : List Int) (h : out ≠ []) : F.mrow x 0 out b = (F.mrow x 0 out b).headD 0 :: (F.mrow x 0 out b).tail ∧
  F.mulR b (x :: a) out = (F.mrow x 0 out b).headD 0 :: F.mulR b a (F.mrow x 0 out b).tail := by
 cases out with
 | nil => exact absurd rfl h
 | cons o os =>
  cases b with
  | nil => exact ⟨rfl, by rw [F.mulR, F.mrow]; rfl⟩
  | cons y b => exact ⟨rfl, by rw [F.mulR, F.mrow]; rfl⟩

theorem F.set_app {p q : List Int} {n : Nat} (k : Nat) (v : Int) (h : p.length = n) : (p ++ q).set (n + k) v = p ++ q.set k v := by
 rw [List.set_append_right _ _ (by omega), h, Nat.add_sub_cancel_left]

theorem F.getD_app {p q : List Int} {n : Nat} (k : Nat) (h : p.length = n) : (p ++ q).getD (n + k) 0 = q.getD k 0 := by
 simp only [List.getD]
 rw [List.getElem?_append_right (by omega), h, Nat.add_sub_cancel_left]

namespace M

theorem evTmzL (a : List Int) (b : List Int) (out : List Int) (i : Nat) : ((exec enTmz (loopN Tryz.f167 0) (stTmz a b out i)).bind (lessX ([6, 5, 1, 0], [15]) ([5], [15]) ([], []))).val =
 bif decide ((↑i : Int) < (↑(List.length (List.map eI a)) : Int)) then Option.bind (unenc stTin1 (St.mk [(8, (vI 0)), (7, (vI 0)), (6, (vI (↑i : Int))), (5,
 .own 15), (1, AV.sl (List.map eI b)), (0, AV.sl (List.map eI a))] [(15, Blk.mk false 3 1 (List.map eI out))])) fun (z : List Int × List Int × Nat × List Int × Int × Nat)
 => (fun (q : Nat) => (fun (q_1 : Int) => (fun (q_2 : Option Nat) => (fun (q_3 : List Int × Int) => (fun (q_4 : List Row) => (fun (q_5 : Option (List Int)) => (fun (q_6 :
 Nat) => bif F.nk (400 : Nat) z.1 && F.nk (400 : Nat) z.2.1 && F.okBm z.2.2.2.1 && decide ((0 : Int) ≤ q_1) && decide (q_1 ≤ 9999) && decide (q ≤
 List.length z.2.1) && decide (z.2.2.1 < List.length z.1) && decide (List.length z.2.2.2.1 = List.length z.1 + List.length z.2.1) && true then
 Option.bind q_2 fun z_1 => bif decide (z_1 < q_6) then Option.bind q_5 fun z_2 => bif decide (z_1 < List.length z_2) then Option.bind q_2 fun (z_3 :
 Nat) => bif decide (z_3 < q_6) then Option.bind q_5 fun z_4 => bif decide (z_3 < List.length z_4) then some (Ex.normal, St.mk [(6, (vI (IntKind.wrap
 IntKind.i64 ((↑z.2.2.1 : Int) + 1)))), (5, .own 15), (1, AV.sl (List.map eI z.2.1)), (0, AV.sl (List.map eI z.1))] [(15, Blk.mk false 3 1 (List.set q_4
 z_3 [(vI (IntKind.i64.wrap (List.getD z_2 z_1 0 + q_3.snd)))]))]) else none else none else none else none else none) (List.length (Blk.mk false 3 1
 q_4).rows)) (unenc (List.map eI) q_4)) (List.map eI (List.take (z.2.2.1 + q) z.2.2.2.1 ++ q_3.fst))) (F.rowD (List.getD z.1 z.2.2.1 (0 : Int)) q_1
 (List.drop (z.2.2.1 + q) z.2.2.2.1) (List.drop q z.2.1))) (idx (IntKind.i64.wrap ((↑z.2.2.1 : Int) + (↑(List.length (List.map eI
 z.2.1)) : Int))))) z.2.2.2.2.1) z.2.2.2.2.2 else some (Ex.exit (0 : Nat), St.mk [(5, .own 15)] [(15, Blk.mk false 3 1 (List.map eI out))]) := (execR_bind _ _ _).symm.trans (by kernel_rfl)

theorem lpTmz_ok (a : List Int) (b : List Int) (out : List Int) (i : Nat) (hp : prlTmz a b out i = true) : ∀ ex s', (outTmz a b out i).val = some (ex, s') → LoopOK enTmz (loopN Tryz.f167 0) (stTmz a b out i) ex s' := by
 simp only [prlTmz, Bool.and_eq_true, decide_eq_true_eq] at hp
 obtain ⟨⟨⟨⟨⟨h1, h2⟩, h3⟩, h4⟩, h5⟩, h6⟩ := hp
 have l1 := F.nk_len h1
 have l2 := F.nk_len h2
 have o1 := F.nk_ok h1
 have o2 := F.nk_ok h2
 have h3 := F.okBm_iff.1 h3
 have h4 := F.zB_iff.1 h4
 refine loop_gen (st := fun p : List Int × Nat => stTmz a b p.1 p.2) (out := fun p => outTmz a b p.1 p.2) (I := fun p => F.okLm p.1 ∧ F.zeroFrom (p.2 + b.length) p.1 ∧ p.2 ≤ a.length ∧ p.1.length = a.length + b.length) (n := ([6, 5, 1, 0], [15])) (e := ([5], [15])) (r := ([], [])) (fun p => a.length - p.2) ?_ (out, i) ⟨h3, h4, h5, h6⟩
 clear h3 h4 h5 h6
 rintro ⟨out, i⟩ ⟨g0, g1, g2, g3⟩
 simp only at g0 g1 g2 g3
 by_cases hlt : i < a.length
 ·right
  have hx : a[i]? = some a[i] := List.getElem?_eq_getElem hlt
  have hxg : a.getD i 0 = a[i] := by simp [hx]
  have hxo := o1 _ (List.getElem_mem hlt)
  generalize a[i] = x at hx hxg hxo
  have hod := F.okLm_drop i g0
  have hzd : F.zeroFrom b.length (out.drop i) := fun z hz => g1 z (by rw [List.drop_drop] at hz; exact hz)
  have hbl : b.length < (out.drop i).length := by rw [List.length_drop]; omega
  have hD := F.mrow_D x b (out.drop i) 0 hbl
  obtain ⟨k1, k2, k3⟩ := F.rowD_ok hxo b (out.drop i) 0 o2 hod (by decide)
  have kz := F.rowD_z (x := x) b (out.drop i) 0 hbl hzd
  have kl := F.rowD_len x b (out.drop i) 0
  obtain ⟨m1, m2⟩ := F.mrow_ok hxo b (out.drop i) 0 o2 hod hzd (by decide)
  have htl : (out.take i).length = i := by rw [List.length_take]; omega
  have hll : (out.take i ++ (F.rowD x 0 (out.drop i) b).1).length = a.length + b.length := by rw [List.length_append, kl, htl, List.length_drop]; omega
  have hml : (F.mrow x 0 (out.drop i) b).length = (out.drop i).length := by rw [hD, List.length_set, kl]
  have hgd := F.getD_app (p := out.take i) (q := (F.rowD x 0 (out.drop i) b).1) b.length htl
  have hst := F.set_app (p := out.take i) (q := (F.rowD x 0 (out.drop i) b).1) b.length ((F.rowD x 0 (out.drop i) b).1.getD b.length 0 + (F.rowD x 0 (out.drop i) b).2) htl
  rw [← hD] at hst
  rw [kz, Int.zero_add] at hst
  rw [kz] at hgd
  have w0 : IntKind.i64.wrap ((i : Int) + (b.length : Int)) = ((i + b.length : Nat) : Int) := by rw [wrap_id (by omega) (by omega)]; rfl
  have w1 : IntKind.i64.wrap (0 + (F.rowD x 0 (out.drop i) b).2) = (F.rowD x 0 (out.drop i) b).2 := by rw [Int.zero_add]; exact wrap_id (by omega) (by omega)
  have hw : IntKind.i64.wrap ((i : Int) + 1) = ((i + 1 : Nat) : Int) := by rw [wrap_id (by omega) (by omega)]; rfl
  have i3 : idx ((i + b.length : Nat) : Int) = some (i + b.length) := idx_n (by omega)
  have hle : decide (i + b.length < (out.take i ++ (F.rowD x 0 (out.drop i) b).1).length) = true := decide_eq_true (by omega)
  have hob := F.okBm_iff.2 g0
  refine ⟨(out.take i ++ F.mrow x 0 (out.drop i) b, i + 1), ?_, rfl, ⟨F.okLm_app (F.okLm_take i g0) m1, ?_, by simp only; omega, by simp only [List.length_append, htl, hml, List.length_drop]; omega⟩, by simp only; omega, ?_⟩
  ·rw [evTmzL]
   simp only [unstTin0, Option.bind_some, List.length_map, unInts, cond_true, Bool.and_true, cast_lt hlt, h1, h2, hob, decide_eq_true hlt, g3, decide_true, Int.le_refl, (by decide : decide ((0 : Int) ≤ 9999) = true), Nat.zero_le, Nat.add_zero, List.drop_zero, hxg, w0, i3, hle, hgd, w1, hw, stTmz]
   rw [← hst, List.map_set]
   rfl
  ·intro z hz
   simp only at hz
   rw [List.drop_append, List.drop_of_length_le (by omega), List.nil_append, htl, show i + 1 + b.length - i = b.length + 1 by omega] at hz
   exact m2 z hz
  ·have hne : out.drop i ≠ [] := fun e => by rw [e] at hbl; simp at hbl
   obtain ⟨e1, e2⟩ := F.mulR_cons b x (a.drop (i + 1)) (out.drop i) hne
   have e3 : (out.take i ++ F.mrow x 0 (out.drop i) b).take (i + 1) = out.take i ++ [(F.mrow x 0 (out.drop i) b).headD 0] := by
    rw [List.take_append, List.take_of_length_le (by omega), htl, show i + 1 - i = 1 by omega]
    congr 1
    rw [e1]; rfl
   have e4 : (out.take i ++ F.mrow x 0 (out.drop i) b).drop (i + 1) = (F.mrow x 0 (out.drop i) b).tail := by
    rw [List.drop_append, List.drop_of_length_le (by omega), List.nil_append, htl, show i + 1 - i = 1 by omega, List.drop_one]
   simp only [outTmz, drop_y hx, e2, e3, e4, List.append_assoc, List.singleton_append]
 ·have hk : i = a.length := by omega
  left
  refine ⟨(.exit 0, ⟨[(5, .own 15)], [(15, ⟨false, 3, 1, out.map eI⟩)]⟩), ?_, ?_, by simp, rfl⟩
  ·have c2 : ¬ (i : Int) < (a.length : Int) := by omega
   rw [evTmzL]
   simp only [unstTin0, Option.bind_some, List.length_map, unInts, cond_false, Bool.and_true, decide_eq_false c2]
  ·simp only [outTmz, hk, List.drop_length, F.mulR, List.take_append_drop]
   rfl

theorem evTmz (a : List Int) (b : List Int) : (runF enTmz false Tryz.f167 [.sl (a.map eI), .sl (b.map eI)]).val =
 Option.bind (idx (IntKind.i64.wrap ((↑(List.length (List.map eI a)) : Int) + (↑(List.length (List.map eI b)) : Int)))) fun z => Option.bind (idx
 (IntKind.i64.wrap ((↑(List.length (List.map eI a)) : Int) + (↑(List.length (List.map eI b)) : Int)))) fun z_1 => bif Nat.ble z z_1 && Nat.ble (z_1 * 8) 140737488355328 then Option.bind (unenc stTmz1 (St.mk [(6, (vI 0)), (5, .own 15), (1, AV.sl (List.map eI b)), (0, AV.sl (List.map eI a))] [(15,
 Blk.mk false 3 1 (List.replicate z [(vI 0)]))])) fun z => bif F.nk (400 : Nat) z.1 && F.nk (400 : Nat) z.2.1 &&
 F.okBm z.2.2.1 && F.zB (z.2.2.2 + List.length z.2.1) z.2.2.1 && decide (z.2.2.2 ≤ List.length z.1) && decide (List.length z.2.2.1 =
 List.length z.1 + List.length z.2.1) && true then Option.bind (unenc encTrm [AV.sl (List.map eI (List.take z.2.2.2 z.2.2.1 ++ F.mulR z.2.1 (List.drop
 z.2.2.2 z.1) (List.drop z.2.2.2 z.2.2.1)))]) fun z => bif decide (List.length z ≤ 100000) then some (AV.sl (List.map eI (F.trimL
 z)), []) else none else none else none := (runFR_val).symm.trans (by kernel_rfl)

def encTmz1 (a : List Int) (b : List Int) : List AV := [.sl (a.map eI), .sl (b.map eI)]

def encTmz (a : (List Int) × (List Int)) : List AV := encTmz1 a.1 a.2

theorem encTmz_inj (a a' : (List Int) × (List Int)) (h : encTmz a = encTmz a') : a = a' := by
 simp only [encTmz, encTmz1] at h
 try simp [ints_inj] at h
 grind

theorem unTmz (a : List Int) (b : List Int) : unenc encTmz ([AV.sl (List.map eI a), AV.sl (List.map eI b)]) = some (a, b) := unenc_of encTmz_inj (a, b) rfl

def resTmz1 (a : List Int) (b : List Int) : AV × Heap := (.sl ((F.lb (F.nv a * F.nv b)).map eI), [])

def preTmz1 (a : List Int) (b : List Int) : Bool := F.nk 400 a && F.nk 400 b

noncomputable def oTmz : Orc := orc 167 false encTmz (fun a => preTmz1 a.1 a.2) fun a => resTmz1 a.1 a.2

theorem okTmz : OrcOK Tryz.prog noG oTmz := by
 refine mk_ok Tryz.f167 (keep := false) (by kernel_rfl) (by kernel_rfl) enTmz_ok mixed (two_loops (x0 := loopN Tryz.f167 0) (x1 := loopN Tryz.f167 1) (by kernel_rfl) (lpo_ok ?_) (lpo_ok ?_)) (by first | exact fun _ _ => ⟨rfl, rfl⟩ | (intro h; cases h)) ?_
 ·rintro ⟨a, b, out, i⟩ hp
  exact lpTmz_ok a b out i hp
 ·rintro ⟨a, b, i, out, c, k⟩ hp
  exact lpTin_ok a b i out c k hp
 rintro ⟨a, b⟩ hpre hok
 show (runF enTmz false _ (encTmz1 _ _)).val = some (resTmz1 _ _)
 unfold encTmz1 resTmz1
 rw [evTmz]
 have hpre : (F.nk 400 a && F.nk 400 b) = true := hpre
 have hpre2 := hpre
 rw [Bool.and_eq_true] at hpre2
 obtain ⟨p1, p2⟩ := hpre2
 have l1 := F.nk_len p1
 have l2 := F.nk_len p2
 have hres : F.trimL (F.mulR b a (List.replicate (a.length + b.length) 0)) = F.lb (F.nv a * F.nv b) := by
  obtain ⟨m, hm1, hm⟩ := F.nk_of p1
  obtain ⟨n, hn1, hn⟩ := F.nk_of p2
  rw [hm1, hn1, F.nv_lb, F.nv_lb]
  exact F.mul_lb m n
 have hrep : ∀ n : Nat, List.replicate n [vI (0 : Int)] = (List.replicate n (0 : Int)).map eI := fun n => by rw [List.map_replicate]; rfl
 have w0 : IntKind.i64.wrap ((a.length : Int) + (b.length : Int)) = ((a.length + b.length : Nat) : Int) := by rw [wrap_id (by omega) (by omega)]; rfl
 have i0 : idx ((a.length + b.length : Nat) : Int) = some (a.length + b.length) := idx_n (by omega)
 have hb1 : Nat.ble (a.length + b.length) (a.length + b.length) = true := ble_t (Nat.le_refl _)
 have hb2 : Nat.ble ((a.length + b.length) * 8) 140737488355328 = true := ble_t (by omega)
 have hok : F.okBm (List.replicate (a.length + b.length) 0) = true := F.okBm_iff.2 fun x hx => by rw [(List.mem_replicate.1 hx).2]; decide
 have hz : F.zB (0 + b.length) (List.replicate (a.length + b.length) 0) = true := F.zB_iff.2 fun x hx => (List.mem_replicate.1 (List.mem_of_mem_drop hx)).2
 have hl : decide ((F.mulR b a (List.replicate (a.length + b.length) 0)).length ≤ 100000) = true := decide_eq_true (by
  have h := (F.mulR_eq (F.nk_ok p2) a (List.replicate (a.length + b.length) 0) (F.nk_ok p1) (F.okBm_iff.1 hok) (fun x hx => (List.mem_replicate.1 (List.mem_of_mem_drop hx)).2) (by rw [List.length_replicate]; exact Nat.le_refl _)).2.2
  rw [h, List.length_replicate]; omega)
 simp only [unTrm, unstTmz0, Option.bind_some, List.length_map, cond_true, Bool.and_true, Bool.true_and, p1, p2, w0, i0, hb1, hb2, hrep, hok, hz, List.length_replicate, decide_true, Nat.zero_le, List.take_zero, List.nil_append, List.drop_zero, hl, hres]
 done

theorem unTrm_1 (n : Int) : unenc encTrm [.sl [[vI n]]] = some [n] := unTrm [n]

theorem trim_1 {n : Int} (h1 : 0 ≤ n) (h2 : n ≤ 9999) : F.trimL [n] = F.lb n.toNat := by
 rw [F.trimL_eq (F.okLm_cons ⟨h1, h2⟩ F.okLm_nil)]
 congr 1
 simp [F.vl]

theorem nk_up {j k : Nat} {l : List Int} (h : F.nk j l = true) (hjk : j ≤ k) : F.nk k l = true := by
 obtain ⟨m, rfl, hm⟩ := F.nk_of h
 exact F.nk_lb (F.lb_lt hm hjk)

theorem nk_1 {n : Int} (h2 : n ≤ 9999) {k : Nat} (hk : 1 ≤ k) : F.nk k (F.lb n.toNat) = true := F.nk_lb (F.lb_lt (m := 1) (by omega) hk)

noncomputable def enSml : Env := envH ty noG lks [oTrm, oTmz] [] [] []

theorem enSml_ok : EnvOK Tryz.prog enSml := by
 refine envH_ok lks_ok ty_ok ?_ ?_
 ·simp only [List.forall_mem_cons]
  exact ⟨okTrm, okTmz, by simp⟩
 ·simp

theorem evSml (a : List Int) (n : Int) : (runF enSml false Tryz.f237 [.sl (a.map eI), vI n]).val =
 Option.bind (unenc encTrm [AV.sl [[(vI n)]]]) fun z => bif decide (List.length z ≤ 100000) then Option.bind (unenc encTmz [AV.sl (List.map eI a),
 AV.sl (List.map eI (F.trimL z))]) fun z => bif F.nk (400 : Nat) z.1 && F.nk (400 : Nat) z.2 then some (AV.sl (List.map eI (F.lb (F.nv z.1 *
 F.nv z.2))), []) else none else none := (runFR_val).symm.trans (by kernel_rfl)

def encSml1 (a : List Int) (n : Int) : List AV := [.sl (a.map eI), vI n]

def encSml (a : (List Int) × Int) : List AV := encSml1 a.1 a.2

theorem encSml_inj (a a' : (List Int) × Int) (h : encSml a = encSml a') : a = a' := by
 simp only [encSml, encSml1] at h
 try simp [ints_inj] at h
 grind

theorem unSml (a : List Int) (n : Int) : unenc encSml ([AV.sl (List.map eI a), (vI n)]) = some (a, n) := unenc_of encSml_inj (a, n) rfl

def resSml1 (a : List Int) (n : Int) : AV × Heap := (.sl ((F.lb (F.nv a * n.toNat)).map eI), [])

def preSml1 (a : List Int) (n : Int) : Bool := F.nk 300 a && decide (0 ≤ n) && decide (n ≤ 9999)

noncomputable def oSml : Orc := orc 237 false encSml (fun a => preSml1 a.1 a.2) fun a => resSml1 a.1 a.2

theorem okSml : OrcOK Tryz.prog noG oSml := by
 refine mk_ok Tryz.f237 (keep := false) (by kernel_rfl) (by kernel_rfl) enSml_ok mixed (no_loops (by kernel_rfl)) (by first | exact fun _ _ => ⟨rfl, rfl⟩ | (intro h; cases h)) ?_
 rintro ⟨a, n⟩ hpre hok
 show (runF enSml false _ (encSml1 _ _)).val = some (resSml1 _ _)
 unfold encSml1 resSml1
 rw [evSml]
 have hpre : (F.nk 300 a && decide (0 ≤ n) && decide (n ≤ 9999)) = true := hpre
 have hpre2 := hpre
 rw [Bool.and_eq_true, Bool.and_eq_true, decide_eq_true_eq, decide_eq_true_eq] at hpre2
 simp only [unTmz, Option.bind_some, cond_true, Bool.true_and, nk_up hpre2.1.1 (by decide : 300 ≤ 400), unTrm_1, trim_1 hpre2.1.2 hpre2.2, nk_1 hpre2.2 (by decide : 1 ≤ 400), F.nv_lb]
 rfl

end M

namespace M

theorem nk_mul {j k l m n : Nat} (h1 : m < 10000 ^ j) (h2 : n < 10000 ^ k) (h : j + k ≤ l) : F.nk l (F.lb (m * n)) = true := F.nk_lb (F.lb_lt (F.mul_lt h1 h2) h)

theorem nk_lt {k : Nat} {l : List Int} (h : F.nk k l = true) : F.nv l < 10000 ^ k := by
 obtain ⟨m, rfl, hm⟩ := F.nk_of h
 rw [F.nv_lb]; exact hm

def stDvi (a : List Int) (b : List Int) (out : List Int) (r : List Int) (i : Int) (lo : Nat) (hi : Nat) : St := ⟨[(11, vI hi), (10, vI lo), (8, vI i), (7, .sl (r.map eI)), (6, .own 15), (1, .sl (b.map eI)), (0, .sl (a.map eI))], [(15, ⟨false, 3, 1, out.map eI⟩)]⟩

def stDvi1 (a : (List Int) × (List Int) × (List Int) × (List Int) × Int × Nat × Nat) : St := stDvi a.1 a.2.1 a.2.2.1 a.2.2.2.1 a.2.2.2.2.1 a.2.2.2.2.2.1 a.2.2.2.2.2.2

theorem stDvi_inj (a a' : (List Int) × (List Int) × (List Int) × (List Int) × Int × Nat × Nat) (h : stDvi1 a = stDvi1 a') : a = a' := by
 simp only [stDvi1, stDvi] at h
 try simp [ints_inj] at h
 grind

theorem unstDvi0 (a : List Int) (b : List Int) (out : List Int) (r : List Int) (i : Int)  : unenc stDvi1 (St.mk [(11, (vI (9999 : Int))), (10, (vI (0 : Int))), (8, (vI i)), (7, AV.sl (List.map eI r)), (6, .own 15), (1, AV.sl (List.map eI b)), (0, AV.sl (List.map eI a))] [(15,
 Blk.mk false 3 1 (List.map eI out))]) = some (a, b, out, r, i, 0, 9999) := unenc_of stDvi_inj (a, b, out, r, i, 0, 9999) rfl

def outDvi (a : List Int) (b : List Int) (out : List Int) (r : List Int) (i : Int) (lo : Nat) (hi : Nat) : T (Ex × St) := .ret (.exit 2, ⟨[(10, vI (F.nv r / F.nv b : Nat)), (8, vI i), (7, .sl (r.map eI)), (6, .own 15), (1, .sl (b.map eI)), (0, .sl (a.map eI))], [(15, ⟨false, 3, 1, out.map eI⟩)]⟩)

noncomputable def prlDvi (a : List Int) (b : List Int) (out : List Int) (r : List Int) (i : Int) (lo : Nat) (hi : Nat) : Bool := F.nk 200 b && decide (0 < F.nv b) && F.nk 201 r && decide (lo ≤ F.nv r / F.nv b) && decide (F.nv r / F.nv b ≤ hi) && decide (hi ≤ 9999)

noncomputable def lpDvi : Nat × (St → T (Ex × St)) := (10, lpo [11, 10, 8, 7, 6, 1, 0] [15] stDvi1 (fun a => prlDvi a.1 a.2.1 a.2.2.1 a.2.2.2.1 a.2.2.2.2.1 a.2.2.2.2.2.1 a.2.2.2.2.2.2) fun a => outDvi a.1 a.2.1 a.2.2.1 a.2.2.2.1 a.2.2.2.2.1 a.2.2.2.2.2.1 a.2.2.2.2.2.2)

def stDv (a : List Int) (b : List Int) (out : List Int) (i : Int) : St := ⟨[(8, vI i), (7, .own 7), (6, .own 15), (1, .sl (b.map eI)), (0, .sl (a.map eI))], [(15, ⟨false, 3, 1, out.map eI⟩), (7, ⟨false, 3, 1, []⟩)]⟩

def stDv1 (a : (List Int) × (List Int) × (List Int) × Int) : St := stDv a.1 a.2.1 a.2.2.1 a.2.2.2

theorem stDv_inj (a a' : (List Int) × (List Int) × (List Int) × Int) (h : stDv1 a = stDv1 a') : a = a' := by
 simp only [stDv1, stDv] at h
 try simp [ints_inj] at h
 grind

theorem unstDv (a : List Int) (b : List Int) (out : List Int) (i : Int) : unenc stDv1 (St.mk [(8, (vI i)), (7, .own 7), (6, .own 15), (1, AV.sl (List.map eI b)), (0, AV.sl (List.map eI a))] [(15, Blk.mk false 3 1 (List.map eI out)), (7, Blk.mk false 3 1 [])]) = some (a, b, out, i) := unenc_of stDv_inj (a, b, out, i) rfl

def outDv (a : List Int) (b : List Int) (out : List Int) (i : Int) : T (Ex × St) := .ifB (decide (i < 0)) (.ret (.exit 0, ⟨[(7, .own 7), (6, .own 15)], [(15, ⟨false, 3, 1, []⟩), (7, ⟨false, 3, 1, []⟩)]⟩))
      (.ret (.exit 0, ⟨[(7, .sl ((F.lb (F.dqo (F.nv b) a).2).map eI)), (6, .own 15)], [(15, ⟨false, 3, 1, (F.dqo (F.nv b) a).1.map eI⟩)]⟩))

noncomputable def prlDv (a : List Int) (b : List Int) (out : List Int) (i : Int) : Bool := F.nk 200 a && F.nk 200 b && decide (0 < F.nv b) && decide (out = List.replicate a.length 0) && decide (i = (a.length : Int) - 1)

noncomputable def lpDv : Nat × (St → T (Ex × St)) := (4, lpo [8, 7, 6, 1, 0] [15, 7] stDv1 (fun a => prlDv a.1 a.2.1 a.2.2.1 a.2.2.2) fun a => outDv a.1 a.2.1 a.2.2.1 a.2.2.2)

noncomputable def enDv : Env := envH ty noG lks [oTrm, oSml, oCpr, oLes] [] [] [lpDv, lpDvi]

theorem enDv_ok : EnvOK Tryz.prog enDv := by
 refine envH_ok lks_ok ty_ok ?_ ?_
 ·simp only [List.forall_mem_cons]
  exact ⟨okTrm, okSml, okCpr, okLes, by simp⟩
 ·simp

theorem evDviL (a : List Int) (b : List Int) (out : List Int) (r : List Int) (i : Int) (lo : Nat) (hi : Nat) : ((exec enDv (loopN Tryz.f206 1) (stDvi a b out r i lo hi)).bind (lessX ([11, 10, 8, 7, 6, 1, 0], [15]) ([10, 8, 7, 6, 1, 0], [15]) ([], []))).val =
 bif decide ((↑lo : Int) < (↑hi : Int)) then Option.bind (unenc encSml [AV.sl (List.map eI b), (vI (IntKind.i64.wrap (Int.tdiv (IntKind.wrap IntKind.i64
 (IntKind.i64.wrap ((↑lo : Int) + (↑hi : Int)) + 1)) (2 : Int))))]) fun z => bif F.nk (300 : Nat) z.1 && decide ((0 : Int) ≤ z.2) &&
 decide (z.2 ≤ 9999) then Option.bind (unenc encCpr [AV.sl (List.map eI (F.lb (F.nv z.1 * Int.toNat z.2))), AV.sl (List.map eI r)]) fun z => bif F.nk (1000 : Nat) z.1 && F.nk (1000 : Nat) z.2 then bif decide (F.sgnL (↑(F.nv z.1) : Int) (↑(F.nv z.2) : Int) ≤ 0) then some (Ex.normal, St.mk
 [(11, (vI (↑hi : Int))), (10, (vI (IntKind.i64.wrap (Int.tdiv (IntKind.i64.wrap (IntKind.i64.wrap ((↑lo : Int) + (↑hi : Int)) + 1)) (2 :
 Int))))), (8, (vI i)), (7, AV.sl (List.map eI r)), (6, .own 15), (1, AV.sl (List.map eI b)), (0, AV.sl (List.map eI a))] [(15, Blk.mk false 3 1 (List.map eI out))]) else
 some (Ex.normal, St.mk [(11, (vI (IntKind.i64.wrap (IntKind.i64.wrap (Int.tdiv (IntKind.i64.wrap (IntKind.i64.wrap ((↑lo : Int) + (↑hi :
 Int)) + 1)) (2 : Int)) - (1 : Int))))), (10, (vI (↑lo : Int))), (8, (vI i)), (7, AV.sl (List.map eI r)), (6, .own 15), (1, AV.sl (List.map eI b)), (0, AV.sl
 (List.map eI a))] [(15, Blk.mk false 3 1 (List.map eI out))]) else none else none else some (Ex.exit (2 : Nat), St.mk [(10, (vI (↑lo : Int))), (8, (vI i)), (7, AV.sl
 (List.map eI r)), (6, .own 15), (1, AV.sl (List.map eI b)), (0, AV.sl (List.map eI a))] [(15, Blk.mk false 3 1 (List.map eI out))]) := (execR_bind _ _ _).symm.trans (by kernel_rfl)

theorem lpDvi_ok (a : List Int) (b : List Int) (out : List Int) (r : List Int) (i : Int) (lo : Nat) (hi : Nat) (hp : prlDvi a b out r i lo hi = true) : ∀ ex s', (outDvi a b out r i lo hi).val = some (ex, s') → LoopOK enDv (loopN Tryz.f206 1) (stDvi a b out r i lo hi) ex s' := by
 simp only [prlDvi, Bool.and_eq_true, decide_eq_true_eq] at hp
 obtain ⟨⟨⟨⟨⟨h1, h2⟩, h3⟩, h4⟩, h5⟩, h6⟩ := hp
 have n1 := nk_up h1 (by decide : 200 ≤ 300)
 have n2 := nk_up h3 (by decide : 201 ≤ 1000)
 have hbv := nk_lt h1
 generalize hqe : F.nv r / F.nv b = q at h4 h5
 refine loop_gen (st := fun p : Nat × Nat => stDvi a b out r i p.1 p.2) (out := fun p => outDvi a b out r i p.1 p.2) (I := fun p => p.1 ≤ q ∧ q ≤ p.2 ∧ p.2 ≤ 9999) (n := ([11, 10, 8, 7, 6, 1, 0], [15])) (e := ([10, 8, 7, 6, 1, 0], [15])) (r := ([], [])) (fun p => p.2 - p.1) ?_ (lo, hi) ⟨h4, h5, h6⟩
 clear h4 h5 h6
 rintro ⟨lo, hi⟩ ⟨g1, g2, g3⟩
 simp only at g1 g2 g3
 by_cases hlt : lo < hi
 ·right
  obtain ⟨m, hm⟩ : ∃ m, m = (lo + hi + 1) / 2 := ⟨_, rfl⟩
  have hm1 : lo < m := by omega
  have hm2 : m ≤ hi := by omega
  have w1 : IntKind.i64.wrap ((lo : Int) + (hi : Int)) = ((lo + hi : Nat) : Int) := by rw [wrap_id (by omega) (by omega)]; rfl
  have w2 : IntKind.i64.wrap (((lo + hi : Nat) : Int) + 1) = ((lo + hi + 1 : Nat) : Int) := by rw [wrap_id (by omega) (by omega)]; rfl
  have w3 : (((lo + hi + 1 : Nat) : Int)).tdiv 2 = ((m : Nat) : Int) := by rw [Int.tdiv_eq_ediv_of_nonneg (by omega)]; omega
  have w4 : IntKind.i64.wrap ((m : Nat) : Int) = (m : Int) := wrap_id (by omega) (by omega)
  have w5 : IntKind.i64.wrap ((m : Int) - 1) = ((m - 1 : Nat) : Int) := by rw [wrap_id (by omega) (by omega)]; omega
  have p1 : decide ((0 : Int) ≤ (m : Int)) = true := decide_eq_true (by omega)
  have p2 : decide ((m : Int) ≤ 9999) = true := decide_eq_true (by omega)
  have k1 : F.nk 1000 (F.lb (F.nv b * m)) = true := nk_mul (k := 1) hbv (by omega) (by decide)
  have hs := F.sgnL_le (F.nv b * m) (F.nv r)
  have hd := F.div_le (b := F.nv b) (R := F.nv r) (mid := m) h2
  rw [hqe] at hd
  by_cases hc : m ≤ q
  ·refine ⟨(m, hi), ?_, rfl, ⟨hc, g2, g3⟩, by simp only; omega, rfl⟩
   rw [decide_eq_true (hd.2 hc)] at hs
   rw [evDviL]
   simp only [unSml, unCpr, Option.bind_some, cond_true, Bool.and_true, cast_lt hlt, w1, w2, w3, w4, n1, n2, p1, p2, Int.toNat_natCast, k1, F.nv_lb, hs, stDvi]
  ·refine ⟨(lo, m - 1), ?_, rfl, ⟨g1, by simp only; omega, by simp only; omega⟩, by simp only; omega, rfl⟩
   rw [decide_eq_false (fun h => hc (hd.1 h))] at hs
   rw [evDviL]
   simp only [unSml, unCpr, Option.bind_some, cond_true, cond_false, Bool.and_true, cast_lt hlt, w1, w2, w3, w4, w5, n1, n2, p1, p2, Int.toNat_natCast, k1, F.nv_lb, hs, stDvi]
 ·have hk : lo = q := by omega
  left
  refine ⟨(.exit 2, ⟨[(10, vI lo), (8, vI i), (7, .sl (r.map eI)), (6, .own 15), (1, .sl (b.map eI)), (0, .sl (a.map eI))], [(15, ⟨false, 3, 1, out.map eI⟩)]⟩), ?_, ?_, by simp, rfl⟩
  ·have c2 : ¬ (lo : Int) < (hi : Int) := by omega
   rw [evDviL]
   simp only [unSml, unCpr, Option.bind_some, cond_false, decide_eq_false c2]
  ·simp only [outDvi, hqe, hk]
   rfl

end M

theorem F.dqo_step {B : Nat} (hB : 0 < B) {x : Int} {l : List Int} (hx : 0 ≤ x ∧ x ≤ 9999) (hl : F.okLm l) :
  F.trimL (x :: F.lb (F.dqo B l).2) = F.lb (x.toNat + 10000 * (F.dqo B l).2) ∧ (x.toNat + 10000 * (F.dqo B l).2) / B ≤ 9999 ∧ x.toNat + 10000 * (F.dqo B l).2 < 10000 * B ∧
  B * ((x.toNat + 10000 * (F.dqo B l).2) / B) ≤ x.toNat + 10000 * (F.dqo B l).2 ∧
  x.toNat + 10000 * (F.dqo B l).2 - B * ((x.toNat + 10000 * (F.dqo B l).2) / B) = (F.dqo B (x :: l)).2 := by
 have hr : (F.dqo B l).2 < B := by rw [(F.dqo_eq hB hl).2.2.1]; exact Nat.mod_lt _ hB
 have hlt : x.toNat + 10000 * (F.dqo B l).2 < 10000 * B := by omega
 have e := Nat.div_add_mod (x.toNat + 10000 * (F.dqo B l).2) B
 refine ⟨?_, ?_, hlt, ?_, ?_⟩
 ·have := F.trimL_cons (x := x.toNat) (r := (F.dqo B l).2) (by omega)
  rwa [Int.toNat_of_nonneg hx.1] at this
 ·have := (Nat.div_lt_iff_lt_mul (k := B) (x := x.toNat + 10000 * (F.dqo B l).2) (y := 10000) hB).2 hlt
  omega
 ·omega
 ·rw [F.dqo]; show _ = _ % B; omega

theorem F.set_rep (n : Nat) (v : Int) (D : List Int) : (List.replicate (n + 1) (0 : Int) ++ D).set n v = List.replicate n 0 ++ v :: D := by
 rw [List.replicate_succ', List.append_assoc, List.set_append_right _ _ (by simp), List.length_replicate, Nat.sub_self]
 rfl

namespace M

theorem unTrm_c (x : Int) (l : List Int) : unenc encTrm [.sl ([vI x] :: l.map eI)] = some (x :: l) := unTrm (x :: l)

def stDvS (a b out rs : List Int) (i : Int) : St := ⟨[(8, vI i), (7, .sl (rs.map eI)), (6, .own 15), (1, .sl (b.map eI)), (0, .sl (a.map eI))], [(15, ⟨false, 3, 1, out.map eI⟩)]⟩

theorem evDvS (a b out rs : List Int) (i : Int) : ((exec enDv (loopN Tryz.f206 0) (stDvS a b out rs i)).bind (lessX ([8, 7, 6, 1, 0], [15, 7]) ([7, 6], [15, 7]) ([], []))).val =
 bif decide ((0 : Int) ≤ i) then Option.bind (idx i) fun z => Option.bind (unenc (List.map eI) (List.map eI a)) fun z_1 => bif decide (z < List.length
 z_1) then bif Nat.ble (((1 : Nat) + List.length (List.map eI rs)) * 8) 140737488355328 && List.all (List.map eI rs) fun (r : Row) => Nat.beq (List.length
 r) (TI.mk false (1 : Nat) [] [AV.e0] (3 : Nat) (1 : Nat) (8 : Nat) [(vI 0)] none (4 : Nat) []).esize then Option.bind (unenc encTrm [AV.sl ([(vI (List.getD z_1 z
 (0 : Int)))] :: List.map eI rs)]) fun z => bif decide (List.length z ≤ 100000) then Option.bind (unenc stDvi1 (St.mk [(11, (vI 9999)), (10,
 (vI 0)), (8, (vI i)), (7, AV.sl (List.map eI (F.trimL z))), (6, .own 15), (1, AV.sl (List.map eI b)), (0, AV.sl (List.map eI a))] [(15, Blk.mk false 3 1 (List.map
 eI out))])) fun z => (fun (q : Nat × Nat) => (fun (q_1 : Nat) => (fun (q_2 : List AV) => bif F.nk (200 :
 Nat) z.2.1 && decide ((0 : Nat) < F.nv z.2.1) && F.nk (201 : Nat) z.2.2.2.1 && decide (q.fst ≤ q_1) && decide (q_1 ≤ q.snd) && decide (q.snd ≤ 9999) && true then Option.bind (idx z.2.2.2.2.1) fun z_2 => bif decide (z_2 < List.length (Blk.mk false 3 1 (List.map eI z.2.2.1)).rows) then
 Option.bind (unenc (List.map eI) (List.map eI z.2.2.1)) fun z_3 => bif decide (z_2 < List.length z_3) then Option.bind (unenc encSml (AV.sl (List.map eI
 z.2.1) :: q_2)) fun z_4 => bif F.nk (300 : Nat) z_4.1 && decide ((0 : Int) ≤ z_4.2) && decide (z_4.2 ≤ 9999) then Option.bind (unenc
 encLes [AV.sl (List.map eI z.2.2.2.1), AV.sl (List.map eI (F.lb (F.nv z_4.1 * Int.toNat z_4.2)))]) fun z_5 => bif F.nk (1000 : Nat)
 z_5.1 && F.nk (1000 : Nat) z_5.2 && decide (F.nv z_5.2 ≤ F.nv z_5.1) then some (Ex.normal, St.mk [(8, (vI (IntKind.i64.wrap (z.2.2.2.2.1 - (1 :
 Int))))), (7, AV.sl (List.map eI (F.lb (F.nv z_5.1 - F.nv z_5.2)))), (6, .own 15), (1, AV.sl (List.map eI z.2.1)), (0, AV.sl (List.map eI z.1))] [(15, Blk.mk
 false 3 1 (List.set (List.map eI z.2.2.1) z_2 q_2))]) else none else none else none else none else none) [(vI (↑(Nat.div (F.nv z.2.2.2.1) (F.nv z.2.1)) :
 Int))]) (F.nv z.2.2.2.1 / F.nv z.2.1)) z.2.2.2.2.2 else none else none else none else some (Ex.exit (0 : Nat), St.mk [(7, AV.sl (List.map eI rs)),
 (6, .own 15)] [(15, Blk.mk false 3 1 (List.map eI out))]) := (execR_bind _ _ _).symm.trans (by kernel_rfl)

theorem evDvN (a b out : List Int) (i : Int) : ((exec enDv (loopN Tryz.f206 0) (stDv a b out i)).bind (lessX ([8, 7, 6, 1, 0], [15, 7]) ([7, 6], [15, 7]) ([], []))).val =
 bif decide ((0 : Int) ≤ i) then Option.bind (idx i) fun z => Option.bind (unenc (List.map eI) (List.map eI a)) fun z_1 => bif decide (z < List.length
 z_1) then Option.bind (unenc encTrm [AV.sl [[(vI (List.getD z_1 z 0))]]]) fun z => bif decide (List.length z ≤ 100000) then Option.bind (unenc
 stDvi1 (St.mk [(11, (vI 9999)), (10, (vI 0)), (8, (vI i)), (7, AV.sl (List.map eI (F.trimL z))), (6, .own 15), (1, AV.sl (List.map eI b)), (0, AV.sl
 (List.map eI a))] [(15, Blk.mk false 3 1 (List.map eI out))])) fun z => (fun (q : Nat × Nat) => (fun (q_1 :
 Nat) => (fun (q_2 : List AV) => bif F.nk (200 : Nat) z.2.1 && decide ((0 : Nat) < F.nv z.2.1) && F.nk (201 : Nat) z.2.2.2.1 && decide (q.fst ≤ q_1) &&
 decide (q_1 ≤ q.snd) && decide (q.snd ≤ 9999) && true then Option.bind (idx z.2.2.2.2.1) fun z_2 => bif decide (z_2 < List.length (Blk.mk false 3
 1 (List.map eI z.2.2.1)).rows) then Option.bind (unenc (List.map eI) (List.map eI z.2.2.1)) fun z_3 => bif decide (z_2 < List.length z_3) then
 Option.bind (unenc encSml (AV.sl (List.map eI z.2.1) :: q_2)) fun z_4 => bif F.nk (300 : Nat) z_4.1 && decide ((0 : Int) ≤ z_4.2) && decide
 (z_4.2 ≤ 9999) then Option.bind (unenc encLes [AV.sl (List.map eI z.2.2.2.1), AV.sl (List.map eI (F.lb (F.nv z_4.1 * Int.toNat z_4.2)))]) fun (z_5 :
 List Int × List Int) => bif F.nk (1000 : Nat) z_5.1 && F.nk (1000 : Nat) z_5.2 && decide (F.nv z_5.2 ≤ F.nv z_5.1) then some (Ex.normal, St.mk [(8, (vI
 (IntKind.i64.wrap (z.2.2.2.2.1 - (1 : Int))))), (7, AV.sl (List.map eI (F.lb (F.nv z_5.1 - F.nv z_5.2)))), (6, .own 15), (1, AV.sl (List.map eI
 z.2.1)), (0, AV.sl (List.map eI z.1))] [(15, Blk.mk false 3 1 (List.set (List.map eI z.2.2.1) z_2 q_2))]) else none else none else none else none else none)
 [(vI (↑(Nat.div (F.nv z.2.2.2.1) (F.nv z.2.1)) : Int))]) (F.nv z.2.2.2.1 / F.nv z.2.1)) z.2.2.2.2.2 else none else none else some
 (Ex.exit (0 : Nat), St.mk [(7, .own 7), (6, .own 15)] [(15, Blk.mk false 3 1 (List.map eI out)), (7, Blk.mk false 3 1 [])]) := (execR_bind _ _ _).symm.trans (by kernel_rfl)

def stDx (a b : List Int) : Option Nat → St
 | none => stDv a b (List.replicate a.length 0) ((a.length : Int) - 1)
 | some n => stDvS a b (List.replicate n 0 ++ (F.dqo (F.nv b) (a.drop n)).1) (F.lb (F.dqo (F.nv b) (a.drop n)).2) ((n : Int) - 1)

def outDx (a b : List Int) : Option Nat → T (Ex × St)
 | none => outDv a b (List.replicate a.length 0) ((a.length : Int) - 1)
 | some n => .ret (.exit 0, ⟨[(7, .sl ((F.lb (F.dqo (F.nv b) a).2).map eI)), (6, .own 15)], [(15, ⟨false, 3, 1, (F.dqo (F.nv b) a).1.map eI⟩)]⟩)

theorem dv_step {a b : List Int} (h1 : F.nk 200 a = true) (h2 : F.nk 200 b = true) (h3 : 0 < F.nv b) {n : Nat} (hlt : n < a.length) (rs : List Int) (hrs : rs = F.lb (F.dqo (F.nv b) (a.drop (n + 1))).2) (out : List Int) (ho : out = List.replicate (n + 1) 0 ++ (F.dqo (F.nv b) (a.drop (n + 1))).1) :
  ((exec enDv (loopN Tryz.f206 0) (stDvS a b out rs n)).bind (lessX ([8, 7, 6, 1, 0], [15, 7]) ([7, 6], [15, 7]) ([], []))).val = some (.normal, stDx a b (some n)) ∧
  (rs = [] → ((exec enDv (loopN Tryz.f206 0) (stDv a b out n)).bind (lessX ([8, 7, 6, 1, 0], [15, 7]) ([7, 6], [15, 7]) ([], []))).val = some (.normal, stDx a b (some n))) := by
 have l1 := F.nk_len h1
 have o1 := F.nk_ok h1
 have n2 := nk_up h2 (by decide : 200 ≤ 300)
 have hbv := nk_lt h2
 have hx : a[n]? = some a[n] := List.getElem?_eq_getElem hlt
 have hxo := o1 _ (List.getElem_mem hlt)
 generalize hxe : a[n] = x at hx hxo
 obtain ⟨q1, q2, q3, q4, q5⟩ := F.dqo_step h3 hxo (F.okLm_drop (n + 1) o1)
 have hD : (F.dqo (F.nv b) (x :: a.drop (n + 1))).1 = (((x.toNat + 10000 * (F.dqo (F.nv b) (a.drop (n + 1))).2) / F.nv b : Nat) : Int) :: (F.dqo (F.nv b) (a.drop (n + 1))).1 := by rw [F.dqo]
 have hdl : (F.dqo (F.nv b) (a.drop (n + 1))).1.length + (n + 1) = a.length := by
  rw [(F.dqo_eq h3 (F.okLm_drop (n + 1) o1)).2.2.2, List.length_drop]; omega
 have hset := F.set_rep n (((x.toNat + 10000 * (F.dqo (F.nv b) (a.drop (n + 1))).2) / F.nv b : Nat) : Int) (F.dqo (F.nv b) (a.drop (n + 1))).1
 rw [← ho, ← hD, ← drop_y hx] at hset
 rw [← hrs] at q1
 rw [← drop_y hx] at q5
 have hol : out.length = a.length := by rw [ho, List.length_append, List.length_replicate]; omega
 have hrl : rs.length ≤ 200 := by
  rw [hrs]
  refine F.lb_len ?_
  have : (F.dqo (F.nv b) (a.drop (n + 1))).2 < F.nv b := by rw [(F.dqo_eq h3 (F.okLm_drop (n + 1) o1)).2.2.1]; exact Nat.mod_lt _ h3
  omega
 generalize hy : x.toNat + 10000 * (F.dqo (F.nv b) (a.drop (n + 1))).2 = y at q1 q2 q3 q4 q5 hset
 generalize hqe : y / F.nv b = q at q2 q4 q5 hset
 have hylt : y < 10000 ^ 1 * 10000 ^ 200 := by rw [Nat.pow_one]; exact Nat.lt_of_lt_of_le q3 (Nat.mul_le_mul_left _ (Nat.le_of_lt hbv))
 have k201 : F.nk 201 (F.lb y) = true := F.nk_lb (by rw [← Nat.pow_add] at hylt; exact F.lb_lt hylt (by decide))
 have k1000 := nk_up k201 (by decide : 201 ≤ 1000)
 have k1000b : F.nk 1000 (F.lb (F.nv b * q)) = true := nk_mul (k := 1) hbv (by omega) (by decide)
 have hi0 : decide ((0 : Int) ≤ (n : Int)) = true := decide_eq_true (by omega)
 have i2 : idx (n : Int) = some n := idx_n (by omega)
 have hbr : Nat.ble ((1 + rs.length) * 8) 140737488355328 = true := ble_t (by omega)
 have hall : ((rs.map eI).all fun r => (List.length r).beq 1) = true := List.all_eq_true.2 fun r hr => by
  obtain ⟨x, _, rfl⟩ := List.mem_map.1 hr
  rfl
 have hc1 : decide ((x :: rs).length ≤ 100000) = true := decide_eq_true (by simp only [List.length_cons]; omega)
 have hc2 : decide (([x] : List Int).length ≤ 100000) = true := decide_eq_true (by simp)
 have hdv : ∀ u v : Nat, Nat.div u v = u / v := fun _ _ => rfl
 have hq9 : decide (q ≤ 9999) = true := decide_eq_true q2
 have hz0 : decide ((0 : Int) ≤ (q : Int)) = true := decide_eq_true (by omega)
 have hz9 : decide ((q : Int) ≤ 9999) = true := decide_eq_true (by omega)
 have hno : decide (n < out.length) = true := decide_eq_true (by omega)
 have hle : decide (F.nv b * q ≤ y) = true := decide_eq_true q4
 have hw : IntKind.i64.wrap ((n : Int) - 1) = (n : Int) - 1 := wrap_id (by omega) (by omega)
 refine ⟨?_, fun he => ?_⟩
 ·rw [evDvS]
  simp only [unSml, unLes, unstDvi0, Option.bind_some, List.length_map, unInts, cond_true, Bool.and_true, Bool.true_and, hi0, i2, decide_eq_true hlt, getD_at hx, hbr, hall, unTrm_c, hc1, q1, h2, n2, decide_eq_true h3, k201, k1000, k1000b, hdv, hqe, F.nv_lb, hq9, hz0, hz9, hno, hle, q5, decide_true, Nat.zero_le, Nat.le_refl, Int.toNat_natCast, hw]
  rw [stDx, ← hset, stDvS, List.map_set]
  rfl
 ·subst he
  rw [evDvN]
  simp only [unSml, unLes, unstDvi0, Option.bind_some, List.length_map, unInts, cond_true, Bool.and_true, Bool.true_and, hi0, i2, decide_eq_true hlt, getD_at hx, unTrm_1, hc2, q1, h2, n2, decide_eq_true h3, k201, k1000, k1000b, hdv, hqe, F.nv_lb, hq9, hz0, hz9, hno, hle, q5, decide_true, Nat.zero_le, Nat.le_refl, Int.toNat_natCast, hw]
  rw [stDx, ← hset, stDvS, List.map_set]
  rfl

end M

namespace M

theorem dq_nil (B : Nat) : F.dqo B [] = ([], 0) := rfl

theorem lpDv_ok (a : List Int) (b : List Int) (out : List Int) (i : Int) (hp : prlDv a b out i = true) : ∀ ex s', (outDv a b out i).val = some (ex, s') → LoopOK enDv (loopN Tryz.f206 0) (stDv a b out i) ex s' := by
 simp only [prlDv, Bool.and_eq_true, decide_eq_true_eq] at hp
 obtain ⟨⟨⟨⟨h1, h2⟩, h3⟩, h4⟩, h5⟩ := hp
 subst h4 h5
 have l1 := F.nk_len h1
 refine loop_gen (st := stDx a b) (out := outDx a b) (I := fun o => ∀ n, o = some n → n < a.length) (n := ([8, 7, 6, 1, 0], [15, 7])) (e := ([7, 6], [15, 7])) (r := ([], [])) (fun o => match o with | none => a.length + 1 | some n => n) ?_ none (fun n h => by cases h)
 intro o ho
 cases o with
 | none =>
  by_cases hz : a.length = 0
  ·left
   have ha : a = [] := List.length_eq_zero_iff.1 hz
   subst ha
   refine ⟨(.exit 0, ⟨[(7, .own 7), (6, .own 15)], [(15, ⟨false, 3, 1, []⟩), (7, ⟨false, 3, 1, []⟩)]⟩), ?_, rfl, by simp, rfl⟩
   show ((exec enDv (loopN Tryz.f206 0) (stDv [] b (List.replicate 0 0) (-1))).bind _).val = _
   rw [evDvN]
   rfl
  ·right
   obtain ⟨n, hn⟩ : ∃ n, a.length = n + 1 := ⟨a.length - 1, by omega⟩
   have hd : a.drop (n + 1) = [] := List.drop_eq_nil_of_le (by omega)
   have e1 : ([] : List Int) = F.lb (F.dqo (F.nv b) (a.drop (n + 1))).2 := by rw [hd, dq_nil, F.lb_zero]
   have e2 : List.replicate (n + 1) (0 : Int) = List.replicate (n + 1) 0 ++ (F.dqo (F.nv b) (a.drop (n + 1))).1 := by rw [hd, dq_nil]; exact (List.append_nil _).symm
   have hs := (dv_step h1 h2 h3 (n := n) (by omega) [] e1 _ e2).2 rfl
   refine ⟨some n, ?_, ?_, fun m h => by cases h; omega, by simp only; omega, ?_⟩
   ·have e : stDx a b none = stDv a b (List.replicate (n + 1) 0) (n : Int) := by
     show stDv a b (List.replicate a.length 0) ((a.length : Int) - 1) = _
     rw [hn, show ((n + 1 : Nat) : Int) - 1 = (n : Int) by omega]
    rw [e]; exact hs
   ·rfl
   ·have hf : decide ((a.length : Int) - 1 < 0) = false := decide_eq_false (by omega)
    simp only [outDx, outDv, hf]
    rfl
 | some m =>
  have hm := ho m rfl
  cases m with
  | zero =>
   left
   refine ⟨(.exit 0, ⟨[(7, .sl ((F.lb (F.dqo (F.nv b) a).2).map eI)), (6, .own 15)], [(15, ⟨false, 3, 1, (F.dqo (F.nv b) a).1.map eI⟩)]⟩), ?_, rfl, by simp, rfl⟩
   show ((exec enDv (loopN Tryz.f206 0) (stDvS a b (List.replicate 0 0 ++ (F.dqo (F.nv b) (a.drop 0)).1) (F.lb (F.dqo (F.nv b) (a.drop 0)).2) (-1))).bind _).val = _
   rw [evDvS]
   rfl
  | succ n =>
   right
   have hs := (dv_step h1 h2 h3 (n := n) (by omega) _ rfl _ rfl).1
   refine ⟨some n, ?_, rfl, fun m h => by cases h; omega, by simp only; omega, rfl⟩
   have e : stDx a b (some (n + 1)) = stDvS a b (List.replicate (n + 1) 0 ++ (F.dqo (F.nv b) (a.drop (n + 1))).1) (F.lb (F.dqo (F.nv b) (a.drop (n + 1))).2) (n : Int) := by
    show stDvS a b _ _ (((n + 1 : Nat) : Int) - 1) = _
    rw [show ((n + 1 : Nat) : Int) - 1 = (n : Int) by omega]
   rw [e]; exact hs

theorem evDv (a : List Int) (b : List Int) : (runF enDv false Tryz.f206 [.sl (a.map eI), .sl (b.map eI)]).val =
 bif Nat.ble (List.length (List.map eI a)) (List.length (List.map eI a)) && Nat.ble (List.length (List.map eI a) * 8) 140737488355328 then Option.bind
 (unenc stDv1 (St.mk [(8, (vI (IntKind.i64.wrap ((↑(List.length (List.map eI a)) : Int) - (1 : Int))))), (7, .own 7), (6, .own 15), (1, AV.sl (List.map eI b)), (0,
 AV.sl (List.map eI a))] [(15, Blk.mk false 3 1 (List.replicate (List.length (List.map eI a)) [(vI 0)])), (7, Blk.mk false 3 1 [])])) fun z => bif F.nk (200 : Nat) z.1 && F.nk (200 : Nat) z.2.1 && decide ((0 : Nat) < F.nv z.2.1) && decide (z.2.2.1 = List.replicate (List.length
 z.1) (0 : Int)) && decide (z.2.2.2 = (↑(List.length z.1) : Int) - (1 : Int)) && true then bif decide (z.2.2.2 < 0) then Option.bind (unenc encTrm
 [AV.sl []]) fun z => bif decide (List.length z ≤ 100000) then some (AV.tup [AV.sl (List.map eI (F.trimL z)), AV.sl []], []) else none else Option.bind
 (unenc encTrm [AV.sl (List.map eI (F.dqo (F.nv z.2.1) z.1).fst)]) fun z_1 => bif decide (List.length z_1 ≤ 100000) then some (AV.tup [AV.sl
 (List.map eI (F.trimL z_1)), AV.sl (List.map eI (F.lb (F.dqo (F.nv z.2.1) z.1).snd))], []) else none else none else none := (runFR_val).symm.trans (by kernel_rfl)

def encDv1 (a : List Int) (b : List Int) : List AV := [.sl (a.map eI), .sl (b.map eI)]

def encDv (a : (List Int) × (List Int)) : List AV := encDv1 a.1 a.2

theorem encDv_inj (a a' : (List Int) × (List Int)) (h : encDv a = encDv a') : a = a' := by
 simp only [encDv, encDv1] at h
 try simp [ints_inj] at h
 grind

theorem unDv (a : List Int) (b : List Int) : unenc encDv ([AV.sl (List.map eI a), AV.sl (List.map eI b)]) = some (a, b) := unenc_of encDv_inj (a, b) rfl

def resDv1 (a : List Int) (b : List Int) : AV × Heap := (.tup [.sl ((F.lb (F.nv a / F.nv b)).map eI), .sl ((F.lb (F.nv a % F.nv b)).map eI)], [])

def preDv1 (a : List Int) (b : List Int) : Bool := F.nk 200 a && F.nk 200 b && decide (0 < F.nv b)

noncomputable def oDv : Orc := orc 206 false encDv (fun a => preDv1 a.1 a.2) fun a => resDv1 a.1 a.2

theorem okDv : OrcOK Tryz.prog noG oDv := by
 refine mk_ok Tryz.f206 (keep := false) (by kernel_rfl) (by kernel_rfl) enDv_ok mixed (two_loops (x0 := loopN Tryz.f206 0) (x1 := loopN Tryz.f206 1) (by kernel_rfl) (lpo_ok ?_) (lpo_ok ?_)) (by first | exact fun _ _ => ⟨rfl, rfl⟩ | (intro h; cases h)) ?_
 ·rintro ⟨a, b, out, i⟩ hp
  exact lpDv_ok a b out i hp
 ·rintro ⟨a, b, out, r, i, lo, hi⟩ hp
  exact lpDvi_ok a b out r i lo hi hp
 rintro ⟨a, b⟩ hpre hok
 show (runF enDv false _ (encDv1 _ _)).val = some (resDv1 _ _)
 unfold encDv1 resDv1
 rw [evDv]
 have hpre : (F.nk 200 a && F.nk 200 b && decide (0 < F.nv b)) = true := hpre
 have hpre2 := hpre
 rw [Bool.and_eq_true, Bool.and_eq_true, decide_eq_true_eq] at hpre2
 obtain ⟨⟨p1, p2⟩, p3⟩ := hpre2
 have l1 := F.nk_len p1
 have hres : F.trimL (F.dqo (F.nv b) a).1 = F.lb (F.nv a / F.nv b) ∧ (F.dqo (F.nv b) a).2 = F.nv a % F.nv b := by
  obtain ⟨m, hm1, hm⟩ := F.nk_of p1
  rw [hm1, F.nv_lb]
  exact F.dqo_lb p3 m
 have hrep : ∀ n : Nat, List.replicate n [vI (0 : Int)] = (List.replicate n (0 : Int)).map eI := fun n => by rw [List.map_replicate]; rfl
 have w0 : IntKind.i64.wrap ((a.length : Int) - 1) = (a.length : Int) - 1 := wrap_id (by omega) (by omega)
 have hb1 : Nat.ble a.length a.length = true := ble_t (Nat.le_refl _)
 have hb2 : Nat.ble (a.length * 8) 140737488355328 = true := ble_t (by omega)
 have hdl := (F.dqo_eq p3 (F.nk_ok p1)).2.2.2
 have hl : decide ((F.dqo (F.nv b) a).1.length ≤ 100000) = true := decide_eq_true (by omega)
 have u0 : unenc encTrm [.sl []] = some [] := unTrm []
 simp only [unTrm, unstDv, Option.bind_some, List.length_map, cond_true, Bool.and_true, p1, p2, w0, hrep, decide_eq_true p3, hb1, hb2, hl, decide_true, hres.1, hres.2, u0]
 by_cases hz : (a.length : Int) - 1 < 0
 ·have ha : a = [] := List.length_eq_zero_iff.1 (by omega)
  subst ha
  rw [decide_eq_true hz, cond_true, show F.nv [] = 0 from rfl, Nat.zero_div, Nat.zero_mod, F.lb_zero]
  rfl
 ·rw [decide_eq_false hz, cond_false]

end M

namespace M

def stCom (a : List Int) (b : List Int) : St := ⟨[(1, .sl (b.map eI)), (0, .sl (a.map eI))], []⟩

def stCom1 (a : (List Int) × (List Int)) : St := stCom a.1 a.2

theorem stCom_inj (a a' : (List Int) × (List Int)) (h : stCom1 a = stCom1 a') : a = a' := by
 simp only [stCom1, stCom] at h
 try simp [ints_inj] at h
 grind

theorem unstCom (a : List Int) (b : List Int) : unenc stCom1 (St.mk [(1, AV.sl (List.map eI b)), (0, AV.sl (List.map eI a))] []) = some (a, b) := unenc_of stCom_inj (a, b) rfl

def outCom (a : List Int) (b : List Int) : T (Ex × St) := .ret (.exit 0, ⟨[(0, .sl ((F.lb (Nat.gcd (F.nv b) (F.nv a))).map eI))], []⟩)

noncomputable def prlCom (a : List Int) (b : List Int) : Bool := F.nk 200 a && F.nk 200 b

noncomputable def lpCom : Nat × (St → T (Ex × St)) := (1, lpo [1, 0] [] stCom1 (fun a => prlCom a.1 a.2) fun a => outCom a.1 a.2)

noncomputable def enCom : Env := envH ty noG lks [oDv] [] [] [lpCom]

theorem enCom_ok : EnvOK Tryz.prog enCom := by
 refine envH_ok lks_ok ty_ok ?_ ?_
 ·simp only [List.forall_mem_cons]
  exact ⟨okDv, by simp⟩
 ·simp

theorem evComL (a : List Int) (b : List Int) : ((exec enCom (loopN Tryz.f212 0) (stCom a b)).bind (lessX ([1, 0], []) ([0], []) ([], []))).val =
 bif decide ((0 : Int) < (↑(List.length (List.map eI b)) : Int)) then Option.bind (unenc encDv [AV.sl (List.map eI a), AV.sl (List.map eI b)]) fun (z : List Int × List Int)
 => bif F.nk (200 : Nat) z.1 && F.nk (200 : Nat) z.2 && decide ((0 : Nat) < F.nv z.2) then some (Ex.normal, St.mk [(1, AV.sl (List.map eI (F.lb (Nat.mod (F.nv z.1)
 (F.nv z.2))))), (0, AV.sl (List.map eI b))] []) else none else some (Ex.exit (0 : Nat), St.mk [(0, AV.sl (List.map eI a))] []) := (execR_bind _ _ _).symm.trans (by kernel_rfl)

theorem lpCom_ok (a : List Int) (b : List Int) (hp : prlCom a b = true) : ∀ ex s', (outCom a b).val = some (ex, s') → LoopOK enCom (loopN Tryz.f212 0) (stCom a b) ex s' := by
 simp only [prlCom, Bool.and_eq_true] at hp
 obtain ⟨h1, h2⟩ := hp
 obtain ⟨m, rfl, hm⟩ := F.nk_of h1
 obtain ⟨n, rfl, hn⟩ := F.nk_of h2
 clear h1 h2
 refine loop_gen (st := fun p : Nat × Nat => stCom (F.lb p.1) (F.lb p.2)) (out := fun p => outCom (F.lb p.1) (F.lb p.2)) (I := fun p => p.1 < 10000 ^ 200 ∧ p.2 < 10000 ^ 200) (n := ([1, 0], [])) (e := ([0], [])) (r := ([], [])) (fun p => p.2) ?_ (m, n) ⟨hm, hn⟩
 clear hm hn
 rintro ⟨m, n⟩ ⟨hm, hn⟩
 simp only at hm hn
 have k1 := F.nk_lb hm
 have k2 := F.nk_lb hn
 have hl := F.lb_emp n
 by_cases hz : n = 0
 ·left
  refine ⟨(.exit 0, ⟨[(0, .sl ((F.lb m).map eI))], []⟩), ?_, ?_, by simp, rfl⟩
  ·have c : ¬ (0 : Int) < ((F.lb n).length : Int) := by omega
   rw [evComL]
   simp only [unDv, Option.bind_some, List.length_map, cond_false, decide_eq_false c]
  ·simp only [outCom, F.nv_lb, hz, Nat.gcd_zero_left]
   rfl
 ·right
  have c : (0 : Int) < ((F.lb n).length : Int) := by omega
  have hm2 : m % n < n := Nat.mod_lt _ (by omega)
  refine ⟨(n, m % n), ?_, rfl, ⟨hn, Nat.lt_trans hm2 hn⟩, hm2, ?_⟩
  ·have hp : decide (0 < n) = true := decide_eq_true (by omega)
   rw [evComL]
   simp only [unDv, Option.bind_some, List.length_map, cond_true, Bool.and_true, decide_eq_true c, k1, k2, F.nv_lb, hp, stCom]
   rfl
  ·simp only [outCom, F.nv_lb]
   rw [← Nat.gcd_rec]

theorem evCom (a : List Int) (b : List Int) : (runF enCom false Tryz.f212 [.sl (a.map eI), .sl (b.map eI)]).val =
 Option.bind (unenc stCom1 (St.mk [(1, AV.sl (List.map eI b)), (0, AV.sl (List.map eI a))] [])) fun z => bif F.nk (200 : Nat) z.1 && F.nk (200 :
 Nat) z.2 && true then some (AV.sl (List.map eI (F.lb (Nat.gcd (F.nv z.2) (F.nv z.1)))), []) else none := (runFR_val).symm.trans (by kernel_rfl)

def encCom1 (a : List Int) (b : List Int) : List AV := [.sl (a.map eI), .sl (b.map eI)]

def encCom (a : (List Int) × (List Int)) : List AV := encCom1 a.1 a.2

theorem encCom_inj (a a' : (List Int) × (List Int)) (h : encCom a = encCom a') : a = a' := by
 simp only [encCom, encCom1] at h
 try simp [ints_inj] at h
 grind

theorem unCom (a : List Int) (b : List Int) : unenc encCom ([AV.sl (List.map eI a), AV.sl (List.map eI b)]) = some (a, b) := unenc_of encCom_inj (a, b) rfl

def resCom1 (a : List Int) (b : List Int) : AV × Heap := (.sl ((F.lb (Nat.gcd (F.nv b) (F.nv a))).map eI), [])

def preCom1 (a : List Int) (b : List Int) : Bool := F.nk 200 a && F.nk 200 b

noncomputable def oCom : Orc := orc 212 false encCom (fun a => preCom1 a.1 a.2) fun a => resCom1 a.1 a.2

theorem okCom : OrcOK Tryz.prog noG oCom := by
 refine mk_ok Tryz.f212 (keep := false) (by kernel_rfl) (by kernel_rfl) enCom_ok mixed (one_loop (x0 := loopN Tryz.f212 0) (by kernel_rfl) (lpo_ok ?_)) (by first | exact fun _ _ => ⟨rfl, rfl⟩ | (intro h; cases h)) ?_
 ·rintro ⟨a, b⟩ hp
  exact lpCom_ok a b hp
 rintro ⟨a, b⟩ hpre hok
 show (runF enCom false _ (encCom1 _ _)).val = some (resCom1 _ _)
 unfold encCom1 resCom1
 rw [evCom]
 have hpre : (F.nk 200 a && F.nk 200 b) = true := hpre
 simp only [unstCom, Option.bind_some, cond_true, Bool.and_true, hpre]

theorem unCpr_1 (a : List Int) : unenc encCpr [.sl (a.map eI), .sl [[vI 1]]] = some (a, [1]) := unCpr a [1]

theorem nk_one {k : Nat} (h : 1 ≤ k) : F.nk k [1] = true := by
 have := F.nk_lb (k := k) (n := 1) (F.lb_lt (m := 1) (by decide) h)
 rwa [F.lb_one] at this

theorem nv_one : F.nv [1] = 1 := rfl

theorem len_nv {k : Nat} {l : List Int} (h : F.nk k l = true) : ((l.length : Int) == 0) = decide (F.nv l = 0) := by
 obtain ⟨m, rfl, hm⟩ := F.nk_of h
 rw [F.nv_lb]
 have := F.lb_emp m
 by_cases hz : m = 0
 ·rw [decide_eq_true hz, this.2 hz]; rfl
 ·rw [decide_eq_false hz]
  have : (F.lb m).length ≠ 0 := fun e => hz (this.1 e)
  simp; exact fun e => hz (F.lb_nil.1 e)

theorem lb_nv {k : Nat} {l : List Int} (h : F.nk k l = true) : F.lb (F.nv l) = l := by
 obtain ⟨m, rfl, hm⟩ := F.nk_of h
 rw [F.nv_lb]

noncomputable def enLow : Env := envH ty noG lks [oCom, oCpr, oDv] [] [] []

theorem enLow_ok : EnvOK Tryz.prog enLow := by
 refine envH_ok lks_ok ty_ok ?_ ?_
 ·simp only [List.forall_mem_cons]
  exact ⟨okCom, okCpr, okDv, by simp⟩
 ·simp

theorem evLow (ng : Bool) (tp : List Int) (bt : List Int) : (runF enLow false Tryz.f166 [vB ng, .sl (tp.map eI), .sl (bt.map eI)]).val =
 bif (↑(List.length (List.map eI tp)) : Int) == 0 then some (AV.agg [(vB false), AV.sl [], AV.sl [[(vI 1)]]], []) else Option.bind (unenc encCom [AV.sl
 (List.map eI tp), AV.sl (List.map eI bt)]) fun z => bif F.nk (200 : Nat) z.1 && F.nk (200 : Nat) z.2 then Option.bind (unenc encCpr [AV.sl
 (List.map eI (F.lb (Nat.gcd (F.nv z.2) (F.nv z.1)))), AV.sl [[(vI 1)]]]) fun z_1 => bif F.nk (1000 : Nat) z_1.1 && F.nk (1000 : Nat)
 z_1.2 then bif F.sgnL (↑(F.nv z_1.1) : Int) (↑(F.nv z_1.2) : Int) == 0 then some (AV.agg [(vB ng), AV.sl (List.map eI tp), AV.sl (List.map eI bt)], []) else
 Option.bind (unenc encDv [AV.sl (List.map eI tp), AV.sl (List.map eI (F.lb (Nat.gcd (F.nv z.2) (F.nv z.1))))]) fun z_2 => bif F.nk (200 : Nat)
 z_2.1 && F.nk (200 : Nat) z_2.2 && decide ((0 : Nat) < F.nv z_2.2) then Option.bind (unenc encDv [AV.sl (List.map eI bt), AV.sl (List.map eI (F.lb (Nat.gcd (F.nv
 z.2) (F.nv z.1))))]) fun z => bif F.nk (200 : Nat) z.1 && F.nk (200 : Nat) z.2 && decide ((0 : Nat) < F.nv z.2) then some (AV.agg [(vB
 ng), AV.sl (List.map eI (F.lb (Nat.div (F.nv z_2.1) (F.nv z_2.2)))), AV.sl (List.map eI (F.lb (Nat.div (F.nv z.1) (F.nv z.2))))], []) else none else none else none
 else none := (runFR_val).symm.trans (by kernel_rfl)

def encLow1 (ng : Bool) (tp : List Int) (bt : List Int) : List AV := [vB ng, .sl (tp.map eI), .sl (bt.map eI)]

def encLow (a : Bool × (List Int) × (List Int)) : List AV := encLow1 a.1 a.2.1 a.2.2

theorem encLow_inj (a a' : Bool × (List Int) × (List Int)) (h : encLow a = encLow a') : a = a' := by
 simp only [encLow, encLow1] at h
 try simp [ints_inj] at h
 grind

theorem unLow (ng : Bool) (tp : List Int) (bt : List Int) : unenc encLow ([(vB ng), AV.sl (List.map eI tp), AV.sl (List.map eI bt)]) = some (ng, tp, bt) := unenc_of encLow_inj (ng, tp, bt) rfl

def resLow1 (ng : Bool) (tp : List Int) (bt : List Int) : AV × Heap := (.agg [vB (ng && decide (0 < F.nv tp)), .sl ((F.lb (F.nv tp / Nat.gcd (F.nv bt) (F.nv tp))).map eI), .sl ((F.lb (F.nv bt / Nat.gcd (F.nv bt) (F.nv tp))).map eI)], [])

def preLow1 (ng : Bool) (tp : List Int) (bt : List Int) : Bool := F.nk 200 tp && F.nk 200 bt && decide (0 < F.nv bt)

noncomputable def oLow : Orc := orc 166 false encLow (fun a => preLow1 a.1 a.2.1 a.2.2) fun a => resLow1 a.1 a.2.1 a.2.2

theorem okLow : OrcOK Tryz.prog noG oLow := by
 refine mk_ok Tryz.f166 (keep := false) (by kernel_rfl) (by kernel_rfl) enLow_ok mixed (no_loops (by kernel_rfl)) (by first | exact fun _ _ => ⟨rfl, rfl⟩ | (intro h; cases h)) ?_
 rintro ⟨ng, tp, bt⟩ hpre hok
 show (runF enLow false _ (encLow1 _ _ _)).val = some (resLow1 _ _ _)
 unfold encLow1 resLow1
 rw [evLow]
 have hpre : (F.nk 200 tp && F.nk 200 bt && decide (0 < F.nv bt)) = true := hpre
 rw [Bool.and_eq_true, Bool.and_eq_true, decide_eq_true_eq] at hpre
 obtain ⟨⟨p1, p2⟩, p3⟩ := hpre
 have hdv : ∀ u v : Nat, Nat.div u v = u / v := fun _ _ => rfl
 have hg : 0 < Nat.gcd (F.nv bt) (F.nv tp) := Nat.gcd_pos_of_pos_left _ p3
 have hgl : Nat.gcd (F.nv bt) (F.nv tp) < 10000 ^ 200 := Nat.lt_of_le_of_lt (Nat.gcd_le_left _ p3) (nk_lt p2)
 have k1 := F.nk_lb hgl
 have k2 := nk_up k1 (by decide : 200 ≤ 1000)
 have hs := F.sgnL_eq (Nat.gcd (F.nv bt) (F.nv tp)) 1
 have e1 := lb_nv p1
 have e2 := lb_nv p2
 simp only [unCom, unDv, Option.bind_some, List.length_map, cond_true, Bool.and_true, Bool.true_and, p1, p2, unCpr_1, len_nv p1, nk_one (by decide : 1 ≤ 1000), nv_one, F.nv_lb, k1, k2, hdv, decide_eq_true hg]
 by_cases hz : F.nv tp = 0
 ·rw [decide_eq_true hz, hz, Nat.gcd_zero_right, Nat.zero_div, Nat.div_self p3, F.lb_zero, F.lb_one]
  simp
  rfl
 ·have hp : decide (0 < F.nv tp) = true := decide_eq_true (by omega)
  rw [decide_eq_false hz, hp, Bool.and_true, cond_false]
  have hs : (F.sgnL ((Nat.gcd (F.nv bt) (F.nv tp) : Nat) : Int) 1 == 0) = decide (Nat.gcd (F.nv bt) (F.nv tp) = 1) := hs
  simp only [Int.natCast_one]
  rw [hs]
  by_cases h1 : Nat.gcd (F.nv bt) (F.nv tp) = 1
  ·rw [decide_eq_true h1, h1, Nat.div_one, Nat.div_one, e1, e2]; rfl
  ·rw [decide_eq_false h1]; rfl

end M

def F.lowT (t b : Nat) : List Int := F.lb (t / Nat.gcd b t)

def F.lowB (t b : Nat) : List Int := F.lb (b / Nat.gcd b t)

namespace M

theorem nk_le {j k n : Nat} (h : n < 10000 ^ j) (hjk : j ≤ k) : F.nk k (F.lb n) = true := F.nk_lb (F.lb_lt h hjk)

noncomputable def enNum : Env := envH ty noG lks [oTmz, oAdd, oLes, oCpr, oLow] [] [] []

theorem enNum_ok : EnvOK Tryz.prog enNum := by
 refine envH_ok lks_ok ty_ok ?_ ?_
 ·simp only [List.forall_mem_cons]
  exact ⟨okTmz, okAdd, okLes, okCpr, okLow, by simp⟩
 ·simp

theorem evLms (xn : Bool) (xt : List Int) (xb : List Int) (yn : Bool) (yt : List Int) (yb : List Int) : (runF enNum false Tryz.f110 [.agg [vB xn, .sl (xt.map eI), .sl (xb.map eI)], .agg [vB yn, .sl (yt.map eI), .sl (yb.map eI)]]).val =
 Option.bind (unenc encTmz [AV.sl (List.map eI xt), AV.sl (List.map eI yt)]) fun z => bif F.nk (400 : Nat) z.1 && F.nk (400 : Nat) z.2 then
 Option.bind (unenc encTmz [AV.sl (List.map eI xb), AV.sl (List.map eI yb)]) fun z_1 => bif F.nk (400 : Nat) z_1.1 && F.nk (400 : Nat) z_1.2
 then Option.bind (unenc encLow [(vB !xn == yn), AV.sl (List.map eI (F.lb (F.nv z.1 * F.nv z.2))), AV.sl (List.map eI (F.lb (F.nv z_1.1 * F.nv z_1.2)))]) fun (z :
 Bool × List Int × List Int) => bif F.nk (200 : Nat) z.2.1 && F.nk (200 : Nat) z.2.2 && decide ((0 : Nat) < F.nv z.2.2) then some (AV.agg [(vB (z.1 && decide
 ((0 : Nat) < F.nv z.2.1))), AV.sl (List.map eI (F.lb (Nat.div (F.nv z.2.1) (Nat.gcd (F.nv z.2.2) (F.nv z.2.1))))), AV.sl (List.map eI (F.lb (Nat.div (F.nv
 z.2.2) (Nat.gcd (F.nv z.2.2) (F.nv z.2.1)))))], []) else none else none else none := (runFR_val).symm.trans (by kernel_rfl)

def encLms1 (xn : Bool) (xt : List Int) (xb : List Int) (yn : Bool) (yt : List Int) (yb : List Int) : List AV := [.agg [vB xn, .sl (xt.map eI), .sl (xb.map eI)], .agg [vB yn, .sl (yt.map eI), .sl (yb.map eI)]]

def encLms (a : Bool × (List Int) × (List Int) × Bool × (List Int) × (List Int)) : List AV := encLms1 a.1 a.2.1 a.2.2.1 a.2.2.2.1 a.2.2.2.2.1 a.2.2.2.2.2

theorem encLms_inj (a a' : Bool × (List Int) × (List Int) × Bool × (List Int) × (List Int)) (h : encLms a = encLms a') : a = a' := by
 simp only [encLms, encLms1] at h
 try simp [ints_inj] at h
 grind

theorem unLms (xn : Bool) (xt : List Int) (xb : List Int) (yn : Bool) (yt : List Int) (yb : List Int) : unenc encLms ([AV.agg [(vB xn), AV.sl (List.map eI xt), AV.sl (List.map eI xb)], AV.agg [(vB yn), AV.sl (List.map eI yt), AV.sl (List.map eI yb)]]) = some (xn, xt, xb, yn, yt, yb) := unenc_of encLms_inj (xn, xt, xb, yn, yt, yb) rfl

def resLms1 (xn : Bool) (xt : List Int) (xb : List Int) (yn : Bool) (yt : List Int) (yb : List Int) : AV × Heap := (.agg [vB ((xn != yn) && decide (0 < F.nv xt * F.nv yt)), .sl ((F.lowT (F.nv xt * F.nv yt) (F.nv xb * F.nv yb)).map eI), .sl ((F.lowB (F.nv xt * F.nv yt) (F.nv xb * F.nv yb)).map eI)], [])

def preLms1 (xn : Bool) (xt : List Int) (xb : List Int) (yn : Bool) (yt : List Int) (yb : List Int) : Bool := F.nk 90 xt && F.nk 90 xb && F.nk 90 yt && F.nk 90 yb && decide (0 < F.nv xb) && decide (0 < F.nv yb)

noncomputable def oLms : Orc := orc 110 false encLms (fun a => preLms1 a.1 a.2.1 a.2.2.1 a.2.2.2.1 a.2.2.2.2.1 a.2.2.2.2.2) fun a => resLms1 a.1 a.2.1 a.2.2.1 a.2.2.2.1 a.2.2.2.2.1 a.2.2.2.2.2

theorem okLms : OrcOK Tryz.prog noG oLms := by
 refine mk_ok Tryz.f110 (keep := false) (by kernel_rfl) (by kernel_rfl) enNum_ok mixed (no_loops (by kernel_rfl)) (by first | exact fun _ _ => ⟨rfl, rfl⟩ | (intro h; cases h)) ?_
 rintro ⟨xn, xt, xb, yn, yt, yb⟩ hpre hok
 show (runF enNum false _ (encLms1 _ _ _ _ _ _)).val = some (resLms1 _ _ _ _ _ _)
 unfold encLms1 resLms1
 rw [evLms]
 have hpre : (F.nk 90 xt && F.nk 90 xb && F.nk 90 yt && F.nk 90 yb && decide (0 < F.nv xb) && decide (0 < F.nv yb)) = true := hpre
 simp only [Bool.and_eq_true, decide_eq_true_eq] at hpre
 obtain ⟨⟨⟨⟨⟨p1, p2⟩, p3⟩, p4⟩, p5⟩, p6⟩ := hpre
 have k1 := nk_mul (l := 200) (nk_lt p1) (nk_lt p3) (by decide)
 have k2 := nk_mul (l := 200) (nk_lt p2) (nk_lt p4) (by decide)
 have hp : decide (0 < F.nv xb * F.nv yb) = true := decide_eq_true (Nat.mul_pos p5 p6)
 simp only [unTmz, unLow, Option.bind_some, cond_true, Bool.and_true, nk_up p1 (by decide : 90 ≤ 400), nk_up p2 (by decide : 90 ≤ 400), nk_up p3 (by decide : 90 ≤ 400), nk_up p4 (by decide : 90 ≤ 400), F.nv_lb, k1, k2, hp]
 rfl

theorem evOvr (xn : Bool) (xt : List Int) (xb : List Int) (yn : Bool) (yt : List Int) (yb : List Int) : (runF enNum false Tryz.f109 [.agg [vB xn, .sl (xt.map eI), .sl (xb.map eI)], .agg [vB yn, .sl (yt.map eI), .sl (yb.map eI)]]).val =
 Option.bind (unenc encTmz [AV.sl (List.map eI xt), AV.sl (List.map eI yb)]) fun z => bif F.nk (400 : Nat) z.1 && F.nk (400 : Nat) z.2 then
 Option.bind (unenc encTmz [AV.sl (List.map eI xb), AV.sl (List.map eI yt)]) fun z_1 => bif F.nk (400 : Nat) z_1.1 && F.nk (400 : Nat) z_1.2
 then Option.bind (unenc encLow [(vB !xn == yn), AV.sl (List.map eI (F.lb (F.nv z.1 * F.nv z.2))), AV.sl (List.map eI (F.lb (F.nv z_1.1 * F.nv z_1.2)))]) fun (z :
 Bool × List Int × List Int) => bif F.nk (200 : Nat) z.2.1 && F.nk (200 : Nat) z.2.2 && decide ((0 : Nat) < F.nv z.2.2) then some (AV.agg [(vB (z.1 && decide
 ((0 : Nat) < F.nv z.2.1))), AV.sl (List.map eI (F.lb (Nat.div (F.nv z.2.1) (Nat.gcd (F.nv z.2.2) (F.nv z.2.1))))), AV.sl (List.map eI (F.lb (Nat.div (F.nv
 z.2.2) (Nat.gcd (F.nv z.2.2) (F.nv z.2.1)))))], []) else none else none else none := (runFR_val).symm.trans (by kernel_rfl)

def encOvr1 (xn : Bool) (xt : List Int) (xb : List Int) (yn : Bool) (yt : List Int) (yb : List Int) : List AV := [.agg [vB xn, .sl (xt.map eI), .sl (xb.map eI)], .agg [vB yn, .sl (yt.map eI), .sl (yb.map eI)]]

def encOvr (a : Bool × (List Int) × (List Int) × Bool × (List Int) × (List Int)) : List AV := encOvr1 a.1 a.2.1 a.2.2.1 a.2.2.2.1 a.2.2.2.2.1 a.2.2.2.2.2

theorem encOvr_inj (a a' : Bool × (List Int) × (List Int) × Bool × (List Int) × (List Int)) (h : encOvr a = encOvr a') : a = a' := by
 simp only [encOvr, encOvr1] at h
 try simp [ints_inj] at h
 grind

theorem unOvr (xn : Bool) (xt : List Int) (xb : List Int) (yn : Bool) (yt : List Int) (yb : List Int) : unenc encOvr ([AV.agg [(vB xn), AV.sl (List.map eI xt), AV.sl (List.map eI xb)], AV.agg [(vB yn), AV.sl (List.map eI yt), AV.sl (List.map eI yb)]]) = some (xn, xt, xb, yn, yt, yb) := unenc_of encOvr_inj (xn, xt, xb, yn, yt, yb) rfl

def resOvr1 (xn : Bool) (xt : List Int) (xb : List Int) (yn : Bool) (yt : List Int) (yb : List Int) : AV × Heap := (.agg [vB ((xn != yn) && decide (0 < F.nv xt * F.nv yb)), .sl ((F.lowT (F.nv xt * F.nv yb) (F.nv xb * F.nv yt)).map eI), .sl ((F.lowB (F.nv xt * F.nv yb) (F.nv xb * F.nv yt)).map eI)], [])

def preOvr1 (xn : Bool) (xt : List Int) (xb : List Int) (yn : Bool) (yt : List Int) (yb : List Int) : Bool := F.nk 90 xt && F.nk 90 xb && F.nk 90 yt && F.nk 90 yb && decide (0 < F.nv xb) && decide (0 < F.nv yt)

noncomputable def oOvr : Orc := orc 109 false encOvr (fun a => preOvr1 a.1 a.2.1 a.2.2.1 a.2.2.2.1 a.2.2.2.2.1 a.2.2.2.2.2) fun a => resOvr1 a.1 a.2.1 a.2.2.1 a.2.2.2.1 a.2.2.2.2.1 a.2.2.2.2.2

theorem okOvr : OrcOK Tryz.prog noG oOvr := by
 refine mk_ok Tryz.f109 (keep := false) (by kernel_rfl) (by kernel_rfl) enNum_ok mixed (no_loops (by kernel_rfl)) (by first | exact fun _ _ => ⟨rfl, rfl⟩ | (intro h; cases h)) ?_
 rintro ⟨xn, xt, xb, yn, yt, yb⟩ hpre hok
 show (runF enNum false _ (encOvr1 _ _ _ _ _ _)).val = some (resOvr1 _ _ _ _ _ _)
 unfold encOvr1 resOvr1
 rw [evOvr]
 have hpre : (F.nk 90 xt && F.nk 90 xb && F.nk 90 yt && F.nk 90 yb && decide (0 < F.nv xb) && decide (0 < F.nv yt)) = true := hpre
 simp only [Bool.and_eq_true, decide_eq_true_eq] at hpre
 obtain ⟨⟨⟨⟨⟨p1, p2⟩, p3⟩, p4⟩, p5⟩, p6⟩ := hpre
 have k1 := nk_mul (l := 200) (nk_lt p1) (nk_lt p4) (by decide)
 have k2 := nk_mul (l := 200) (nk_lt p2) (nk_lt p3) (by decide)
 have hp : decide (0 < F.nv xb * F.nv yt) = true := decide_eq_true (Nat.mul_pos p5 p6)
 simp only [unTmz, unLow, Option.bind_some, cond_true, Bool.and_true, nk_up p1 (by decide : 90 ≤ 400), nk_up p2 (by decide : 90 ≤ 400), nk_up p3 (by decide : 90 ≤ 400), nk_up p4 (by decide : 90 ≤ 400), F.nv_lb, k1, k2, hp]
 rfl

end M

def F.dvA (acc : Nat) (l : List UInt8) : Nat := l.foldl (fun a c => a * 10 + (c.toNat - 48)) acc

theorem F.dvA_nil (acc : Nat) : F.dvA acc [] = acc := by unfold F.dvA; exact List.foldl_nil

theorem F.dvA_cons (acc : Nat) (c : UInt8) (r : List UInt8) : F.dvA acc (c :: r) = F.dvA (acc * 10 + (c.toNat - 48)) r := by unfold F.dvA; exact List.foldl_cons ..

def F.dgB (c : UInt8) : Bool := decide (48 ≤ c.toNat) && decide (c.toNat ≤ 57)

def F.dv (s : ByteArray) : Nat := F.dvA 0 (F.bs s)

theorem F.dvA_le : ∀ (l : List UInt8) (acc : Nat), acc ≤ F.dvA acc l
 | [], acc => by rw [F.dvA_nil]; exact Nat.le_refl _
 | c :: r, acc => by
  have := F.dvA_le r (acc * 10 + (c.toNat - 48))
  rw [F.dvA_cons]; omega

theorem F.dvA_app : ∀ (a b : List UInt8) (acc : Nat), F.dvA acc (a ++ b) = F.dvA (F.dvA acc a) b
 | [], b, acc => by rw [F.dvA_nil]; rfl
 | c :: a, b, acc => by rw [List.cons_append, F.dvA_cons, F.dvA_cons, F.dvA_app a b]

theorem F.dvA_acc : ∀ (l : List UInt8) (acc : Nat), F.dvA acc l = acc * 10 ^ l.length + F.dvA 0 l
 | [], acc => by rw [F.dvA_nil, F.dvA_nil, List.length_nil, Nat.pow_zero]; omega
 | c :: r, acc => by
  rw [F.dvA_cons, F.dvA_cons, F.dvA_acc r, F.dvA_acc r (0 * 10 + (c.toNat - 48)), Nat.zero_mul, Nat.zero_add, List.length_cons, Nat.pow_succ, Nat.add_mul, Nat.mul_assoc, Nat.mul_comm 10, Nat.add_assoc]

theorem F.dvA_lt : ∀ (l : List UInt8), l.all F.dgB = true → F.dvA 0 l < 10 ^ l.length
 | [], _ => by rw [F.dvA_nil]; decide
 | c :: r, h => by
  rw [List.all_cons, Bool.and_eq_true] at h
  have hc := h.1
  unfold F.dgB at hc
  simp only [Bool.and_eq_true, decide_eq_true_eq] at hc
  have ih := F.dvA_lt r h.2
  rw [F.dvA_cons, F.dvA_acc, List.length_cons, Nat.pow_succ]
  have : (0 * 10 + (c.toNat - 48)) * 10 ^ r.length ≤ 9 * 10 ^ r.length := Nat.mul_le_mul_right _ (by omega)
  omega

theorem F.pu_dvA : ∀ (l : List UInt8) (acc : Nat), l.all F.dgB = true → F.dvA acc l < 18446744073709551616 → Lib.parseUint10 acc l = .ok (F.dvA acc l)
 | [], acc, _, _ => by rw [F.dvA_nil]; rfl
 | c :: r, acc, h, hb => by
  rw [List.all_cons, Bool.and_eq_true] at h
  have hc := h.1
  unfold F.dgB at hc
  simp only [Bool.and_eq_true, decide_eq_true_eq] at hc
  rw [F.dvA_cons] at hb ⊢
  have := F.dvA_le r (acc * 10 + (c.toNat - 48))
  rw [Lib.parseUint10, if_pos ⟨by omega, by omega⟩, if_neg (by omega), if_neg (by omega), F.pu_dvA r _ h.2 hb]

def F.isD (s : ByteArray) : Bool := (F.bs s).all F.dgB && decide (0 < s.size) && decide (F.dv s ≤ 9223372036854775807)

theorem F.isD_ato {s : ByteArray} (h : F.isD s = true) : Lib.atoiAll s.data.toList = .ok ((F.dv s : Nat) : Int) := by
 unfold F.isD at h
 simp only [Bool.and_eq_true, decide_eq_true_eq] at h
 obtain ⟨⟨h1, h2⟩, h3⟩ := h
 have hl := F.bs_len s
 show Lib.atoiAll (F.bs s) = _
 unfold F.dv at h3 ⊢
 cases hs : F.bs s with
 | nil => rw [hs] at hl; simp at hl; omega
 | cons c r =>
  rw [hs] at h1 h3
  have hc := h1
  rw [List.all_cons, Bool.and_eq_true] at hc
  have hc := hc.1
  unfold F.dgB at hc
  simp only [Bool.and_eq_true, decide_eq_true_eq] at hc
  have hp : Lib.parseMag (c :: r) = .ok (F.dvA 0 (c :: r)) := by
   unfold Lib.parseMag
   rw [if_neg (by simp)]
   exact F.pu_dvA _ 0 h1 (by omega)
  rw [Lib.atoiAll_plain c r (by omega) (by omega), hp]
  unfold Lib.signless
  simp only []
  rw [if_neg (by omega)]

theorem F.dd_ok (n : Nat) : (Lib.decDigits n).all F.dgB = true ∧ F.dvA 0 (Lib.decDigits n) = n ∧ Lib.decDigits n ≠ [] := by
 induction n using Nat.strongRecOn with
 | ind n ih =>
  by_cases h : n < 10
  ·have hn : (UInt8.ofNat (48 + n)).toNat = 48 + n := by rw [UInt8.toNat_ofNat']; omega
   rw [Lib.decDigits, dif_pos h]
   refine ⟨?_, ?_, by simp⟩
   ·simp only [List.all_cons, List.all_nil, Bool.and_true, F.dgB, hn, Bool.and_eq_true, decide_eq_true_eq]; omega
   ·rw [F.dvA_cons, F.dvA_nil, hn]; omega
  ·obtain ⟨i1, i2, i3⟩ := ih (n / 10) (by omega)
   have hn : (UInt8.ofNat (48 + n % 10)).toNat = 48 + n % 10 := by rw [UInt8.toNat_ofNat']; omega
   rw [Lib.decDigits, dif_neg h]
   refine ⟨?_, ?_, by simp⟩
   ·rw [List.all_append, i1]
    simp only [List.all_cons, List.all_nil, Bool.and_true, F.dgB, hn, Bool.and_eq_true, decide_eq_true_eq, Bool.true_and]; omega
   ·rw [F.dvA_app, i2, F.dvA_cons, F.dvA_nil, hn]; omega

theorem F.itoa_n (n : Nat) : F.bs (F.itoa (n : Int)) = Lib.decDigits n := by
 unfold F.bs F.itoa
 rw [Lib.itoa_nonneg]

theorem F.dv_itoa (n : Nat) : F.dv (F.itoa (n : Int)) = n := by
 unfold F.dv
 rw [F.itoa_n]
 exact (F.dd_ok n).2.1

theorem F.all_itoa (n : Nat) : (F.bs (F.itoa (n : Int))).all F.dgB = true := by
 rw [F.itoa_n]
 exact (F.dd_ok n).1

theorem F.itoa_pos (n : Nat) : 0 < (F.itoa (n : Int)).size := by
 rw [← F.bs_len, F.itoa_n]
 exact List.length_pos_iff.2 (F.dd_ok n).2.2

theorem F.isD_itoa {n : Nat} (h : n ≤ 9223372036854775807) : F.isD (F.itoa (n : Int)) = true := by
 unfold F.isD
 rw [F.all_itoa, F.dv_itoa, decide_eq_true (F.itoa_pos n), decide_eq_true h]
 rfl

def F.pad4 (l : List UInt8) : List UInt8 := List.replicate (4 - l.length) 48 ++ l

theorem F.dd_lt {n : Nat} (h : n < 10) : Lib.decDigits n = [UInt8.ofNat (48 + n)] := by rw [Lib.decDigits, dif_pos h]

theorem F.dd_ge {n : Nat} (h : ¬ n < 10) : Lib.decDigits n = Lib.decDigits (n / 10) ++ [UInt8.ofNat (48 + n % 10)] := by rw [Lib.decDigits, dif_neg h]

theorem F.pad_dd {b : Nat} (h : b < 10000) : F.pad4 (Lib.decDigits b) = [UInt8.ofNat (48 + b / 1000), UInt8.ofNat (48 + b / 100 % 10), UInt8.ofNat (48 + b / 10 % 10), UInt8.ofNat (48 + b % 10)] := by
 by_cases h1 : b < 10
 ·rw [F.dd_lt h1, show b / 1000 = 0 by omega, show b / 100 % 10 = 0 by omega, show b / 10 % 10 = 0 by omega, show b % 10 = b by omega]
  rfl
 ·rw [F.dd_ge h1]
  by_cases h2 : b / 10 < 10
  ·rw [F.dd_lt h2, show b / 1000 = 0 by omega, show b / 100 % 10 = 0 by omega, show b / 10 % 10 = b / 10 by omega]
   rfl
  ·rw [F.dd_ge h2]
   by_cases h3 : b / 10 / 10 < 10
   ·rw [F.dd_lt h3, show b / 1000 = 0 by omega, show b / 100 % 10 = b / 10 / 10 by omega]
    rfl
   ·rw [F.dd_ge h3, F.dd_lt (by omega : b / 10 / 10 / 10 < 10), show b / 1000 = b / 10 / 10 / 10 by omega, show b / 100 % 10 = b / 10 / 10 % 10 by omega]
    rfl

theorem F.dd_app {a b : Nat} (ha : 0 < a) (h : b < 10000) : Lib.decDigits (a * 10000 + b) = Lib.decDigits a ++ F.pad4 (Lib.decDigits b) := by
 rw [F.pad_dd h, F.dd_ge (n := a * 10000 + b) (by omega), F.dd_ge (n := (a * 10000 + b) / 10) (by omega), F.dd_ge (n := (a * 10000 + b) / 10 / 10) (by omega), F.dd_ge (n := (a * 10000 + b) / 10 / 10 / 10) (by omega)]
 rw [show (a * 10000 + b) / 10 / 10 / 10 / 10 = a by omega, show (a * 10000 + b) / 10 / 10 / 10 % 10 = b / 1000 by omega, show (a * 10000 + b) / 10 / 10 % 10 = b / 100 % 10 by omega, show (a * 10000 + b) / 10 % 10 = b / 10 % 10 by omega, show (a * 10000 + b) % 10 = b % 10 by omega]
 simp

def F.pcs (s : ByteArray) : List Int := if h : s.size = 0 then [] else ((F.dv (s.extract (s.size - 4) s.size) : Nat) : Int) :: F.pcs (s.extract 0 (s.size - 4))
termination_by s.size
decreasing_by rw [ByteArray.size_extract]; omega

theorem F.dv_split {s : ByteArray} (k : Nat) (hk : k ≤ s.size) : F.dv s = F.dv (s.extract 0 k) * 10 ^ (s.size - k) + F.dv (s.extract k s.size) := by
 have hl := F.bs_len s
 unfold F.dv
 rw [F.bs_ext, F.bs_ext, List.drop_zero, List.take_of_length_le (by omega : (F.bs s).length ≤ s.size)]
 conv => lhs; rw [← List.take_append_drop k (F.bs s)]
 rw [F.dvA_app, F.dvA_acc, List.length_drop, hl]

theorem F.all_ext {s : ByteArray} (h : (F.bs s).all F.dgB = true) (i j : Nat) : (F.bs (s.extract i j)).all F.dgB = true := by
 rw [F.bs_ext, List.all_eq_true]
 intro x hx
 exact List.all_eq_true.1 h x (List.mem_of_mem_take (List.mem_of_mem_drop hx))

theorem F.pcs_ok : ∀ (n : Nat) (s : ByteArray), s.size ≤ n → (F.bs s).all F.dgB = true → F.okLm (F.pcs s) ∧ F.vl (F.pcs s) = ((F.dv s : Nat) : Int) := by
 intro n
 induction n with
 | zero =>
  intro s hs _
  have h0 : s.size = 0 := by omega
  rw [F.pcs, dif_pos h0]
  have : F.bs s = [] := List.length_eq_zero_iff.1 (by rw [F.bs_len, h0])
  exact ⟨F.okLm_nil, by unfold F.dv; rw [this]; rfl⟩
 | succ n ih =>
  intro s hs hd
  by_cases h0 : s.size = 0
  ·exact ih s (by omega) hd
  ·rw [F.pcs, dif_neg h0]
   have hz : (s.extract 0 (s.size - 4)).size = s.size - 4 := by rw [ByteArray.size_extract]; omega
   have hz2 : (s.extract (s.size - 4) s.size).size = s.size - (s.size - 4) := by rw [ByteArray.size_extract]; omega
   obtain ⟨i1, i2⟩ := ih (s.extract 0 (s.size - 4)) (by omega) (F.all_ext hd _ _)
   have hlt := F.dvA_lt _ (F.all_ext hd (s.size - 4) s.size)
   rw [F.bs_len, hz2] at hlt
   have h4 : 10 ^ (s.size - (s.size - 4)) ≤ 10 ^ 4 := Nat.pow_le_pow_right (by decide) (by clear hlt hs hz hz2; omega)
   have hlt2 : F.dv (s.extract (s.size - 4) s.size) < 10000 := Nat.lt_of_lt_of_le hlt h4
   refine ⟨F.okLm_cons (by omega) i1, ?_⟩
   have hsp := F.dv_split (s := s) (s.size - 4) (by omega)
   rw [F.vl, i2, hsp]
   by_cases h : 4 ≤ s.size
   ·rw [show s.size - (s.size - 4) = 4 by clear hlt hlt2 hsp; omega]
    clear hlt hlt2 hsp
    omega
   ·have e0 : F.bs (s.extract 0 (s.size - 4)) = [] := List.length_eq_zero_iff.1 (by rw [F.bs_len, hz]; omega)
    have e1 : F.dv (s.extract 0 (s.size - 4)) = 0 := by unfold F.dv; rw [e0]; rfl
    rw [e1]; omega

theorem F.pcs_lb {s : ByteArray} (h : (F.bs s).all F.dgB = true) : F.trimL (F.pcs s) = F.lb (F.dv s) := by
 obtain ⟨q1, q2⟩ := F.pcs_ok s.size s (Nat.le_refl _) h
 rw [F.trimL_eq q1, q2]; rfl

end Go.Proofs.YtbeobbjiogbdlaaGreatDoor

namespace Go.Proofs.YtbeobbjiogbdlaaGreatDoor
open Go Go.RowKit Go.Lib Go.Sort
set_option linter.unusedVariables false
set_option linter.unusedSimpArgs false
set_option maxHeartbeats 4000000
set_option maxRecDepth 100000

theorem holds_zero0 (w : World) (T : TypeId) (nd : Nat) (hs : nd ≤ 24) : Holds (fun (b : UInt8) => Value.int .u8 (b.toNat : Int)) (w.alloc (.cells Lib.zeros24 T)) w.heap.size 0 (Array.replicate nd (0 : UInt8)) := fun j hj => by
 have hj' : j < nd := by simpa using hj
 refine ⟨?_, World.frozen?_alloc_new _ _ _ _⟩
 rw [World.cell?_alloc_new, Lib.zeros24_at _ (by omega), getElem!_pos _ j hj]
 simp

theorem fin_pos0 (w : World) (o : Obj) (dk : Array UInt8) (k : Nat) : ∃ os, (putRow (fun (b : UInt8) => Value.int .u8 (b.toNat : Int)) (w.alloc o) w.heap.size 0 dk).drewN k = grow (w.drewN k) os := by
 rw [Go.Sort.alloc_eq_grow]
 obtain ⟨os', _, e⟩ := Go.Sort.putRow_grow_new (fun (b : UInt8) => Value.int .u8 (b.toNat : Int)) w #[o] w.heap.size 0 dk (Nat.le_refl _)
 exact ⟨os', by rw [e]; rfl⟩

theorem fmtU_in (u : Nat) (hu64 : u < 18446744073709551616) (w : World) (htab : Lib.TabIs Tryz.prog w "internal/strconv.uint64pow10" .u64 Lib.pow10Tab) :
  Calls Tryz.prog 213 #[.int .u64 u, .int .i64 10] w fun e w' => e = .returned (.string ⟨(Lib.decDigits u).toArray⟩) ∧ ∃ k os, w' = grow (w.drewN k) os := by
 by_cases hs : u < 100
 ·have hs2 : (u : Int) < 100 := by omega
  go_enter Tryz.func213, Tryz.ntmps213
  go_wp2_with (go_at_call 185; refine (Tryz.internal_strconv_small u hs _).mono ?_; rintro e w' ⟨rfl, rfl⟩)
  go_ret
  exact ⟨rfl, 0, #[], by simp [World.drewN_zero]⟩
 ·have hs2 : ¬ (u : Int) < 100 := by omega
  have hu1 : 1 ≤ u := by omega
  have hnd20 : Lib.nDigits u ≤ 20 := by have := Lib.numDigits_eq u hu1 hu64; split at this <;> omega
  have hb3 : Lib.nDigits u ≤ 24 := by omega
  have hal : Tryz.prog.arrayLen 246 = 24 := by kernel_rfl
  have hsl1 : ∀ W, (Instr.sliceAt 246 (.pointer (some ⟨w.heap.size, 0, none⟩)) none (some (.int .i64 (Lib.nDigits u : Int))) none).run Tryz.prog W = .ok (.slice (some ⟨w.heap.size, 0, none⟩) (Lib.nDigits u) 24) W := fun W => by
   rw [run_sliceAt_array_h W 246 ⟨w.heap.size, 0, none⟩ (by kernel_rfl) .i64 (Lib.nDigits u : Int) (by omega) (by rw [hal]; omega)]
   go_simp
  have hH0 := holds_zero0 w 246 (Lib.nDigits u) hb3
  have hfmt := Tryz.internal_strconv_formatBase10 w.heap.size 0 24 u (Array.replicate (Lib.nDigits u) 0) (w.alloc (.cells Lib.zeros24 246)) hH0 (by rw [Array.size_replicate]; exact Lib.lt_pow_nDigits u) hu64 (by rw [Array.size_replicate]; omega)
  rw [Array.size_replicate] at hfmt
  have HH0 := Lib.hid hH0
  clear hH0 hal
  go_enter Tryz.func213, Tryz.ntmps213
  go_wp2_with (first
   | (go_at_call 186; refine (Tryz.internal_strconv_numDigits u hu1 hu64 _ (Lib.tabIs_alloc htab _)).mono ?_; rintro e w' ⟨rfl, rfl⟩))
  go_at_call 187
  refine hfmt.mono ?_
  rintro e w' ⟨rfl, k, v', dk, rfl, hF⟩
  have hcv : (convert 26 9 (.slice (some ⟨w.heap.size, 0, none⟩) (Lib.nDigits u) 24)).run Tryz.prog ((putRow (fun (b : UInt8) => Value.int .u8 (b.toNat : Int)) (w.alloc (.cells Lib.zeros24 246)) w.heap.size 0 dk).drewN k) = .ok (.string ⟨(Lib.decDigits u).toArray⟩) ((putRow (fun (b : UInt8) => Value.int .u8 (b.toNat : Int)) (w.alloc (.cells Lib.zeros24 246)) w.heap.size 0 dk).drewN k) := by
   have h := run_convert_bytes_back (P := Tryz.prog) ((putRow (fun (b : UInt8) => Value.int .u8 (b.toNat : Int)) (w.alloc (.cells Lib.zeros24 246)) w.heap.size 0 dk).drewN k) 26 9 5 ⟨w.heap.size, 0, none⟩ 24 (Lib.decDigits u) (by kernel_rfl) (by kernel_rfl) (by kernel_rfl) (fun j hj => by
    rw [Lib.row_is_numeral hF j hj, Lib.add_plain, World.cell?_drewN]
    exact cell?_putRow (fun (b : UInt8) => Value.int .u8 (b.toNat : Int)) _ w.heap.size 0 _ dk HH0.out (by rw [hF.size, Array.size_replicate]) j (by rw [hF.size]; rw [Lib.decDigits_length] at hj; exact hj))
   rw [Lib.decDigits_length] at h
   exact h
  go_wp2
  go_ret
  obtain ⟨os, eo⟩ := fin_pos0 w (.cells Lib.zeros24 246) dk k
  exact ⟨rfl, k, os, eo⟩

theorem fmtU (u : Nat) (hu64 : u < 18446744073709551616) (w : World) (htab : Lib.TabIs Tryz.prog w "internal/strconv.uint64pow10" .u64 Lib.pow10Tab) :
  Calls Tryz.prog 168 #[.int .u64 u, .int .i64 10] w fun e w' => e = .returned (.string ⟨(Lib.decDigits u).toArray⟩) ∧ ∃ k os, w' = grow (w.drewN k) os := by
 have hI := fmtU_in u hu64 w htab
 go_enter Tryz.func168, Tryz.ntmps168
 go_wp2_with (go_at_call 213; refine hI.mono ?_; rintro e w' ⟨rfl, k, os, rfl⟩)
 go_ret
 exact ⟨rfl, k, os, rfl⟩

namespace M

def encFmt1 (n : Nat) : List AV := [.v (.int .u64 n), vI 10]

def encFmt (a : Nat) : List AV := encFmt1 a

theorem encFmt_inj (a a' : Nat) (h : encFmt a = encFmt a') : a = a' := by
 simp only [encFmt, encFmt1] at h
 try simp [] at h
 grind

theorem unFmt (n : Nat) : unenc encFmt ([AV.v (Value.int IntKind.u64 (↑n : Int)), (vI (10 : Int))]) = some (n) := unenc_of encFmt_inj (n) rfl

def resFmt1 (n : Nat) : AV × Heap := (vS (F.itoa n), [])

def preFmt1 (n : Nat) : Bool := decide (n ≤ 18446744073709551615)

noncomputable def oFmt : Orc := orc 168 true encFmt (fun a => preFmt1 a) fun a => resFmt1 a

theorem okFmt : OrcOK Tryz.prog noG oFmt := by
 refine orc_ok ⟨Tryz.f168, by kernel_rfl, by kernel_rfl, by kernel_rfl⟩ (fun n hp _ => ?_) (fun _ _ => ⟨rfl, rfl⟩)
 have hp : n ≤ 18446744073709551615 := of_decide_eq_true hp
 have e : F.itoa (n : Int) = ⟨(Lib.decDigits n).toArray⟩ := by unfold F.itoa; rw [Lib.itoa_nonneg]
 have hl : Lib.nDigits n ≤ 20 := by
  by_cases h : n < 10
  ·rw [Lib.nDigits_small h]; omega
  ·have := Lib.numDigits_eq n (by omega) (by omega); split at this <;> omega
 have hz : (F.itoa (n : Int)).size ≤ 9223372036854775807 := by
  rw [e]
  show (Lib.decDigits n).toArray.size ≤ _
  rw [List.size_toArray, Lib.decDigits_length]; omega
 refine SpecP.below2 (fun w S => rv_mk (by show (F.itoa (n : Int)).size ≤ 9223372036854775807; exact hz)) fun _ _ w S hG => ?_
 have hg := hG 2 ⟨[], fun cs => cs = (Lib.pow10Tab.map fun z => Value.int .u64 z).toArray⟩ rfl
 obtain ⟨cs, ty, o, h1, h2⟩ := hg.cells
 have htab : Lib.TabIs Tryz.prog w "internal/strconv.uint64pow10" .u64 Lib.pow10Tab := by
  have hn : Tryz.prog.globalNamed "internal/strconv.uint64pow10" = some 2 := by kernel_rfl
  simp only [Lib.TabIs, World.var?, hn, Option.bind_some, h1]
  rw [h2]
 refine (fmtU n (by omega) w htab).mono ?_
 rintro e' w' ⟨he, k, os, rfl⟩
 rw [← e] at he
 exact ⟨he, below_grow w k os⟩

end M

end Go.Proofs.YtbeobbjiogbdlaaGreatDoor

namespace Go.Proofs.YtbeobbjiogbdlaaGreatDoor
open Go Go.RowKit
set_option linter.unusedVariables false
set_option linter.unusedSimpArgs false
set_option maxHeartbeats 1000000

theorem F.isD_le {s : ByteArray} (h : F.isD s = true) : F.dv s ≤ 9223372036854775807 := by
 unfold F.isD at h
 simp only [Bool.and_eq_true, decide_eq_true_eq] at h
 exact h.2

namespace M

def encLat1 (s : ByteArray) : List AV := [vS s]

def encLat (a : ByteArray) : List AV := encLat1 a

theorem encLat_inj (a a' : ByteArray) (h : encLat a = encLat a') : a = a' := by
 simp only [encLat, encLat1] at h
 try simp [] at h
 grind

theorem unLat (s : ByteArray) : unenc encLat ([(vS s)]) = some (s) := unenc_of encLat_inj (s) rfl

def resLat1 (s : ByteArray) : AV × Heap := (.tup [vI (F.dv s : Nat), .v .nilIface], [])

def preLat1 (s : ByteArray) : Bool := F.isD s && decide (s.size ≤ 1000)

noncomputable def oLat : Orc := orc 164 true encLat (fun a => preLat1 a) fun a => resLat1 a

theorem okLat : OrcOK Tryz.prog noG oLat := by
 refine orc_ok ⟨Tryz.f164, by kernel_rfl, by kernel_rfl, by kernel_rfl⟩ (fun s hp _ => ?_) (fun _ _ => ⟨rfl, rfl⟩)
 simp only [preLat1, Bool.and_eq_true, decide_eq_true_eq] at hp
 have h1 := F.isD_ato hp.1
 have h2 := F.isD_le hp.1
 refine SpecP.below1 (rv := .tuple #[.int .i64 (F.dv s : Nat), .nilIface]) (fun w S => ⟨[_, _], rfl, R0.v (by simp only [okAtom, IntKind.min, IntKind.max, IntKind.signed, IntKind.bits]; simp; omega), R0.v trivial, trivial⟩) fun hk w S hG => ?_
 refine (Tryz.strconv_Atoi_ok s (by omega) (F.dv s : Nat) h1 w).mono ?_
 rintro e w' ⟨he, h | ⟨t, h⟩⟩
 ·subst h; exact ⟨he, Below.refl _ _⟩
 ·subst h; exact ⟨he, Lib.bytesWorld_below w _ _⟩

end M

theorem F.isD_ext {s : ByteArray} (h : (F.bs s).all F.dgB = true) (hs : s.size ≤ 1000) (h0 : s.size ≠ 0) : F.isD (s.extract (s.size - 4) s.size) = true := by
 have hz2 : (s.extract (s.size - 4) s.size).size = s.size - (s.size - 4) := by rw [ByteArray.size_extract]; omega
 have ha := F.all_ext h (s.size - 4) s.size
 have hlt := F.dvA_lt _ ha
 rw [F.bs_len, hz2] at hlt
 have h4 : 10 ^ (s.size - (s.size - 4)) ≤ 10 ^ 4 := Nat.pow_le_pow_right (by decide) (by clear hlt hz2; omega)
 have hlt2 : F.dv (s.extract (s.size - 4) s.size) < 10000 := Nat.lt_of_lt_of_le hlt h4
 unfold F.isD
 rw [ha, decide_eq_true (by clear hlt h4 hlt2; omega), decide_eq_true (by clear hlt h4; omega)]
 rfl

namespace M

def stLim (s : ByteArray) (acc : List Int) : St := ⟨[(3, .own 3), (0, vS s)], [(3, ⟨false, 3, 1, acc.map eI⟩)]⟩

def stLim1 (a : ByteArray × (List Int)) : St := stLim a.1 a.2

theorem stLim_inj (a a' : ByteArray × (List Int)) (h : stLim1 a = stLim1 a') : a = a' := by
 simp only [stLim1, stLim] at h
 try simp [ints_inj] at h
 grind

theorem unstLim0 (s : ByteArray)  : unenc stLim1 (St.mk [(3, .own 3), (0, (vS s))] [(3, Blk.mk false 3 1 [])]) = some (s, []) := unenc_of stLim_inj (s, []) rfl

def outLim (s : ByteArray) (acc : List Int) : T (Ex × St) := .ret (.exit 0, ⟨[(3, .own 3)], [(3, ⟨false, 3, 1, (acc ++ F.pcs s).map eI⟩)]⟩)

noncomputable def prlLim (s : ByteArray) (acc : List Int) : Bool := (F.bs s).all F.dgB && decide (s.size ≤ 1000) && decide (acc.length + s.size ≤ 1000)

noncomputable def lpLim : Nat × (St → T (Ex × St)) := (2, lpo [3, 0] [3] stLim1 (fun a => prlLim a.1 a.2) fun a => outLim a.1 a.2)

noncomputable def enLim : Env := envH ty noG lks [oTrm, oLat] [] [] [lpLim]

theorem enLim_ok : EnvOK Tryz.prog enLim := by
 refine envH_ok lks_ok ty_ok ?_ ?_
 ·simp only [List.forall_mem_cons]
  exact ⟨okTrm, okLat, by simp⟩
 ·simp

theorem evLimL (s : ByteArray) (acc : List Int) : ((exec enLim (loopN Tryz.f163 0) (stLim s acc)).bind (lessX ([3, 0], [3]) ([3], [3]) ([], []))).val =
 bif decide ((0 : Int) < (↑(ByteArray.size s) : Int)) then Option.bind (idx (max (0 : Int) (IntKind.i64.wrap ((↑(ByteArray.size s) : Int) - (4 : Int))))) fun (z :
 Nat) => bif Nat.ble z (ByteArray.size s) && Nat.ble (ByteArray.size s) (ByteArray.size s) then Option.bind (unenc encLat [(vS (ByteArray.extract s z (ByteArray.size s)))])
 fun z => bif F.isD z && decide (ByteArray.size z ≤ 1000) then bif Nat.ble ((List.length (List.map eI acc) + 1) * 8) 140737488355328 && true then Option.bind (idx (max (0 : Int) (IntKind.i64.wrap ((↑(ByteArray.size s) : Int) - (4 : Int))))) fun z_1 => bif Nat.ble (0 : Nat) z_1 &&
 Nat.ble z_1 (ByteArray.size s) then some (Ex.normal, St.mk [(3, .own 3), (0, (vS (ByteArray.extract s (0 : Nat) z_1)))] [(3, Blk.mk false 3 1 (List.map eI acc ++ [[(vI
 (↑(F.dv z) : Int))]]))]) else none else none else none else none else some (Ex.exit (0 : Nat), St.mk [(3, .own 3)] [(3, Blk.mk false 3 1 (List.map eI acc))]) := (execR_bind _ _ _).symm.trans (by kernel_rfl)

theorem lpLim_ok (s : ByteArray) (acc : List Int) (hp : prlLim s acc = true) : ∀ ex s', (outLim s acc).val = some (ex, s') → LoopOK enLim (loopN Tryz.f163 0) (stLim s acc) ex s' := by
 simp only [prlLim, Bool.and_eq_true, decide_eq_true_eq] at hp
 obtain ⟨⟨h1, h2⟩, h3⟩ := hp
 refine loop_gen (st := fun p : ByteArray × List Int => stLim p.1 p.2) (out := fun p => outLim p.1 p.2) (I := fun p => (F.bs p.1).all F.dgB = true ∧ p.1.size ≤ 1000 ∧ p.2.length + p.1.size ≤ 1000) (n := ([3, 0], [3])) (e := ([3], [3])) (r := ([], [])) (fun p => p.1.size) ?_ (s, acc) ⟨h1, h2, h3⟩
 clear h1 h2 h3
 rintro ⟨s, acc⟩ ⟨h1, h2, h3⟩
 simp only at h1 h2 h3
 by_cases h0 : s.size = 0
 ·left
  refine ⟨(.exit 0, ⟨[(3, .own 3)], [(3, ⟨false, 3, 1, acc.map eI⟩)]⟩), ?_, ?_, by simp, rfl⟩
  ·have c : ¬ (0 : Int) < (s.size : Int) := by omega
   rw [evLimL]
   simp only [unLat, Option.bind_some, List.length_map, cond_false, Bool.and_true, decide_eq_false c]
  ·rw [outLim, F.pcs, dif_pos h0, List.append_nil]
   rfl
 ·right
  have c : (0 : Int) < (s.size : Int) := by omega
  have hm : max 0 (IntKind.i64.wrap ((s.size : Int) - 4)) = ((s.size - 4 : Nat) : Int) := by rw [wrap_id (by omega) (by omega)]; omega
  have hi : idx ((s.size - 4 : Nat) : Int) = some (s.size - 4) := idx_n (by omega)
  have hz : (s.extract 0 (s.size - 4)).size = s.size - 4 := by rw [ByteArray.size_extract]; omega
  have hz2 : (s.extract (s.size - 4) s.size).size ≤ 1000 := by rw [ByteArray.size_extract]; omega
  have b1 : Nat.ble (s.size - 4) s.size = true := ble_t (by omega)
  have b2 : Nat.ble s.size s.size = true := ble_t (Nat.le_refl _)
  have b3 : Nat.ble ((acc.length + 1) * 8) 140737488355328 = true := ble_t (by omega)
  refine ⟨(s.extract 0 (s.size - 4), acc ++ [((F.dv (s.extract (s.size - 4) s.size) : Nat) : Int)]), ?_, rfl, ⟨F.all_ext h1 _ _, by simp only; omega, by simp only [List.length_append, List.length_singleton]; omega⟩, by simp only; omega, ?_⟩
  ·rw [evLimL]
   simp only [unLat, Option.bind_some, List.length_map, cond_true, Bool.and_true, Bool.true_and, decide_eq_true c, hm, hi, b1, b2, b3, ble_t (Nat.zero_le _), F.isD_ext h1 h2 h0, decide_eq_true hz2, stLim]
   rw [List.map_append]
   rfl
  ·have e : F.pcs s = ((F.dv (s.extract (s.size - 4) s.size) : Nat) : Int) :: F.pcs (s.extract 0 (s.size - 4)) := by rw [F.pcs, dif_neg h0]
   simp only [outLim]
   rw [e, List.append_assoc, List.singleton_append]

theorem evLim (s : ByteArray) : (runF enLim false Tryz.f163 [vS s]).val =
 Option.bind (unenc stLim1 (St.mk [(3, .own 3), (0, (vS s))] [(3, Blk.mk false 3 1 [])])) fun z => bif List.all (F.bs z.1) F.dgB && decide
 (ByteArray.size z.1 ≤ 1000) && decide (List.length z.2 + ByteArray.size z.1 ≤ 1000) && true then Option.bind (unenc encTrm [AV.sl (List.map eI (z.2
 ++ F.pcs z.1))]) fun z => bif decide (List.length z ≤ 100000) then some (AV.sl (List.map eI (F.trimL z)), []) else none else none := (runFR_val).symm.trans (by kernel_rfl)

def encLim1 (s : ByteArray) : List AV := [vS s]

def encLim (a : ByteArray) : List AV := encLim1 a

theorem encLim_inj (a a' : ByteArray) (h : encLim a = encLim a') : a = a' := by
 simp only [encLim, encLim1] at h
 try simp [] at h
 grind

theorem unLim (s : ByteArray) : unenc encLim ([(vS s)]) = some (s) := unenc_of encLim_inj (s) rfl

def resLim1 (s : ByteArray) : AV × Heap := (.sl ((F.lb (F.dv s)).map eI), [])

def preLim1 (s : ByteArray) : Bool := (F.bs s).all F.dgB && decide (s.size ≤ 1000)

noncomputable def oLim : Orc := orc 163 false encLim (fun a => preLim1 a) fun a => resLim1 a

theorem okLim : OrcOK Tryz.prog noG oLim := by
 refine mk_ok Tryz.f163 (keep := false) (by kernel_rfl) (by kernel_rfl) enLim_ok mixed (one_loop (x0 := loopN Tryz.f163 0) (by kernel_rfl) (lpo_ok ?_)) (by first | exact fun _ _ => ⟨rfl, rfl⟩ | (intro h; cases h)) ?_
 ·rintro ⟨s, acc⟩ hp
  exact lpLim_ok s acc hp
 rintro s hpre hok
 show (runF enLim false _ (encLim1 _)).val = some (resLim1 _)
 unfold encLim1 resLim1
 rw [evLim]
 have hpre : ((F.bs s).all F.dgB && decide (s.size ≤ 1000)) = true := hpre
 rw [Bool.and_eq_true, decide_eq_true_eq] at hpre
 have hl : ∀ (n : Nat) (s : ByteArray), s.size ≤ n → (F.pcs s).length ≤ n := by
  intro n
  induction n with
  | zero => intro s hs; rw [F.pcs, dif_pos (by omega)]; exact Nat.le_refl _
  | succ n ih =>
   intro s hs
   by_cases h0 : s.size = 0
   ·rw [F.pcs, dif_pos h0]; exact Nat.zero_le _
   ·rw [F.pcs, dif_neg h0, List.length_cons]
    have := ih (s.extract 0 (s.size - 4)) (by rw [ByteArray.size_extract]; omega)
    omega
 have hl := hl s.size s (Nat.le_refl _)
 simp only [unTrm, unstLim0, Option.bind_some, cond_true, Bool.and_true, hpre.1, decide_eq_true hpre.2, List.length_nil, Nat.zero_add, List.nil_append, decide_eq_true (by omega : (F.pcs s).length ≤ 100000), F.pcs_lb hpre.1]

end M

theorem F.cat_assoc (a b c : ByteArray) : a ++ b ++ c = a ++ (b ++ c) := F.bsx (by simp only [F.bs_cat, List.append_assoc])

theorem F.cat_nil (a : ByteArray) : a ++ ⟨#[]⟩ = a := F.bsx (by rw [F.bs_cat]; exact List.append_nil _)

def F.pdT (x : Int) : ByteArray := F.zrs (4 - (F.itoa x).size) ++ F.itoa x

def F.tlT (l : List Int) : Nat → ByteArray
 | 0 => ⟨#[]⟩
 | k + 1 => F.pdT (l.getD k 0) ++ F.tlT l k

def F.txL : List Int → ByteArray
 | [] => ⟨#[]⟩
 | [x] => F.itoa x
 | x :: y :: l => F.txL (y :: l) ++ F.pdT x

theorem F.tlT_cons (x : Int) (l : List Int) : ∀ k, F.tlT (x :: l) (k + 1) = F.tlT l k ++ F.pdT x
 | 0 => by
  show F.pdT x ++ ⟨#[]⟩ = _
  rw [F.cat_nil]
  exact F.bsx (by rw [F.bs_cat]; rfl)
 | k + 1 => by
  rw [F.tlT, F.tlT_cons x l k, F.tlT, ← F.cat_assoc]
  rfl

theorem F.txL_eq : ∀ (l : List Int) (h : l ≠ []), F.itoa (l.getLast h) ++ F.tlT l (l.length - 1) = F.txL l
 | [x], _ => by
  show F.itoa x ++ ⟨#[]⟩ = F.itoa x
  exact F.cat_nil _
 | x :: y :: l, h => by
  have ih := F.txL_eq (y :: l) (by simp)
  rw [F.txL, ← ih, List.getLast_cons (by simp), F.cat_assoc]
  congr 1
  exact F.tlT_cons x (y :: l) l.length

theorem F.txL_lb (n : Nat) (h : 0 < n) : F.txL (F.lb n) = F.itoa (n : Int) := by
 induction n using Nat.strongRecOn with
 | ind n ih =>
  rw [F.lb_pos (by omega)]
  by_cases hs : n < 10000
  ·rw [show n / 10000 = 0 by omega, F.lb_zero, F.txL, show n % 10000 = n by omega]
  ·have hp : 0 < n / 10000 := by omega
   have i := ih (n / 10000) (by omega) hp
   have hc : F.txL (((n % 10000 : Nat) : Int) :: F.lb (n / 10000)) = F.txL (F.lb (n / 10000)) ++ F.pdT ((n % 10000 : Nat) : Int) := by
    rw [F.lb_pos (by omega : n / 10000 ≠ 0)]
    rfl
   rw [hc, i]
   refine F.bsx ?_
   have hd := F.dd_app hp (Nat.mod_lt n (by decide : 0 < 10000))
   rw [show n / 10000 * 10000 + n % 10000 = n by omega] at hd
   unfold F.pdT
   rw [F.bs_cat, F.bs_cat, F.bs_zrs, F.itoa_n, F.itoa_n, F.itoa_n, hd]
   unfold F.pad4
   rw [← F.bs_len, F.itoa_n]

theorem F.itoa_0 : F.itoa ((0 : Nat) : Int) = ⟨#[48]⟩ := F.bsx (by rw [F.itoa_n, F.dd_lt (by decide)]; rfl)

theorem F.dd_len4 {n : Nat} (h : n ≤ 9999) : (F.itoa (n : Int)).size ≤ 4 := by
 have e := F.pad_dd (b := n) (by omega)
 have := congrArg List.length e
 unfold F.pad4 at this
 rw [List.length_append, List.length_replicate] at this
 rw [← F.bs_len, F.itoa_n]
 simp only [List.length_cons, List.length_nil] at this
 omega

namespace M

def encLrp1 (c : Nat) : List AV := [vS ⟨#[48]⟩, vI c]

def encLrp (a : Nat) : List AV := encLrp1 a

theorem encLrp_inj (a a' : Nat) (h : encLrp a = encLrp a') : a = a' := by
 simp only [encLrp, encLrp1] at h
 try simp [] at h
 grind

theorem unLrp (c : Nat) : unenc encLrp ([(vS (ByteArray.mk (Array.mk [(48 : UInt8)]))), (vI (↑c : Int))]) = some (c) := unenc_of encLrp_inj (c) rfl

def resLrp1 (c : Nat) : AV × Heap := (vS (F.zrs c), [])

def preLrp1 (c : Nat) : Bool := decide (c ≤ 1000)

noncomputable def oLrp : Orc := orc 211 true encLrp (fun a => preLrp1 a) fun a => resLrp1 a

theorem okLrp : OrcOK Tryz.prog noG oLrp := by
 refine orc_ok ⟨Tryz.f211, by kernel_rfl, by kernel_rfl, by kernel_rfl⟩ (fun c hp _ => ?_) (fun _ _ => ⟨rfl, rfl⟩)
 have hp : c ≤ 1000 := of_decide_eq_true hp
 refine SpecP.below2 (fun w S => rv_mk (by show (F.zrs c).size ≤ 9223372036854775807; rw [F.zrs_size]; omega)) fun _ _ w S hG => ?_
 refine (Tryz.strings_Repeat ⟨#[48]⟩ c w (by omega) (by show 1 * c ≤ _; omega)).mono ?_
 rintro e w' ⟨he, hb⟩
 exact ⟨by rw [he, ← F.rep_zrs], hb⟩

def stLdg (l : List Int) (t : ByteArray) (i : Int) : St := ⟨[(4, vI i), (3, vS t), (0, .sl (l.map eI))], []⟩

def stLdg1 (a : (List Int) × ByteArray × Int) : St := stLdg a.1 a.2.1 a.2.2

theorem stLdg_inj (a a' : (List Int) × ByteArray × Int) (h : stLdg1 a = stLdg1 a') : a = a' := by
 simp only [stLdg1, stLdg] at h
 try simp [ints_inj] at h
 grind

theorem unstLdg (l : List Int) (t : ByteArray) (i : Int) : unenc stLdg1 (St.mk [(4, (vI i)), (3, (vS t)), (0, AV.sl (List.map eI l))] []) = some (l, t, i) := unenc_of stLdg_inj (l, t, i) rfl

def outLdg (l : List Int) (t : ByteArray) (i : Int) : T (Ex × St) := .ret (.exit 0, ⟨[(3, vS (t ++ F.tlT l (i + 1).toNat))], []⟩)

noncomputable def prlLdg (l : List Int) (t : ByteArray) (i : Int) : Bool := F.nk 200 l && decide (-1 ≤ i) && decide (i < l.length) && decide (t.size + 4 * (i + 1).toNat ≤ 10000)

noncomputable def lpLdg : Nat × (St → T (Ex × St)) := (5, lpo [4, 3, 0] [] stLdg1 (fun a => prlLdg a.1 a.2.1 a.2.2) fun a => outLdg a.1 a.2.1 a.2.2)

noncomputable def enLdg : Env := envH ty noG lks [oIta, oLrp] [] [] [lpLdg]

theorem enLdg_ok : EnvOK Tryz.prog enLdg := by
 refine envH_ok lks_ok ty_ok ?_ ?_
 ·simp only [List.forall_mem_cons]
  exact ⟨okIta, okLrp, by simp⟩
 ·simp

theorem evLdgL (l : List Int) (t : ByteArray) (i : Int) : ((exec enLdg (loopN Tryz.f165 0) (stLdg l t i)).bind (lessX ([4, 3, 0], []) ([3], []) ([], []))).val =
 bif decide ((0 : Int) ≤ i) then Option.bind (idx i) fun z => Option.bind (unenc (List.map eI) (List.map eI l)) fun z_1 => bif decide (z < List.length
 z_1) then Option.bind (unenc encIta [(vI (List.getD z_1 z 0))]) fun z => bif decide ((-9223372036854775808 : Int) ≤ z) && decide (z ≤ 9223372036854775807) then Option.bind (unenc encLrp [(vS ⟨⟨[48]⟩⟩), (vI (IntKind.i64.wrap ((4 : Int) - (↑(ByteArray.size (F.itoa z)) : Int))))])
 fun z_2 => bif decide (z_2 ≤ 1000) then bif Nat.ble (ByteArray.size (F.zrs z_2) + ByteArray.size (F.itoa z)) 9223372036854775807 then bif Nat.ble
 (ByteArray.size t + ByteArray.size (F.zrs z_2 ++ F.itoa z)) (9223372036854775807 : Nat) then some (Ex.normal, St.mk [(4, (vI (IntKind.i64.wrap (i - (1 : Int))))),
 (3, (vS (t ++ (F.zrs z_2 ++ F.itoa z)))), (0, AV.sl (List.map eI l))] []) else none else none else none else none else none else some (Ex.exit (0 : Nat), St.mk [(3, (vS
 t))] []) := (execR_bind _ _ _).symm.trans (by kernel_rfl)

theorem lpLdg_ok (l : List Int) (t : ByteArray) (i : Int) (hp : prlLdg l t i = true) : ∀ ex s', (outLdg l t i).val = some (ex, s') → LoopOK enLdg (loopN Tryz.f165 0) (stLdg l t i) ex s' := by
 simp only [prlLdg, Bool.and_eq_true, decide_eq_true_eq] at hp
 obtain ⟨⟨⟨h1, h2⟩, h3⟩, h4⟩ := hp
 have l1 := F.nk_len h1
 have o1 := F.nk_ok h1
 clear h1
 obtain ⟨n, rfl⟩ : ∃ n : Nat, i = (n : Int) - 1 := ⟨(i + 1).toNat, by omega⟩
 have hn : ((n : Int) - 1 + 1).toNat = n := by omega
 rw [hn] at h4
 refine loop_gen (st := fun p : ByteArray × Nat => stLdg l p.1 ((p.2 : Int) - 1)) (out := fun p => outLdg l p.1 ((p.2 : Int) - 1)) (I := fun p => p.2 ≤ l.length ∧ p.1.size + 4 * p.2 ≤ 10000) (n := ([4, 3, 0], [])) (e := ([3], [])) (r := ([], [])) (fun p => p.2) ?_ (t, n) ⟨by omega, h4⟩
 clear h2 h3 h4 hn
 rintro ⟨t, n⟩ ⟨g1, g2⟩
 simp only at g1 g2
 have e : ((n : Int) - 1 + 1).toNat = n := by omega
 cases n with
 | zero =>
  left
  refine ⟨(.exit 0, ⟨[(3, vS t)], []⟩), ?_, ?_, by simp, rfl⟩
  ·rw [evLdgL]; simp
  ·simp only [outLdg, e, F.tlT, F.cat_nil]; rfl
 | succ j =>
  right
  have hlt : j < l.length := g1
  have hy : l[j]? = some l[j] := List.getElem?_eq_getElem hlt
  have hg : l.getD j 0 = l[j] := by simp [hy]
  have hx := o1 _ (List.getElem_mem hlt)
  generalize l[j] = x at hy hg hx
  obtain ⟨m, rfl⟩ : ∃ m : Nat, x = m := ⟨x.toNat, by omega⟩
  have hm4 := F.dd_len4 (n := m) (by omega)
  have hj : (((j + 1 : Nat) : Int) - 1) = (j : Int) := by omega
  have hw : IntKind.i64.wrap ((j : Int) - 1) = (j : Int) - 1 := wrap_id (by omega) (by omega)
  have hw4 : IntKind.i64.wrap (4 - ((F.itoa (m : Int)).size : Int)) = ((4 - (F.itoa (m : Int)).size : Nat) : Int) := by rw [wrap_id (by omega) (by omega)]; omega
  have hi : idx ((j : Nat) : Int) = some j := idx_n (by omega)
  have h0 : decide ((0 : Int) ≤ (j : Int)) = true := decide_eq_true (by omega)
  have p1 : decide (-9223372036854775808 ≤ (m : Int)) = true := decide_eq_true (by omega)
  have p2 : decide ((m : Int) ≤ 9223372036854775807) = true := decide_eq_true (by omega)
  have p3 : decide (4 - (F.itoa (m : Int)).size ≤ 1000) = true := decide_eq_true (by omega)
  have b1 : Nat.ble ((F.zrs (4 - (F.itoa (m : Int)).size)).size + (F.itoa (m : Int)).size) 9223372036854775807 = true := ble_t (by rw [F.zrs_size]; omega)
  have hps : (F.pdT (m : Int)).size = 4 := by unfold F.pdT; rw [ByteArray.size_append, F.zrs_size]; omega
  have b2 : Nat.ble (t.size + (F.zrs (4 - (F.itoa (m : Int)).size) ++ F.itoa (m : Int)).size) 9223372036854775807 = true := ble_t (by
   show t.size + (F.pdT (m : Int)).size ≤ _
   omega)
  rw [hj] at e ⊢
  refine ⟨(t ++ F.pdT (m : Int), j), ?_, rfl, ⟨by simp only; omega, by simp only [ByteArray.size_append, hps]; omega⟩, by simp only; omega, ?_⟩
  ·rw [evLdgL]
   simp only [unIta, unLrp, Option.bind_some, unInts, cond_true, Bool.and_true, h0, hi, decide_eq_true hlt, getD_at hy, hw, hw4, p1, p2, p3, b1, b2, stLdg]
   rfl
  ·have e2 : ((j : Int) - 1 + 1).toNat = j := by omega
   simp only [outLdg, e, e2, F.tlT, hg, F.cat_assoc]

theorem evLdg (l : List Int) : (runF enLdg false Tryz.f165 [.sl (l.map eI)]).val =
 bif (↑(List.length (List.map eI l)) : Int) == 0 then some ((vS ⟨⟨[48]⟩⟩), []) else Option.bind (idx (IntKind.wrap IntKind.i64
 ((↑(List.length (List.map eI l)) : Int) - (1 : Int)))) fun z => Option.bind (unenc (List.map eI) (List.map eI l)) fun z_1 => bif decide (z <
 List.length z_1) then Option.bind (unenc encIta [(vI (List.getD z_1 z 0))]) fun z => bif decide ((-9223372036854775808 : Int) ≤ z) && decide (z ≤
 (9223372036854775807 : Int)) then Option.bind (unenc stLdg1 (St.mk [(4, (vI (IntKind.i64.wrap ((↑(List.length (List.map eI l)) : Int) - (2 : Int))))), (3, (vS
 (F.itoa z))), (0, AV.sl (List.map eI l))] [])) fun z => bif F.nk (200 : Nat) z.1 && decide ((-1 : Int) ≤ z.2.2) && decide (z.2.2 <
 (↑(List.length z.1) : Int)) && decide (ByteArray.size z.2.1 + 4 * Int.toNat (z.2.2 + 1) ≤ 10000) && true then some ((vS (z.2.1 ++
 F.tlT z.1 (Int.toNat (z.2.2 + 1)))), []) else none else none else none := (runFR_val).symm.trans (by kernel_rfl)

def encLdg1 (l : List Int) : List AV := [.sl (l.map eI)]

def encLdg (a : (List Int)) : List AV := encLdg1 a

theorem encLdg_inj (a a' : (List Int)) (h : encLdg a = encLdg a') : a = a' := by
 simp only [encLdg, encLdg1] at h
 try simp [ints_inj] at h
 grind

theorem unLdg (l : List Int) : unenc encLdg ([AV.sl (List.map eI l)]) = some (l) := unenc_of encLdg_inj (l) rfl

def resLdg1 (l : List Int) : AV × Heap := (vS (F.itoa (F.nv l : Nat)), [])

def preLdg1 (l : List Int) : Bool := F.nk 200 l

noncomputable def oLdg : Orc := orc 165 true encLdg (fun a => preLdg1 a) fun a => resLdg1 a

theorem okLdg : OrcOK Tryz.prog noG oLdg := by
 refine mk_ok Tryz.f165 (keep := false) (by kernel_rfl) (by kernel_rfl) enLdg_ok mixed (one_loop (x0 := loopN Tryz.f165 0) (by kernel_rfl) (lpo_ok ?_)) (by first | exact fun _ _ => ⟨rfl, rfl⟩ | (intro h; cases h)) ?_
 ·rintro ⟨l, t, i⟩ hp
  exact lpLdg_ok l t i hp
 rintro l hpre hok
 show (runF enLdg false _ (encLdg1 _)).val = some (resLdg1 _)
 unfold encLdg1 resLdg1
 rw [evLdg]
 have hpre : F.nk 200 l = true := hpre
 have l1 := F.nk_len hpre
 have o1 := F.nk_ok hpre
 have hln := len_nv hpre
 by_cases hz : F.nv l = 0
 ·rw [decide_eq_true hz] at hln
  simp only [unIta, unstLdg, Option.bind_some, List.length_map, unInts, cond_true, Bool.and_true, hln, hz]
  rw [F.itoa_0]
 ·rw [decide_eq_false hz] at hln
  have hne : l ≠ [] := by rintro rfl; exact hz rfl
  have hpos : 0 < l.length := List.length_pos_iff.2 hne
  have hw1 : IntKind.i64.wrap ((l.length : Int) - 1) = ((l.length - 1 : Nat) : Int) := by rw [wrap_id (by omega) (by omega)]; omega
  have hw2 : IntKind.i64.wrap ((l.length : Int) - 2) = (l.length : Int) - 2 := wrap_id (by omega) (by omega)
  have hi : idx ((l.length - 1 : Nat) : Int) = some (l.length - 1) := idx_n (by omega)
  have hlt : l.length - 1 < l.length := by omega
  have hg : l.getD (l.length - 1) 0 = l.getLast hne := by simp [List.getD, List.getElem?_eq_getElem hlt, List.getLast_eq_getElem]
  have hx := o1 _ (List.getLast_mem hne)
  have htx := F.txL_eq l hne
  have hres : F.txL l = F.itoa (F.nv l : Nat) := by
   obtain ⟨m, hm, _⟩ := F.nk_of hpre
   have := F.txL_lb m (by rw [hm, F.nv_lb] at hz; omega)
   rw [hm, F.nv_lb]; exact this
  rw [hres] at htx
  generalize l.getLast hne = x at hg hx htx
  obtain ⟨m, rfl⟩ : ∃ m : Nat, x = m := ⟨x.toNat, by omega⟩
  have hm4 := F.dd_len4 (n := m) (by omega)
  have e : ((l.length : Int) - 2 + 1).toNat = l.length - 1 := by omega
  simp only [unIta, unstLdg, Option.bind_some, List.length_map, unInts, cond_true, cond_false, Bool.and_true, Bool.true_and, hln, hw1, hw2, hi, decide_eq_true hlt, hg, hpre, e, htx, decide_eq_true (by omega : (-9223372036854775808 : Int) ≤ (m : Int)), decide_eq_true (by omega : (m : Int) ≤ 9223372036854775807), decide_eq_true (by omega : (-1 : Int) ≤ (l.length : Int) - 2), decide_eq_true (by omega : (l.length : Int) - 2 < (l.length : Int)), decide_eq_true (by omega : (F.itoa (m : Int)).size + 4 * (l.length - 1) ≤ 10000)]

end M

def F.rndUp (way : Int) (xn : Bool) (t b : Nat) : Bool :=
 bif way == 1 then xn && decide (0 < t % b) else bif way == 3 then !xn && decide (0 < t % b) else bif way == 2 then decide (b ≤ t % b + t % b) else false

def F.rndU (way : Int) (xn : Bool) (t b : Nat) : Nat := bif F.rndUp way xn t b then t / b + 1 else t / b

def F.sg (xn : Bool) (q : Nat) : Int := bif xn then -(q : Int) else q

theorem F.lb_gt (n : Nat) : decide ((0 : Int) < ((F.lb n).length : Int)) = decide (0 < n) := by
 have h := F.lb_emp n
 by_cases hz : n = 0
 ·rw [decide_eq_false (by omega), decide_eq_false (by omega)]
 ·rw [decide_eq_true (by omega), decide_eq_true (by omega)]

namespace M

theorem unAdd_1 (a : List Int) : unenc encAdd [.sl (a.map eI), .sl [[vI 1]]] = some (a, [1]) := unAdd a [1]

noncomputable def enRnd1 : Env := envH ty noG lks [oDv, oAdd, oCpr] [] [] []

theorem enRnd1_ok : EnvOK Tryz.prog enRnd1 := by
 refine envH_ok lks_ok ty_ok ?_ ?_
 ·simp only [List.forall_mem_cons]
  exact ⟨okDv, okAdd, okCpr, by simp⟩
 ·simp

theorem evRou (xn : Bool) (xt : List Int) (xb : List Int) (way : Int) : (runF enRnd1 false Tryz.f161 [.agg [vB xn, .sl (xt.map eI), .sl (xb.map eI)], vI way]).val =
 Option.bind (unenc encDv [AV.sl (List.map eI xt), AV.sl (List.map eI xb)]) fun z => bif F.nk (200 : Nat) z.1 && F.nk (200 : Nat) z.2 && decide
 ((0 : Nat) < F.nv z.2) then bif way == 1 then bif bif xn then decide ((0 : Int) < (↑(List.length (List.map eI (F.lb (Nat.mod (F.nv z.1) (F.nv z.2))))) :
 Int)) else false then Option.bind (unenc encAdd [AV.sl (List.map eI (F.lb (Nat.div (F.nv z.1) (F.nv z.2)))), AV.sl [[(vI 1)]]]) fun (z : List Int × List Int)
 => bif F.nk (1000 : Nat) z.1 && F.nk (1000 : Nat) z.2 then some (AV.sl (List.map eI (F.lb (F.nv z.1 + F.nv z.2))), []) else none else some (AV.sl (List.map eI
 (F.lb (Nat.div (F.nv z.1) (F.nv z.2)))), []) else bif way == 3 then bif bif !xn then decide ((0 : Int) < (↑(List.length (List.map eI (F.lb (Nat.mod (F.nv
 z.1) (F.nv z.2))))) : Int)) else false then Option.bind (unenc encAdd [AV.sl (List.map eI (F.lb (Nat.div (F.nv z.1) (F.nv z.2)))), AV.sl [[(vI 1)]]]) fun
 (z : List Int × List Int) => bif F.nk (1000 : Nat) z.1 && F.nk (1000 : Nat) z.2 then some (AV.sl (List.map eI (F.lb (F.nv z.1 + F.nv z.2))), []) else none else
 some (AV.sl (List.map eI (F.lb (Nat.div (F.nv z.1) (F.nv z.2)))), []) else bif way == 2 then Option.bind (unenc encAdd [AV.sl (List.map eI (F.lb (Nat.mod (F.nv
 z.1) (F.nv z.2)))), AV.sl (List.map eI (F.lb (Nat.mod (F.nv z.1) (F.nv z.2))))]) fun z_1 => bif F.nk (1000 : Nat) z_1.1 && F.nk (1000 :
 Nat) z_1.2 then Option.bind (unenc encCpr [AV.sl (List.map eI (F.lb (F.nv z_1.1 + F.nv z_1.2))), AV.sl (List.map eI xb)]) fun z_2 => bif F.nk
 (1000 : Nat) z_2.1 && F.nk (1000 : Nat) z_2.2 then bif decide ((0 : Int) ≤ F.sgnL (↑(F.nv z_2.1) : Int) (↑(F.nv z_2.2) : Int)) then Option.bind (unenc encAdd
 [AV.sl (List.map eI (F.lb (Nat.div (F.nv z.1) (F.nv z.2)))), AV.sl [[(vI 1)]]]) fun z => bif F.nk (1000 : Nat) z.1 && F.nk (1000 :
 Nat) z.2 then some (AV.sl (List.map eI (F.lb (F.nv z.1 + F.nv z.2))), []) else none else some (AV.sl (List.map eI (F.lb (Nat.div (F.nv z.1) (F.nv z.2)))), [])
 else none else none else some (AV.sl (List.map eI (F.lb (Nat.div (F.nv z.1) (F.nv z.2)))), []) else none := (runFR_val).symm.trans (by kernel_rfl)

def encRou1 (xn : Bool) (xt : List Int) (xb : List Int) (way : Int) : List AV := [.agg [vB xn, .sl (xt.map eI), .sl (xb.map eI)], vI way]

def encRou (a : Bool × (List Int) × (List Int) × Int) : List AV := encRou1 a.1 a.2.1 a.2.2.1 a.2.2.2

theorem encRou_inj (a a' : Bool × (List Int) × (List Int) × Int) (h : encRou a = encRou a') : a = a' := by
 simp only [encRou, encRou1] at h
 try simp [ints_inj] at h
 grind

theorem unRou (xn : Bool) (xt : List Int) (xb : List Int) (way : Int) : unenc encRou ([AV.agg [(vB xn), AV.sl (List.map eI xt), AV.sl (List.map eI xb)], (vI way)]) = some (xn, xt, xb, way) := unenc_of encRou_inj (xn, xt, xb, way) rfl

def resRou1 (xn : Bool) (xt : List Int) (xb : List Int) (way : Int) : AV × Heap := (.sl ((F.lb (F.rndU way xn (F.nv xt) (F.nv xb))).map eI), [])

def preRou1 (xn : Bool) (xt : List Int) (xb : List Int) (way : Int) : Bool := F.nk 200 xt && F.nk 200 xb && decide (0 < F.nv xb)

noncomputable def oRou : Orc := orc 161 false encRou (fun a => preRou1 a.1 a.2.1 a.2.2.1 a.2.2.2) fun a => resRou1 a.1 a.2.1 a.2.2.1 a.2.2.2

theorem okRou : OrcOK Tryz.prog noG oRou := by
 refine mk_ok Tryz.f161 (keep := false) (by kernel_rfl) (by kernel_rfl) enRnd1_ok mixed (no_loops (by kernel_rfl)) (by first | exact fun _ _ => ⟨rfl, rfl⟩ | (intro h; cases h)) ?_
 rintro ⟨xn, xt, xb, way⟩ hpre hok
 show (runF enRnd1 false _ (encRou1 _ _ _ _)).val = some (resRou1 _ _ _ _)
 unfold encRou1 resRou1
 rw [evRou]
 have hpre : (F.nk 200 xt && F.nk 200 xb && decide (0 < F.nv xb)) = true := hpre
 simp only [Bool.and_eq_true, decide_eq_true_eq] at hpre
 obtain ⟨⟨p1, p2⟩, p3⟩ := hpre
 have hm : F.nv xt % F.nv xb < 10000 ^ 200 := Nat.lt_trans (Nat.mod_lt _ p3) (nk_lt p2)
 have hq : F.nv xt / F.nv xb < 10000 ^ 200 := Nat.lt_of_le_of_lt (Nat.div_le_self _ _) (nk_lt p1)
 have hdv : ∀ u v : Nat, Nat.div u v = u / v := fun _ _ => rfl
 have hmo : ∀ u v : Nat, Nat.mod u v = u % v := fun _ _ => rfl
 have k1 := nk_le (k := 1000) hm (by decide)
 have k2 := nk_le (k := 1000) hq (by decide)
 have k3 : F.nk 1000 (F.lb (F.nv xt % F.nv xb + F.nv xt % F.nv xb)) = true := nk_le (F.add_lt hm hm) (by decide)
 have k4 := nk_up p2 (by decide : 200 ≤ 1000)
 simp only [unDv, unAdd, unCpr, Option.bind_some, List.length_map, cond_true, Bool.and_true, p1, p2, decide_eq_true p3, hdv, hmo, F.lb_gt, k1, k2, k3, k4, F.nv_lb, F.sgnL_ge, unAdd_1, nk_one (by decide : 1 ≤ 1000), nv_one]
 unfold F.rndU F.rndUp
 cases way == 1 <;> cases way == 3 <;> cases way == 2 <;> cases xn <;> (first | rfl | (cases decide (0 < F.nv xt % F.nv xb) <;> rfl) | (cases decide (F.nv xb ≤ F.nv xt % F.nv xb + F.nv xt % F.nv xb) <;> rfl))

noncomputable def enRnd2 : Env := envH ty noG lks [oRou, oIta, oLim, oCpr, oLdg, oLat] [] [] []

theorem enRnd2_ok : EnvOK Tryz.prog enRnd2 := by
 refine envH_ok lks_ok ty_ok ?_ ?_
 ·simp only [List.forall_mem_cons]
  exact ⟨okRou, okIta, okLim, okCpr, okLdg, okLat, by simp⟩
 ·simp

theorem evRon (xn : Bool) (xt : List Int) (xb : List Int) (way : Int) (most : Int) : (runF enRnd2 false Tryz.f108 [.agg [vB xn, .sl (xt.map eI), .sl (xb.map eI)], vI way, vI most]).val =
 Option.bind (unenc encRou [AV.agg [(vB xn), AV.sl (List.map eI xt), AV.sl (List.map eI xb)], (vI way)]) fun z => bif F.nk (200 : Nat)
 z.2.1 && F.nk (200 : Nat) z.2.2.1 && decide ((0 : Nat) < F.nv z.2.2.1) then Option.bind (unenc encIta [(vI most)]) fun z_1 => bif decide
 ((-9223372036854775808 : Int) ≤ z_1) && decide (z_1 ≤ 9223372036854775807) then Option.bind (unenc encLim [(vS (F.itoa z_1))]) fun z_2 => bif
 List.all (F.bs z_2) F.dgB && decide (ByteArray.size z_2 ≤ 1000) then Option.bind (unenc encCpr [AV.sl (List.map eI (F.lb (F.rndU z.2.2.2 z.1 (F.nv
 z.2.1) (F.nv z.2.2.1)))), AV.sl (List.map eI (F.lb (F.dv z_2)))]) fun z_3 => bif F.nk (1000 : Nat) z_3.1 && F.nk (1000 : Nat) z_3.2
 then bif decide ((0 : Int) < F.sgnL (↑(F.nv z_3.1) : Int) (↑(F.nv z_3.2) : Int)) then some (AV.tup [(vI 0), (vB false)], []) else Option.bind (unenc encLdg
 [AV.sl (List.map eI (F.lb (F.rndU z.2.2.2 z.1 (F.nv z.2.1) (F.nv z.2.2.1))))]) fun z => bif F.nk (200 : Nat) z then Option.bind (unenc
 encLat [(vS (F.itoa (↑(F.nv z) : Int)))]) fun z => bif F.isD z && decide (ByteArray.size z ≤ 1000) then bif xn then some (AV.tup [(vI (IntKind.wrap
 IntKind.i64 ((0 : Int) - (↑(F.dv z) : Int)))), (vB true)], []) else some (AV.tup [(vI (↑(F.dv z) : Int)), (vB true)], []) else none else none else none else none else none
 else none := (runFR_val).symm.trans (by kernel_rfl)

def encRon1 (xn : Bool) (xt : List Int) (xb : List Int) (way : Int) (most : Int) : List AV := [.agg [vB xn, .sl (xt.map eI), .sl (xb.map eI)], vI way, vI most]

def encRon (a : Bool × (List Int) × (List Int) × Int × Int) : List AV := encRon1 a.1 a.2.1 a.2.2.1 a.2.2.2.1 a.2.2.2.2

theorem encRon_inj (a a' : Bool × (List Int) × (List Int) × Int × Int) (h : encRon a = encRon a') : a = a' := by
 simp only [encRon, encRon1] at h
 try simp [ints_inj] at h
 grind

theorem unRon (xn : Bool) (xt : List Int) (xb : List Int) (way : Int) (most : Int) : unenc encRon ([AV.agg [(vB xn), AV.sl (List.map eI xt), AV.sl (List.map eI xb)], (vI way), (vI most)]) = some (xn, xt, xb, way, most) := unenc_of encRon_inj (xn, xt, xb, way, most) rfl

def resRon1 (xn : Bool) (xt : List Int) (xb : List Int) (way : Int) (most : Int) : AV × Heap := (.tup [vI (bif decide (most < F.rndU way xn (F.nv xt) (F.nv xb)) then 0 else F.sg xn (F.rndU way xn (F.nv xt) (F.nv xb))), vB (!decide (most < F.rndU way xn (F.nv xt) (F.nv xb)))], [])

def preRon1 (xn : Bool) (xt : List Int) (xb : List Int) (way : Int) (most : Int) : Bool := F.nk 150 xt && F.nk 150 xb && decide (0 < F.nv xb) && decide (0 ≤ most) && decide (most ≤ 9223372036854775807)

noncomputable def oRon : Orc := orc 108 true encRon (fun a => preRon1 a.1 a.2.1 a.2.2.1 a.2.2.2.1 a.2.2.2.2) fun a => resRon1 a.1 a.2.1 a.2.2.1 a.2.2.2.1 a.2.2.2.2

theorem okRon : OrcOK Tryz.prog noG oRon := by
 refine mk_ok Tryz.f108 (keep := false) (by kernel_rfl) (by kernel_rfl) enRnd2_ok mixed (no_loops (by kernel_rfl)) (by first | exact fun _ _ => ⟨rfl, rfl⟩ | (intro h; cases h)) ?_
 rintro ⟨xn, xt, xb, way, most⟩ hpre hok
 show (runF enRnd2 false _ (encRon1 _ _ _ _ _)).val = some (resRon1 _ _ _ _ _)
 unfold encRon1 resRon1
 rw [evRon]
 have hpre : (F.nk 150 xt && F.nk 150 xb && decide (0 < F.nv xb) && decide (0 ≤ most) && decide (most ≤ 9223372036854775807)) = true := hpre
 simp only [Bool.and_eq_true, decide_eq_true_eq] at hpre
 obtain ⟨⟨⟨⟨p1, p2⟩, p3⟩, p4⟩, p5⟩ := hpre
 have r1 := nk_up p1 (by decide : 150 ≤ 200)
 have r2 := nk_up p2 (by decide : 150 ≤ 200)
 have hq : F.nv xt / F.nv xb < 10000 ^ 150 := Nat.lt_of_le_of_lt (Nat.div_le_self _ _) (nk_lt p1)
 have hR : F.rndU way xn (F.nv xt) (F.nv xb) < 10000 ^ (150 + 1) := by
  have h1 := F.add_lt hq (n := 1) (Nat.one_lt_pow (by decide) (by decide))
  unfold F.rndU
  cases F.rndUp way xn (F.nv xt) (F.nv xb)
  ·exact Nat.lt_trans (Nat.lt_succ_self _) h1
  ·exact h1
 generalize hRe : F.rndU way xn (F.nv xt) (F.nv xb) = R at hR
 obtain ⟨m, rfl⟩ : ∃ m : Nat, most = m := ⟨most.toNat, by omega⟩
 have hmb : m < 10000 ^ 5 := Nat.lt_of_le_of_lt (by omega : m ≤ 9223372036854775807) (by decide)
 have k1 := nk_le (k := 1000) hR (by decide)
 have k2 := nk_le (k := 1000) hmb (by decide)
 have k3 := nk_le (k := 200) hR (by decide)
 have hal := F.all_itoa m
 have hsz : (F.itoa (m : Int)).size ≤ 1000 := by have := F.itoa_size (n := m) (by omega) (by omega); omega
 have hs : decide ((0 : Int) < F.sgnL (R : Int) (m : Int)) = decide ((m : Int) < (R : Int)) := by
  unfold F.sgnL
  by_cases c : (m : Int) < (R : Int)
  ·rw [decide_eq_true c, if_neg (by omega), if_pos c]; rfl
  ·by_cases c2 : (R : Int) < (m : Int)
   ·rw [decide_eq_false c, if_pos c2]; rfl
   ·rw [decide_eq_false c, if_neg c2, if_neg c]; rfl
 simp only [unRou, unIta, unLim, unCpr, unLdg, unLat, Option.bind_some, cond_true, Bool.and_true, r1, r2, decide_eq_true p3, decide_eq_true (by omega : (-9223372036854775808 : Int) ≤ (m : Int)), decide_eq_true p5, hal, decide_eq_true hsz, F.dv_itoa, hRe, k1, k2, k3, F.nv_lb, hs]
 by_cases c : (m : Int) < (R : Int)
 ·rw [decide_eq_true c]; rfl
 ·have hi : F.isD (F.itoa (R : Int)) = true := F.isD_itoa (by omega)
  have hsz2 : (F.itoa (R : Int)).size ≤ 1000 := by have := F.itoa_size (n := R) (by omega) (by omega); omega
  have hw : IntKind.i64.wrap (0 - (R : Int)) = -(R : Int) := by rw [wrap_id (by omega) (by omega)]; omega
  simp only [decide_eq_false c, hi, decide_eq_true hsz2, Bool.and_true, cond_true, cond_false, hw, F.sg, Bool.not_false]
  cases xn <;> rfl

def _root_.Go.Proofs.YtbeobbjiogbdlaaGreatDoor.F.whole (way : Int) (xn : Bool) (t b : Nat) : Int := bif decide ((4611686018427387904 : Int) < F.rndU way xn t b) then (bif xn then -4611686018427387904 else 4611686018427387904) else F.sg xn (F.rndU way xn t b)

noncomputable def enWhl : Env := envH ty noG lks [oRon] [] [] []

theorem enWhl_ok : EnvOK Tryz.prog enWhl := by
 refine envH_ok lks_ok ty_ok ?_ ?_
 ·simp only [List.forall_mem_cons]
  exact ⟨okRon, by simp⟩
 ·simp

theorem evWhl (xn : Bool) (xt : List Int) (xb : List Int) (way : Int) : (runF enWhl false Tryz.f49 [.agg [vB xn, .sl (xt.map eI), .sl (xb.map eI)], vI way]).val =
 Option.bind (unenc encRon [AV.agg [(vB xn), AV.sl (List.map eI xt), AV.sl (List.map eI xb)], (vI way), (vI 4611686018427387904)]) fun z => bif F.nk (150 : Nat) z.2.1 && F.nk (150 : Nat) z.2.2.1 && decide ((0 : Nat) < F.nv z.2.2.1) && decide ((0 : Int) ≤ z.2.2.2.2)
 && decide (z.2.2.2.2 ≤ 9223372036854775807) then bif !decide (z.2.2.2.2 < (↑(F.rndU z.2.2.2.1 z.1 (F.nv z.2.1) (F.nv z.2.2.1))
 : Int)) then some ((vI (bif decide (z.2.2.2.2 < (↑(F.rndU z.2.2.2.1 z.1 (F.nv z.2.1) (F.nv z.2.2.1)) : Int)) then (0 : Int) else F.sg z.1
 (F.rndU z.2.2.2.1 z.1 (F.nv z.2.1) (F.nv z.2.2.1)))), []) else bif xn then some ((vI (-4611686018427387904 : Int)), []) else some ((vI
 (4611686018427387904 : Int)), []) else none := (runFR_val).symm.trans (by kernel_rfl)

def encWhl1 (xn : Bool) (xt : List Int) (xb : List Int) (way : Int) : List AV := [.agg [vB xn, .sl (xt.map eI), .sl (xb.map eI)], vI way]

def encWhl (a : Bool × (List Int) × (List Int) × Int) : List AV := encWhl1 a.1 a.2.1 a.2.2.1 a.2.2.2

theorem encWhl_inj (a a' : Bool × (List Int) × (List Int) × Int) (h : encWhl a = encWhl a') : a = a' := by
 simp only [encWhl, encWhl1] at h
 try simp [ints_inj] at h
 grind

theorem unWhl (xn : Bool) (xt : List Int) (xb : List Int) (way : Int) : unenc encWhl ([AV.agg [(vB xn), AV.sl (List.map eI xt), AV.sl (List.map eI xb)], (vI way)]) = some (xn, xt, xb, way) := unenc_of encWhl_inj (xn, xt, xb, way) rfl

def resWhl1 (xn : Bool) (xt : List Int) (xb : List Int) (way : Int) : AV × Heap := (vI (F.whole way xn (F.nv xt) (F.nv xb)), [])

def preWhl1 (xn : Bool) (xt : List Int) (xb : List Int) (way : Int) : Bool := F.nk 150 xt && F.nk 150 xb && decide (0 < F.nv xb)

noncomputable def oWhl : Orc := orc 49 true encWhl (fun a => preWhl1 a.1 a.2.1 a.2.2.1 a.2.2.2) fun a => resWhl1 a.1 a.2.1 a.2.2.1 a.2.2.2

theorem okWhl : OrcOK Tryz.prog noG oWhl := by
 refine mk_ok Tryz.f49 (keep := false) (by kernel_rfl) (by kernel_rfl) enWhl_ok mixed (no_loops (by kernel_rfl)) (by first | exact fun _ _ => ⟨rfl, rfl⟩ | (intro h; cases h)) ?_
 rintro ⟨xn, xt, xb, way⟩ hpre hok
 show (runF enWhl false _ (encWhl1 _ _ _ _)).val = some (resWhl1 _ _ _ _)
 unfold encWhl1 resWhl1
 rw [evWhl]
 have hpre : (F.nk 150 xt && F.nk 150 xb && decide (0 < F.nv xb)) = true := hpre
 simp only [unRon, Option.bind_some, cond_true, Bool.and_true, hpre, (by decide : decide ((0 : Int) ≤ 4611686018427387904) = true), (by decide : decide ((4611686018427387904 : Int) ≤ 9223372036854775807) = true)]
 unfold F.whole
 cases decide ((4611686018427387904 : Int) < F.rndU way xn (F.nv xt) (F.nv xb)) <;> cases xn <;> rfl

theorem unLow_1 (ng : Bool) (t : List Int) : unenc encLow [vB ng, .sl (t.map eI), .sl [[vI 1]]] = some (ng, t, [1]) := unLow ng t [1]

noncomputable def enInt : Env := envH ty noG lks [oFmt, oLim, oLow] [] [] []

theorem enInt_ok : EnvOK Tryz.prog enInt := by
 refine envH_ok lks_ok ty_ok ?_ ?_
 ·simp only [List.forall_mem_cons]
  exact ⟨okFmt, okLim, okLow, by simp⟩
 ·simp

theorem evInt (n : Int) : (runF enInt false Tryz.f111 [vI n]).val =
 bif decide (n < 0) then Option.bind (unenc encFmt [AV.v (Value.int IntKind.u64 (IntKind.wrap IntKind.u64 ((0 : Int) - IntKind.wrap IntKind.u64 n))), (vI 10)]) fun z => bif decide (z ≤ 18446744073709551615) then Option.bind (unenc encLim [(vS (F.itoa (↑z : Int)))]) fun z => bif List.all (F.bs
 z) F.dgB && decide (ByteArray.size z ≤ 1000) then Option.bind (unenc encLow [(vB (decide (n < 0))), AV.sl (List.map eI (F.lb (F.dv z))), AV.sl [[(vI 1)]]]) fun z => bif F.nk (200 : Nat) z.2.1 && F.nk (200 : Nat) z.2.2 && decide ((0 : Nat) < F.nv z.2.2) then some (AV.agg
 [(vB (z.1 && decide ((0 : Nat) < F.nv z.2.1))), AV.sl (List.map eI (F.lb (Nat.div (F.nv z.2.1) (Nat.gcd (F.nv z.2.2) (F.nv z.2.1))))), AV.sl (List.map eI
 (F.lb (Nat.div (F.nv z.2.2) (Nat.gcd (F.nv z.2.2) (F.nv z.2.1)))))], []) else none else none else none else Option.bind (unenc encFmt [AV.v (Value.int
 IntKind.u64 (IntKind.wrap IntKind.u64 n)), (vI 10)]) fun z => bif decide (z ≤ 18446744073709551615) then Option.bind (unenc encLim [(vS (F.itoa (↑z
 : Int)))]) fun z => bif List.all (F.bs z) F.dgB && decide (ByteArray.size z ≤ 1000) then Option.bind (unenc encLow [(vB (decide (n < 0))),
 AV.sl (List.map eI (F.lb (F.dv z))), AV.sl [[(vI 1)]]]) fun z => bif F.nk (200 : Nat) z.2.1 && F.nk (200 : Nat) z.2.2 &&
 decide ((0 : Nat) < F.nv z.2.2) then some (AV.agg [(vB (z.1 && decide ((0 : Nat) < F.nv z.2.1))), AV.sl (List.map eI (F.lb (Nat.div (F.nv z.2.1) (Nat.gcd
 (F.nv z.2.2) (F.nv z.2.1))))), AV.sl (List.map eI (F.lb (Nat.div (F.nv z.2.2) (Nat.gcd (F.nv z.2.2) (F.nv z.2.1)))))], []) else none else none else
 none := (runFR_val).symm.trans (by kernel_rfl)

def encInt1 (n : Int) : List AV := [vI n]

def encInt (a : Int) : List AV := encInt1 a

theorem encInt_inj (a a' : Int) (h : encInt a = encInt a') : a = a' := by
 simp only [encInt, encInt1] at h
 try simp [] at h
 grind

theorem unInt (n : Int) : unenc encInt ([(vI n)]) = some (n) := unenc_of encInt_inj (n) rfl

def resInt1 (n : Int) : AV × Heap := (.agg [vB (decide (n < 0)), .sl ((F.lb n.natAbs).map eI), .sl ((F.lb 1).map eI)], [])

def preInt1 (n : Int) : Bool := decide (-9223372036854775808 ≤ n) && decide (n ≤ 9223372036854775807)

noncomputable def oInt : Orc := orc 111 false encInt (fun a => preInt1 a) fun a => resInt1 a

theorem okInt : OrcOK Tryz.prog noG oInt := by
 refine mk_ok Tryz.f111 (keep := false) (by kernel_rfl) (by kernel_rfl) enInt_ok mixed (no_loops (by kernel_rfl)) (by first | exact fun _ _ => ⟨rfl, rfl⟩ | (intro h; cases h)) ?_
 rintro n hpre hok
 show (runF enInt false _ (encInt1 _)).val = some (resInt1 _)
 unfold encInt1 resInt1
 rw [evInt]
 have hpre : (decide (-9223372036854775808 ≤ n) && decide (n ≤ 9223372036854775807)) = true := hpre
 rw [Bool.and_eq_true, decide_eq_true_eq, decide_eq_true_eq] at hpre
 have hu : n.natAbs ≤ 9223372036854775808 := by omega
 have hlt : n.natAbs < 10000 ^ 5 := Nat.lt_of_le_of_lt hu (by decide)
 have k1 : F.nk 200 (F.lb n.natAbs) = true := nk_le hlt (by decide)
 have hsz : decide ((F.itoa ((n.natAbs : Nat) : Int)).size ≤ 1000) = true := decide_eq_true (by
  rw [← F.bs_len, F.itoa_n, Lib.decDigits_length]
  by_cases h : n.natAbs < 10
  ·rw [Lib.nDigits_small h]; omega
  ·have := Lib.numDigits_eq n.natAbs (by omega) (by omega)
   split at this <;> omega)
 have hdv : ∀ u v : Nat, Nat.div u v = u / v := fun _ _ => rfl
 have hp : decide (0 < F.nv [1]) = true := rfl
 have hw : n < 0 → IntKind.u64.wrap (0 - IntKind.u64.wrap n) = ((n.natAbs : Nat) : Int) := fun h => by rw [IntKind.wrap_u64, IntKind.wrap_u64]; omega
 have hw2 : ¬ n < 0 → IntKind.u64.wrap n = ((n.natAbs : Nat) : Int) := fun h => by rw [IntKind.wrap_u64]; omega
 by_cases hn : n < 0
 ·have hn0 : decide (0 < n.natAbs) = true := decide_eq_true (by omega)
  simp only [unFmt, unLim, Option.bind_some, cond_true, Bool.and_true, Bool.true_and, decide_eq_true hn, hw hn, decide_eq_true (by omega : n.natAbs ≤ 18446744073709551615), F.all_itoa, hsz, F.dv_itoa, unLow_1, k1, nk_one (by decide : 1 ≤ 200), F.nv_lb, nv_one, hdv, Nat.gcd_one_left, Nat.div_one, hn0]
  rfl
 ·simp only [unFmt, unLim, Option.bind_some, cond_true, cond_false, Bool.and_true, Bool.true_and, decide_eq_false hn, hw2 hn, decide_eq_true (by omega : n.natAbs ≤ 18446744073709551615), F.all_itoa, hsz, F.dv_itoa, unLow_1, k1, nk_one (by decide : 1 ≤ 200), F.nv_lb, nv_one, hdv, Nat.gcd_one_left, Nat.div_one, Bool.false_and]
  rfl

end M

namespace M

theorem nk_abs {n : Int} (h1 : -9223372036854775808 ≤ n) (h2 : n ≤ 9223372036854775807) {k : Nat} (hk : 5 ≤ k) : F.nk k (F.lb n.natAbs) = true :=
 nk_le (Nat.lt_of_le_of_lt (by omega : n.natAbs ≤ 9223372036854775808) (by decide : 9223372036854775808 < 10000 ^ 5)) hk

theorem nk_lb1 {k : Nat} (h : 1 ≤ k) : F.nk k (F.lb 1) = true := F.nk_lb (F.lb_lt (m := 1) (by decide) h)

noncomputable def enTur : Env := envH ty noG lks [oInt, oLms, oOvr] [] [] []

theorem enTur_ok : EnvOK Tryz.prog enTur := by
 refine envH_ok lks_ok ty_ok ?_ ?_
 ·simp only [List.forall_mem_cons]
  exact ⟨okInt, okLms, okOvr, by simp⟩
 ·simp

theorem evTur (n : Int) (fr : Int) (tq : Int) : (runF enTur false Tryz.f50 [vI n, vI fr, vI tq]).val =
 Option.bind (unenc encInt [(vI n)]) fun z => bif decide ((-9223372036854775808 : Int) ≤ z) && decide (z ≤ 9223372036854775807) then Option.bind (unenc
 encInt [(vI tq)]) fun z_1 => bif decide ((-9223372036854775808 : Int) ≤ z_1) && decide (z_1 ≤ 9223372036854775807) then Option.bind (unenc encLms [AV.agg
 [(vB (decide (z < 0))), AV.sl (List.map eI (F.lb (Int.natAbs z))), AV.sl (List.map eI (F.lb (1 : Nat)))], AV.agg [(vB (decide (z_1 < 0))), AV.sl (List.map
 eI (F.lb (Int.natAbs z_1))), AV.sl (List.map eI (F.lb (1 : Nat)))]]) fun z => bif F.nk (90 : Nat) z.2.1 &&
 F.nk (90 : Nat) z.2.2.1 && F.nk (90 : Nat) z.2.2.2.2.1 && F.nk (90 : Nat) z.2.2.2.2.2 && decide ((0 : Nat) < F.nv z.2.2.1) && decide ((0 :
 Nat) < F.nv z.2.2.2.2.2) then Option.bind (unenc encInt [(vI fr)]) fun z_2 => bif decide ((-9223372036854775808 : Int) ≤ z_2) && decide (z_2 ≤
 (9223372036854775807 : Int)) then Option.bind (unenc encOvr [AV.agg [(vB (z.1 != z.2.2.2.1 && decide ((0 : Nat) < F.nv z.2.1 * F.nv z.2.2.2.2.1))),
 AV.sl (List.map eI (F.lowT (F.nv z.2.1 * F.nv z.2.2.2.2.1) (F.nv z.2.2.1 * F.nv z.2.2.2.2.2))), AV.sl (List.map eI (F.lowB (F.nv z.2.1 *
 F.nv z.2.2.2.2.1) (F.nv z.2.2.1 * F.nv z.2.2.2.2.2)))], AV.agg [(vB (decide (z_2 < 0))), AV.sl (List.map eI (F.lb (Int.natAbs z_2))),
 AV.sl (List.map eI (F.lb (1 : Nat)))]]) fun z => bif F.nk (90 : Nat) z.2.1 && F.nk (90 : Nat) z.2.2.1
 && F.nk (90 : Nat) z.2.2.2.2.1 && F.nk (90 : Nat) z.2.2.2.2.2 && decide ((0 : Nat) < F.nv z.2.2.1) && decide ((0 : Nat) < F.nv
 z.2.2.2.2.1) then some (AV.agg [(vB (z.1 != z.2.2.2.1 && decide ((0 : Nat) < F.nv z.2.1 * F.nv z.2.2.2.2.2))), AV.sl (List.map eI (F.lowT
 (F.nv z.2.1 * F.nv z.2.2.2.2.2) (F.nv z.2.2.1 * F.nv z.2.2.2.2.1))), AV.sl (List.map eI (F.lowB (F.nv z.2.1 * F.nv z.2.2.2.2.2)
 (F.nv z.2.2.1 * F.nv z.2.2.2.2.1)))], []) else none else none else none else none else none := (runFR_val).symm.trans (by kernel_rfl)

def encTur1 (n : Int) (fr : Int) (tq : Int) : List AV := [vI n, vI fr, vI tq]

def encTur (a : Int × Int × Int) : List AV := encTur1 a.1 a.2.1 a.2.2

theorem encTur_inj (a a' : Int × Int × Int) (h : encTur a = encTur a') : a = a' := by
 simp only [encTur, encTur1] at h
 try simp [] at h
 grind

theorem unTur (n : Int) (fr : Int) (tq : Int) : unenc encTur ([(vI n), (vI fr), (vI tq)]) = some (n, fr, tq) := unenc_of encTur_inj (n, fr, tq) rfl

def resTur1 (n : Int) (fr : Int) (tq : Int) : AV × Heap := (.agg [vB (decide (n < 0) && decide (0 < n.natAbs * tq.natAbs)), .sl ((F.lowT (n.natAbs * tq.natAbs) fr.natAbs).map eI), .sl ((F.lowB (n.natAbs * tq.natAbs) fr.natAbs).map eI)], [])

def preTur1 (n : Int) (fr : Int) (tq : Int) : Bool := decide (-9223372036854775808 ≤ n) && decide (n ≤ 9223372036854775807) && decide (1 ≤ fr) && decide (fr ≤ 9223372036854775807) && decide (1 ≤ tq) && decide (tq ≤ 9223372036854775807)

noncomputable def oTur : Orc := orc 50 false encTur (fun a => preTur1 a.1 a.2.1 a.2.2) fun a => resTur1 a.1 a.2.1 a.2.2

theorem okTur : OrcOK Tryz.prog noG oTur := by
 refine mk_ok Tryz.f50 (keep := false) (by kernel_rfl) (by kernel_rfl) enTur_ok mixed (no_loops (by kernel_rfl)) (by first | exact fun _ _ => ⟨rfl, rfl⟩ | (intro h; cases h)) ?_
 rintro ⟨n, fr, tq⟩ hpre hok
 show (runF enTur false _ (encTur1 _ _ _)).val = some (resTur1 _ _ _)
 unfold encTur1 resTur1
 rw [evTur]
 have hpre : (decide (-9223372036854775808 ≤ n) && decide (n ≤ 9223372036854775807) && decide (1 ≤ fr) && decide (fr ≤ 9223372036854775807) && decide (1 ≤ tq) && decide (tq ≤ 9223372036854775807)) = true := hpre
 simp only [Bool.and_eq_true, decide_eq_true_eq] at hpre
 obtain ⟨⟨⟨⟨⟨p1, p2⟩, p3⟩, p4⟩, p5⟩, p6⟩ := hpre
 have k1 := nk_abs p1 p2 (by decide : 5 ≤ 90)
 have k2 := nk_abs (by omega : -9223372036854775808 ≤ fr) p4 (by decide : 5 ≤ 90)
 have k3 := nk_abs (by omega : -9223372036854775808 ≤ tq) p6 (by decide : 5 ≤ 90)
 have k4 := nk_lb1 (by decide : 1 ≤ 90)
 have hm : n.natAbs * tq.natAbs < 10000 ^ (5 + 5) := F.mul_lt (Nat.lt_of_le_of_lt (by omega : n.natAbs ≤ 9223372036854775808) (by decide)) (Nat.lt_of_le_of_lt (by omega : tq.natAbs ≤ 9223372036854775808) (by decide))
 have k5 := nk_le (k := 90) hm (by decide)
 have e1 : F.lowT (n.natAbs * tq.natAbs) 1 = F.lb (n.natAbs * tq.natAbs) := by unfold F.lowT; rw [Nat.gcd_one_left, Nat.div_one]
 have e2 : F.lowB (n.natAbs * tq.natAbs) 1 = F.lb 1 := by unfold F.lowB; rw [Nat.gcd_one_left, Nat.div_one]
 have d1 : decide (tq < 0) = false := decide_eq_false (by omega)
 have d2 : decide (fr < 0) = false := decide_eq_false (by omega)
 have d3 : decide (0 < fr.natAbs) = true := decide_eq_true (by omega)
 have d4 : decide (0 < 1) = true := rfl
 simp only [unInt, unLms, unOvr, Option.bind_some, cond_true, Bool.and_true, decide_eq_true p1, decide_eq_true p2, decide_eq_true p4, decide_eq_true p6, decide_eq_true (by omega : -9223372036854775808 ≤ fr), decide_eq_true (by omega : -9223372036854775808 ≤ tq), k1, k2, k3, k4, k5, F.nv_lb, Nat.mul_one, Nat.one_mul, e1, e2, d1, d2, d3, d4]
 have hb2 : ∀ x y : Bool, (((x != false) && y) != false && y) = (x && y) := by decide
 rw [hb2]

end M

theorem F.low_div {t b : Nat} (hb : 0 < b) : (t / Nat.gcd b t) / (b / Nat.gcd b t) = t / b ∧ ((b / Nat.gcd b t) ≤ (t / Nat.gcd b t) % (b / Nat.gcd b t) + (t / Nat.gcd b t) % (b / Nat.gcd b t) ↔ b ≤ t % b + t % b) ∧ 0 < b / Nat.gcd b t := by
 have hg : 0 < Nat.gcd b t := Nat.gcd_pos_of_pos_left _ hb
 have e1 := Nat.mul_div_cancel' (Nat.gcd_dvd_right b t)
 have e2 := Nat.mul_div_cancel' (Nat.gcd_dvd_left b t)
 generalize Nat.gcd b t = g at *
 generalize t / g = t' at *
 generalize b / g = b' at *
 subst e1 e2
 refine ⟨(Nat.mul_div_mul_left _ _ hg).symm, ?_, Nat.pos_of_mul_pos_left hb⟩
 rw [Nat.mul_mod_mul_left, ← Nat.mul_add]
 exact ⟨fun h => Nat.mul_le_mul_left g h, fun h => Nat.le_of_mul_le_mul_left h hg⟩

def F.milN (n by_ : Int) : Int :=
 F.whole 2 (decide (n < 0) && decide (0 < n.natAbs * 1000)) (n.natAbs * 1000 / Nat.gcd by_.natAbs (n.natAbs * 1000)) (by_.natAbs / Nat.gcd by_.natAbs (n.natAbs * 1000))

theorem F.milN_ok {n by_ : Int} (h1 : 1 ≤ by_) (h2 : by_ ≤ 1000000000) (hn : n.natAbs ≤ 2000000000000000) :
  F.milN n by_ = F.scl n 1000 by_ 2 ∨ (F.noTime (F.milN n by_) = true ∧ F.noTime (F.scl n 1000 by_ 2) = true) := by
 have hb : 0 < by_.natAbs := by omega
 obtain ⟨d1, d2, d3⟩ := F.low_div (t := n.natAbs * 1000) hb
 have hd : n.natAbs * 1000 / by_.natAbs ≤ n.natAbs * 1000 := Nat.div_le_self _ _
 have e : ∀ xn, F.rndU 2 xn (n.natAbs * 1000 / Nat.gcd by_.natAbs (n.natAbs * 1000)) (by_.natAbs / Nat.gcd by_.natAbs (n.natAbs * 1000)) = bif decide (by_.natAbs ≤ n.natAbs * 1000 % by_.natAbs + n.natAbs * 1000 % by_.natAbs) then n.natAbs * 1000 / by_.natAbs + 1 else n.natAbs * 1000 / by_.natAbs := by
  intro xn
  unfold F.rndU F.rndUp
  rw [d1]
  by_cases c : by_.natAbs ≤ n.natAbs * 1000 % by_.natAbs + n.natAbs * 1000 % by_.natAbs
  ·rw [decide_eq_true c, decide_eq_true (d2.2 c)]; rfl
  ·rw [decide_eq_false c, decide_eq_false (fun h => c (d2.1 h))]; rfl
 have hq : (n.natAbs * (1000 : Int).natAbs / by_.natAbs) = n.natAbs * 1000 / by_.natAbs := rfl
 have hr : (n.natAbs * (1000 : Int).natAbs % by_.natAbs) = n.natAbs * 1000 % by_.natAbs := rfl
 have hR : F.rnd 2 (decide (n < 0)) ((n.natAbs * 1000 % by_.natAbs : Nat) : Int) by_ = decide (by_.natAbs ≤ n.natAbs * 1000 % by_.natAbs + n.natAbs * 1000 % by_.natAbs) := by
  show decide (by_ - ((n.natAbs * 1000 % by_.natAbs : Nat) : Int) ≤ ((n.natAbs * 1000 % by_.natAbs : Nat) : Int)) = _
  have hm : n.natAbs * 1000 % by_.natAbs < by_.natAbs := Nat.mod_lt _ hb
  exact decide_eq_decide.2 (by omega)
 obtain ⟨p, hp⟩ : ∃ p : Nat, p = bif decide (by_.natAbs ≤ n.natAbs * 1000 % by_.natAbs + n.natAbs * 1000 % by_.natAbs) then n.natAbs * 1000 / by_.natAbs + 1 else n.natAbs * 1000 / by_.natAbs := ⟨_, rfl⟩
 have hpl : p ≤ 2000000000000000001 := by
  rw [hp]
  cases decide (by_.natAbs ≤ n.natAbs * 1000 % by_.natAbs + n.natAbs * 1000 % by_.natAbs)
  ·rw [cond_false]; omega
  ·rw [cond_true]; omega
 have hP : F.sclP n 1000 by_ 2 = (p : Int) := by
  unfold F.sclP F.sclQ F.sclR
  rw [hq, hr, hR, hp]
  cases decide (by_.natAbs ≤ n.natAbs * 1000 % by_.natAbs + n.natAbs * 1000 % by_.natAbs) <;> rfl
 have hxn : (decide (n < 0) && decide (0 < n.natAbs * 1000)) = decide (n < 0) := by
  by_cases hneg : n < 0
  ·rw [decide_eq_true hneg, decide_eq_true (by omega)]; rfl
  ·rw [decide_eq_false hneg]; rfl
 unfold F.milN F.whole F.scl F.sclS
 rw [e, ← hp, hP, hxn, decide_eq_false (by omega : ¬ (4611686018427387904 : Int) < (p : Int)), cond_false]
 unfold F.sg
 by_cases c : (1152921504606846976 : Int) < (p : Int)
 ·right
  rw [decide_eq_true c, cond_true]
  unfold F.noTime F.out
  by_cases hneg : n < 0
  ·rw [decide_eq_true hneg, cond_true, cond_true, decide_eq_true (by omega : -(p : Int) < 0)]
   exact ⟨rfl, rfl⟩
  ·rw [decide_eq_false hneg, cond_false, cond_false, decide_eq_true (by omega : (359999999 : Int) < (p : Int)), Bool.or_true]
   exact ⟨rfl, rfl⟩
 ·left
  rw [decide_eq_false c, cond_false]

theorem F.pre_mil {n sc : Int} (h1 : 1 ≤ sc) (h2 : sc ≤ 1000000000) (hn : n.natAbs ≤ 2000000000000000) :
  F.nk 150 (F.lowT (n.natAbs * (1000 : Int).natAbs) sc.natAbs) = true ∧ F.nk 150 (F.lowB (n.natAbs * (1000 : Int).natAbs) sc.natAbs) = true ∧ 0 < F.nv (F.lowB (n.natAbs * (1000 : Int).natAbs) sc.natAbs) := by
 have h3 : (1000 : Int).natAbs = 1000 := rfl
 rw [h3]
 have hg := (F.low_div (t := n.natAbs * 1000) (b := sc.natAbs) (by omega)).2.2
 refine ⟨?_, ?_, ?_⟩
 ·unfold F.lowT
  exact M.nk_le (j := 5) (Nat.lt_of_le_of_lt (Nat.div_le_self _ _) (Nat.lt_of_le_of_lt (by omega : n.natAbs * 1000 ≤ 2000000000000000000) (by decide))) (by decide)
 ·unfold F.lowB
  exact M.nk_le (j := 5) (Nat.lt_of_le_of_lt (Nat.div_le_self _ _) (Nat.lt_of_le_of_lt (by omega : sc.natAbs ≤ 1000000000000000000) (by decide))) (by decide)
 ·unfold F.lowB
  rw [F.nv_lb]
  exact hg

theorem F.whl_mil (n sc : Int) : F.whole 2 (decide (n < 0) && decide (0 < n.natAbs * (1000 : Int).natAbs)) (F.nv (F.lowT (n.natAbs * (1000 : Int).natAbs) sc.natAbs)) (F.nv (F.lowB (n.natAbs * (1000 : Int).natAbs) sc.natAbs)) = F.milN n sc := by
 unfold F.milN F.lowT F.lowB
 rw [F.nv_lb, F.nv_lb]
 rfl

namespace M

theorem ge_not (n a : Int) : decide (a ≤ n) = !decide (n < a) := by
 by_cases h : n < a
 ·rw [decide_eq_true h, decide_eq_false (by omega)]; rfl
 ·rw [decide_eq_false h, decide_eq_true (by omega)]; rfl

theorem evIsc (n : Int) : (runF en0 false Tryz.f47 [vI n]).val =
 some ((vB (bif decide ((1 : Int) ≤ n) then decide (n ≤ 1000000000) else false)), []) := by kernel_rfl

def encIsc1 (n : Int) : List AV := [vI n]

def encIsc (a : Int) : List AV := encIsc1 a

theorem encIsc_inj (a a' : Int) (h : encIsc a = encIsc a') : a = a' := by
 simp only [encIsc, encIsc1] at h
 try simp [] at h
 grind

theorem unIsc (n : Int) : unenc encIsc ([(vI n)]) = some (n) := unenc_of encIsc_inj (n) rfl

def resIsc1 (n : Int) : AV × Heap := (vB (!F.noScale n), [])

def preIsc1 (n : Int) : Bool := true

noncomputable def oIsc : Orc := orc 47 true encIsc (fun a => preIsc1 a) fun a => resIsc1 a

theorem okIsc : OrcOK Tryz.prog noG oIsc := by
 refine mk_ok Tryz.f47 (keep := false) (by kernel_rfl) (by kernel_rfl) en0_ok mixed (no_loops (by kernel_rfl)) (by first | exact fun _ _ => ⟨rfl, rfl⟩ | (intro h; cases h)) ?_
 rintro n hpre hok
 show (runF en0 false _ (encIsc1 _)).val = some (resIsc1 _)
 unfold encIsc1 resIsc1
 rw [evIsc]
 simp only [F.noScale, F.out]
 rw [ge_not n 1, ge_not 1000000000 n]
 cases decide (n < 1) <;> cases decide ((1000000000 : Int) < n) <;> rfl

theorem evIst (n : Int) : (runF en0 false Tryz.f48 [vI n]).val =
 some ((vB (bif decide ((-1000000000000000 : Int) ≤ n) then decide (n ≤ 1000000000000000) else false)), []) := by kernel_rfl

def encIst1 (n : Int) : List AV := [vI n]

def encIst (a : Int) : List AV := encIst1 a

theorem encIst_inj (a a' : Int) (h : encIst a = encIst a') : a = a' := by
 simp only [encIst, encIst1] at h
 try simp [] at h
 grind

theorem unIst (n : Int) : unenc encIst ([(vI n)]) = some (n) := unenc_of encIst_inj (n) rfl

def resIst1 (n : Int) : AV × Heap := (vB (!F.noTm n), [])

def preIst1 (n : Int) : Bool := true

noncomputable def oIst : Orc := orc 48 true encIst (fun a => preIst1 a) fun a => resIst1 a

theorem okIst : OrcOK Tryz.prog noG oIst := by
 refine mk_ok Tryz.f48 (keep := false) (by kernel_rfl) (by kernel_rfl) en0_ok mixed (no_loops (by kernel_rfl)) (by first | exact fun _ _ => ⟨rfl, rfl⟩ | (intro h; cases h)) ?_
 rintro n hpre hok
 show (runF en0 false _ (encIst1 _)).val = some (resIst1 _)
 unfold encIst1 resIst1
 rw [evIst]
 simp only [F.noTm, F.out]
 rw [ge_not n (-1000000000000000), ge_not 1000000000000000 n]
 cases decide (n < -1000000000000000) <;> cases decide ((1000000000000000 : Int) < n) <;> rfl

end M

end Go.Proofs.YtbeobbjiogbdlaaGreatDoor
