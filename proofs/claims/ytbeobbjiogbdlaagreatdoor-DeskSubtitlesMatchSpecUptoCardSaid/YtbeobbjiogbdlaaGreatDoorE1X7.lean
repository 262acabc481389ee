/- What is proved here: the statement DeskSubtitlesMatchSpec where what it reads is of bulk at most 1048576: the law returns true, and each argument reads as it did; tied to the program's text where variables are listed. -/
import Derived.Lib.LaidU8
import Derived.MakeChecks
import Derived.Shelf.Vars
import Derived.Test.YtbeobbjiogbdlaaGreatDoorRows
import Derived.Test.YtbeobbjiogbdlaaGreatDoorChecked
import Derived.Test.YtbeobbjiogbdlaaGreatDoorCards
import Derived.Test.YtbeobbjiogbdlaaGreatDoorTie
import Derived.SevenTiedAt
import Derived.Lay
import Derived.Test.YtbeobbjiogbdlaaGreatDoorE1X6

namespace Go.Proofs.YtbeobbjiogbdlaaGreatDoor
open Go Go.RowKit
set_option linter.unusedVariables false
set_option linter.unusedSimpArgs false
set_option maxHeartbeats 1000000

def F.alt : List Int → List Int → Prop
 | [], [] => True
 | x :: xs, y :: ys => (x = y ∨ (F.noTime x = true ∧ F.noTime y = true)) ∧ F.alt xs ys
 | _, _ => False

theorem F.alt_chk : ∀ (xs ys : List Int) (p : Option Int), F.alt xs ys → F.chkP F.bndF p xs = F.chkP F.bndF p ys ∧ (F.chkP F.bndF p xs = 0 → xs = ys)
 | [], [], p, _ => ⟨rfl, fun _ => rfl⟩
 | [], _ :: _, _, h => h.elim
 | _ :: _, [], _, h => h.elim
 | x :: xs, y :: ys, p, ⟨h, ht⟩ => by
  obtain ⟨i1, i2⟩ := F.alt_chk xs ys (some x) ht
  rcases h with rfl | ⟨h1, h2⟩
  ·rw [F.chkP, F.chkP]
   by_cases hb : F.bndF p x = 0
   ·have e : (F.bndF p x != 0) = false := by simp [hb]
    rw [e]
    simp only [cond_false]
    exact ⟨i1, fun h => by rw [i2 h]⟩
   ·have e : (F.bndF p x != 0) = true := by simp [hb]
    rw [e]
    simp only [cond_true]
    exact ⟨trivial, fun h => absurd h hb⟩
  ·have b1 : F.bndF p x = 1 := by unfold F.bndF; rw [h1]; rfl
   have b2 : F.bndF p y = 1 := by unfold F.bndF; rw [h2]; rfl
   rw [F.chkP, F.chkP, b1, b2]
   exact ⟨rfl, fun h => by cases h⟩

theorem F.alt_len : ∀ (xs ys : List Int), F.alt xs ys → xs.length = ys.length
 | [], [], _ => rfl
 | [], _ :: _, h => h.elim
 | _ :: _, [], h => h.elim
 | x :: xs, y :: ys, ⟨_, ht⟩ => by simp only [List.length_cons, F.alt_len xs ys ht]

theorem F.alt_cut {l : List Cap} {xs ys : List Int} (h : F.alt xs ys) : F.cutL l xs = F.cutL l ys := by
 obtain ⟨h1, h2⟩ := F.alt_chk xs ys none h
 have hl := F.alt_len xs ys h
 have hb : F.bnds xs = F.bnds ys := by unfold F.bnds; rw [hl, h1]
 unfold F.cutL
 rw [← hb]
 by_cases h0 : F.bnds xs = 0
 ·have hc : F.chkP F.bndF none xs = 0 := by
   obtain ⟨b1, b2⟩ := F.bnds_ok h0
   unfold F.bnds at h0
   rw [decide_eq_false (by omega), decide_eq_false (by omega)] at h0
   exact h0
  rw [h2 hc]
 ·have e : (F.bnds xs != 0) = true := by simp [h0]
  rw [e]
  rfl

theorem F.alt_bdG {f f' : Int → Int} (h : ∀ n : Int, n.natAbs ≤ 2000000000000000 → (f n = f' n ∨ (F.noTime (f n) = true ∧ F.noTime (f' n) = true))) : ∀ g : List Seg, g.any F.sgB = false → F.alt (F.bdG f g) (F.bdG f' g)
 | [], _ => trivial
 | [s], hs => by
  have hs : F.sgB s = false := by simpa using hs
  obtain ⟨a1, a2, a3, a4⟩ := F.sgB_ok hs
  exact ⟨h _ (by omega), h _ (by omega), trivial⟩
 | s :: t :: r, hs => by
  rw [List.any_cons, Bool.or_eq_false_iff] at hs
  obtain ⟨a1, a2, a3, a4⟩ := F.sgB_ok hs.1
  exact ⟨h _ (by omega), F.alt_bdG h (t :: r) hs.2⟩

def F.bdM (sc : Int) (g : List Seg) : List Int := F.bdG (fun n => F.milN n sc) g

theorem F.cut_same {l : List Cap} {g : List Seg} {sc : Int} (h1 : F.noScale sc = false) (h2 : g.any F.sgB = false) : F.cutL l (F.bdM sc g) = F.cutL l (F.bdL sc g) := by
 unfold F.noScale F.out at h1
 simp only [Bool.or_eq_false_iff, decide_eq_false_iff_not] at h1
 exact F.alt_cut (F.alt_bdG (fun n hn => F.milN_ok (by omega) (by omega) hn) g h2)

def F.stM (sc : Int) (g : List Seg) : List Int := g.map fun s => F.milN (s.begin + s.lead) sc

theorem F.stM_end (sc : Int) : ∀ (g : List Seg) (h : g ≠ []), F.bdM sc g = F.stM sc g ++ [F.milN ((g.getLast h).begin + (g.getLast h).lead + (g.getLast h).length) sc]
 | [], h => absurd rfl h
 | [s], _ => rfl
 | s :: t :: r, _ => by
  have ih := F.stM_end sc (t :: r) (by simp)
  unfold F.bdM F.stM at ih ⊢
  rw [F.bdG_more _ s (by simp), ih]
  rfl

namespace M

theorem mil_nn : decide (1 ≤ (1000 : Int)) = true ∧ decide ((1000 : Int) ≤ 9223372036854775807) = true := ⟨rfl, rfl⟩

def stRb1 (l : List Cap) (g : List Seg) (sc : Int) (acc : List Int) (k : Nat) : St := ⟨[(10, vI k), (9, .own 9), (2, vI sc), (1, .sl (g.map eSeg)), (0, .sl (l.map eCap))], [(9, ⟨false, 3, 1, acc.map eI⟩)]⟩

def stRb11 (a : (List Cap) × (List Seg) × Int × (List Int) × Nat) : St := stRb1 a.1 a.2.1 a.2.2.1 a.2.2.2.1 a.2.2.2.2

theorem stRb1_inj (a a' : (List Cap) × (List Seg) × Int × (List Int) × Nat) (h : stRb11 a = stRb11 a') : a = a' := by
 simp only [stRb11, stRb1] at h
 try simp [ints_inj, eCaps_inj, eSegs_inj] at h
 grind

theorem unstRb10 (l : List Cap) (g : List Seg) (sc : Int)  : unenc stRb11 (St.mk [(10, (vI (0 : Int))), (9, .own 9), (2, (vI sc)), (1, AV.sl (List.map eSeg g)), (0, AV.sl (List.map eCap l))] [(9, Blk.mk false 3 1 [])]) = some (l, g, sc, [], 0) := unenc_of stRb1_inj (l, g, sc, [], 0) rfl

def outRb1 (l : List Cap) (g : List Seg) (sc : Int) (acc : List Int) (k : Nat) : T (Ex × St) := .ifB (!((g.drop k).any F.sgB)) (.ret (.exit 0, ⟨[(9, .own 9), (2, vI sc), (1, .sl (g.map eSeg)), (0, .sl (l.map eCap))], [(9, ⟨false, 3, 1, (acc ++ F.stM sc (g.drop k)).map eI⟩)]⟩)) (.ret (.ret, ⟨[(7, vI 1), (6, .own 6)], [(6, ⟨false, 9, 1, []⟩)]⟩))

noncomputable def prlRb1 (l : List Cap) (g : List Seg) (sc : Int) (acc : List Int) (k : Nat) : Bool := decide (g.length ≤ 1048576) && decide (k ≤ g.length) && decide (acc.length ≤ k) && !F.noScale sc

noncomputable def lpRb1 : Nat × (St → T (Ex × St)) := (10, lpo [10, 9, 2, 1, 0] [9] stRb11 (fun a => prlRb1 a.1 a.2.1 a.2.2.1 a.2.2.2.1 a.2.2.2.2) fun a => outRb1 a.1 a.2.1 a.2.2.1 a.2.2.2.1 a.2.2.2.2)

def stRb2 (ps : List (List Cap)) (acc : List ByteArray) (k : Nat) : St := ⟨[(16, vI k), (15, .own 15), (13, .sl (ps.map eL_eCap))], [(15, ⟨false, 9, 1, acc.map eStr⟩)]⟩

def stRb21 (a : (List (List Cap)) × (List ByteArray) × Nat) : St := stRb2 a.1 a.2.1 a.2.2

theorem stRb2_inj (a a' : (List (List Cap)) × (List ByteArray) × Nat) (h : stRb21 a = stRb21 a') : a = a' := by
 simp only [stRb21, stRb2] at h
 try simp [strs_inj, eL_eCaps_inj] at h
 grind

theorem unstRb20 (ps : List (List Cap))  : unenc stRb21 (St.mk [(16, (vI (0 : Int))), (15, .own 15), (13, AV.sl (List.map eL_eCap ps))] [(15, Blk.mk false 9 1 [])]) = some (ps, [], 0) := unenc_of stRb2_inj (ps, [], 0) rfl

def outRb2 (ps : List (List Cap)) (acc : List ByteArray) (k : Nat) : T (Ex × St) := .ifB (decide (M.ffI F.longF (ps.drop k) = 0)) (.ret (.exit 2, ⟨[(15, .own 15)], [(15, ⟨false, 9, 1, (acc ++ (ps.drop k).map F.longS).map eStr⟩)]⟩)) (.ret (.ret, ⟨[(7, vI (M.ffI F.longF (ps.drop k))), (6, .own 6)], [(6, ⟨false, 9, 1, []⟩)]⟩))

noncomputable def prlRb2 (ps : List (List Cap)) (acc : List ByteArray) (k : Nat) : Bool := F.smLL ps && decide (ps.length ≤ 1000) && decide (k ≤ ps.length) && decide (acc.length ≤ k)

noncomputable def lpRb2 : Nat × (St → T (Ex × St)) := (23, lpo [16, 15, 13] [15] stRb21 (fun a => prlRb2 a.1 a.2.1 a.2.2) fun a => outRb2 a.1 a.2.1 a.2.2)

noncomputable def enRb : Env := envH ty noG lks [oRhC, oIsc, oIst, oTur, oWhl, oRS, oRLw] [] [] [lpRb1, lpRb2]

theorem enRb_ok : EnvOK Tryz.prog enRb := by
 refine envH_ok lks_ok ty_ok ?_ ?_
 ·simp only [List.forall_mem_cons]
  exact ⟨okRhC, okIsc, okIst, okTur, okWhl, okRS, okRLw, by simp⟩
 ·simp

theorem evRb1L (l : List Cap) (g : List Seg) (sc : Int) (acc : List Int) (k : Nat) : ((exec enRb (loopN Tryz.f14 0) (stRb1 l g sc acc k)).bind (lessX ([10, 9, 2, 1, 0], [9]) ([9, 2, 1, 0], [9]) ([7, 6], [6]))).val =
 (fun (q : Seg) => (fun (q_1 : Option (Ex × St)) => (fun (q_2 : List (Nat × AV)) => bif decide ((↑k : Int) < (↑(List.length (List.map eSeg g)) : Int)) then Option.bind
 (unenc (List.map eSeg) (List.map eSeg g)) fun z => (fun (q_3 : Int) => bif decide (k < List.length z) then Option.bind (unenc encIst [(vI (List.getD z k
 q).begin)]) fun z_1 => bif !!!F.noTm z_1 then Option.bind (unenc encIst [(vI (List.getD z k q).lead)]) fun z_2 => bif !!!F.noTm z_2 then Option.bind (unenc
 encIst [(vI (List.getD z k q).length)]) fun z_3 => bif !!!F.noTm z_3 then Option.bind (unenc encIst [(vI (IntKind.i64.wrap (q_3 + (List.getD z k
 q).length)))]) fun z => bif !!F.noTm z then q_1 else Option.bind (unenc encTur [(vI q_3), (vI sc), (vI 1000)]) fun z => (fun (q : Nat)
 => bif decide ((-9223372036854775808 : Int) ≤ z.1) && decide (z.1 ≤ 9223372036854775807) && decide ((1 : Int) ≤ z.2.1) && decide (z.2.1 ≤
 (9223372036854775807 : Int)) && decide ((1 : Int) ≤ z.2.2) && decide (z.2.2 ≤ 9223372036854775807) then Option.bind (unenc encWhl [AV.agg [(vB (decide
 (z.1 < 0) && decide ((0 : Nat) < q))), AV.sl (List.map eI (F.lowT q (Int.natAbs z.2.1))), AV.sl (List.map eI (F.lowB q (Int.natAbs z.2.1)))], (vI 2)]) fun z => bif F.nk (150 : Nat) z.2.1 && F.nk (150 : Nat) z.2.2.1 && decide ((0 : Nat) < F.nv z.2.2.1) then bif
 Nat.ble ((List.length (List.map eI acc) + 1) * 8) 140737488355328 && true then some (Ex.normal, St.mk ((10, (vI (IntKind.i64.wrap ((↑k :
 Int) + 1)))) :: q_2) [(9, Blk.mk false 3 1 (List.map eI acc ++ [[(vI (F.whole z.2.2.2 z.1 (F.nv z.2.1) (F.nv z.2.2.1)))]]))]) else none else none
 else none) (Int.natAbs z.1 * Int.natAbs z.2.2) else q_1 else q_1 else q_1 else none) (IntKind.i64.wrap ((List.getD z k q).begin + (List.getD z k q).lead))
 else some (Ex.exit (0 : Nat), St.mk q_2 [(9, Blk.mk false 3 1 (List.map eI acc))])) [(9, .own 9), (2, (vI sc)), (1, AV.sl (List.map eSeg g)), (0, AV.sl (List.map eCap
 l))]) (some (Ex.ret, St.mk [(7, (vI 1)), (6, .own 6)] [(6, Blk.mk false 9 1 [])]))) (Seg.mk (0 : Int) (0 : Int) (0 : Int) (0 : Int) (0 : Int) (0 : Int) (0 : Int)) := (execR_bind _ _ _).symm.trans (by kernel_rfl)

theorem lpRb1_ok (l : List Cap) (g : List Seg) (sc : Int) (acc : List Int) (k : Nat) (hp : prlRb1 l g sc acc k = true) : ∀ ex s', (outRb1 l g sc acc k).val = some (ex, s') → LoopOK enRb (loopN Tryz.f14 0) (stRb1 l g sc acc k) ex s' := by
 simp only [prlRb1, Bool.and_eq_true, decide_eq_true_eq] at hp
 obtain ⟨⟨⟨h1, h2⟩, h3⟩, h4⟩ := hp
 have h4 : F.noScale sc = false := by simpa using h4
 refine loop_gen (st := fun a : List Int × Nat => stRb1 l g sc a.1 a.2) (out := fun a => outRb1 l g sc a.1 a.2) (I := fun a => a.2 ≤ g.length ∧ a.1.length ≤ a.2) (n := ([10, 9, 2, 1, 0], [9])) (e := ([9, 2, 1, 0], [9])) (r := ([7, 6], [6])) (fun a => g.length - a.2) ?_ (acc, k) ⟨h2, h3⟩
 clear h2 h3 acc k
 rintro ⟨acc, k⟩ ⟨h2, h3⟩
 simp only at h2 h3
 by_cases hlt : k < g.length
 ·have hy : g[k]? = some g[k] := List.getElem?_eq_getElem hlt
  have hd : g.drop k = g[k] :: g.drop (k + 1) := List.drop_eq_getElem_cons hlt
  generalize g[k] = s at hy hd
  have hN := next_at hlt (by omega : g.length ≤ 9223372036854775807)
  have hW := F.sgW_eq s
  have hidx : idx (k : Int) = some k := rfl
  cases hb : F.sgB s
  ·obtain ⟨a1, a2, a3, a4⟩ := F.sgB_ok hb
   have w1 : IntKind.i64.wrap (s.begin + s.lead) = s.begin + s.lead := wrap_id (by omega) (by omega)
   have w2 : IntKind.i64.wrap (s.begin + s.lead + s.length) = s.begin + s.lead + s.length := wrap_id (by omega) (by omega)
   have hsc := h4
   unfold F.noScale F.out at hsc
   simp only [Bool.or_eq_false_iff, decide_eq_false_iff_not] at hsc
   obtain ⟨p1, p2, p3⟩ := F.pre_mil (n := s.begin + s.lead) (sc := sc) (by omega) (by omega) (by omega)
   have hm := F.whl_mil (s.begin + s.lead) sc
   obtain ⟨z1, z2⟩ := mil_nn
   have n1 : F.noTm s.begin = false := by unfold F.noTm F.out; rw [decide_eq_false (by omega), decide_eq_false (by omega)]; rfl
   have n2 : F.noTm s.lead = false := by unfold F.noTm F.out; rw [decide_eq_false (by omega), decide_eq_false (by omega)]; rfl
   have n3 : F.noTm s.length = false := by unfold F.noTm F.out; rw [decide_eq_false (by omega), decide_eq_false (by omega)]; rfl
   have n4 : F.noTm (s.begin + s.lead + s.length) = false := by unfold F.noTm F.out; rw [decide_eq_false (by omega), decide_eq_false (by omega)]; rfl
   have b1 : Nat.ble ((acc.length + 1) * 8) 140737488355328 = true := ble_t (by omega)
   have b3 : decide (sc ≤ 9223372036854775807) = true := decide_eq_true (by omega)
   have b4 : decide (1 ≤ sc) = true := decide_eq_true (by omega)
   have b5 : decide (-9223372036854775808 ≤ s.begin + s.lead) = true := decide_eq_true (by omega)
   have b6 : decide (s.begin + s.lead ≤ 9223372036854775807) = true := decide_eq_true (by omega)
   right
   refine ⟨(acc ++ [F.milN (s.begin + s.lead) sc], k + 1), ?_, rfl, ⟨hlt, by simp only [List.length_append, List.length_singleton]; omega⟩, by simp only; omega, ?_⟩
   ·rw [evRb1L]
    simp only [unIst, unTur, unWhl, Option.bind_some, List.length_map, unSegs, cond_true, cond_false, Bool.and_true, cast_lt hlt, decide_eq_true hlt, getD_at hy, hN, w1, w2, n1, n2, n3, n4, p1, p2, decide_eq_true p3, hm, z1, z2, b3, b4, b5, b6, Bool.and_self, Bool.not_false, Bool.not_true, b1, appInts']
    try rfl
   ·simp only [outRb1, hd, F.stM, List.map_cons, List.any_cons, hb, Bool.false_or, List.append_assoc, List.singleton_append]
  ·left
   refine ⟨(.ret, ⟨[(7, vI 1), (6, .own 6)], [(6, ⟨false, 9, 1, []⟩)]⟩), ?_, ?_, by simp, rfl⟩
   ·rw [hb] at hW
    unfold F.sgW at hW
    rw [evRb1L]
    simp only [unIst, unTur, unWhl, Option.bind_some, List.length_map, unSegs, cond_true, Bool.and_true, cast_lt hlt, decide_eq_true hlt, getD_at hy, Bool.not_not]
    cases c1 : F.noTm s.begin
    ·rw [c1, Bool.false_or] at hW
     cases c2 : F.noTm s.lead
     ·rw [c2, Bool.false_or] at hW
      cases c3 : F.noTm s.length
      ·rw [c3, Bool.false_or] at hW
       simp only [hW, cond_true, Bool.not_false]
       try rfl
      ·rfl
     ·rfl
    ·rfl
   ·simp only [outRb1, hd, List.any_cons, hb, Bool.true_or, Bool.not_true]
    rfl
 ·have : k = g.length := by omega
  subst this
  left
  refine ⟨(.exit 0, ⟨[(9, .own 9), (2, vI sc), (1, .sl (g.map eSeg)), (0, .sl (l.map eCap))], [(9, ⟨false, 3, 1, acc.map eI⟩)]⟩), ?_, ?_, by simp, rfl⟩
  ·rw [evRb1L]
   simp only [unIst, unTur, unWhl, Option.bind_some, List.length_map, unSegs, cond_false, Bool.and_true, cast_ge]
   try rfl
  ·simp only [outRb1, List.drop_length, F.stM, List.map_nil, List.any_nil, List.append_nil]
   rfl

theorem evRb2L (ps : List (List Cap)) (acc : List ByteArray) (k : Nat) : ((exec enRb (loopN Tryz.f14 1) (stRb2 ps acc k)).bind (lessX ([16, 15, 13], [15]) ([15], [15]) ([7, 6], [6]))).val =
 bif decide ((↑k : Int) < (↑(List.length (List.map eL_eCap ps)) : Int)) then Option.bind (unenc (List.map eL_eCap) (List.map eL_eCap ps)) fun z => bif
 decide (k < List.length z) then Option.bind (unenc encRLw [AV.sl (List.map eCap (List.getD z k []))]) fun z => bif F.smC z then bif F.longF z != 0
 then some (Ex.ret, St.mk [(7, (vI (F.longF z))), (6, .own 6)] [(6, Blk.mk false 9 1 [])]) else bif Nat.ble ((List.length (List.map eStr acc) + 1) * 16)
 (140737488355328 : Nat) && true then some (Ex.normal, St.mk [(16, (vI (IntKind.i64.wrap ((↑k : Int) + 1)))), (15, .own 15), (13, AV.sl (List.map eL_eCap
 ps))] [(15, Blk.mk false 9 1 (List.map eStr acc ++ [[(vS (F.longS z))]]))]) else none else none else none else some (Ex.exit (2 : Nat), St.mk [(15, .own 15)] [(15, Blk.mk
 false 9 1 (List.map eStr acc))]) := (execR_bind _ _ _).symm.trans (by kernel_rfl)

theorem lpRb2_ok (ps : List (List Cap)) (acc : List ByteArray) (k : Nat) (hp : prlRb2 ps acc k = true) : ∀ ex s', (outRb2 ps acc k).val = some (ex, s') → LoopOK enRb (loopN Tryz.f14 1) (stRb2 ps acc k) ex s' := by
 simp only [prlRb2, Bool.and_eq_true, decide_eq_true_eq] at hp
 obtain ⟨⟨⟨h1, h2⟩, h3⟩, h4⟩ := hp
 refine loop_gen (st := fun a : List ByteArray × Nat => stRb2 ps a.1 a.2) (out := fun a => outRb2 ps a.1 a.2) (I := fun a => a.2 ≤ ps.length ∧ a.1.length ≤ a.2) (n := ([16, 15, 13], [15])) (e := ([15], [15])) (r := ([7, 6], [6])) (fun a => ps.length - a.2) ?_ (acc, k) ⟨h3, h4⟩
 clear h3 h4 acc k
 rintro ⟨acc, k⟩ ⟨h3, h4⟩
 simp only at h3 h4
 by_cases hlt : k < ps.length
 ·have hy : ps[k]? = some ps[k] := List.getElem?_eq_getElem hlt
  have hd : ps.drop k = ps[k] :: ps.drop (k + 1) := List.drop_eq_getElem_cons hlt
  generalize ps[k] = p at hy hd
  have hN := next_at hlt (by omega : ps.length ≤ 9223372036854775807)
  have hsm : F.smC p = true := List.all_eq_true.1 h1 p (List.mem_of_getElem? hy)
  have b1 : Nat.ble ((acc.length + 1) * 16) 140737488355328 = true := ble_t (by omega)
  have hidx : idx (k : Int) = some k := rfl
  by_cases h0 : F.longF p = 0
  ·right
   have hb : (F.longF p != 0) = false := by simp [h0]
   refine ⟨(acc ++ [F.longS p], k + 1), ?_, rfl, ⟨hlt, by simp only [List.length_append, List.length_singleton]; omega⟩, by simp only; omega, ?_⟩
   ·rw [evRb2L]
    simp only [unRLw, Option.bind_some, List.length_map, uneL_eCaps, cond_true, cond_false, Bool.and_true, cast_lt hlt, decide_eq_true hlt, getD_at hy, hN, hsm, hb, b1, appStrs']
    try rfl
   ·simp only [outRb2, hd, M.ffI, h0, if_true, List.map_cons, List.append_assoc, List.singleton_append]
  ·left
   have hb : (F.longF p != 0) = true := by simp [h0]
   refine ⟨(.ret, ⟨[(7, vI (F.longF p)), (6, .own 6)], [(6, ⟨false, 9, 1, []⟩)]⟩), ?_, ?_, by simp, rfl⟩
   ·rw [evRb2L]
    simp only [unRLw, Option.bind_some, List.length_map, uneL_eCaps, cond_true, Bool.and_true, cast_lt hlt, decide_eq_true hlt, getD_at hy, hN, hsm, hb]
    try rfl
   ·simp only [outRb2, hd, M.ffI, h0, if_false, decide_false]
    rfl
 ·have : k = ps.length := by omega
  subst this
  left
  refine ⟨(.exit 2, ⟨[(15, .own 15)], [(15, ⟨false, 9, 1, acc.map eStr⟩)]⟩), ?_, ?_, by simp, rfl⟩
  ·rw [evRb2L]
   simp only [unRLw, Option.bind_some, List.length_map, uneL_eCaps, cond_false, Bool.and_true, cast_ge]
   try rfl
  ·simp only [outRb2, List.drop_length, M.ffI, List.map_nil, List.append_nil, decide_true]
   rfl

theorem evRb (l : List Cap) (g : List Seg) (sc : Int) : (runF enRb false Tryz.f14 [.sl (l.map eCap), .sl (g.map eSeg), vI sc]).val =
 (fun (q : Seg) => Option.bind (unenc encRhC [AV.sl (List.map eCap l)]) fun z => bif F.smC z then bif F.chkC z != 0 then some (AV.tup [AV.sl [], (vI
 (F.chkC z))], []) else bif (↑(List.length (List.map eSeg g)) : Int) == 0 then some (AV.tup [AV.sl [], (vI 9)], []) else Option.bind (unenc encIsc [(vI
 sc)]) fun z => bif !!F.noScale z then some (AV.tup [AV.sl [], (vI 1)], []) else Option.bind (unenc stRb11 (St.mk [(10, (vI 0)), (9, .own 9), (2,
 (vI sc)), (1, AV.sl (List.map eSeg g)), (0, AV.sl (List.map eCap l))] [(9, Blk.mk false 3 1 [])])) fun z => (fun (q_1 : List
 Row) => bif decide (List.length z.2.1 ≤ 1048576) && decide (z.2.2.2.2 ≤ List.length z.2.1) && decide (List.length z.2.2.2.1 ≤
 z.2.2.2.2) && !F.noScale z.2.2.1 && true then bif !List.any (List.drop z.2.2.2.2 z.2.1) F.sgB then Option.bind (idx (IntKind.wrap IntKind.i64
 ((↑(List.length (List.map eSeg z.2.1)) : Int) - (1 : Int)))) fun z_1 => Option.bind (unenc (List.map eSeg) (List.map eSeg z.2.1)) fun z_2 =>
 bif decide (z_1 < List.length z_2) then Option.bind (unenc encTur [(vI (IntKind.i64.wrap (IntKind.i64.wrap ((List.getD z_2 z_1 q).begin + (List.getD z_2
 z_1 q).lead) + (List.getD z_2 z_1 q).length))), (vI z.2.2.1), (vI 1000)]) fun z_3 => (fun (q : Nat) => bif decide ((-9223372036854775808
 : Int) ≤ z_3.1) && decide (z_3.1 ≤ 9223372036854775807) && decide ((1 : Int) ≤ z_3.2.1) && decide (z_3.2.1 ≤ 9223372036854775807) && decide ((1
 : Int) ≤ z_3.2.2) && decide (z_3.2.2 ≤ 9223372036854775807) then Option.bind (unenc encWhl [AV.agg [(vB (decide (z_3.1 < 0) && decide ((0 : Nat)
 < q))), AV.sl (List.map eI (F.lowT q (Int.natAbs z_3.2.1))), AV.sl (List.map eI (F.lowB q (Int.natAbs z_3.2.1)))], (vI 2)]) fun z_4 => bif F.nk (150 : Nat) z_4.2.1 && F.nk (150 : Nat) z_4.2.2.1 && decide ((0 : Nat) < F.nv z_4.2.2.1) then bif Nat.ble ((List.length q_1 +
 (1 : Nat)) * 8) 140737488355328 && true then Option.bind (unenc encRS [AV.sl (List.map eCap z.1), AV.sl (q_1 ++ [[(vI (F.whole z_4.2.2.2 z_4.1
 (F.nv z_4.2.1) (F.nv z_4.2.2.1)))]])]) fun z => bif F.smC z.1 then bif (F.cutL z.1 z.2).snd != 0 then some (AV.tup [AV.sl
 [], (vI (F.cutL z.1 z.2).snd)], []) else Option.bind (unenc stRb21 (St.mk [(16, (vI 0)), (15, .own 15), (13, AV.sl (List.map eL_eCap (F.cutL z.1
 z.2).fst))] [(15, Blk.mk false 9 1 [])])) fun z => (fun (q : Int) => bif F.smLL z.1 && decide (List.length z.1 ≤ 1000) && decide (z.2.2 ≤ List.length z.1) && decide (List.length z.2.1 ≤ z.2.2) && true then bif decide (q = (0 : Int)) then some (AV.tup [AV.sl (List.map
 eStr (z.2.1 ++ List.map F.longS (List.drop z.2.2 z.1))), (vI 0)], []) else some (AV.tup [AV.sl [], (vI q)], []) else none) (ffI F.longF (List.drop
 z.2.2 z.1)) else none else none else none else none) (Int.natAbs z_3.1 * Int.natAbs z_3.2.2) else none else some (AV.tup [AV.sl [], (vI 1)], []) else
 none) (List.map eI (z.2.2.2.1 ++ F.stM z.2.2.1 (List.drop z.2.2.2.2 z.2.1))) else none) (Seg.mk (0 : Int) (0 : Int) (0 : Int) (0 : Int) (0 : Int)
 (0 : Int) (0 : Int)) := (runFR_val).symm.trans (by kernel_rfl)

def encRb1 (l : List Cap) (g : List Seg) (sc : Int) : List AV := [.sl (l.map eCap), .sl (g.map eSeg), vI sc]

def encRb (a : (List Cap) × (List Seg) × Int) : List AV := encRb1 a.1 a.2.1 a.2.2

theorem encRb_inj (a a' : (List Cap) × (List Seg) × Int) (h : encRb a = encRb a') : a = a' := by
 simp only [encRb, encRb1] at h
 try simp [eCaps_inj, eSegs_inj] at h
 grind

theorem unRb (l : List Cap) (g : List Seg) (sc : Int) : unenc encRb ([AV.sl (List.map eCap l), AV.sl (List.map eSeg g), (vI sc)]) = some (l, g, sc) := unenc_of encRb_inj (l, g, sc) rfl

def resRb1 (l : List Cap) (g : List Seg) (sc : Int) : AV × Heap := (.tup [.sl ((F.subs l g sc).1.map eStr), vI (F.subs l g sc).2], [])

def preRb1 (l : List Cap) (g : List Seg) (sc : Int) : Bool := F.smC l && decide (g.length ≤ 1048576)

noncomputable def oRb : Orc := orc 14 false encRb (fun a => preRb1 a.1 a.2.1 a.2.2) fun a => resRb1 a.1 a.2.1 a.2.2

theorem okRb : OrcOK Tryz.prog noG oRb := by
 refine mk_ok Tryz.f14 (keep := false) (by kernel_rfl) (by kernel_rfl) enRb_ok mixed (two_loops (x0 := loopN Tryz.f14 0) (x1 := loopN Tryz.f14 1) (by kernel_rfl) (lpo_ok ?_) (lpo_ok ?_)) (by first | exact fun _ _ => ⟨rfl, rfl⟩ | (intro h; cases h)) ?_
 ·rintro ⟨l, g, sc, acc, k⟩ hp
  exact lpRb1_ok l g sc acc k hp
 ·rintro ⟨ps, acc, k⟩ hp
  exact lpRb2_ok ps acc k hp
 rintro ⟨l, g, sc⟩ hpre hok
 show (runF enRb false _ (encRb1 _ _ _)).val = some (resRb1 _ _ _)
 unfold encRb1 resRb1
 rw [evRb]
 simp only [preRb1, Bool.and_eq_true, decide_eq_true_eq] at hpre
 obtain ⟨hsm, hlen⟩ := hpre
 simp only
 simp only [unRhC, unIsc, unTur, unWhl, unstRb10, unstRb20, Option.bind_some, List.length_map, unSegs, cond_true, Bool.and_true, hsm, List.drop_zero, List.nil_append]
 unfold F.subs F.txs
 by_cases hc : F.chkC l = 0
 case neg =>
  rw [bne1 hc]
  rfl
 rw [bne0 hc]
 simp only [cond_false]
 have hg0 : (((g.length : Nat) : Int) == 0) = decide (g.length = 0) := by
  by_cases h : g.length = 0
  ·rw [h]; rfl
  ·rw [decide_eq_false h, beq_eq_false_iff_ne]; omega
 rw [hg0]
 cases hg : decide (g.length = 0)
 case true => rfl
 have hgl : 0 < g.length := by have := of_decide_eq_false hg; omega
 simp only [cond_false]
 cases hs : F.noScale sc
 case true => rfl
 simp only [cond_false, Bool.not_false, Bool.not_true, decide_eq_true hlen, decide_eq_true (Nat.zero_le g.length), List.length_nil, Nat.le_refl, decide_true, Bool.and_self, cond_true]
 cases ha : g.any F.sgB
 case true => rfl
 have hne : g ≠ [] := fun e => by rw [e] at hgl; exact absurd hgl (by decide)
 have hy : g[g.length - 1]? = some (g.getLast hne) := by rw [List.getElem?_eq_getElem (by omega), List.getLast_eq_getElem]
 have hl : F.sgB (g.getLast hne) = false := by
  cases hq : F.sgB (g.getLast hne)
  ·rfl
  ·have : g.any F.sgB = true := List.any_eq_true.2 ⟨_, List.getLast_mem hne, hq⟩
   rw [this] at ha; cases ha
 have hM := F.stM_end sc g hne
 have hcut := F.cut_same (l := l) hs ha
 generalize g.getLast hne = s at hy hl hM
 obtain ⟨a1, a2, a3, a4⟩ := F.sgB_ok hl
 have w1 : IntKind.i64.wrap (s.begin + s.lead) = s.begin + s.lead := wrap_id (by omega) (by omega)
 have w2 : IntKind.i64.wrap (s.begin + s.lead + s.length) = s.begin + s.lead + s.length := wrap_id (by omega) (by omega)
 have w3 : idx (IntKind.i64.wrap ((g.length : Int) - 1)) = some (g.length - 1) := by
  rw [wrap_id (by omega) (by omega), show (g.length : Int) - 1 = ((g.length - 1 : Nat) : Int) by omega]; rfl
 have hsc := hs
 unfold F.noScale F.out at hsc
 simp only [Bool.or_eq_false_iff, decide_eq_false_iff_not] at hsc
 obtain ⟨p1, p2, p3⟩ := F.pre_mil (n := s.begin + s.lead + s.length) (sc := sc) (by omega) (by omega) (by omega)
 have hm := F.whl_mil (s.begin + s.lead + s.length) sc
 obtain ⟨z1, z2⟩ := mil_nn
 have hst : (F.stM sc g).length = g.length := by unfold F.stM; rw [List.length_map]
 have b1 : Nat.ble ((g.length + 1) * 8) 140737488355328 = true := ble_t (by omega)
 have b3 : decide (sc ≤ 9223372036854775807) = true := decide_eq_true (by omega)
 have b4 : decide (1 ≤ sc) = true := decide_eq_true (by omega)
 have b5 : decide (-9223372036854775808 ≤ s.begin + s.lead + s.length) = true := decide_eq_true (by omega)
 have b6 : decide (s.begin + s.lead + s.length ≤ 9223372036854775807) = true := decide_eq_true (by omega)
 have b7 : decide (g.length - 1 < g.length) = true := decide_eq_true (by omega)
 simp only [Bool.not_false, cond_true, cond_false, w3, Option.bind_some, b7, getD_at hy, w1, w2, b3, b4, b5, b6, z1, z2, p1, p2, decide_eq_true p3, Bool.and_self, hm, hst, b1, appInts', ← hM, unRS, hcut]
 simp only [hsm, cond_true]
 by_cases hk : (F.cutL l (F.bdL sc g)).2 = 0
 case neg =>
  rw [bne1 hk]
  rfl
 rw [bne0 hk]
 have hb : F.bnds (F.bdL sc g) = 0 := by
  unfold F.cutL at hk
  rw [bne0 hc] at hk
  by_cases hb : F.bnds (F.bdL sc g) = 0
  ·exact hb
  ·rw [bne1 hb] at hk; exact absurd hk hb
 have e : (F.cutL l (F.bdL sc g)).1 = F.splitB l (F.bdL sc g) := by
  unfold F.cutL
  rw [bne0 hc, bne0 hb]
  rfl
 have hsl : F.smLL (F.cutL l (F.bdL sc g)).1 = true := by rw [e]; exact Jn.split_sm hsm _
 have hln : (F.cutL l (F.bdL sc g)).1.length ≤ 1000 := by
  obtain ⟨b1, b2⟩ := F.bnds_ok hb
  rw [e]
  have := Jn.split_len (l := l) (bs := F.bdL sc g) (by intro e; rw [e] at b1; simp at b1)
  omega
 simp only [cond_false, hsl, decide_eq_true hln, decide_eq_true (Nat.zero_le (F.cutL l (F.bdL sc g)).1.length), Bool.and_self, cond_true]
 by_cases h0 : M.ffI F.longF (F.cutL l (F.bdL sc g)).1 = 0
 ·rw [h0]
  rfl
 ·rw [decide_eq_false h0, bne1 h0]
  rfl

end M

def F.cmpS (a b : ByteArray) : Int := Lib.compareBytes a.data.toList b.data.toList

def F.border (a b : Beat) : Int := bif F.cmpS a.session b.session != 0 then F.cmpS a.session b.session else bif decide (a.no < b.no) then -1 else bif decide (b.no < a.no) then 1 else 0

def F.beatF1 (b : Beat) : Int :=
 bif !F.isName b.session then 5 else bif F.out b.no 1 3000 || F.out b.time 0 1000000000000 then 1 else bif F.out b.state 1 5 then 4 else
 bif F.out b.rate 0 1000000000 then 1 else bif (b.rate != 0) && (b.state != 2) then 3 else 0

def F.beatF2 (o b : Beat) : Int :=
 bif decide (0 ≤ F.border o b) || (F.seq o.session b.session && decide (b.time < o.time)) then 8 else bif F.seq o.session b.session && (o.state == 5) then 11 else 0

def F.chkB : Option Beat → List Beat → Int
 | _, [] => 0
 | p, b :: l => bif F.beatF1 b != 0 then F.beatF1 b else match p with
  | none => F.chkB (some b) l
  | some o => bif F.beatF2 o b != 0 then F.beatF2 o b else F.chkB (some b) l

def F.checkB (l : List Beat) : Int := bif decide (3000 < l.length) then 2 else F.chkB none l

def F.prvB (l : List Beat) : Nat → Option Beat
 | 0 => none
 | k + 1 => l[k]?

def F.prvOK (l : List Beat) (k : Nat) : Bool := match F.prvB l k with
 | none => true
 | some o => decide (F.beatF1 o = 0)

def F.nextB (p : Option Beat) (n : Int) (b : Beat) : Int := match p with
 | some o => bif !(o.session.toList == b.session.toList) then 1 else n
 | none => n

def F.missS (a : Option Beat × Int × List Hole) (b : Beat) : Option Beat × Int × List Hole :=
 (some b, IntKind.i64.wrap (b.no + 1), bif F.lt (F.nextB a.1 a.2.1 b) b.no then a.2.2 ++ [⟨b.session, F.nextB a.1 a.2.1 b, b.no⟩] else a.2.2)

def F.missL (p : Option Beat) (n : Int) (acc : List Hole) (l : List Beat) : List Hole := (l.foldl F.missS (p, n, acc)).2.2

def F.missing (l : List Beat) : List Hole × Int := bif F.checkB l != 0 then ([], F.checkB l) else (F.missL none 1 [] l, 0)

theorem F.checkB_len {l : List Beat} (h : F.checkB l = 0) : l.length ≤ 3000 := by
 unfold F.checkB at h
 cases hd : decide (3000 < l.length)
 ·simpa using hd
 ·rw [hd] at h; cases h

namespace M

theorem evLetter (n : Int) : (runF en0 false Tryz.f148 [vU n]).val =
 some ((vB (bif decide ((97 : Int) ≤ n) then decide (n ≤ 122) else false)), []) := by kernel_rfl

def encLetter1 (n : Int) : List AV := [vU n]

def encLetter (a : Int) : List AV := encLetter1 a

theorem encLetter_inj (a a' : Int) (h : encLetter a = encLetter a') : a = a' := by
 simp only [encLetter, encLetter1] at h
 try simp [] at h
 grind

theorem unLetter (n : Int) : unenc encLetter ([(vU n)]) = some (n) := unenc_of encLetter_inj (n) rfl

def resLetter1 (n : Int) : AV × Heap := (vB (F.letter n), [])

def preLetter1 (n : Int) : Bool := true

noncomputable def oLetter : Orc := orc 148 true encLetter (fun a => preLetter1 a) fun a => resLetter1 a

theorem okLetter : OrcOK Tryz.prog noG oLetter := by
 refine mk_ok Tryz.f148 (keep := false) (by kernel_rfl) (by kernel_rfl) en0_ok mixed (no_loops (by kernel_rfl)) (by first | exact fun _ _ => ⟨rfl, rfl⟩ | (intro h; cases h)) ?_
 rintro n hpre hok
 show (runF en0 false _ (encLetter1 _)).val = some (resLetter1 _)
 unfold encLetter1 resLetter1
 rw [evLetter]
 unfold F.letter
 cases decide ((97 : Int) ≤ n) <;> rfl

theorem evDigit (n : Int) : (runF en0 false Tryz.f149 [vU n]).val =
 some ((vB (bif decide ((48 : Int) ≤ n) then decide (n ≤ 57) else false)), []) := by kernel_rfl

def encDigit1 (n : Int) : List AV := [vU n]

def encDigit (a : Int) : List AV := encDigit1 a

theorem encDigit_inj (a a' : Int) (h : encDigit a = encDigit a') : a = a' := by
 simp only [encDigit, encDigit1] at h
 try simp [] at h
 grind

theorem unDigit (n : Int) : unenc encDigit ([(vU n)]) = some (n) := unenc_of encDigit_inj (n) rfl

def resDigit1 (n : Int) : AV × Heap := (vB (F.digit n), [])

def preDigit1 (n : Int) : Bool := true

noncomputable def oDigit : Orc := orc 149 true encDigit (fun a => preDigit1 a) fun a => resDigit1 a

theorem okDigit : OrcOK Tryz.prog noG oDigit := by
 refine mk_ok Tryz.f149 (keep := false) (by kernel_rfl) (by kernel_rfl) en0_ok mixed (no_loops (by kernel_rfl)) (by first | exact fun _ _ => ⟨rfl, rfl⟩ | (intro h; cases h)) ?_
 rintro n hpre hok
 show (runF en0 false _ (encDigit1 _)).val = some (resDigit1 _)
 unfold encDigit1 resDigit1
 rw [evDigit]
 unfold F.digit
 cases decide ((48 : Int) ≤ n) <;> rfl

def stName (s : ByteArray) (k : Nat) : St := ⟨[(20, vI k), (19, vI s.size), (0, vS s)], []⟩

def stName1 (a : ByteArray × Nat) : St := stName a.1 a.2

theorem stName_inj (a a' : ByteArray × Nat) (h : stName1 a = stName1 a') : a = a' := by
 simp only [stName1, stName] at h
 try simp [] at h
 grind

theorem unstName0 (s : ByteArray)  : unenc stName1 (St.mk [(20, (vI (0 : Int))), (19, (vI (↑(ByteArray.size s) : Int))), (0, (vS s))] []) = some (s, 0) := unenc_of stName_inj (s, 0) rfl

def outName (s : ByteArray) (k : Nat) : T (Ex × St) := .ifB (F.nameL ((F.bs s).drop k)) (.ret (.exit 0, ⟨[], []⟩)) (.ret (.ret, ⟨[(2, vB false)], []⟩))

noncomputable def prlName (s : ByteArray) (k : Nat) : Bool := decide (s.size ≤ 9223372036854775807) && decide (k ≤ s.size)

noncomputable def lpName : Nat × (St → T (Ex × St)) := (4, lpo [20, 19, 0] [] stName1 (fun a => prlName a.1 a.2) fun a => outName a.1 a.2)

noncomputable def enName : Env := envH ty noG lks [oLetter, oDigit] [] [] [lpName]

theorem enName_ok : EnvOK Tryz.prog enName := by
 refine envH_ok lks_ok ty_ok ?_ ?_
 ·simp only [List.forall_mem_cons]
  exact ⟨okLetter, okDigit, by simp⟩
 ·simp

theorem evNameL (s : ByteArray) (k : Nat) : ((exec enName (loopN Tryz.f76 0) (stName s k)).bind (lessX ([20, 19, 0], []) ([], []) ([2], []))).val =
 (fun (q : Option (Ex × St)) => bif decide ((↑k : Int) < (↑(ByteArray.size s) : Int)) then Option.bind s[k]? fun z => Option.bind (unenc encLetter [(vU
 (↑(UInt8.toNat z) : Int))]) fun z => bif !F.letter z then Option.bind s[k]? fun z_1 => bif !F.letter z then Option.bind (unenc encDigit [(vU
 (↑(UInt8.toNat z_1) : Int))]) fun z_2 => (fun (q_1 : Bool) => bif q_1 then Option.bind s[k]? fun z => bif bif q_1 then (↑(UInt8.toNat z) : Int) != 45 else false then some (Ex.ret, St.mk [(2, (vB false))] []) else q else bif q_1 then none else q) (bif !F.letter z then !F.digit z_2 else false) else bif !F.letter z
 then none else q else bif !F.letter z then Option.bind (unenc encDigit [AV.unk]) fun z_1 => (fun (q_1 : Bool) => bif q_1 then Option.bind s[k]? fun z =>
 bif bif q_1 then (↑(UInt8.toNat z) : Int) != 45 else false then some (Ex.ret, St.mk [(2, (vB false))] []) else q else bif q_1 then none else q) (bif !F.letter z
 then !F.digit z_1 else false) else bif !F.letter z then none else q else some (Ex.exit (0 : Nat), St.mk [] [])) (some (Ex.normal, St.mk [(20, (vI (IntKind.wrap IntKind.i64
 ((↑k : Int) + 1)))), (19, (vI (↑(ByteArray.size s) : Int))), (0, (vS s))] [])) := by kernel_rfl

theorem lpName_ok (s : ByteArray) (k : Nat) (hp : prlName s k = true) : ∀ ex s', (outName s k).val = some (ex, s') → LoopOK enName (loopN Tryz.f76 0) (stName s k) ex s' := by
 simp only [prlName, Bool.and_eq_true, decide_eq_true_eq] at hp
 refine loop_all (xs := F.bs s) (st := stName s) (n := ([20, 19, 0], [])) (e := ([], [])) (r := ([2], [])) ?_ ⟨by simp, rfl⟩ ⟨by simp, rfl⟩ (fun _ => rfl) ?_ k (by rw [F.bs_len]; exact hp.2)
 ·rw [evNameL]; rw [F.bs_len]; simp
 ·intro k y hy
  have hk : k < s.size := by rw [← F.bs_len]; exact (List.getElem?_eq_some_iff.1 hy).1
  have hkz : ((k : Int) < (s.size : Int)) := by omega
  have hw : IntKind.i64.wrap ((k : Int) + 1) = ((k + 1 : Nat) : Int) := by rw [wrap_id (by omega) (by omega)]; rfl
  rw [evNameL]
  rw [F.bs_get, hy]
  simp only [hkz, decide_true, Option.bind_some, hw, unLetter, unDigit, F.nameB, stName]
  grind

theorem evName (s : ByteArray) : (runF enName false Tryz.f76 [vS s]).val =
 bif !bif (↑(ByteArray.size s) : Int) == 0 then true else decide ((40 : Int) < (↑(ByteArray.size s) : Int)) then Option.bind s[(0 : Nat)]? fun z => bif
 !bif (↑(ByteArray.size s) : Int) == 0 then true else decide ((40 : Int) < (↑(ByteArray.size s) : Int)) then Option.bind (unenc encLetter [(vU (↑(UInt8.toNat z) :
 Int))]) fun z => bif bif bif (↑(ByteArray.size s) : Int) == 0 then true else decide ((40 : Int) < (↑(ByteArray.size s) : Int)) then true else !F.letter z
 then some ((vB false), []) else Option.bind (unenc stName1 (St.mk [(20, (vI 0)), (19, (vI (↑(ByteArray.size s) : Int))), (0, (vS s))] [])) fun z => bif decide (ByteArray.size z.1 ≤ 9223372036854775807) && decide (z.2 ≤ ByteArray.size z.1) && true then bif F.nameL (List.drop z.2 (F.bs z.1))
 then some ((vB true), []) else some ((vB false), []) else none else bif !bif (↑(ByteArray.size s) : Int) == 0 then true else decide ((40 : Int) < (↑(ByteArray.size
 s) : Int)) then none else some ((vB false), []) else bif !bif (↑(ByteArray.size s) : Int) == 0 then true else decide ((40 : Int) < (↑(ByteArray.size s) : Int))
 then Option.bind (unenc encLetter [AV.unk]) fun z => bif bif bif (↑(ByteArray.size s) : Int) == 0 then true else decide ((40 : Int) < (↑(ByteArray.size s)
 : Int)) then true else !F.letter z then some ((vB false), []) else Option.bind (unenc stName1 (St.mk [(20, (vI 0)), (19, (vI (↑(ByteArray.size s) : Int))), (0, (vS
 s))] [])) fun z => bif decide (ByteArray.size z.1 ≤ 9223372036854775807) && decide (z.2 ≤ ByteArray.size z.1) && true then bif F.nameL
 (List.drop z.2 (F.bs z.1)) then some ((vB true), []) else some ((vB false), []) else none else bif !bif (↑(ByteArray.size s) : Int) == 0 then true else decide
 ((40 : Int) < (↑(ByteArray.size s) : Int)) then none else some ((vB false), []) := by kernel_rfl

def encName1 (s : ByteArray) : List AV := [vS s]

def encName (a : ByteArray) : List AV := encName1 a

theorem encName_inj (a a' : ByteArray) (h : encName a = encName a') : a = a' := by
 simp only [encName, encName1] at h
 try simp [] at h
 grind

theorem unName (s : ByteArray) : unenc encName ([(vS s)]) = some (s) := unenc_of encName_inj (s) rfl

def resName1 (s : ByteArray) : AV × Heap := (vB (F.isName s), [])

def preName1 (s : ByteArray) : Bool := true

noncomputable def oName : Orc := orc 76 true encName (fun a => preName1 a) fun a => resName1 a

theorem okName : OrcOK Tryz.prog noG oName := by
 refine mk_ok Tryz.f76 (keep := false) (by kernel_rfl) (by kernel_rfl) enName_ok mixed (one_loop (x0 := loopN Tryz.f76 0) (by kernel_rfl) (lpo_ok ?_)) (by first | exact fun _ _ => ⟨rfl, rfl⟩ | (intro h; cases h)) ?_
 ·rintro ⟨s, k⟩ hp
  exact lpName_ok s k hp
 rintro s hpre hok
 show (runF enName false _ (encName1 _)).val = some (resName1 _)
 unfold encName1 resName1
 rw [evName]
 have hs := okA_str (hok _ (List.mem_cons_self ..))
 have h0 := F.bs_len s
 simp only [unLetter, unstName0, Option.bind_some, cond_true, Bool.and_true, F.bs_get, F.isName, F.b0, hs, List.drop_zero, Nat.zero_le, decide_true]
 cases hb : F.bs s with
 | nil => rw [hb] at h0; simp at h0; simp [← h0]
 | cons b l =>
  rw [hb] at h0
  simp at h0
  have a1 : ((s.size : Int) == 0) = false := by rw [beq_eq_false_iff_ne]; omega
  have a2 : decide ((40 : Int) < s.size) = !decide (s.size ≤ 40) := by by_cases h : s.size ≤ 40 <;> simp [h] <;> omega
  have a3 : decide (s.size ≠ 0) = true := decide_eq_true (by omega)
  simp only [a1, a2, a3]
  cases decide (s.size ≤ 40) <;> cases h1 : F.letter b.toNat <;> cases h2 : F.nameL (b :: l) <;> simp [h1]

theorem cmp_range (a b : List UInt8) : Lib.compareBytes a b = -1 ∨ Lib.compareBytes a b = 0 ∨ Lib.compareBytes a b = 1 := by
 induction a generalizing b with
 | nil => cases b <;> simp [Lib.compareBytes]
 | cons x a ih =>
  cases b with
  | nil => simp [Lib.compareBytes]
  | cons y b =>
   simp only [Lib.compareBytes]
   split
   ·simp
   ·split
    ·simp
    ·exact ih b

def encCmS1 (a : ByteArray) (b : ByteArray) : List AV := [vS a, vS b]

def encCmS (a : ByteArray × ByteArray) : List AV := encCmS1 a.1 a.2

theorem encCmS_inj (a a' : ByteArray × ByteArray) (h : encCmS a = encCmS a') : a = a' := by
 simp only [encCmS, encCmS1] at h
 try simp [] at h
 grind

theorem unCmS (a : ByteArray) (b : ByteArray) : unenc encCmS ([(vS a), (vS b)]) = some (a, b) := unenc_of encCmS_inj (a, b) rfl

def resCmS1 (a : ByteArray) (b : ByteArray) : AV × Heap := (vI (F.cmpS a b), [])

def preCmS1 (a : ByteArray) (b : ByteArray) : Bool := true

noncomputable def oCmS : Orc := orc 216 true encCmS (fun a => preCmS1 a.1 a.2) fun a => resCmS1 a.1 a.2

theorem okCmS : OrcOK Tryz.prog noG oCmS := by
 refine orc_ok ⟨Tryz.f216, by kernel_rfl, by kernel_rfl, by kernel_rfl⟩ (fun x _ _ => ?_) (fun _ _ => ⟨rfl, rfl⟩)
 refine SpecP.pure2 ?_ fun _ _ w => Tryz.strings_Compare x.1 x.2 w
 rcases cmp_range x.1.data.toList x.2.data.toList with h | h | h <;> (show okAtom (.int .i64 (Lib.compareBytes _ _)); rw [h]; simp [okAtom, IntKind.min, IntKind.max, IntKind.signed, IntKind.bits])

noncomputable def enBor : Env := envH ty noG lks [oCmS] [] [] []

theorem enBor_ok : EnvOK Tryz.prog enBor := by
 refine envH_ok lks_ok ty_ok ?_ ?_
 ·simp only [List.forall_mem_cons]
  exact ⟨okCmS, by simp⟩
 ·simp

theorem evBor (a : Beat) (b : Beat) : (runF enBor false Tryz.f171 [.agg (eBeat a), .agg (eBeat b)]).val =
 Option.bind (unenc encCmS [(vS a.session), (vS b.session)]) fun z => bif F.cmpS z.1 z.2 != 0 then some ((vI (F.cmpS z.1 z.2)),
 []) else bif decide (a.no < b.no) then some ((vI (-1 : Int)), []) else bif decide (b.no < a.no) then some ((vI 1), []) else some ((vI 0), []) := by kernel_rfl

def encBor1 (a : Beat) (b : Beat) : List AV := [.agg (eBeat a), .agg (eBeat b)]

def encBor (a : Beat × Beat) : List AV := encBor1 a.1 a.2

theorem encBor_inj (a a' : Beat × Beat) (h : encBor a = encBor a') : a = a' := by
 simp only [encBor, encBor1] at h
 try simp [eBeat_iff] at h
 grind

theorem unBorw (a_session : ByteArray) (a_no : Int) (a_time : Int) (a_state : Int) (a_rate : Int) (b_session : ByteArray) (b_no : Int) (b_time : Int) (b_state : Int) (b_rate : Int) : unenc encBor ([AV.agg [(vS a_session), (vI a_no), (vI a_time), (vI a_state), (vI a_rate)], AV.agg [(vS b_session), (vI b_no), (vI b_time), (vI b_state), (vI b_rate)]]) = some ((Beat.mk a_session a_no a_time a_state a_rate), (Beat.mk b_session b_no b_time b_state b_rate)) := unenc_of encBor_inj ((Beat.mk a_session a_no a_time a_state a_rate), (Beat.mk b_session b_no b_time b_state b_rate)) rfl

def resBor1 (a : Beat) (b : Beat) : AV × Heap := (vI (F.border a b), [])

def preBor1 (a : Beat) (b : Beat) : Bool := true

noncomputable def oBor : Orc := orc 171 true encBor (fun a => preBor1 a.1 a.2) fun a => resBor1 a.1 a.2

theorem okBor : OrcOK Tryz.prog noG oBor := by
 refine mk_ok Tryz.f171 (keep := false) (by kernel_rfl) (by kernel_rfl) enBor_ok mixed (no_loops (by kernel_rfl)) (by first | exact fun _ _ => ⟨rfl, rfl⟩ | (intro h; cases h)) ?_
 rintro ⟨a, b⟩ hpre hok
 show (runF enBor false _ (encBor1 _ _)).val = some (resBor1 _ _)
 unfold encBor1 resBor1
 rw [evBor]
 simp only [unCmS, Option.bind_some, F.border]
 cases F.cmpS a.session b.session != 0 <;> cases decide (a.no < b.no) <;> cases decide (b.no < a.no) <;> rfl

def stChb (l : List Beat) (k : Nat) : St := ⟨[(11, vI k), (10, vI l.length), (9, .sl (l.map eBeat)), (0, .sl (l.map eBeat))], []⟩

def stChb1 (a : (List Beat) × Nat) : St := stChb a.1 a.2

theorem stChb_inj (a a' : (List Beat) × Nat) (h : stChb1 a = stChb1 a') : a = a' := by
 simp only [stChb1, stChb] at h
 try simp [eBeats_inj] at h
 grind

theorem unstChb0 (l : List Beat)  : unenc stChb1 (St.mk [(11, (vI (0 : Int))), (10, (vI (↑(List.length l) : Int))), (9, AV.sl (List.map eBeat l)), (0, AV.sl (List.map eBeat l))] []) = some (l, 0) := unenc_of stChb_inj (l, 0) rfl

def outChb (l : List Beat) (k : Nat) : T (Ex × St) := .ifB (decide (F.chkB (F.prvB l k) (l.drop k) = 0)) (.ret (.exit 0, ⟨[], []⟩)) (.ret (.ret, ⟨[(2, vI (F.chkB (F.prvB l k) (l.drop k)))], []⟩))

noncomputable def prlChb (l : List Beat) (k : Nat) : Bool := decide (l.length ≤ 9223372036854775807) && decide (k ≤ l.length) && F.prvOK l k

noncomputable def lpChb : Nat × (St → T (Ex × St)) := (4, lpo [11, 10, 9, 0] [] stChb1 (fun a => prlChb a.1 a.2) fun a => outChb a.1 a.2)

noncomputable def enChb : Env := envH ty noG lks [oName, oOut, oBor] [] [] [lpChb]

theorem enChb_ok : EnvOK Tryz.prog enChb := by
 refine envH_ok lks_ok ty_ok ?_ ?_
 ·simp only [List.forall_mem_cons]
  exact ⟨okName, okOut, okBor, by simp⟩
 ·simp

theorem chb_step {E : Env} {x : Code} {n e r : List Nat × List Nat} {l : List Beat} {st : Nat → St} (hs : ∀ k, closedB (st k) = true)
  (hend : ((exec E x (st l.length)).bind (lessX n e r)).val = some (.exit 0, ⟨[], []⟩))
  (h0 : ∀ y, l[0]? = some y → ((exec E x (st 0)).bind (lessX n e r)).val = bif F.beatF1 y != 0 then some (.ret, ⟨[(2, vI (F.beatF1 y))], []⟩) else some (.normal, st 1))
  (h1 : ∀ j o y, l[j]? = some o → l[j + 1]? = some y → F.beatF1 o = 0 → ((exec E x (st (j + 1))).bind (lessX n e r)).val =
   bif F.beatF1 y != 0 then some (.ret, ⟨[(2, vI (F.beatF1 y))], []⟩) else bif F.beatF2 o y != 0 then some (.ret, ⟨[(2, vI (F.beatF2 o y))], []⟩) else some (.normal, st (j + 2)))
  (k : Nat) (hp : l.length ≤ 9223372036854775807 ∧ k ≤ l.length ∧ F.prvOK l k = true) : ∀ ex s', (outChb l k).val = some (ex, s') → LoopOK E x (st k) ex s' := by
 refine loop_gen (st := st) (out := outChb l) (I := fun k => k ≤ l.length ∧ ∀ o, F.prvB l k = some o → F.beatF1 o = 0) (n := n) (e := e) (r := r) (fun k => l.length - k) ?_ k ?_
 ·rintro k ⟨hk, hpv⟩
  by_cases hlt : k < l.length
  ·have hy : l[k]? = some l[k] := List.getElem?_eq_getElem hlt
   have hd : l.drop k = l[k] :: l.drop (k + 1) := List.drop_eq_getElem_cons hlt
   generalize l[k] = y at hy hd
   have hpn : F.prvB l (k + 1) = some y := hy
   simp only [outChb, hd, F.chkB]
   cases k with
   | zero =>
    have := h0 y hy
    cases hf : F.beatF1 y != 0
    ·right
     simp only [hf, cond_false] at this ⊢
     exact ⟨1, this, hs _, ⟨hlt, fun o ho => by have : some y = some o := hpn.symm.trans ho; cases this; simpa using hf⟩, by omega, by simp only [F.prvB, hy]; rfl⟩
    ·left
     simp only [hf, cond_true] at this ⊢
     have hne : F.beatF1 y ≠ 0 := by simpa using hf
     exact ⟨_, this, by simp [T.val, hne], by simp, rfl⟩
   | succ j =>
    have ho : l[j]? = some l[j] := List.getElem?_eq_getElem (by omega)
    have hf0 := hpv _ ho
    have := h1 j _ y ho hy hf0
    simp only [F.prvB, ho]
    cases hf : F.beatF1 y != 0
    ·simp only [hf, cond_false] at this ⊢
     cases hg : F.beatF2 l[j] y != 0
     ·right
      simp only [hg, cond_false] at this ⊢
      exact ⟨j + 2, this, hs _, ⟨hlt, fun o ho => by have : some y = some o := hpn.symm.trans ho; cases this; simpa using hf⟩, by omega, by simp only [hy]⟩
     ·left
      simp only [hg, cond_true] at this ⊢
      have hne : F.beatF2 l[j] y ≠ 0 := by simpa using hg
      exact ⟨_, this, by simp [T.val, hne], by simp, rfl⟩
    ·left
     simp only [hf, cond_true] at this ⊢
     have hne : F.beatF1 y ≠ 0 := by simpa using hf
     exact ⟨_, this, by simp [T.val, hne], by simp, rfl⟩
  ·have : k = l.length := by omega
   subst this
   left
   exact ⟨_, hend, by simp [outChb, F.chkB, T.val], by simp, rfl⟩
 ·refine ⟨hp.2.1, fun o ho => ?_⟩
  have := hp.2.2
  unfold F.prvOK at this
  rw [ho] at this
  simpa using this

theorem evChbL (l : List Beat) (k : Nat) : ((exec enChb (loopN Tryz.f115 0) (stChb l k)).bind (lessX ([11, 10, 9, 0], []) ([], []) ([2], []))).val =
 (fun (q : Beat) => (fun (q_1 : Option (Ex × St)) => (fun (q_2 : Option (Ex × St)) => bif decide ((↑k : Int) < (↑(List.length l) : Int)) then Option.bind (unenc (List.map
 eBeat) (List.map eBeat l)) fun z => bif decide (k < List.length z) then Option.bind (unenc encName [(vS (List.getD z k q).session)]) fun z_1 =>
 bif !F.isName z_1 then some (Ex.ret, St.mk [(2, (vI 5))] []) else Option.bind (unenc encOut [(vI (List.getD z k q).no), (vI 1), (vI 3000)]) fun
 (z_2 : Int × Int × Int) => bif !F.out z_2.1 z_2.2.1 z_2.2.2 then Option.bind (unenc encOut [(vI (List.getD z k q).time), (vI 0), (vI 1000000000000)]) fun z_3 => bif bif F.out z_2.1 z_2.2.1 z_2.2.2 then true else F.out z_3.1 z_3.2.1 z_3.2.2 then q_1 else Option.bind (unenc
 encOut [(vI (List.getD z k q).state), (vI 1), (vI 5)]) fun z_4 => bif F.out z_4.1 z_4.2.1 z_4.2.2 then some (Ex.ret, St.mk
 [(2, (vI 4))] []) else Option.bind (unenc encOut [(vI (List.getD z k q).rate), (vI 0), (vI 1000000000)]) fun z_5 => bif F.out
 z_5.1 z_5.2.1 z_5.2.2 then q_1 else bif bif (List.getD z k q).rate != 0 then (List.getD z k q).state != 2 else false then some (Ex.ret, St.mk
 [(2, (vI 3))] []) else bif (↑k : Int) == 0 then q_2 else Option.bind (idx (IntKind.i64.wrap ((↑k : Int) - (1 : Int)))) fun z_6 =>
 Option.bind (unenc (List.map eBeat) (List.map eBeat l)) fun z_7 => (fun (q_3 : Bool) => bif decide (z_6 < List.length z_7) then Option.bind (unenc encBor
 [AV.agg [(vS (List.getD z_7 z_6 q).session), (vI (List.getD z_7 z_6 q).no), (vI (List.getD z_7 z_6 q).time), (vI (List.getD z_7 z_6 q).state), (vI (List.getD z_7 z_6
 q).rate)], AV.agg [(vS (List.getD z k q).session), (vI (List.getD z k q).no), (vI (List.getD z k q).time), (vI (List.getD z k q).state), (vI (List.getD z k q).rate)]]) fun
 (z_8 : Beat × Beat) => bif bif decide ((0 : Int) ≤ F.border z_8.1 z_8.2) then true else bif q_3 then decide ((List.getD z k q).time < (List.getD z_7 z_6 q).time) else
 false then some (Ex.ret, St.mk [(2, (vI 8))] []) else bif bif q_3 then (List.getD z_7 z_6 q).state == 5 else false then some (Ex.ret, St.mk [(2, (vI 11))] []) else q_2 else none) (ByteArray.toList (List.getD z_7 z_6 q).session == ByteArray.toList (List.getD z k q).session) else q_1 else none else some (Ex.exit (0 :
 Nat), St.mk [] [])) (some (Ex.normal, St.mk [(11, (vI (IntKind.i64.wrap ((↑k : Int) + 1)))), (10, (vI (↑(List.length l) : Int))), (9, AV.sl (List.map eBeat
 l)), (0, AV.sl (List.map eBeat l))] []))) (some (Ex.ret, St.mk [(2, (vI 1))] []))) (Beat.mk (ByteArray.mk (Array.mk [])) (0 : Int) (0 : Int) (0 : Int) (0 : Int)) := by kernel_rfl

theorem lpChb_ok (l : List Beat) (k : Nat) (hp : prlChb l k = true) : ∀ ex s', (outChb l k).val = some (ex, s') → LoopOK enChb (loopN Tryz.f115 0) (stChb l k) ex s' := by
 simp only [prlChb, Bool.and_eq_true, decide_eq_true_eq] at hp
 have hl := hp.1.1
 refine chb_step (st := stChb l) (fun _ => rfl) (n := ([11, 10, 9, 0], [])) (e := ([], [])) (r := ([2], [])) ?_ ?_ ?_ k ⟨hp.1.1, hp.1.2, hp.2⟩
 ·rw [evChbL]; simp
 ·intro y hy
  have hlt := lt_at hy
  rw [evChbL]
  simp only [unName, unOut, unBorw, etaBeat, Option.bind_some, unBeats, cond_true, cast_lt hlt, decide_eq_true hlt, next_at hlt hl, getD_at hy, stChb, F.beatF1]
  generalize F.isName y.session = a1
  generalize F.out y.no 1 3000 = a2
  generalize F.out y.time 0 1000000000000 = a3
  generalize F.out y.state 1 5 = a4
  generalize F.out y.rate 0 1000000000 = a5
  generalize (y.rate != 0) = a6
  generalize (y.state != 2) = a7
  cases a1
  ·rfl
  cases a2
  ·cases a3
   ·cases a4
    ·cases a5
     ·cases a6 <;> cases a7 <;> rfl
     ·rfl
    ·rfl
   ·rfl
  ·rfl
 ·intro j o y ho hy hf
  have hlt := lt_at hy
  have hlt' := lt_at ho
  have hz : (((j + 1 : Nat) : Int) == 0) = false := by rw [beq_eq_false_iff_ne]; omega
  rw [evChbL]
  simp only [unName, unOut, unBorw, etaBeat, Option.bind_some, unBeats, cond_true, cond_false, cast_lt hlt, decide_eq_true hlt, decide_eq_true hlt', next_at hlt hl, getD_at hy, getD_at ho, stChb, hz, idx_sub (by omega : j + 1 ≤ 9223372036854775807), F.beatF1, F.beatF2, F.seq]
  generalize F.isName y.session = a1
  generalize F.out y.time 0 1000000000000 = a3
  generalize F.out y.state 1 5 = a4
  generalize F.out y.rate 0 1000000000 = a5
  generalize (y.rate != 0) = a6
  generalize (y.state != 2) = a7
  generalize (o.session.toList == y.session.toList) = a9
  generalize decide (y.time < o.time) = a10
  generalize (o.state == 5) = a11
  generalize F.out y.no 1 3000 = a2
  generalize decide (0 ≤ F.border o y) = a8
  cases a1
  ·rfl
  cases a2
  ·cases a3
   ·cases a4
    ·cases a5
     ·cases a6 <;> cases a7 <;> first | rfl | (cases a8 <;> first | rfl | (cases a9 <;> first | rfl | (cases a10 <;> first | rfl | (cases a11 <;> rfl))))
     ·rfl
    ·rfl
   ·rfl
  ·rfl

theorem evChb (l : List Beat) : (runF enChb false Tryz.f115 [.sl (l.map eBeat)]).val =
 bif decide ((3000 : Int) < (↑(List.length (List.map eBeat l)) : Int)) then some ((vI 2), []) else Option.bind (unenc stChb1 (St.mk [(11, (vI 0)), (10, (vI
 (↑(List.length (List.map eBeat l)) : Int))), (9, AV.sl (List.map eBeat l)), (0, AV.sl (List.map eBeat l))] [])) fun z => bif decide (List.length z.1
 ≤ 9223372036854775807) && decide (z.2 ≤ List.length z.1) && F.prvOK z.1 z.2 && true then bif decide (F.chkB (F.prvB z.1 z.2) (List.drop z.2 z.1) =
 (0 : Int)) then some ((vI 0), []) else some ((vI (F.chkB (F.prvB z.1 z.2) (List.drop z.2 z.1))), []) else none := by kernel_rfl

def encChb1 (l : List Beat) : List AV := [.sl (l.map eBeat)]

def encChb (a : (List Beat)) : List AV := encChb1 a

theorem encChb_inj (a a' : (List Beat)) (h : encChb a = encChb a') : a = a' := by
 simp only [encChb, encChb1] at h
 try simp [eBeats_inj] at h
 grind

theorem unChb (l : List Beat) : unenc encChb ([AV.sl (List.map eBeat l)]) = some (l) := unenc_of encChb_inj (l) rfl

def resChb1 (l : List Beat) : AV × Heap := (vI (F.checkB l), [])

def preChb1 (l : List Beat) : Bool := true

noncomputable def oChb : Orc := orc 115 true encChb (fun a => preChb1 a) fun a => resChb1 a

theorem okChb : OrcOK Tryz.prog noG oChb := by
 refine mk_ok Tryz.f115 (keep := false) (by kernel_rfl) (by kernel_rfl) enChb_ok mixed (one_loop (x0 := loopN Tryz.f115 0) (by kernel_rfl) (lpo_ok ?_)) (by first | exact fun _ _ => ⟨rfl, rfl⟩ | (intro h; cases h)) ?_
 ·rintro ⟨l, k⟩ hp
  exact lpChb_ok l k hp
 rintro l hpre hok
 show (runF enChb false _ (encChb1 _)).val = some (resChb1 _)
 unfold encChb1 resChb1
 rw [evChb]
 have hx : l.length ≤ 9223372036854775807 := by simpa using (okA_sl (hok _ (List.mem_cons_self ..))).1
 have hz : F.prvOK l 0 = true := rfl
 have hp : F.prvB l 0 = none := rfl
 simp only [unstChb0, Option.bind_some, List.length_map, cond_true, Bool.and_true, hx, hz, hp, List.drop_zero, Nat.zero_le, decide_true, F.checkB]
 have e : decide ((3000 : Int) < l.length) = decide (3000 < l.length) := by by_cases h : 3000 < l.length <;> simp [h] <;> omega
 rw [e]
 cases decide (3000 < l.length)
 ·simp only [cond_false]
  by_cases h2 : F.chkB none l = 0 <;> simp [h2]
 ·rfl

def stEqHo (xs : List Hole) (ys : List Hole) (k : Nat) : St := ⟨[(13, vI k), (12, vI xs.length), (1, .sl (ys.map eHole)), (0, .sl (xs.map eHole))], []⟩

def stEqHo1 (a : (List Hole) × (List Hole) × Nat) : St := stEqHo a.1 a.2.1 a.2.2

theorem stEqHo_inj (a a' : (List Hole) × (List Hole) × Nat) (h : stEqHo1 a = stEqHo1 a') : a = a' := by
 simp only [stEqHo1, stEqHo] at h
 try simp [eHoles_inj] at h
 grind

theorem unstEqHo0 (xs : List Hole) (ys : List Hole)  : unenc stEqHo1 (St.mk [(13, (vI (0 : Int))), (12, (vI (↑(List.length xs) : Int))), (1, AV.sl (List.map eHole ys)), (0, AV.sl (List.map eHole xs))] []) = some (xs, ys, 0) := unenc_of stEqHo_inj (xs, ys, 0) rfl

def outEqHo (xs : List Hole) (ys : List Hole) (k : Nat) : T (Ex × St) := .ifB (((xs.zip ys).drop k).all fun p => (eqHole) p.1 p.2) (.ret (.exit 0, ⟨[], []⟩)) (.ret (.ret, ⟨[(4, vB false)], []⟩))

noncomputable def prlEqHo (xs : List Hole) (ys : List Hole) (k : Nat) : Bool := decide (xs.length ≤ 9223372036854775807) && decide (k ≤ xs.length) && decide (xs.length = ys.length)

noncomputable def lpEqHo : Nat × (St → T (Ex × St)) := (4, lpo [13, 12, 1, 0] [] stEqHo1 (fun a => prlEqHo a.1 a.2.1 a.2.2) fun a => outEqHo a.1 a.2.1 a.2.2)

noncomputable def enEqHo : Env := envH ty noG lks [] [] [] [lpEqHo]

theorem enEqHo_ok : EnvOK Tryz.prog enEqHo := by
 refine envH_ok lks_ok ty_ok ?_ ?_
 ·simp
 ·simp

theorem evEqHoL (xs : List Hole) (ys : List Hole) (k : Nat) : ((exec enEqHo (loopN Tryz.f54 0) (stEqHo xs ys k)).bind (lessX ([13, 12, 1, 0], []) ([], []) ([4], []))).val =
 bif decide ((↑k : Int) < (↑(List.length xs) : Int)) then Option.bind (unenc (List.map eHole) (List.map eHole xs)) fun z => bif decide (k < List.length z)
 then Option.bind (unenc (List.map eHole) (List.map eHole ys)) fun z_1 => bif decide (k < List.length z_1) then bif !(ByteArray.toList (List.getD z k (Hole.mk
 (ByteArray.mk (Array.mk [])) (0 : Int) (0 : Int))).session == ByteArray.toList (List.getD z_1 k (Hole.mk (ByteArray.mk (Array.mk [])) (0 : Int) (0 : Int))).session &&
 ((List.getD z k (Hole.mk (ByteArray.mk (Array.mk [])) (0 : Int) (0 : Int))).fr == (List.getD z_1 k (Hole.mk (ByteArray.mk (Array.mk [])) (0 : Int) (0 : Int))).fr &&
 ((List.getD z k (Hole.mk (ByteArray.mk (Array.mk [])) (0 : Int) (0 : Int))).to == (List.getD z_1 k (Hole.mk (ByteArray.mk (Array.mk [])) (0 : Int) (0 : Int))).to &&
 true))) then some (Ex.ret, St.mk [(4, (vB false))] []) else some (Ex.normal, St.mk [(13, (vI (IntKind.i64.wrap ((↑k : Int) + 1)))), (12, (vI (↑(List.length
 xs) : Int))), (1, AV.sl (List.map eHole ys)), (0, AV.sl (List.map eHole xs))] []) else none else none else some (Ex.exit (0 : Nat), St.mk [] []) := by kernel_rfl

theorem lpEqHo_ok (xs : List Hole) (ys : List Hole) (k : Nat) (hp : prlEqHo xs ys k = true) : ∀ ex s', (outEqHo xs ys k).val = some (ex, s') → LoopOK enEqHo (loopN Tryz.f54 0) (stEqHo xs ys k) ex s' := by
 simp only [prlEqHo, Bool.and_eq_true, decide_eq_true_eq] at hp
 obtain ⟨⟨h1, h2⟩, h3⟩ := hp
 have hz : (xs.zip ys).length = xs.length := by rw [List.length_zip]; omega
 refine loop_all (xs := xs.zip ys) (st := stEqHo xs ys) (p := fun p => (eqHole) p.1 p.2) (n := ([13, 12, 1, 0], [])) (e := ([], [])) (r := ([4], [])) ?_ ⟨by simp, rfl⟩ ⟨by simp, rfl⟩ (fun _ => rfl) ?_ k (by omega)
 ·rw [hz]; rw [evEqHoL]; simp
 ·intro k y hy
  rw [List.getElem?_zip_eq_some] at hy
  obtain ⟨ha, hb⟩ := hy
  have hlt := lt_at ha
  have hlt' := lt_at hb
  rw [evEqHoL]
  simp only [Option.bind_some, unHoles, cond_true, Bool.and_true, cast_lt hlt, decide_eq_true hlt, decide_eq_true hlt', next_at hlt h1, getD_at ha, getD_at hb, stEqHo, eqHole]
  first | (generalize (_ && _) = b0; cases b0 <;> rfl) | (generalize (_ == _) = b0; cases b0 <;> rfl) | (generalize (y.1 == y.2) = b0; cases b0 <;> rfl)

theorem evEqHo (xs : List Hole) (ys : List Hole) : (runF enEqHo false Tryz.f54 [.sl (xs.map eHole), .sl (ys.map eHole)]).val =
 bif (↑(List.length (List.map eHole xs)) : Int) != (↑(List.length (List.map eHole ys)) : Int) then some ((vB false), []) else Option.bind (unenc stEqHo1 (St.mk [(13, (vI 0)), (12, (vI (↑(List.length (List.map eHole xs)) : Int))), (1, AV.sl (List.map eHole ys)), (0, AV.sl (List.map eHole xs))] [])) fun (z : List Hole × List Hole × Nat)
 => bif decide (List.length z.1 ≤ 9223372036854775807) && decide (z.2.2 ≤ List.length z.1) && decide (List.length z.1 = List.length z.2.1) && true
 then bif List.all (List.drop z.2.2 (List.zip z.1 z.2.1)) fun (p : Hole × Hole) => eqHole p.fst p.snd then some ((vB true), []) else some ((vB false), []) else
 none := by kernel_rfl

def encEqHo1 (xs : List Hole) (ys : List Hole) : List AV := [.sl (xs.map eHole), .sl (ys.map eHole)]

def encEqHo (a : (List Hole) × (List Hole)) : List AV := encEqHo1 a.1 a.2

theorem encEqHo_inj (a a' : (List Hole) × (List Hole)) (h : encEqHo a = encEqHo a') : a = a' := by
 simp only [encEqHo, encEqHo1] at h
 try simp [eHoles_inj] at h
 grind

def resEqHo1 (xs : List Hole) (ys : List Hole) : AV × Heap := (vB (F.eqL (eqHole) xs ys), [])

def preEqHo1 (xs : List Hole) (ys : List Hole) : Bool := true

noncomputable def oEqHo : Orc := orc 54 true encEqHo (fun a => preEqHo1 a.1 a.2) fun a => resEqHo1 a.1 a.2

theorem okEqHo : OrcOK Tryz.prog noG oEqHo := by
 refine mk_ok Tryz.f54 (keep := false) (by kernel_rfl) (by kernel_rfl) enEqHo_ok mixed (one_loop (x0 := loopN Tryz.f54 0) (by kernel_rfl) (lpo_ok ?_)) (by first | exact fun _ _ => ⟨rfl, rfl⟩ | (intro h; cases h)) ?_
 ·rintro ⟨xs, ys, k⟩ hp
  exact lpEqHo_ok xs ys k hp
 rintro ⟨xs, ys⟩ hpre hok
 show (runF enEqHo false _ (encEqHo1 _ _)).val = some (resEqHo1 _ _)
 unfold encEqHo1 resEqHo1
 rw [evEqHo]
 have hx : xs.length ≤ 9223372036854775807 := by simpa using (okA_sl (hok _ (List.mem_cons_self ..))).1
 simp only [unstEqHo0, Option.bind_some, List.length_map, Bool.and_true, Bool.true_and, hx, List.drop_zero, Nat.zero_le, decide_true, len_eq, bne, F.eqL]
 cases h : decide (xs.length = ys.length)
 ·rfl
 ·simp only [Bool.not_true, cond_false, cond_true, Bool.true_and]
  cases ((xs.zip ys).all fun p => (eqHole) p.1 p.2) <;> rfl

def stMis (l : List Beat) (n : Int) (acc : List Hole) (k : Nat) : St := ⟨[(16, vI k), (15, vI l.length), (14, .sl (l.map eBeat)), (6, vI n), (5, .own 5), (0, .sl (l.map eBeat))], [(5, ⟨false, 112, 3, acc.map eHole⟩)]⟩

def stMis1 (a : (List Beat) × Int × (List Hole) × Nat) : St := stMis a.1 a.2.1 a.2.2.1 a.2.2.2

theorem stMis_inj (a a' : (List Beat) × Int × (List Hole) × Nat) (h : stMis1 a = stMis1 a') : a = a' := by
 simp only [stMis1, stMis] at h
 try simp [eBeats_inj, eHoles_inj] at h
 grind

theorem unstMis0 (l : List Beat) (n : Int)  : unenc stMis1 (St.mk [(16, (vI (0 : Int))), (15, (vI (↑(List.length l) : Int))), (14, AV.sl (List.map eBeat l)), (6, (vI n)), (5, .own 5), (0, AV.sl (List.map eBeat l))] [(5, Blk.mk
 false 112 3 [])]) = some (l, n, [], 0) := unenc_of stMis_inj (l, n, [], 0) rfl

def outMis (l : List Beat) (n : Int) (acc : List Hole) (k : Nat) : T (Ex × St) := .ret (.exit 0, ⟨[(5, .own 5)], [(5, ⟨false, 112, 3, (F.missL (F.prvB l k) n acc (l.drop k)).map eHole⟩)]⟩)

noncomputable def prlMis (l : List Beat) (n : Int) (acc : List Hole) (k : Nat) : Bool := decide (l.length ≤ 3000) && decide (k ≤ l.length) && decide (acc.length ≤ k)

noncomputable def lpMis : Nat × (St → T (Ex × St)) := (7, lpo [16, 15, 14, 6, 5, 0] [5] stMis1 (fun a => prlMis a.1 a.2.1 a.2.2.1 a.2.2.2) fun a => outMis a.1 a.2.1 a.2.2.1 a.2.2.2)

noncomputable def enMis : Env := envH ty noG lks [oChb] [] [] [lpMis]

theorem enMis_ok : EnvOK Tryz.prog enMis := by
 refine envH_ok lks_ok ty_ok ?_ ?_
 ·simp only [List.forall_mem_cons]
  exact ⟨okChb, by simp⟩
 ·simp

theorem evMisL (l : List Beat) (n : Int) (acc : List Hole) (k : Nat) : ((exec enMis (loopN Tryz.f53 0) (stMis l n acc k)).bind (lessX ([16, 15, 14, 6, 5, 0], [5]) ([5], [5]) ([], []))).val =
 (fun (q : Bool) => (fun (q_1 : Nat × AV) => (fun (q_2 : Nat × AV) => (fun (q_3 : Beat) => (fun (q_4 : List (Nat × Blk)) => (fun (q_5 : Nat × AV) => (fun (q_6 : Bool) =>
 (fun (q_7 : List (Nat × AV)) => bif decide ((↑k : Int) < (↑(List.length l) : Int)) then Option.bind (unenc (List.map eBeat) (List.map eBeat l)) fun z => (fun
 (q_8 : Int) => (fun (q_9 : List (Nat × AV)) => (fun (q_10 : Option (Ex × St)) => (fun (q_11 : Option (Ex × St)) => bif decide (k < List.length z) then bif q then
 Option.bind (idx (IntKind.i64.wrap ((↑k : Int) - (1 : Int)))) fun z_1 => Option.bind (unenc (List.map eBeat) (List.map eBeat l)) fun z_2 =>
 bif decide (z_1 < List.length z_2) then bif bif q then !ByteArray.toList (List.getD z_2 z_1 q_3).session == ByteArray.toList (List.getD z k q_3).session else false then
 bif decide ((1 : Int) < q_8) then bif q_6 then some (Ex.normal, St.mk q_9 [(5, Blk.mk false 112 3 (List.map eHole acc ++ [[(vS (List.getD z k q_3).session), (vI 1), (vI q_8)]]))]) else none else q_10 else q_11 else none else bif q then none else bif q then none else bif q then none else q_11 else none) (bif decide (n < q_8)
 then bif q_6 then some (Ex.normal, St.mk q_9 [(5, Blk.mk false 112 3 (List.map eHole acc ++ [[(vS (List.getD z k q_3).session), (vI n), (vI q_8)]]))]) else none else
 q_10)) (some (Ex.normal, St.mk q_9 q_4))) (q_5 :: q_2 :: q_1 :: (6, (vI (IntKind.i64.wrap (q_8 + 1)))) :: q_7)) (List.getD z k q_3).no else some (Ex.exit
 (0 : Nat), St.mk [(5, .own 5)] q_4)) [(5, .own 5), (0, AV.sl (List.map eBeat l))]) (Nat.ble ((List.length (List.map eHole acc) + 1) * 32) 140737488355328 && true)) (16, (vI (IntKind.i64.wrap ((↑k : Int) + 1))))) [(5, Blk.mk false 112 3 (List.map eHole acc))]) (Beat.mk (ByteArray.mk (Array.mk [])) (0 :
 Int) (0 : Int) (0 : Int) (0 : Int))) (15, (vI (↑(List.length l) : Int)))) (14, AV.sl (List.map eBeat l))) (decide ((0 : Int) < (↑k : Int))) := by kernel_rfl

theorem lpMis_ok (l : List Beat) (n : Int) (acc : List Hole) (k : Nat) (hp : prlMis l n acc k = true) : ∀ ex s', (outMis l n acc k).val = some (ex, s') → LoopOK enMis (loopN Tryz.f53 0) (stMis l n acc k) ex s' := by
 simp only [prlMis, Bool.and_eq_true, decide_eq_true_eq] at hp
 obtain ⟨⟨h1, h2⟩, h3⟩ := hp
 refine loop_fold (xs := l) (st := fun a k => stMis l a.2.1 a.2.2 k) (f := F.missS) (fin := fun a => (.exit 0, ⟨[(5, .own 5)], [(5, ⟨false, 112, 3, a.2.2.map eHole⟩)]⟩)) (I := fun a k => a.1 = F.prvB l k ∧ a.2.2.length ≤ k) (n := ([16, 15, 14, 6, 5, 0], [5])) (e := ([5], [5])) (r := ([], [])) ?_ (fun _ => ⟨by simp, rfl⟩) (fun _ _ => rfl) ?_ (F.prvB l k, n, acc) k h2 ⟨rfl, h3⟩
 ·rintro ⟨p, n, acc⟩ _
  rw [evMisL]; simp
 ·rintro ⟨p, n, acc⟩ k y hy ⟨hp, hI⟩
  have hlt := lt_at hy
  simp only at hp hI
  subst hp
  have hroom : Nat.ble ((acc.length + 1) * 32) 140737488355328 = true := ble_t (by omega)
  refine ⟨?_, ?_⟩
  ·cases k with
   | zero =>
    have hz : decide ((0 : Int) < ((0 : Nat) : Int)) = false := rfl
    rw [evMisL]
    simp only [Option.bind_some, List.length_map, unBeats, F.lt, cond_true, cond_false, Bool.and_true, cast_lt hlt, decide_eq_true hlt, next_at hlt (by omega : l.length ≤ 9223372036854775807), getD_at hy, stMis, F.missS, F.nextB, F.prvB, hroom, appWHoles, hz]
    by_cases h : n < y.no <;> simp only [h, decide_true, decide_false, cond_true, cond_false]
   | succ j =>
    have ho : l[j]? = some l[j] := List.getElem?_eq_getElem (by omega)
    have hz : decide ((0 : Int) < ((j + 1 : Nat) : Int)) = true := decide_eq_true (by omega)
    have hlt' : j < l.length := by omega
    rw [evMisL]
    simp only [Option.bind_some, List.length_map, unBeats, F.lt, cond_true, Bool.and_true, cast_lt hlt, decide_eq_true hlt, decide_eq_true hlt', next_at hlt (by omega : l.length ≤ 9223372036854775807), getD_at hy, getD_at ho, stMis, F.missS, F.nextB, F.prvB, hroom, hz, ho, idx_sub (by omega : j + 1 ≤ 9223372036854775807), appWHoles]
    cases (l[j].session.toList == y.session.toList) <;> simp only [Bool.not_true, Bool.not_false, cond_true, cond_false]
    ·cases decide (1 < y.no) <;> rfl
    ·cases decide (n < y.no) <;> rfl
  ·refine ⟨hy.symm, ?_⟩
   simp only [F.missS]
   cases F.lt (F.nextB (F.prvB l k) n y) y.no
   ·simp only [cond_false]; omega
   ·simp only [cond_true, List.length_append, List.length_singleton]; omega

theorem evMis (l : List Beat) : (runF enMis false Tryz.f53 [.sl (l.map eBeat)]).val =
 Option.bind (unenc encChb [AV.sl (List.map eBeat l)]) fun z => bif F.checkB z != 0 then some (AV.tup [AV.sl [], (vI (F.checkB z))], []) else
 Option.bind (unenc stMis1 (St.mk [(16, (vI 0)), (15, (vI (↑(List.length (List.map eBeat l)) : Int))), (14, AV.sl (List.map eBeat l)), (6, (vI 1)), (5, .own
 5), (0, AV.sl (List.map eBeat l))] [(5, Blk.mk false 112 3 [])])) fun z => bif decide (List.length z.1 ≤ 3000) && decide
 (z.2.2.2 ≤ List.length z.1) && decide (List.length z.2.2.1 ≤ z.2.2.2) && true then some (AV.tup [AV.sl (List.map eHole (F.missL (F.prvB z.1
 z.2.2.2) z.2.1 z.2.2.1 (List.drop z.2.2.2 z.1))), (vI 0)], []) else none := by kernel_rfl

def encMis1 (l : List Beat) : List AV := [.sl (l.map eBeat)]

def encMis (a : (List Beat)) : List AV := encMis1 a

theorem encMis_inj (a a' : (List Beat)) (h : encMis a = encMis a') : a = a' := by
 simp only [encMis, encMis1] at h
 try simp [eBeats_inj] at h
 grind

def resMis1 (l : List Beat) : AV × Heap := (.tup [.sl ((F.missing l).1.map eHole), vI (F.missing l).2], [])

def preMis1 (l : List Beat) : Bool := true

noncomputable def oMis : Orc := orc 53 false encMis (fun a => preMis1 a) fun a => resMis1 a

theorem okMis : OrcOK Tryz.prog noG oMis := by
 refine mk_ok Tryz.f53 (keep := false) (by kernel_rfl) (by kernel_rfl) enMis_ok mixed (one_loop (x0 := loopN Tryz.f53 0) (by kernel_rfl) (lpo_ok ?_)) (by first | exact fun _ _ => ⟨rfl, rfl⟩ | (intro h; cases h)) ?_
 ·rintro ⟨l, n, acc, k⟩ hp
  exact lpMis_ok l n acc k hp
 rintro l hpre hok
 show (runF enMis false _ (encMis1 _)).val = some (resMis1 _)
 unfold encMis1 resMis1
 rw [evMis]
 have hp : F.prvB l 0 = none := rfl
 simp only [unChb, unstMis0, Option.bind_some, List.length_map, Bool.and_true, List.drop_zero, Nat.zero_le, decide_true, F.missing, hp, List.length_nil]
 cases h : F.checkB l != 0
 ·have hl : decide (l.length ≤ 3000) = true := decide_eq_true (F.checkB_len (by simpa using h))
  have h0 : F.checkB l = 0 := by simpa using h
  simp only [hl, cond_false, cond_true]
 ·rfl

noncomputable def enWrk : Env := envH ty noG lks [oMis, oEqHo] [] [] []

theorem enWrk_ok : EnvOK Tryz.prog enWrk := by
 refine envH_ok lks_ok ty_ok ?_ ?_
 ·simp only [List.forall_mem_cons]
  exact ⟨okMis, okEqHo, by simp⟩
 ·simp

def wkL : List Beat := [⟨⟨#[97]⟩, 3, 0, 1, 0⟩]

theorem wk_miss : F.missing wkL = ([⟨⟨#[97]⟩, 1, 3⟩], 0) := by kernel_rfl

theorem evWrk  : (runF enWrk false Tryz.f16 []).val =
 Option.bind (unenc encMis [AV.sl [[(vS ⟨⟨[97]⟩⟩), (vI 3), (vI 0), (vI 1), (vI 0)]]]) fun z =>
 bif (F.missing z).snd == 0 then bif (F.missing z).snd == 0 then bif (F.missing z).snd == 0 then Option.bind (unenc encEqHo [AV.sl (List.map eHole
 (F.missing z).fst), AV.sl [[(vS ⟨⟨[97]⟩⟩), (vI 1), (vI 3)]]]) fun z_1 => some ((vB (bif
 (F.missing z).snd == 0 then F.eqL eqHole z_1.1 z_1.2 else false)), []) else some ((vB false), []) else bif (F.missing z).snd == 0 then Option.bind
 (unenc encEqHo [AV.sl (List.map eHole (F.missing z).fst), AV.unk]) fun z_1 => some ((vB (bif (F.missing z).snd == 0 then F.eqL eqHole
 z_1.1 z_1.2 else false)), []) else some ((vB false), []) else bif (F.missing z).snd == 0 then none else bif (F.missing z).snd == 0 then Option.bind
 (unenc encEqHo [AV.sl (List.map eHole (F.missing z).fst), AV.unk]) fun z_1 => some ((vB (bif (F.missing z).snd == 0 then F.eqL eqHole
 z_1.1 z_1.2 else false)), []) else some ((vB false), []) := by kernel_rfl

def encWrk1  : List AV := []

def encWrk (a : Unit) : List AV := encWrk1

theorem encWrk_inj (a a' : Unit) (h : encWrk a = encWrk a') : a = a' := rfl

theorem unWrk  : unenc encWrk ([]) = some () := unenc_of encWrk_inj () rfl

def resWrk1  : AV × Heap := (vB true, [])

def preWrk1  : Bool := true

noncomputable def oWrk : Orc := orc 16 true encWrk (fun a => preWrk1) fun a => resWrk1

theorem okWrk : OrcOK Tryz.prog noG oWrk := by
 refine mk_ok Tryz.f16 (keep := false) (by kernel_rfl) (by kernel_rfl) enWrk_ok mixed (no_loops (by kernel_rfl)) (by first | exact fun _ _ => ⟨rfl, rfl⟩ | (intro h; cases h)) ?_
 rintro ⟨⟩ hpre hok
 show (runF enWrk false _ (encWrk1 )).val = some (resWrk1 )
 unfold encWrk1 resWrk1
 rw [evWrk]
 show (Option.bind (unenc encMis (encMis wkL)) _ : Option (AV × Heap)) = _
 rw [unenc_of encMis_inj wkL rfl, Option.bind_some]
 have e : unenc encEqHo [.sl ([(⟨⟨#[97]⟩, 1, 3⟩ : Hole)].map eHole), .sl [[vS ⟨#[97]⟩, vI 1, vI 3]]] = some ([⟨⟨#[97]⟩, 1, 3⟩], [⟨⟨#[97]⟩, 1, 3⟩]) := unenc_of encEqHo_inj ([⟨⟨#[97]⟩, 1, 3⟩], [⟨⟨#[97]⟩, 1, 3⟩]) rfl
 simp only [wk_miss, beq_self_eq_true, cond_true]
 show (Option.bind (unenc encEqHo [.sl ([(⟨⟨#[97]⟩, 1, 3⟩ : Hole)].map eHole), .sl [[vS ⟨#[97]⟩, vI 1, vI 3]]]) _ : Option (AV × Heap)) = _
 rw [e]
 simp only [Option.bind_some, F.eqL_refl eqHole_refl]

end M

namespace M

noncomputable def enLSb : Env := envH ty noG lks [oSb, oRb, oEqS, oWrk] [] [] []

theorem enLSb_ok : EnvOK Tryz.prog enLSb := by
 refine envH_ok lks_ok ty_ok ?_ ?_
 ·simp only [List.forall_mem_cons]
  exact ⟨okSb, okRb, okEqS, okWrk, by simp⟩
 ·simp

theorem evLSb (l : List Cap) (g : List Seg) (sc : Int) : (runF enLSb false Tryz.f4 [.sl (l.map eCap), .sl (g.map eSeg), vI sc]).val =
 Option.bind (unenc encSb [AV.sl (List.map eCap l), AV.sl (List.map eSeg g), (vI sc)]) fun z => bif F.smC z.1 && decide (List.length
 z.2.1 ≤ 1048576) then Option.bind (unenc encRb [AV.sl (List.map eCap l), AV.sl (List.map eSeg g), (vI sc)]) fun z_1 => bif F.smC
 z_1.1 && decide (List.length z_1.2.1 ≤ 1048576) then Option.bind (unenc encEqS [AV.sl (List.map eStr (F.subs z.1 z.2.1 z.2.2).fst), AV.sl (List.map
 eStr (F.subs z_1.1 z_1.2.1 z_1.2.2).fst)]) fun z_2 => bif bif F.sameSL z_2.1 z_2.2 then (F.subs z.1 z.2.1
 z.2.2).snd == (F.subs z_1.1 z_1.2.1 z_1.2.2).snd else false then Option.bind (unenc encWrk []) fun z_3 => some ((vB (bif bif F.sameSL z_2.1
 z_2.2 then (F.subs z.1 z.2.1 z.2.2).snd == (F.subs z_1.1 z_1.2.1 z_1.2.2).snd else false then true else false)), []) else some ((vB false), []) else
 none else none := by kernel_rfl

def encLSb1 (l : List Cap) (g : List Seg) (sc : Int) : List AV := [.sl (l.map eCap), .sl (g.map eSeg), vI sc]

def encLSb (a : (List Cap) × (List Seg) × Int) : List AV := encLSb1 a.1 a.2.1 a.2.2

theorem encLSb_inj (a a' : (List Cap) × (List Seg) × Int) (h : encLSb a = encLSb a') : a = a' := by
 simp only [encLSb, encLSb1] at h
 try simp [eCaps_inj, eSegs_inj] at h
 grind

def resLSb1 (l : List Cap) (g : List Seg) (sc : Int) : AV × Heap := (vB true, [])

def preLSb1 (l : List Cap) (g : List Seg) (sc : Int) : Bool := F.smC l && decide (g.length ≤ 1048576)

noncomputable def oLSb : Orc := orc 4 true encLSb (fun a => preLSb1 a.1 a.2.1 a.2.2) fun a => resLSb1 a.1 a.2.1 a.2.2

theorem okLSb : OrcOK Tryz.prog noG oLSb := by
 refine mk_ok Tryz.f4 (keep := false) (by kernel_rfl) (by kernel_rfl) enLSb_ok mixed (no_loops (by kernel_rfl)) (by first | exact fun _ _ => ⟨rfl, rfl⟩ | (intro h; cases h)) ?_
 rintro ⟨l, g, sc⟩ hpre hok
 show (runF enLSb false _ (encLSb1 _ _ _)).val = some (resLSb1 _ _ _)
 unfold encLSb1 resLSb1
 rw [evLSb]
 simp only [preLSb1] at hpre
 simp only [unSb, unRb, unEqS, unWrk, Option.bind_some, cond_true, hpre]
 simp only [F.sameSL_refl, beq_self_eq_true, cond_true]

end M

end Go.Proofs.YtbeobbjiogbdlaaGreatDoor

namespace Go.Proofs.YtbeobbjiogbdlaaGreatDoor.M
open Go.ChangeShapes Go.WideShapes Go.ChangeAt Go.RowKit Go.Deep
set_option linter.unusedVariables false

theorem own : ownKnob Tryz.prog.godebug = none := by kernel_rfl

theorem laidOut : laidOutB Tryz.prog = true := by kernel_rfl

theorem op_int : OpnU Tryz.prog 3 (cI) (fun _ => True) := (opn_int Tryz.underlying3).small

theorem cells_int : Tryz.prog.cellsOf 3 = 1 := by kernel_rfl

theorem op_string : OpnU Tryz.prog 9 (cS) (smS) := opnU_str Tryz.underlying9

theorem cells_string : Tryz.prog.cellsOf 9 = 1 := by kernel_rfl

theorem bytes_string : Tryz.prog.bytesOf 9 = 16 := by kernel_rfl

theorem cells_sstring : Tryz.prog.cellsOf 54 = 1 := by kernel_rfl

theorem op_sstring : OpnU Tryz.prog 54 (cSl (cS)) (KU (smS)) := opnU_slice Tryz.underlying54 cells_string bytes_string (by decide) (fun _ => rfl) op_string

theorem op_bool : OpnU Tryz.prog 4 (cB) (fun _ => True) := (opn_bool Tryz.underlying4).small

theorem cells_bool : Tryz.prog.cellsOf 4 = 1 := by kernel_rfl

def kCap (x : Cap) : Prop := (KU (smS)) x.lines

theorem cells_Cap : Tryz.prog.cellsOf 122 = 6 := by kernel_rfl

set_option maxRecDepth 100000 in
theorem op_Cap : OpnU Tryz.prog 122 eCap kCap := by
 intro H enc w fuel cs d p h hw hbk
 obtain ⟨hl, hf⟩ := opnU_fields Tryz.underlying122 h hw hbk
 obtain ⟨x0, r0, k0⟩ : ∃ x, RL (R0 w (Inn w)) ((cI) x) ((cs.drop 0).take (Tryz.prog.cellsOf 3)) ∧ (fun _ => True) x := hf 0 _ rfl op_int
 rw [cells_int] at r0
 obtain ⟨x1, r1, k1⟩ : ∃ x, RL (R0 w (Inn w)) ((cI) x) ((cs.drop 1).take (Tryz.prog.cellsOf 3)) ∧ (fun _ => True) x := hf 1 _ rfl op_int
 rw [cells_int] at r1
 obtain ⟨x2, r2, k2⟩ : ∃ x, RL (R0 w (Inn w)) ((cSl (cS)) x) ((cs.drop 2).take (Tryz.prog.cellsOf 54)) ∧ (KU (smS)) x := hf 2 _ rfl op_sstring
 rw [cells_sstring] at r2
 obtain ⟨x3, r3, k3⟩ : ∃ x, RL (R0 w (Inn w)) ((cI) x) ((cs.drop 3).take (Tryz.prog.cellsOf 3)) ∧ (fun _ => True) x := hf 3 _ rfl op_int
 rw [cells_int] at r3
 obtain ⟨x4, r4, k4⟩ : ∃ x, RL (R0 w (Inn w)) ((cB) x) ((cs.drop 4).take (Tryz.prog.cellsOf 4)) ∧ (fun _ => True) x := hf 4 _ rfl op_bool
 rw [cells_bool] at r4
 obtain ⟨x5, r5, k5⟩ : ∃ x, RL (R0 w (Inn w)) ((cB) x) ((cs.drop 5).take (Tryz.prog.cellsOf 4)) ∧ (fun _ => True) x := hf 5 _ rfl op_bool
 rw [cells_bool] at r5
 rw [cells_Cap] at hl
 match cs, hl with
 | [c0, c1, c2, c3, c4, c5], _ =>
  refine ⟨⟨x0, x1, x2, x3, x4, x5⟩, ?_, k2⟩
  show RL (R0 w (Inn w)) (((cI) x0) ++ (((cI) x1) ++ (((cSl (cS)) x2) ++ (((cI) x3) ++ (((cB) x4) ++ (((cB) x5))))))) ([c0] ++ ([c1] ++ ([c2] ++ ([c3] ++ ([c4] ++ ([c5]))))))
  exact RL.append r0 (RL.append r1 (RL.append r2 (RL.append r3 (RL.append r4 (r5)))))

def kSeg (x : Seg) : Prop := True

theorem cells_Seg : Tryz.prog.cellsOf 70 = 7 := by kernel_rfl

set_option maxRecDepth 100000 in
theorem op_Seg : OpnU Tryz.prog 70 eSeg kSeg := by
 intro H enc w fuel cs d p h hw hbk
 obtain ⟨hl, hf⟩ := opnU_fields Tryz.underlying70 h hw hbk
 obtain ⟨x0, r0, k0⟩ : ∃ x, RL (R0 w (Inn w)) ((cI) x) ((cs.drop 0).take (Tryz.prog.cellsOf 3)) ∧ (fun _ => True) x := hf 0 _ rfl op_int
 rw [cells_int] at r0
 obtain ⟨x1, r1, k1⟩ : ∃ x, RL (R0 w (Inn w)) ((cI) x) ((cs.drop 1).take (Tryz.prog.cellsOf 3)) ∧ (fun _ => True) x := hf 1 _ rfl op_int
 rw [cells_int] at r1
 obtain ⟨x2, r2, k2⟩ : ∃ x, RL (R0 w (Inn w)) ((cI) x) ((cs.drop 2).take (Tryz.prog.cellsOf 3)) ∧ (fun _ => True) x := hf 2 _ rfl op_int
 rw [cells_int] at r2
 obtain ⟨x3, r3, k3⟩ : ∃ x, RL (R0 w (Inn w)) ((cI) x) ((cs.drop 3).take (Tryz.prog.cellsOf 3)) ∧ (fun _ => True) x := hf 3 _ rfl op_int
 rw [cells_int] at r3
 obtain ⟨x4, r4, k4⟩ : ∃ x, RL (R0 w (Inn w)) ((cI) x) ((cs.drop 4).take (Tryz.prog.cellsOf 3)) ∧ (fun _ => True) x := hf 4 _ rfl op_int
 rw [cells_int] at r4
 obtain ⟨x5, r5, k5⟩ : ∃ x, RL (R0 w (Inn w)) ((cI) x) ((cs.drop 5).take (Tryz.prog.cellsOf 3)) ∧ (fun _ => True) x := hf 5 _ rfl op_int
 rw [cells_int] at r5
 obtain ⟨x6, r6, k6⟩ : ∃ x, RL (R0 w (Inn w)) ((cI) x) ((cs.drop 6).take (Tryz.prog.cellsOf 3)) ∧ (fun _ => True) x := hf 6 _ rfl op_int
 rw [cells_int] at r6
 rw [cells_Seg] at hl
 match cs, hl with
 | [c0, c1, c2, c3, c4, c5, c6], _ =>
  refine ⟨⟨x0, x1, x2, x3, x4, x5, x6⟩, ?_, trivial⟩
  show RL (R0 w (Inn w)) (((cI) x0) ++ (((cI) x1) ++ (((cI) x2) ++ (((cI) x3) ++ (((cI) x4) ++ (((cI) x5) ++ (((cI) x6)))))))) ([c0] ++ ([c1] ++ ([c2] ++ ([c3] ++ ([c4] ++ ([c5] ++ ([c6])))))))
  exact RL.append r0 (RL.append r1 (RL.append r2 (RL.append r3 (RL.append r4 (RL.append r5 (r6))))))

theorem bytes_Cap : Tryz.prog.bytesOf 122 = 56 := by kernel_rfl

theorem op_sCap : OpnU Tryz.prog 53 (cSl (eCap)) (KU (kCap)) := opnU_slice Tryz.underlying53 cells_Cap bytes_Cap (by decide) (fun _ => rfl) op_Cap

theorem bytes_Seg : Tryz.prog.bytesOf 70 = 56 := by kernel_rfl

theorem op_sSeg : OpnU Tryz.prog 25 (cSl (eSeg)) (KU (kSeg)) := opnU_slice Tryz.underlying25 cells_Seg bytes_Seg (by decide) (fun _ => rfl) op_Seg

end Go.Proofs.YtbeobbjiogbdlaaGreatDoor.M

namespace Go.Proofs.YtbeobbjiogbdlaaGreatDoor.M
open Go.ChangeShapes Go.WideShapes Go.ChangeAt Go.RowKit Go.Deep
set_option linter.unusedVariables false

theorem u8extra : U8Extra Tryz.prog Tryz.lays260_ren := ⟨by kernel_rfl, by kernel_rfl, by kernel_rfl, by kernel_rfl, by kernel_rfl, by kernel_rfl, by kernel_rfl⟩

theorem noG_at {W : World} {laid : List (String × DataW Unit)} (hsh : W.ShapedOpen Tryz.prog) (hL : laidMetH Tryz.prog laid W)
  (hp : (laid.all fun x => x.2.handleName?.isNone) = true := by kernel_rfl)
  (m1 : ∃ i : Nat, laid[i]? = some ("unicode/utf8.acceptRanges", Rows.laid_unicode_utf8_acceptRanges) := by first | exact ⟨0, rfl⟩ | exact ⟨1, rfl⟩ | exact ⟨2, rfl⟩ | exact ⟨3, rfl⟩ | exact ⟨4, rfl⟩ | exact ⟨5, rfl⟩ | exact ⟨6, rfl⟩ | exact ⟨7, rfl⟩)
  (m2 : ∃ i : Nat, laid[i]? = some ("unicode/utf8.first", Rows.laid_unicode_utf8_first) := by first | exact ⟨0, rfl⟩ | exact ⟨1, rfl⟩ | exact ⟨2, rfl⟩ | exact ⟨3, rfl⟩ | exact ⟨4, rfl⟩ | exact ⟨5, rfl⟩ | exact ⟨6, rfl⟩ | exact ⟨7, rfl⟩)
  (m3 : ∃ i : Nat, laid[i]? = some ("internal/strconv.uint64pow10", Rows.laid_internal_strconv_uint64pow10) := by first | exact ⟨0, rfl⟩ | exact ⟨1, rfl⟩ | exact ⟨2, rfl⟩ | exact ⟨3, rfl⟩ | exact ⟨4, rfl⟩ | exact ⟨5, rfl⟩ | exact ⟨6, rfl⟩ | exact ⟨7, rfl⟩) :
  ∀ g r, noG g = some r → GlobAt W (Inn W) g r := by
 obtain ⟨_, m1⟩ := m1
 obtain ⟨_, m2⟩ := m2
 obtain ⟨_, m3⟩ := m3
 rw [MakeChecks.laidMetH_plain _ _ _ hp] at hL
 have hr : Lib.VarReads Tryz.prog W "internal/strconv.uint64pow10" Rows.laid_internal_strconv_uint64pow10 := Lib.laidMet.reads hL (List.mem_of_getElem? m3)
 have h3 : Lib.VarReads Tryz.prog W "unicode/utf8.first" Lib.firstData := by
  have := Lib.laidMet.reads (n := "unicode/utf8.first") (d := Rows.laid_unicode_utf8_first) hL (List.mem_of_getElem? m2)
  have hd : (Rows.laid_unicode_utf8_first : DataW Unit) = Lib.firstData := by kernel_rfl
  rw [hd] at this; exact this
 have h4 : Lib.VarReads Tryz.prog W "unicode/utf8.acceptRanges" Lib.acceptData := by
  have := Lib.laidMet.reads (n := "unicode/utf8.acceptRanges") (d := Rows.laid_unicode_utf8_acceptRanges) hL (List.mem_of_getElem? m1)
  have hd : (Rows.laid_unicode_utf8_acceptRanges : DataW Unit) = Lib.acceptData := by kernel_rfl
  rw [hd] at this; exact this
 obtain ⟨u1, u2⟩ := utf8Tabs_of_reads Tryz.lays260 u8extra h3 h4
 have cellAt : ∀ {g : Nat} {cs : Array Value} {ty : TypeId} {o : Nat × Nat} (_ : W.heap[g]? = some (.cells cs ty o)) (j : Nat), W.cell? ⟨g, j, none⟩ = cs[j]? := fun h j => by simp [World.cell?, h]
 intro g r hg
 unfold noG at hg
 split at hg
 ·rename_i hb
  have e : g = 3 := beq_true.1 hb
  subst e
  cases hg
  obtain ⟨g', t, cs, fuel, p, q1, q2, q3, q4⟩ := h3
  have hn : Tryz.prog.globalNamed "unicode/utf8.first" = some 3 := by kernel_rfl
  obtain ⟨ty, o, hh⟩ := var_cells hn q3
  exact glob_mk hh fun c hc => by rw [← cellAt hh c]; exact u1 c hc
 ·split at hg
  ·rename_i hb
   have e : g = 4 := beq_true.1 hb
   subst e
   cases hg
   obtain ⟨g', t, cs, fuel, p, q1, q2, q3, q4⟩ := h4
   have hn : Tryz.prog.globalNamed "unicode/utf8.acceptRanges" = some 4 := by kernel_rfl
   obtain ⟨ty, o, hh⟩ := var_cells hn q3
   exact glob_mk hh fun c hc => by rw [← cellAt hh _, ← cellAt hh _]; exact u2 c hc
  ·split at hg
   ·rename_i hb
    have e : g = 5 := beq_true.1 hb
    subst e
    cases hg
    have hz : ((begin Tryz.prog (fun _ _ => 0) default).world.heap[5]?).bind Obj.row? = some (#[.int .i64 0], 3) := by kernel_rfl
    obtain ⟨cs, hh, hs, hr⟩ := hsh.1 5 _ _ (of_decide_eq_true (by kernel_rfl)) hz
    obtain ⟨m, hm⟩ := cell_of_shapedOpen_int hsh (g := 5) (of_decide_eq_true (by kernel_rfl)) hz rfl (by kernel_rfl) (by kernel_rfl) Tryz.underlying3
    exact glob_mk hh ⟨m, by rw [← cellAt hh 0]; exact hm⟩
   ·split at hg
    ·rename_i hb
     have e : g = 2 := beq_true.1 hb
     subst e
     cases hg
     obtain ⟨g', t, cs, fuel, p, h1, h2, h3, h4⟩ := hr
     have hn : Tryz.prog.globalNamed "internal/strconv.uint64pow10" = some 2 := by kernel_rfl
     obtain rfl := Option.some.inj (hn.symm.trans h1)
     obtain rfl := Option.some.inj ((show (Tryz.prog.globals[2]?).map (·.type) = some 272 by kernel_rfl).symm.trans h2)
     have hd : (Rows.laid_internal_strconv_uint64pow10 : DataW Unit) = Lib.tabData .u64 Lib.pow10Tab := by kernel_rfl
     rw [hd] at h4
     have hcs := Lib.cells_of_tab Tryz.underlying272 Tryz.underlying138 (by kernel_rfl) (by kernel_rfl) h4
     obtain ⟨ty, o, hh⟩ := var_cells hn h3
     exact glob_mk hh (by rw [← hcs])
    ·cases hg

end Go.Proofs.YtbeobbjiogbdlaaGreatDoor.M

namespace Go.Proofs.YtbeobbjiogbdlaaGreatDoor
open Go.ChangeShapes Go.WideShapes Go.ChangeAt Go.RowKit Go.Deep M
open Go.ChangeMaps (open_string shut_string)
set_option linter.unusedVariables false

set_option maxRecDepth 100000 in
theorem deskSubtitlesMatchSpec_contract (H : Type) (enc : TypeId × Value → H) (W : World) (base : Nat) (args : Array Value) (ds gs : List (DataW H)) (before : List MemPlace)
  (hval0 : ∀ (j : Nat) t v, Tryz.f4.params[j]? = some t → args[j]? = some v → Value.okWide Tryz.prog W .any base t v)
  (hW : DataW.Whole enc Tryz.prog Tryz.f4.params.toList Rows.deskSubtitlesMatchSpecSpec.vars false W args.toList ds gs before) (hbulk : Rows.uptoBulkAll (ds ++ gs) ≤ 1048576)
  (hsz0 : (DataW.weightsEach Tryz.prog (Tryz.f4.params.toList ++ Rows.deskSubtitlesMatchSpecSpec.plain.varTypes Tryz.prog) (ds ++ gs)).all (· ≤ reachBytes) = true)
  (hL : laidMetH Tryz.prog Rows.deskSubtitlesMatchSpecUptoRow.laid W) (hsh : W.ShapedOpen Tryz.prog) :
  Calls Tryz.prog 4 args W fun e W' => ∃ v, e = .returned v ∧ Rows.deskSubtitlesMatchSpecSpec.post enc Tryz.prog Tryz.f4 false true false false W args v W' := by
 have hval : ∀ (j : Nat) t v, Tryz.f4.params[j]? = some t → args[j]? = some v → Value.okWide Tryz.prog W .any base t v := hval0
 have hW' := hW
 obtain ⟨p, q, hA0, hV, rfl, hfz, hnd⟩ := hW
 have hA : DataW.TrodAll enc Tryz.prog W 0 (fun _ => true) true Tryz.f4.params.toList args.toList ds p := hA0
 have hsz : ∀ n ∈ DataW.weightsEach Tryz.prog (Tryz.f4.params.toList ++ Rows.deskSubtitlesMatchSpecSpec.plain.varTypes Tryz.prog) (ds ++ gs), n ≤ reachBytes := by
  intro n hn; have := List.all_eq_true.1 hsz0 n hn; simpa using this
 rw [Tryz.params4] at hA hval hsz
 obtain ⟨v0, vs0, d0, ds0, p0, q0, hargs, rfl, rfl, h0, r0⟩ := trodAll_cons hA
 obtain ⟨v1, vs1, d1, ds1, p1, q1, rfl, rfl, rfl, h1, r1⟩ := trodAll_cons r0
 obtain ⟨v2, vs2, d2, ds2, p2, q2, rfl, rfl, rfl, h2, r2⟩ := trodAll_cons r1
 obtain ⟨rfl, rfl, rfl⟩ := trodAll_nil r2
 obtain rfl : args = #[v0, v1, v2] := by cases args; simp_all
 obtain ⟨rfl, rfl⟩ := trodVars_none hV
 have bk0 : Rows.uptoBulk d0 ≤ 1048576 := Nat.le_trans (bulks.part_le (by simp)) hbulk
 obtain ⟨A0, len0, cap0, rfl⟩ := okWide_slice Tryz.underlying53 (hval 0 53 v0 rfl rfl)
 have b0 := h0
 have lt0 : ∀ x ∈ p0, x.block < W.heap.size := by obtain ⟨m, hm⟩ := b0; exact DataW.trod_lt m _ _ _ hm
 obtain ⟨fuel0, hf0⟩ := h0
 obtain ⟨x0, e0, k0⟩ := op_sCap H enc W fuel0 (Value.cells (.slice A0 len0 cap0)).toList _ _ hf0 (fun n hn => hsz n (weights_each (j := 0) rfl rfl n hn)) bk0
 have bk1 : Rows.uptoBulk d1 ≤ 1048576 := Nat.le_trans (bulks.part_le (by simp)) hbulk
 obtain ⟨A1, len1, cap1, rfl⟩ := okWide_slice Tryz.underlying25 (hval 1 25 v1 rfl rfl)
 have b1 := h1
 have lt1 : ∀ x ∈ p1, x.block < W.heap.size := by obtain ⟨m, hm⟩ := b1; exact DataW.trod_lt m _ _ _ hm
 obtain ⟨fuel1, hf1⟩ := h1
 obtain ⟨x1, e1, k1⟩ := op_sSeg H enc W fuel1 (Value.cells (.slice A1 len1 cap1)).toList _ _ hf1 (fun n hn => hsz n (weights_each (j := 1) rfl rfl n hn)) bk1
 have bk2 : Rows.uptoBulk d2 ≤ 1048576 := Nat.le_trans (bulks.part_le (by simp)) hbulk
 obtain ⟨x2, rfl, rfl, rfl, w2⟩ := open_int Tryz.underlying3 (hval 2 3 v2 rfl rfl) h2
 clear hA0 hval0
 have hpre : preLSb1 x0 x1 x2 = true := by exact (by have h1 : F.smC x0 = true := List.all_eq_true.2 fun c hc => List.all_eq_true.2 fun s hs => (decide_eq_true (Nat.le_trans ((k0.2 c hc).2 s hs) (by decide)) : F.small s = true); have h2 := k1.1; show (F.smC x0 && decide (x1.length ≤ 1048576)) = true; rw [h1, decide_eq_true h2]; rfl)
 have hspec := orc_at okLSb encLSb_inj (x0, x1, x2) hpre
 refine (law_calls (W := W) (cargs := [.slice A0 len0 cap0, .slice A1 len1 cap1, .int .i64 x2]) hspec (noG_at hsh hL) ⟨rv_sl_of e0, rv_sl_of e1, rv_int_of w2, trivial⟩).mono fun e W1 ⟨he, bel⟩ => ?_
 subst he
 exact ⟨_, rfl, _, _, _, [], _, [], hW', trodAll_mk1 (shut_bool Tryz.underlying4 _), (trodAll_cons_mk (Below.trod laidOut (by kernel_rfl) (of_decide_eq_true (by kernel_rfl)) b0 bel lt0) (trodAll_cons_mk (Below.trod laidOut (by kernel_rfl) (of_decide_eq_true (by kernel_rfl)) b1 bel lt1) (trodAll_cons_mk (shut_int Tryz.underlying3 w2) trodAll_mk0))), rfl, bel.frame _, fun h => by cases h⟩

theorem deskSubtitlesMatchSpec_reads (os : Os) {H : Type} (enc : TypeId × Value → H) : ∃ places, DataW.whole enc Tryz.prog ((World.laidAll Tryz.prog os Rows.deskSubtitlesMatchSpecUptoRow.laid).forCall (fun _ _ => 0) ⟨#[], #[.slice none 0 0, .slice none 0 0, .int .i64 0], []⟩).memory Tryz.f4.params.toList Rows.deskSubtitlesMatchSpecSpec.vars false (#[.slice none 0 0, .slice none 0 0, .int .i64 0] : Array Value).toList 8 = some ([.nil, .nil, .lit (.int .i64 0)], [], places) :=
 ⟨[], by kernel_rfl⟩

theorem deskSubtitlesMatchSpec_met (os : Os) : laidMet Tryz.prog Rows.deskSubtitlesMatchSpecUptoRow.laid ((World.laidAll Tryz.prog os Rows.deskSubtitlesMatchSpecUptoRow.laid).forCall (fun _ _ => 0) ⟨#[], #[.slice none 0 0, .slice none 0 0, .int .i64 0], []⟩).memory := laidMet_laidAll _ (by kernel_rfl) (by kernel_rfl)

set_option maxRecDepth 100000 in
theorem deskSubtitlesMatchSpec_lifted (os : Os) (started : os.Started) (H : Type) (enc : TypeId × Value → H) (F : Stop.Interp) :
  ReturnsInHanded {} Tryz.checked os 4 .any ((Rows.OpenSpec.upto Rows.deskSubtitlesMatchSpecSpec).preRow enc Tryz.prog Tryz.f4 Rows.deskSubtitlesMatchSpecUptoRow.domain false Rows.deskSubtitlesMatchSpecUptoRow.laid) (((Rows.OpenSpec.upto Rows.deskSubtitlesMatchSpecSpec).at F).post enc Tryz.prog Tryz.f4 false true false false) := by
 obtain ⟨places, hx⟩ := deskSubtitlesMatchSpec_reads os enc
 refine returnsInHanded_of_row (C := Tryz.checked) (s := Rows.OpenSpec.upto Rows.deskSubtitlesMatchSpecSpec) own started (by kernel_rfl) Tryz.func4
  (witness_row_at (enc := enc) (C := Tryz.checked) false (World.laidAll Tryz.prog os Rows.deskSubtitlesMatchSpecUptoRow.laid) #[.slice none 0 0, .slice none 0 0, .int .i64 0] (World.laidAll_os _ _ _) (by kernel_rfl) (by kernel_rfl) (by kernel_rfl)
   (OpenSpec.preRow_of_cond 8 hx (by kernel_rfl) (fun k hk => by cases hk; kernel_rfl) (by kernel_rfl) (deskSubtitlesMatchSpec_met os))) ?_
 intro W base args ds gs before hval hW _ hcond hsz hL hsh _
 exact deskSubtitlesMatchSpec_contract H enc W base args ds gs before hval hW (bulks.bound (hcond _ rfl)) hsz hL hsh

theorem deskSubtitlesMatchSpec_upto : Rows.DeskSubtitlesMatchSpecUptoSaid :=
 OpenClaim.holds_of_cond 4 Tryz.f4 rfl rfl rfl rfl rfl rfl rfl ⟨rfl, rfl, rfl, rfl, rfl⟩ rfl rfl rfl rfl rfl (by kernel_rfl) Tryz.func4 (by kernel_rfl)
  (of_decide_eq_true (by kernel_rfl)) (by unfold Func.isWrapper; first | (rw [if_pos (by decide +kernel)]; kernel_rfl) | (rw [if_neg (by decide +kernel)]; exact ⟨rfl, rfl⟩))
  (fun os started H enc _ F => by rw [OpenClaim.pre_eq_preRow]; exact deskSubtitlesMatchSpec_lifted os started H enc F)
#print axioms deskSubtitlesMatchSpec_upto

theorem deskSubtitlesMatchSpec_plain (f : FuncId) (fn : Func) (hf : Tryz.pinned.checked.prog.funcNamed "headend/headendlaw12.DeskSubtitlesMatchSpec" = some f) (hfn : Tryz.pinned.checked.prog.funcs[f]? = some fn) :
  true = Tryz.pinned.checked.prog.looks [] ∧ ∀ (j : Nat) t, fn.params[j]? = some t → Tryz.pinned.checked.prog.wantsStandIn t = false := by
 obtain rfl : f = 4 := Option.some.inj ((show Tryz.prog.funcNamed "headend/headendlaw12.DeskSubtitlesMatchSpec" = some 4 by kernel_rfl).symm.trans hf) |>.symm
 obtain rfl : fn = Tryz.f4 := (Option.some.inj (Tryz.func4.symm.trans hfn)).symm
 refine ⟨by kernel_rfl, fun j t ht => ?_⟩
 rw [Tryz.params4] at ht
 have hm : t ∈ [53, 25, 3] := by simpa using Array.mem_of_getElem? ht
 have hall : ([53, 25, 3].all fun u => !Tryz.prog.wantsStandIn u) = true := by kernel_rfl
 exact (show Tryz.prog.wantsStandIn t = false by simpa using List.all_eq_true.1 hall t hm)

theorem deskSubtitlesMatchSpec_card : Rows.DeskSubtitlesMatchSpecUptoCardSaid :=
 Claim7.holds_tied_plain_at .later [] _ _ _ _ deskSubtitlesMatchSpec_upto (fun _ h => by cases h) (by kernel_rfl) (fun _ h => by cases h) deskSubtitlesMatchSpecUpto_row_tie rfl ⟨rfl, rfl⟩ (by kernel_rfl) rfl deskSubtitlesMatchSpec_plain (by kernel_rfl)
#print axioms deskSubtitlesMatchSpec_card
end Go.Proofs.YtbeobbjiogbdlaaGreatDoor
