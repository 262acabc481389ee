/- What is proved here: which words a caption ends with, and whether one begins at a time (no statement of the seat). -/
import Derived.Test.YtdmccifaggmmkaaDoorC48
namespace Go.Proofs.YtdmccifaggmmkaaDoor
open Go Go.RowKit
set_option linter.unusedVariables false
set_option linter.unusedSimpArgs false

/-- The words of a time. -/
def F.came (t : Int) (l : List Wrd) : List ByteArray := (l.filter fun w => w.time == t).map (·.text)

theorem F.came_cons {t : Int} {w : Wrd} {l : List Wrd} : F.came t (w :: l) = (bif w.time == t then w.text :: F.came t l else F.came t l) := by
  unfold F.came
  rw [List.filter_cons]
  cases w.time == t <;> rfl

def F.all (c : Cap) : List ByteArray := F.split (F.join c.lines F.sp) F.sp

def F.endN (c : Cap) (l : List Wrd) (r : Int) : Nat := bif decide ((F.all c).length < (F.came c.fr l).length) && ((c.lines.length : Int) == r) then (F.all c).length else (F.came c.fr l).length

def F.endsW (c : Cap) (l : List Wrd) (r : Int) : Bool :=
  decide (0 < F.endN c l r) && decide (F.endN c l r ≤ (F.all c).length) && F.sameSL ((F.all c).drop ((F.all c).length - F.endN c l r)) ((F.came c.fr l).drop ((F.came c.fr l).length - F.endN c l r))

def F.smJ (c : Cap) : Bool := decide ((F.join c.lines F.sp).size ≤ 4294967280) && decide (c.lines.length ≤ 1000)

namespace M

theorem loop_anyB {E : Env} {x : Code} {γ : Type} {n e r : List Nat × List Nat} {xs : List γ} {st : Nat → St} {p : γ → Bool} {o fin : Ex × St}
    (hfin : ((exec E x (st xs.length)).bind (lessX n e r)).val = some fin) (hf1 : fin.1 ≠ .normal ∧ closedB fin.2 = true) (ho : o.1 ≠ .normal ∧ closedB o.2 = true) (hs : ∀ k, closedB (st k) = true)
    (hgo : ∀ k y, xs[k]? = some y → ((exec E x (st k)).bind (lessX n e r)).val = bif p y then some o else some (.normal, st (k + 1))) :
    ∀ k, k ≤ xs.length → ∀ ex s', (T.ifB ((xs.drop k).any p) (.ret o) (.ret fin)).val = some (ex, s') → LoopOK E x (st k) ex s' := by
  intro k hk ex s' h
  refine loop_all (xs := xs) (st := st) (p := fun y => !p y) (o := o) (fin := fin) hfin hf1 ho hs (fun k y hy => ?_) k hk ex s' ?_
  · rw [hgo k y hy]; cases p y <;> rfl
  · rw [← h]
    have : (xs.drop k).all (fun y => !p y) = !(xs.drop k).any p := by rw [List.not_any_eq_all_not]
    rw [this]
    cases (xs.drop k).any p <;> rfl

def stEW (c : Cap) (l : List Wrd) (r : Int) (out : List ByteArray) (k : Nat) : St := ⟨[(14, vI k), (13, vI l.length), (12, .sl (l.map eWrd)), (7, .own 7), (3, .ptr 3 0 0), (2, vI r)], [(7, ⟨false, 9, 1, out.map eStr⟩), (3, ⟨true, 0, 0, [eCap c]⟩)]⟩

def stEW1 (a : Cap × (List Wrd) × Int × (List ByteArray) × Nat) : St := stEW a.1 a.2.1 a.2.2.1 a.2.2.2.1 a.2.2.2.2

theorem stEW_inj (a a' : Cap × (List Wrd) × Int × (List ByteArray) × Nat) (h : stEW1 a = stEW1 a') : a = a' := by
  simp only [stEW1, stEW] at h
  try simp [strs_inj, ints_inj, bools_inj, eCaps_inj, eCap_iff, eL_eCaps_inj, eMchs_inj, eMch_iff, eWrds_inj, eWrd_iff, eFnds_inj, eFnd_iff, eRatios_inj, eRatio_iff, eWays_inj, eWay_iff] at h
  grind

theorem unstEW (c : Cap) (l : List Wrd) (r : Int) (out : List ByteArray) (k : Nat) : unenc stEW1 (St.mk [(14, (vI (↑k : Int))), (13, (vI (↑(List.length l) : Int))), (12, AV.sl (List.map eWrd l)), (7, .own 7), (3, .ptr 3 0 0), (2, (vI r))] [(7, Blk.mk false 9 1
  (List.map eStr out)), (3, Blk.mk true 0 0 [[(vI c.fr), (vI c.to), AV.sl (List.map eStr c.lines), (vI c.row), (vB c.bef), (vB c.aft)]])]) = some (c, l, r, out, k) := unenc_of stEW_inj (c, l, r, out, k) rfl

theorem unstEW0 (c : Cap) (l : List Wrd) (r : Int)  : unenc stEW1 (St.mk [(14, (vI (0 : Int))), (13, (vI (↑(List.length l) : Int))), (12, AV.sl (List.map eWrd l)), (7, .own 7), (3, .ptr 3 0 0), (2, (vI r))] [(7, Blk.mk false 9 1 []), (3,
  Blk.mk true 0 0 [[(vI c.fr), (vI c.to), AV.sl (List.map eStr c.lines), (vI c.row), (vB c.bef), (vB c.aft)]])]) = some (c, l, r, [], 0) := unenc_of stEW_inj (c, l, r, [], 0) rfl

def outEW (c : Cap) (l : List Wrd) (r : Int) (out : List ByteArray) (k : Nat) : T (Ex × St) := .ret (.exit 0, ⟨[(7, .own 7), (3, .ptr 3 0 0), (2, vI r)], [(7, ⟨false, 9, 1, (out ++ F.came c.fr (l.drop k)).map eStr⟩), (3, ⟨true, 0, 0, [eCap c]⟩)]⟩)

noncomputable def prlEW (c : Cap) (l : List Wrd) (r : Int) (out : List ByteArray) (k : Nat) : Bool := decide (l.length ≤ 500) && decide (k ≤ l.length) && decide (out.length ≤ k)

noncomputable def lpEW : Nat × (St → T (Ex × St)) := (3, lpo [14, 13, 12, 7, 3, 2] [7, 3] stEW1 (fun a => prlEW a.1 a.2.1 a.2.2.1 a.2.2.2.1 a.2.2.2.2) fun a => outEW a.1 a.2.1 a.2.2.1 a.2.2.2.1 a.2.2.2.2)

noncomputable def enEW : Env := envH ty noG lks [oSpl, oJoi, oEqS] [] [68] [lpEW]

theorem enEW_ok : EnvOK Tryd.prog enEW := by
  refine envH_ok lks_ok ty_ok ?_ ?_
  · simp only [List.forall_mem_cons]
    exact ⟨okSpl, okJoi, okEqS, by simp⟩
  · simp

theorem evEWL (c : Cap) (l : List Wrd) (r : Int) (out : List ByteArray) (k : Nat) : ((exec enEW (loopN Tryd.f11 0) (stEW c l r out k)).bind (lessX ([14, 13, 12, 7, 3, 2], [7, 3]) ([7, 3, 2], [7, 3]) ([], []))).val =
  bif decide ((↑k : Int) < (↑(List.length l) : Int)) then Option.bind (unenc (List.map eWrd) (List.map eWrd l)) fun (z : List Wrd) => bif decide (k < List.length z) then bif
  (List.getD z k (Wrd.mk (0 : Int) (ByteArray.mk (Array.mk [])))).time == c.fr then bif Nat.ble ((List.length (List.map eStr out) + (1 : Nat)) * (16 : Nat)) (140737488355328
  : Nat) && true then some (Ex.normal, St.mk [(14, (vI (IntKind.wrap IntKind.i64 ((↑k : Int) + (1 : Int))))), (13, (vI (↑(List.length l) : Int))), (12, AV.sl (List.map eWrd
  l)), (7, .own 7), (3, .ptr 3 0 0), (2, (vI r))] [(7, Blk.mk false 9 1 (List.map eStr out ++ [[(vS (List.getD z k (Wrd.mk (0 : Int) (ByteArray.mk (Array.mk
  [])))).text)]])), (3, Blk.mk true 0 0 [[(vI c.fr), (vI c.to), AV.sl (List.map eStr c.lines), (vI c.row), (vB c.bef), (vB c.aft)]])]) else none else some (Ex.normal, St.mk
  [(14, (vI (IntKind.wrap IntKind.i64 ((↑k : Int) + (1 : Int))))), (13, (vI (↑(List.length l) : Int))), (12, AV.sl (List.map eWrd l)), (7, .own 7), (3, .ptr 3 0 0), (2, (vI
  r))] [(7, Blk.mk false 9 1 (List.map eStr out)), (3, Blk.mk true 0 0 [[(vI c.fr), (vI c.to), AV.sl (List.map eStr c.lines), (vI c.row), (vB c.bef), (vB c.aft)]])]) else
  none else some (Ex.exit (0 : Nat), St.mk [(7, .own 7), (3, .ptr 3 0 0), (2, (vI r))] [(7, Blk.mk false 9 1 (List.map eStr out)), (3, Blk.mk true 0 0 [[(vI c.fr), (vI
  c.to), AV.sl (List.map eStr c.lines), (vI c.row), (vB c.bef), (vB c.aft)]])]) := (execR_bind _ _ _).symm.trans (by kernel_rfl)

theorem lpEW_ok (c : Cap) (l : List Wrd) (r : Int) (out : List ByteArray) (k : Nat) (hp : prlEW c l r out k = true) : ∀ ex s', (outEW c l r out k).val = some (ex, s') → LoopOK enEW (loopN Tryd.f11 0) (stEW c l r out k) ex s' := by
  simp only [prlEW, Bool.and_eq_true, decide_eq_true_eq] at hp
  obtain ⟨⟨h1, h2⟩, h3⟩ := hp
  intro ex s' hh
  refine loop_fold (xs := l) (st := fun o k => stEW c l r o k) (f := fun (o : List ByteArray) (w : Wrd) => bif w.time == c.fr then o ++ [w.text] else o) (fin := fun o => (.exit 0, ⟨[(7, .own 7), (3, .ptr 3 0 0), (2, vI r)], [(7, ⟨false, 9, 1, o.map eStr⟩), (3, ⟨true, 0, 0, [eCap c]⟩)]⟩)) (I := fun o k => o.length ≤ k) (n := ([14, 13, 12, 7, 3, 2], [7, 3])) (e := ([7, 3, 2], [7, 3])) (r := ([], [])) ?_ (fun o => ⟨by simp, rfl⟩) (fun _ _ => rfl) ?_ out k h2 h3 ex s' ?_
  · intro o _
    rw [evEWL]
    simp only [List.length_map, Int.lt_irrefl, decide_false, cond_false]
    rfl
  · intro o k y hy ho
    have hlt := lt_at hy
    have hb : Nat.ble ((o.length + 1) * 16) 140737488355328 = true := ble_t (by omega)
    rw [evEWL]
    simp only [unSpl, unJoi, unEqS, preSpl1, preJoi1, preEqS1, unstEW, unstEW0, prlEW, outEW, etaCap, etaMch, etaWrd, etaFnd, etaRatio, etaWay, Option.bind_some, List.length_map, unStrs, unInts, unBools, unCaps, uneL_eCaps, unMchs, unWrds, unFnds, unRatios, unWays, F.lt, F.le, cond_true, cond_false, Bool.and_true, Bool.true_and, cast_lt hlt, decide_eq_true hlt, next_at hlt (by omega : l.length ≤ 9223372036854775807), getD_at hy, hb, appStrs', stEW]
    cases y.time == c.fr
    · exact ⟨rfl, by simp only [cond_false]; omega⟩
    · exact ⟨rfl, by simp only [cond_true, List.length_append, List.length_singleton]; omega⟩
  · rw [← hh]
    have : ∀ (xs : List Wrd) (o : List ByteArray), xs.foldl (fun (o : List ByteArray) (w : Wrd) => bif w.time == c.fr then o ++ [w.text] else o) o = o ++ F.came c.fr xs := by
      intro xs
      induction xs with
      | nil => intro o; simp [F.came]
      | cons x xs ih =>
        intro o
        rw [List.foldl_cons, ih, F.came_cons]
        cases x.time == c.fr <;> simp
    rw [this]
    rfl

theorem endT (V G : List ByteArray) (n : Nat) (hv : V.length ≤ 4294967281) (hg : G.length ≤ 500) (hn : n ≤ G.length) :
    (bif bif decide ((0 : Int) < (n : Int)) then decide ((n : Int) ≤ (V.length : Int)) else false then Option.bind (idx (IntKind.i64.wrap ((V.length : Int) - (n : Int)))) fun z3 : Nat =>
      bif Nat.ble z3 V.length && Nat.ble V.length V.length && (V.map eStr).all (fun r : Row => Nat.beq (List.length r) 1) then Option.bind (idx (IntKind.i64.wrap ((G.length : Int) - (n : Int)))) fun z4 : Nat =>
        bif Nat.ble z4 G.length && Nat.ble G.length G.length then Option.bind (unenc encEqS [.sl ((V.map eStr).drop z3), .sl (((G.map eStr).drop (0 + z4)).take (G.length - z4))]) fun z : List ByteArray × List ByteArray => some (vB (F.sameSL z.1 z.2), ([] : Heap)) else none else none else some (vB false, [])) =
    some (vB (decide (0 < n) && decide (n ≤ V.length) && F.sameSL (V.drop (V.length - n)) (G.drop (G.length - n))), []) := by
  by_cases h0 : 0 < n
  · by_cases h1 : n ≤ V.length
    · have i1 : idx (IntKind.i64.wrap ((V.length : Int) - (n : Int))) = some (V.length - n) := by rw [wrap_id (by omega) (by omega), show (V.length : Int) - (n : Int) = ((V.length - n : Nat) : Int) by omega]; rfl
      have i2 : idx (IntKind.i64.wrap ((G.length : Int) - (n : Int))) = some (G.length - n) := by rw [wrap_id (by omega) (by omega), show (G.length : Int) - (n : Int) = ((G.length - n : Nat) : Int) by omega]; rfl
      have e1 : (V.map eStr).drop (V.length - n) = (V.drop (V.length - n)).map eStr := (List.map_drop ..).symm
      have e2 : ((G.map eStr).drop (0 + (G.length - n))).take (G.length - (G.length - n)) = (G.drop (G.length - n)).map eStr := by
        rw [Nat.zero_add, List.take_of_length_le (by rw [List.length_drop, List.length_map]; omega), List.map_drop]
      rw [decide_eq_true (show (0 : Int) < (n : Int) by omega), decide_eq_true (show (n : Int) ≤ (V.length : Int) by omega), cond_true, cond_true, i1, Option.bind_some, ble_t (by omega : V.length - n ≤ V.length), ble_t (Nat.le_refl V.length), all_strs, i2, Option.bind_some]
      simp only [Bool.and_self, cond_true, ble_t (by omega : G.length - n ≤ G.length), ble_t (Nat.le_refl G.length)]
      rw [e1, e2, unEqS, Option.bind_some, decide_eq_true h0, decide_eq_true h1]
      rfl
    · rw [decide_eq_true (show (0 : Int) < (n : Int) by omega), decide_eq_false (show ¬ (n : Int) ≤ (V.length : Int) by omega), cond_true, cond_false, decide_eq_true h0, decide_eq_false h1]
      rfl
  · rw [decide_eq_false (show ¬ (0 : Int) < (n : Int) by omega), cond_false, cond_false, decide_eq_false h0]
    rfl

theorem came_len (t : Int) (l : List Wrd) : (F.came t l).length ≤ l.length := by
  unfold F.came; rw [List.length_map]; exact List.length_filter_le ..

theorem all_len (c : Cap) (h : (F.join c.lines F.sp).size ≤ 4294967280) : (F.all c).length ≤ 4294967281 := by
  unfold F.all
  rw [F.split_len (show 1 ≤ F.sp.size from Nat.le_refl 1)]
  have := Lib.countB_le F.sp (Nat.le_refl 1) _ (F.join c.lines F.sp) (Nat.le_refl _)
  omega

theorem evEW (c : Cap) (l : List Wrd) (r : Int) : (runF enEW false Tryd.f11 [.agg (eCap c), .sl (l.map eWrd), vI r]).val =
  Option.bind (unenc stEW1 (St.mk [(14, (vI (0 : Int))), (13, (vI (↑(List.length (List.map eWrd l)) : Int))), (12, AV.sl (List.map eWrd l)), (7, .own 7), (3, .ptr 3 0 0),
  (2, (vI r))] [(7, Blk.mk false 9 1 []), (3, Blk.mk true 0 0 [[(vI c.fr), (vI c.to), AV.sl (List.map eStr c.lines), (vI c.row), (vB c.bef), (vB c.aft)]])])) fun (z : Cap ×
  List Wrd × Int × List ByteArray × Nat) => bif decide (List.length z.snd.fst ≤ (500 : Nat)) && decide (z.snd.snd.snd.snd ≤ List.length z.snd.fst) && decide (List.length
  z.snd.snd.snd.fst ≤ z.snd.snd.snd.snd) && true then Option.bind (unenc encJoi [AV.sl (List.map eStr z.fst.lines), (vS (ByteArray.mk (Array.mk [(32 : UInt8)])))]) fun (z_1
  : List ByteArray × ByteArray) => bif decide (ByteArray.size (F.join z_1.fst z_1.snd) ≤ (140737488355328 : Nat)) && decide (List.length z_1.fst ≤ (140737488355328 : Nat))
  then Option.bind (unenc encSpl [(vS (F.join z_1.fst z_1.snd)), (vS (ByteArray.mk (Array.mk [(32 : UInt8)])))]) fun (z_2 : ByteArray × ByteArray) => bif decide
  (ByteArray.size z_2.fst ≤ (4294967280 : Nat)) && decide ((1 : Nat) ≤ ByteArray.size z_2.snd) then bif bif decide ((↑(List.length (List.map eStr (F.split z_2.fst z_2.snd)))
  : Int) < (↑(List.length (List.map eStr (z.snd.snd.snd.fst ++ F.came z.fst.fr (List.drop z.snd.snd.snd.snd z.snd.fst)))) : Int)) then (↑(List.length (List.map eStr
  z.fst.lines)) : Int) == z.snd.snd.fst else false then bif bif decide ((0 : Int) < (↑(List.length (List.map eStr (F.split z_2.fst z_2.snd))) : Int)) then decide
  ((↑(List.length (List.map eStr (F.split z_2.fst z_2.snd))) : Int) ≤ (↑(List.length (List.map eStr (F.split z_2.fst z_2.snd))) : Int)) else false then Option.bind (idx
  (IntKind.wrap IntKind.i64 ((↑(List.length (List.map eStr (F.split z_2.fst z_2.snd))) : Int) - (↑(List.length (List.map eStr (F.split z_2.fst z_2.snd))) : Int)))) fun (z_3
  : Nat) => bif Nat.ble z_3 (List.length (List.map eStr (F.split z_2.fst z_2.snd))) && Nat.ble (List.length (List.map eStr (F.split z_2.fst z_2.snd))) (List.length (List.map
  eStr (F.split z_2.fst z_2.snd))) && List.all (List.map eStr (F.split z_2.fst z_2.snd)) fun (r : Row) => Nat.beq (List.length r) (1 : Nat) then Option.bind (idx
  (IntKind.wrap IntKind.i64 ((↑(List.length (List.map eStr (z.snd.snd.snd.fst ++ F.came z.fst.fr (List.drop z.snd.snd.snd.snd z.snd.fst)))) : Int) - (↑(List.length (List.map
  eStr (F.split z_2.fst z_2.snd))) : Int)))) fun (z_4 : Nat) => bif Nat.ble z_4 (List.length (List.map eStr (z.snd.snd.snd.fst ++ F.came z.fst.fr (List.drop
  z.snd.snd.snd.snd z.snd.fst)))) && Nat.ble (List.length (List.map eStr (z.snd.snd.snd.fst ++ F.came z.fst.fr (List.drop z.snd.snd.snd.snd z.snd.fst)))) (List.length
  (List.map eStr (z.snd.snd.snd.fst ++ F.came z.fst.fr (List.drop z.snd.snd.snd.snd z.snd.fst)))) then Option.bind (unenc encEqS [AV.sl (List.drop z_3 (List.map eStr
  (F.split z_2.fst z_2.snd))), AV.sl (List.take (List.length (List.map eStr (z.snd.snd.snd.fst ++ F.came z.fst.fr (List.drop z.snd.snd.snd.snd z.snd.fst))) - z_4) (List.drop
  ((0 : Nat) + z_4) (List.map eStr (z.snd.snd.snd.fst ++ F.came z.fst.fr (List.drop z.snd.snd.snd.snd z.snd.fst)))))]) fun (z : List ByteArray × List ByteArray) => some ((vB
  (F.sameSL z.fst z.snd)), []) else none else none else some ((vB false), []) else bif bif decide ((0 : Int) < (↑(List.length (List.map eStr (z.snd.snd.snd.fst ++ F.came
  z.fst.fr (List.drop z.snd.snd.snd.snd z.snd.fst)))) : Int)) then decide ((↑(List.length (List.map eStr (z.snd.snd.snd.fst ++ F.came z.fst.fr (List.drop z.snd.snd.snd.snd
  z.snd.fst)))) : Int) ≤ (↑(List.length (List.map eStr (F.split z_2.fst z_2.snd))) : Int)) else false then Option.bind (idx (IntKind.wrap IntKind.i64 ((↑(List.length
  (List.map eStr (F.split z_2.fst z_2.snd))) : Int) - (↑(List.length (List.map eStr (z.snd.snd.snd.fst ++ F.came z.fst.fr (List.drop z.snd.snd.snd.snd z.snd.fst)))) :
  Int)))) fun (z_3 : Nat) => bif Nat.ble z_3 (List.length (List.map eStr (F.split z_2.fst z_2.snd))) && Nat.ble (List.length (List.map eStr (F.split z_2.fst z_2.snd)))
  (List.length (List.map eStr (F.split z_2.fst z_2.snd))) && List.all (List.map eStr (F.split z_2.fst z_2.snd)) fun (r : Row) => Nat.beq (List.length r) (1 : Nat) then
  Option.bind (idx (IntKind.wrap IntKind.i64 ((↑(List.length (List.map eStr (z.snd.snd.snd.fst ++ F.came z.fst.fr (List.drop z.snd.snd.snd.snd z.snd.fst)))) : Int) -
  (↑(List.length (List.map eStr (z.snd.snd.snd.fst ++ F.came z.fst.fr (List.drop z.snd.snd.snd.snd z.snd.fst)))) : Int)))) fun (z_4 : Nat) => bif Nat.ble z_4 (List.length
  (List.map eStr (z.snd.snd.snd.fst ++ F.came z.fst.fr (List.drop z.snd.snd.snd.snd z.snd.fst)))) && Nat.ble (List.length (List.map eStr (z.snd.snd.snd.fst ++ F.came
  z.fst.fr (List.drop z.snd.snd.snd.snd z.snd.fst)))) (List.length (List.map eStr (z.snd.snd.snd.fst ++ F.came z.fst.fr (List.drop z.snd.snd.snd.snd z.snd.fst)))) then
  Option.bind (unenc encEqS [AV.sl (List.drop z_3 (List.map eStr (F.split z_2.fst z_2.snd))), AV.sl (List.take (List.length (List.map eStr (z.snd.snd.snd.fst ++ F.came
  z.fst.fr (List.drop z.snd.snd.snd.snd z.snd.fst))) - z_4) (List.drop ((0 : Nat) + z_4) (List.map eStr (z.snd.snd.snd.fst ++ F.came z.fst.fr (List.drop z.snd.snd.snd.snd
  z.snd.fst)))))]) fun (z : List ByteArray × List ByteArray) => some ((vB (F.sameSL z.fst z.snd)), []) else none else none else some ((vB false), []) else none else none
  else none := (runFR_val).symm.trans (by kernel_rfl)

def encEW1 (c : Cap) (l : List Wrd) (r : Int) : List AV := [.agg (eCap c), .sl (l.map eWrd), vI r]

def encEW (a : Cap × (List Wrd) × Int) : List AV := encEW1 a.1 a.2.1 a.2.2

theorem encEW_inj (a a' : Cap × (List Wrd) × Int) (h : encEW a = encEW a') : a = a' := by
  simp only [encEW, encEW1] at h
  try simp [strs_inj, ints_inj, bools_inj, eCaps_inj, eCap_iff, eL_eCaps_inj, eMchs_inj, eMch_iff, eWrds_inj, eWrd_iff, eFnds_inj, eFnd_iff, eRatios_inj, eRatio_iff, eWays_inj, eWay_iff] at h
  grind

theorem unEW (c : Cap) (l : List Wrd) (r : Int) : unenc encEW ([AV.agg [(vI c.fr), (vI c.to), AV.sl (List.map eStr c.lines), (vI c.row), (vB c.bef), (vB c.aft)], AV.sl (List.map eWrd l), (vI r)]) = some (c, l, r) := unenc_of encEW_inj (c, l, r) rfl

theorem unEWw (c_fr : Int) (c_to : Int) (c_lines : List ByteArray) (c_row : Int) (c_bef : Bool) (c_aft : Bool) (l : List Wrd) (r : Int) : unenc encEW ([AV.agg [(vI c_fr), (vI c_to), AV.sl (List.map eStr c_lines), (vI c_row), (vB c_bef), (vB c_aft)], AV.sl (List.map eWrd l), (vI r)]) = some ((Cap.mk c_fr c_to c_lines c_row c_bef c_aft), l, r) := unenc_of encEW_inj ((Cap.mk c_fr c_to c_lines c_row c_bef c_aft), l, r) rfl

def resEW1 (c : Cap) (l : List Wrd) (r : Int) : AV × Heap := (vB (F.endsW c l r), [])

def preEW1 (c : Cap) (l : List Wrd) (r : Int) : Bool := F.smJ c && decide (l.length ≤ 500)

noncomputable def oEW : Orc := orc 11 true encEW (fun a => preEW1 a.1 a.2.1 a.2.2) fun a => resEW1 a.1 a.2.1 a.2.2

theorem okEW : OrcOK Tryd.prog noG oEW := by
  refine mk_ok Tryd.f11 (keep := false) (by kernel_rfl) (by kernel_rfl) enEW_ok mixed (one_loop (x0 := loopN Tryd.f11 0) (by kernel_rfl) (lpo_ok ?_)) (by first | exact fun _ _ => ⟨rfl, rfl⟩ | (intro h; cases h)) ?_
  · rintro ⟨c, l, r, out, k⟩ hp
    exact lpEW_ok c l r out k hp
  rintro ⟨c, l, r⟩ hpre hok
  show (runF enEW false _ (encEW1 _ _ _)).val = some (resEW1 _ _ _)
  unfold encEW1 resEW1
  rw [evEW]
  simp only [preEW1, F.smJ, Bool.and_eq_true, decide_eq_true_eq] at hpre
  obtain ⟨⟨h1, h2⟩, h3⟩ := hpre
  have esp : (⟨⟨[32]⟩⟩ : ByteArray) = F.sp := rfl
  have d1 : decide ((F.join c.lines F.sp).size ≤ 140737488355328) = true := decide_eq_true (by omega)
  have d2 : decide (c.lines.length ≤ 140737488355328) = true := decide_eq_true (by omega)
  have d3 : decide ((F.join c.lines F.sp).size ≤ 4294967280) = true := decide_eq_true h1
  have d4 : decide (1 ≤ F.sp.size) = true := rfl
  have d5 : decide (l.length ≤ 500) = true := decide_eq_true h3
  have d6 : decide (([] : List ByteArray).length ≤ 0) = true := rfl
  have hV : F.split (F.join c.lines F.sp) F.sp = F.all c := rfl
  have hv := all_len c h1
  have hg := Nat.le_trans (came_len c.fr l) h3
  have ec : decide (((F.all c).length : Int) < ((F.came c.fr l).length : Int)) = decide ((F.all c).length < (F.came c.fr l).length) := decide_eq_decide.2 Int.ofNat_lt
  simp only [unSpl, unJoi, unEqS, preSpl1, preJoi1, preEqS1, unstEW, unstEW0, prlEW, outEW, etaCap, etaMch, etaWrd, etaFnd, etaRatio, etaWay, Option.bind_some, List.length_map, unStrs, unInts, unBools, unCaps, uneL_eCaps, unMchs, unWrds, unFnds, unRatios, unWays, F.lt, F.le, cond_true, cond_false, Bool.and_true, Bool.true_and, esp, List.drop_zero, List.nil_append, Nat.zero_le, decide_true, d1, d2, d3, d4, d5, d6, Bool.and_self, hV, ec]
  by_cases hc : (F.all c).length < (F.came c.fr l).length
  · cases hr : (c.lines.length : Int) == r
    · rw [decide_eq_true hc, cond_true, cond_false, endT _ _ _ hv hg (Nat.le_refl _)]
      simp only [F.endsW, F.endN, decide_eq_true hc, hr, Bool.and_false, cond_false]
    · rw [decide_eq_true hc, cond_true, cond_true, endT _ _ _ hv hg (by omega)]
      simp only [F.endsW, F.endN, decide_eq_true hc, hr, Bool.and_self, cond_true]
  · rw [decide_eq_false hc, cond_false, cond_false, endT _ _ _ hv hg (Nat.le_refl _)]
    simp only [F.endsW, F.endN, decide_eq_false hc, Bool.false_and, cond_false]

def stBg (l : List Cap) (t : Int) (k : Nat) : St := ⟨[(9, vI k), (8, vI l.length), (7, .sl (l.map eCap)), (1, vI t)], []⟩

def stBg1 (a : (List Cap) × Int × Nat) : St := stBg a.1 a.2.1 a.2.2

theorem stBg_inj (a a' : (List Cap) × Int × Nat) (h : stBg1 a = stBg1 a') : a = a' := by
  simp only [stBg1, stBg] at h
  try simp [strs_inj, ints_inj, bools_inj, eCaps_inj, eCap_iff, eL_eCaps_inj, eMchs_inj, eMch_iff, eWrds_inj, eWrd_iff, eFnds_inj, eFnd_iff, eRatios_inj, eRatio_iff, eWays_inj, eWay_iff] at h
  grind

theorem unstBg (l : List Cap) (t : Int) (k : Nat) : unenc stBg1 (St.mk [(9, (vI (↑k : Int))), (8, (vI (↑(List.length l) : Int))), (7, AV.sl (List.map eCap l)), (1, (vI t))] []) = some (l, t, k) := unenc_of stBg_inj (l, t, k) rfl

theorem unstBg0 (l : List Cap) (t : Int)  : unenc stBg1 (St.mk [(9, (vI (0 : Int))), (8, (vI (↑(List.length l) : Int))), (7, AV.sl (List.map eCap l)), (1, (vI t))] []) = some (l, t, 0) := unenc_of stBg_inj (l, t, 0) rfl

def outBg (l : List Cap) (t : Int) (k : Nat) : T (Ex × St) := .ifB ((l.drop k).any fun c => c.fr == t) (.ret (.ret, ⟨[(4, vB true)], []⟩)) (.ret (.exit 0, ⟨[], []⟩))

noncomputable def prlBg (l : List Cap) (t : Int) (k : Nat) : Bool := decide (l.length ≤ 500) && decide (k ≤ l.length)

noncomputable def lpBg : Nat × (St → T (Ex × St)) := (2, lpo [9, 8, 7, 1] [] stBg1 (fun a => prlBg a.1 a.2.1 a.2.2) fun a => outBg a.1 a.2.1 a.2.2)

noncomputable def enBg : Env := envH ty noG lks [] [] [] [lpBg]

theorem enBg_ok : EnvOK Tryd.prog enBg := by
  refine envH_ok lks_ok ty_ok ?_ ?_
  · simp
  · simp

theorem evBgL (l : List Cap) (t : Int) (k : Nat) : ((exec enBg (loopN Tryd.f12 0) (stBg l t k)).bind (lessX ([9, 8, 7, 1], []) ([], []) ([4], []))).val =
  bif decide ((↑k : Int) < (↑(List.length l) : Int)) then Option.bind (unenc (List.map eCap) (List.map eCap l)) fun (z : List Cap) => bif decide (k < List.length z) then bif
  (List.getD z k (Cap.mk (0 : Int) (0 : Int) [] (0 : Int) false false)).fr == t then some (Ex.ret, St.mk [(4, (vB true))] []) else some (Ex.normal, St.mk [(9, (vI
  (IntKind.wrap IntKind.i64 ((↑k : Int) + (1 : Int))))), (8, (vI (↑(List.length l) : Int))), (7, AV.sl (List.map eCap l)), (1, (vI t))] []) else none else some (Ex.exit (0 :
  Nat), St.mk [] []) := (execR_bind _ _ _).symm.trans (by kernel_rfl)

theorem lpBg_ok (l : List Cap) (t : Int) (k : Nat) (hp : prlBg l t k = true) : ∀ ex s', (outBg l t k).val = some (ex, s') → LoopOK enBg (loopN Tryd.f12 0) (stBg l t k) ex s' := by
  simp only [prlBg, Bool.and_eq_true, decide_eq_true_eq] at hp
  obtain ⟨h1, h2⟩ := hp
  refine loop_anyB (xs := l) (st := stBg l t) (p := fun c => c.fr == t) (n := ([9, 8, 7, 1], [])) (e := ([], [])) (r := ([4], [])) ?_ ⟨by simp, rfl⟩ ⟨by simp, rfl⟩ (fun _ => rfl) ?_ k h2
  · rw [evBgL]; simp
  · intro k y hy
    have hlt := lt_at hy
    rw [evBgL]
    simp only [unstBg, unstBg0, prlBg, outBg, etaCap, etaMch, etaWrd, etaFnd, etaRatio, etaWay, Option.bind_some, List.length_map, unStrs, unInts, unBools, unCaps, uneL_eCaps, unMchs, unWrds, unFnds, unRatios, unWays, F.lt, F.le, cond_true, cond_false, Bool.and_true, Bool.true_and, cast_lt hlt, decide_eq_true hlt, next_at hlt (by omega : l.length ≤ 9223372036854775807), getD_at hy, stBg]

theorem evBg (l : List Cap) (t : Int) : (runF enBg false Tryd.f12 [.sl (l.map eCap), vI t]).val =
  Option.bind (unenc stBg1 (St.mk [(9, (vI (0 : Int))), (8, (vI (↑(List.length (List.map eCap l)) : Int))), (7, AV.sl (List.map eCap l)), (1, (vI t))] [])) fun (z : List Cap
  × Int × Nat) => bif decide (List.length z.fst ≤ (500 : Nat)) && decide (z.snd.snd ≤ List.length z.fst) && true then bif List.any (List.drop z.snd.snd z.fst) fun (c : Cap)
  => c.fr == z.snd.fst then some ((vB true), []) else some ((vB false), []) else none := (runFR_val).symm.trans (by kernel_rfl)

def encBg1 (l : List Cap) (t : Int) : List AV := [.sl (l.map eCap), vI t]

def encBg (a : (List Cap) × Int) : List AV := encBg1 a.1 a.2

theorem encBg_inj (a a' : (List Cap) × Int) (h : encBg a = encBg a') : a = a' := by
  simp only [encBg, encBg1] at h
  try simp [strs_inj, ints_inj, bools_inj, eCaps_inj, eCap_iff, eL_eCaps_inj, eMchs_inj, eMch_iff, eWrds_inj, eWrd_iff, eFnds_inj, eFnd_iff, eRatios_inj, eRatio_iff, eWays_inj, eWay_iff] at h
  grind

theorem unBg (l : List Cap) (t : Int) : unenc encBg ([AV.sl (List.map eCap l), (vI t)]) = some (l, t) := unenc_of encBg_inj (l, t) rfl

def resBg1 (l : List Cap) (t : Int) : AV × Heap := (vB (l.any fun c => c.fr == t), [])

def preBg1 (l : List Cap) (t : Int) : Bool := decide (l.length ≤ 500)

noncomputable def oBg : Orc := orc 12 true encBg (fun a => preBg1 a.1 a.2) fun a => resBg1 a.1 a.2

theorem okBg : OrcOK Tryd.prog noG oBg := by
  refine mk_ok Tryd.f12 (keep := false) (by kernel_rfl) (by kernel_rfl) enBg_ok mixed (one_loop (x0 := loopN Tryd.f12 0) (by kernel_rfl) (lpo_ok ?_)) (by first | exact fun _ _ => ⟨rfl, rfl⟩ | (intro h; cases h)) ?_
  · rintro ⟨l, t, k⟩ hp
    exact lpBg_ok l t k hp
  rintro ⟨l, t⟩ hpre hok
  show (runF enBg false _ (encBg1 _ _)).val = some (resBg1 _ _)
  unfold encBg1 resBg1
  rw [evBg]
  simp only [preBg1] at hpre
  simp only [unstBg, unstBg0, prlBg, outBg, etaCap, etaMch, etaWrd, etaFnd, etaRatio, etaWay, Option.bind_some, List.length_map, unStrs, unInts, unBools, unCaps, uneL_eCaps, unMchs, unWrds, unFnds, unRatios, unWays, F.lt, F.le, cond_true, cond_false, Bool.and_true, Bool.true_and, hpre, List.drop_zero, Nat.zero_le, decide_true, Bool.and_self]
  cases l.any fun c => c.fr == t <;> rfl

end M
end Go.Proofs.YtdmccifaggmmkaaDoor
