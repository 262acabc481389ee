/- What is proved here: what headendref1.add and less return on limbs (no statement of the seat). -/
import Derived.Test.YtlemjphdhapfpaaGreatDoorD87
namespace Go.Proofs.YtlemjphdhapfpaaGreatDoor
open Go Go.RowKit
set_option linter.unusedVariables false
set_option linter.unusedSimpArgs false

/-- The limb at a place, or nought. -/
def F.at0 (a : List Int) (k : Nat) : Int := bif decide (k < a.length) then a.getD k 0 else 0

/-- So many limbs of a sum from a place on, and the last carry. -/
def F.addR (a b : List Int) : Nat → Nat → Int → List Int × Int
  | 0, _, c => ([], c)
  | n + 1, k, c => ((c + F.at0 a k + F.at0 b k) % 10000 :: (F.addR a b n (k + 1) ((c + F.at0 a k + F.at0 b k) / 10000)).1, (F.addR a b n (k + 1) ((c + F.at0 a k + F.at0 b k) / 10000)).2)

theorem F.at0_nil (k : Nat) : F.at0 [] k = 0 := rfl

theorem F.at0_z (x : Int) (a : List Int) : F.at0 (x :: a) 0 = x := by simp [F.at0]

theorem F.at0_s (x : Int) (a : List Int) (k : Nat) : F.at0 (x :: a) (k + 1) = F.at0 a k := by
  unfold F.at0
  by_cases h : k < a.length
  · simp [h]
  · simp [h]

theorem F.addR_ss (x y : Int) (a b : List Int) : ∀ n k c, F.addR (x :: a) (y :: b) n (k + 1) c = F.addR a b n k c
  | 0, k, c => rfl
  | n + 1, k, c => by rw [F.addR, F.addR, F.at0_s, F.at0_s, F.addR_ss]

theorem F.addR_sn (x : Int) (a : List Int) : ∀ n k c, F.addR (x :: a) [] n (k + 1) c = F.addR a [] n k c
  | 0, k, c => rfl
  | n + 1, k, c => by rw [F.addR, F.addR, F.at0_s, F.at0_nil, F.at0_nil, F.addR_sn]

theorem F.addR_ns (y : Int) (b : List Int) : ∀ n k c, F.addR [] (y :: b) n (k + 1) c = F.addR [] b n k c
  | 0, k, c => rfl
  | n + 1, k, c => by rw [F.addR, F.addR, F.at0_s, F.at0_nil, F.at0_nil, F.addR_ns]

theorem F.addL_R : ∀ (c : Int) (a b : List Int), F.addL c a b = (F.addR a b (max a.length b.length) 0 c).1 ++ (if 0 < (F.addR a b (max a.length b.length) 0 c).2 then [(F.addR a b (max a.length b.length) 0 c).2] else [])
  | c, [], [] => by rw [F.addL]; rfl
  | c, x :: a, [] => by
    have ih := F.addL_R ((c + x) / 10000) a []
    have e : max (x :: a).length ([] : List Int).length = max a.length ([] : List Int).length + 1 := by simp
    rw [F.addL, ih, e, F.addR, F.at0_z, F.at0_nil, Int.add_zero, F.addR_sn]
    rfl
  | c, [], y :: b => by
    have ih := F.addL_R ((c + y) / 10000) [] b
    have e : max ([] : List Int).length (y :: b).length = max ([] : List Int).length b.length + 1 := by simp
    rw [F.addL, ih, e, F.addR, F.at0_z, F.at0_nil, Int.add_zero, F.addR_ns]
    rfl
  | c, x :: a, y :: b => by
    have ih := F.addL_R ((c + x + y) / 10000) a b
    have e : max (x :: a).length (y :: b).length = max a.length b.length + 1 := by simp only [List.length_cons]; omega
    rw [F.addL, ih, e, F.addR, F.at0_z, F.at0_z, F.addR_ss]
    rfl
termination_by _ a b => a.length + b.length

theorem F.addR_len (a b : List Int) : ∀ n k c, (F.addR a b n k c).1.length = n
  | 0, k, c => rfl
  | n + 1, k, c => by rw [F.addR]; simp only [List.length_cons, F.addR_len]

theorem F.at0_ok {a : List Int} (h : F.okL a) (k : Nat) : 0 ≤ F.at0 a k ∧ F.at0 a k ≤ 9999 := by
  unfold F.at0
  by_cases hk : k < a.length
  · simp only [decide_eq_true hk, cond_true, List.getD, List.getElem?_eq_getElem hk, Option.getD_some]
    exact h _ (List.getElem_mem hk)
  · rw [decide_eq_false hk]; simp

theorem F.nk_ok {k : Nat} {a : List Int} (h : F.nk k a = true) : F.okL a := by
  obtain ⟨m, rfl, _⟩ := F.nk_of h
  exact F.lb_ok m

theorem F.addR_c {a b : List Int} (ha : F.okL a) (hb : F.okL b) : ∀ n k c, 0 ≤ c ∧ c ≤ 1 → 0 ≤ (F.addR a b n k c).2 ∧ (F.addR a b n k c).2 ≤ 1
  | 0, k, c, h => h
  | n + 1, k, c, h => by
    rw [F.addR]
    have h1 := F.at0_ok ha k
    have h2 := F.at0_ok hb k
    exact F.addR_c ha hb n (k + 1) _ (by omega)

namespace M

def stAdd (a : List Int) (b : List Int) (acc : List Int) (c : Int) (k : Nat) : St := ⟨[(7, vI k), (6, vI c), (5, .own 5), (1, .sl (b.map eI)), (0, .sl (a.map eI))], [(5, ⟨false, 3, 1, acc.map eI⟩)]⟩

def stAdd1 (a : (List Int) × (List Int) × (List Int) × Int × Nat) : St := stAdd a.1 a.2.1 a.2.2.1 a.2.2.2.1 a.2.2.2.2

theorem stAdd_inj (a a' : (List Int) × (List Int) × (List Int) × Int × Nat) (h : stAdd1 a = stAdd1 a') : a = a' := by
  simp only [stAdd1, stAdd] at h
  try simp [strs_inj, ints_inj, bools_inj, u8s_inj, eEnts_inj, eEnt_iff, eLsts_inj, eLst_iff, eSegs_inj, eSeg_iff, eRots_inj, eRot_iff, eBeats_inj, eBeat_iff, eSpans_inj, eSpan_iff, eHoles_inj, eHole_iff] at h
  grind

theorem unstAdd (a : List Int) (b : List Int) (acc : List Int) (c : Int) (k : Nat) : unenc stAdd1 (St.mk [(7, (vI (↑k : Int))), (6, (vI c)), (5, .own 5), (1, AV.sl (List.map eI b)), (0, AV.sl (List.map eI a))] [(5, Blk.mk false 3 1 (List.map eI acc))]) = some (a, b, acc, c, k) := unenc_of stAdd_inj (a, b, acc, c, k) rfl

theorem unstAdd0 (a : List Int) (b : List Int)  : unenc stAdd1 (St.mk [(7, (vI (0 : Int))), (6, (vI (0 : Int))), (5, .own 5), (1, AV.sl (List.map eI b)), (0, AV.sl (List.map eI a))] [(5, Blk.mk false 3 1 [])]) = some (a, b, [], 0, 0) := unenc_of stAdd_inj (a, b, [], 0, 0) rfl

def outAdd (a : List Int) (b : List Int) (acc : List Int) (c : Int) (k : Nat) : T (Ex × St) := .ret (.exit 0, ⟨[(6, vI (F.addR a b (max a.length b.length - k) k c).2), (5, .own 5)], [(5, ⟨false, 3, 1, (acc ++ (F.addR a b (max a.length b.length - k) k c).1).map eI⟩)]⟩)

noncomputable def prlAdd (a : List Int) (b : List Int) (acc : List Int) (c : Int) (k : Nat) : Bool := F.nk 1000 a && F.nk 1000 b && decide (0 ≤ c) && decide (c ≤ 1) && decide (acc.length ≤ k) && decide (k ≤ max a.length b.length)

noncomputable def lpAdd : Nat × (St → T (Ex × St)) := (4, lpo [7, 6, 5, 1, 0] [5] stAdd1 (fun a => prlAdd a.1 a.2.1 a.2.2.1 a.2.2.2.1 a.2.2.2.2) fun a => outAdd a.1 a.2.1 a.2.2.1 a.2.2.2.1 a.2.2.2.2)

noncomputable def enAdd : Env := envH ty noG lks [] [] [] [lpAdd]

theorem enAdd_ok : EnvOK Tryz.prog enAdd := by
  refine envH_ok lks_ok ty_ok ?_ ?_
  · simp
  · simp

theorem evAddL (a : List Int) (b : List Int) (acc : List Int) (c : Int) (k : Nat) : ((exec enAdd (loopN Tryz.f78 0) (stAdd a b acc c k)).bind (lessX ([7, 6, 5, 1, 0], [5]) ([6, 5], [5]) ([], []))).val =
  bif bif decide ((↑k : Int) < (↑(List.length (List.map eI a)) : Int)) then true else decide ((↑k : Int) < (↑(List.length (List.map eI b)) : Int)) then bif decide ((↑k :
  Int) < (↑(List.length (List.map eI a)) : Int)) then Option.bind (unenc (List.map eI) (List.map eI a)) fun (z : List Int) => bif decide (k < List.length z) then bif decide
  ((↑k : Int) < (↑(List.length (List.map eI b)) : Int)) then Option.bind (unenc (List.map eI) (List.map eI b)) fun (z_1 : List Int) => bif decide (k < List.length z_1) then
  bif Nat.ble ((List.length (List.map eI acc) + (1 : Nat)) * (8 : Nat)) (140737488355328 : Nat) && true then some (Ex.normal, St.mk [(7, (vI (IntKind.wrap IntKind.i64 ((↑k :
  Int) + (1 : Int))))), (6, (vI (IntKind.wrap IntKind.i64 (Int.tdiv (IntKind.wrap IntKind.i64 (IntKind.wrap IntKind.i64 (c + List.getD z k (0 : Int)) + List.getD z_1 k (0 :
  Int))) (10000 : Int))))), (5, .own 5), (1, AV.sl (List.map eI b)), (0, AV.sl (List.map eI a))] [(5, Blk.mk false 3 1 (List.map eI acc ++ [[(vI (Int.tmod (IntKind.wrap
  IntKind.i64 (IntKind.wrap IntKind.i64 (c + List.getD z k (0 : Int)) + List.getD z_1 k (0 : Int))) (10000 : Int)))]]))]) else none else none else bif Nat.ble ((List.length
  (List.map eI acc) + (1 : Nat)) * (8 : Nat)) (140737488355328 : Nat) && true then some (Ex.normal, St.mk [(7, (vI (IntKind.wrap IntKind.i64 ((↑k : Int) + (1 : Int))))), (6,
  (vI (IntKind.wrap IntKind.i64 (Int.tdiv (IntKind.wrap IntKind.i64 (c + List.getD z k (0 : Int))) (10000 : Int))))), (5, .own 5), (1, AV.sl (List.map eI b)), (0, AV.sl
  (List.map eI a))] [(5, Blk.mk false 3 1 (List.map eI acc ++ [[(vI (Int.tmod (IntKind.wrap IntKind.i64 (c + List.getD z k (0 : Int))) (10000 : Int)))]]))]) else none else
  none else bif decide ((↑k : Int) < (↑(List.length (List.map eI b)) : Int)) then Option.bind (unenc (List.map eI) (List.map eI b)) fun (z : List Int) => bif decide (k <
  List.length z) then bif Nat.ble ((List.length (List.map eI acc) + (1 : Nat)) * (8 : Nat)) (140737488355328 : Nat) && true then some (Ex.normal, St.mk [(7, (vI
  (IntKind.wrap IntKind.i64 ((↑k : Int) + (1 : Int))))), (6, (vI (IntKind.wrap IntKind.i64 (Int.tdiv (IntKind.wrap IntKind.i64 (c + List.getD z k (0 : Int))) (10000 :
  Int))))), (5, .own 5), (1, AV.sl (List.map eI b)), (0, AV.sl (List.map eI a))] [(5, Blk.mk false 3 1 (List.map eI acc ++ [[(vI (Int.tmod (IntKind.wrap IntKind.i64 (c +
  List.getD z k (0 : Int))) (10000 : Int)))]]))]) else none else none else bif Nat.ble ((List.length (List.map eI acc) + (1 : Nat)) * (8 : Nat)) (140737488355328 : Nat) &&
  true then some (Ex.normal, St.mk [(7, (vI (IntKind.wrap IntKind.i64 ((↑k : Int) + (1 : Int))))), (6, (vI (IntKind.wrap IntKind.i64 (Int.tdiv c (10000 : Int))))), (5, .own
  5), (1, AV.sl (List.map eI b)), (0, AV.sl (List.map eI a))] [(5, Blk.mk false 3 1 (List.map eI acc ++ [[(vI (Int.tmod c (10000 : Int)))]]))]) else none else some (Ex.exit
  (0 : Nat), St.mk [(6, (vI c)), (5, .own 5)] [(5, Blk.mk false 3 1 (List.map eI acc))]) := (execR_bind _ _ _).symm.trans (by kernel_rfl)

theorem lpAdd_ok (a : List Int) (b : List Int) (acc : List Int) (c : Int) (k : Nat) (hp : prlAdd a b acc c k = true) : ∀ ex s', (outAdd a b acc c k).val = some (ex, s') → LoopOK enAdd (loopN Tryz.f78 0) (stAdd a b acc c k) ex s' := by
  simp only [prlAdd, Bool.and_eq_true, decide_eq_true_eq] at hp
  obtain ⟨⟨⟨⟨⟨h1, h2⟩, h3⟩, h4⟩, h5⟩, h6⟩ := hp
  have l1 := F.nk_len h1
  have l2 := F.nk_len h2
  have o1 := F.nk_ok h1
  have o2 := F.nk_ok h2
  clear h1 h2
  refine loop_gen (st := fun p : List Int × Int × Nat => stAdd a b p.1 p.2.1 p.2.2) (out := fun p => outAdd a b p.1 p.2.1 p.2.2) (I := fun p => (0 ≤ p.2.1 ∧ p.2.1 ≤ 1) ∧ p.1.length ≤ p.2.2 ∧ p.2.2 ≤ max a.length b.length) (n := ([7, 6, 5, 1, 0], [5])) (e := ([6, 5], [5])) (r := ([], [])) (fun p => max a.length b.length - p.2.2) ?_ (acc, c, k) ⟨⟨h3, h4⟩, h5, h6⟩
  rintro ⟨acc, c, k⟩ ⟨⟨g1, g2⟩, g3, g4⟩
  simp only at g1 g2 g3 g4
  by_cases hlt : k < max a.length b.length
  · right
    have hb : Nat.ble ((acc.length + 1) * 8) 140737488355328 = true := ble_t (by omega)
    have q1 := F.at0_ok o1 k
    have q2 := F.at0_ok o2 k
    have hs : (0 ≤ c + F.at0 a k + F.at0 b k) ∧ c + F.at0 a k + F.at0 b k < 20000 := by omega
    have hn : max a.length b.length - k = (max a.length b.length - (k + 1)) + 1 := by omega
    have hw : IntKind.i64.wrap ((k : Int) + 1) = ((k + 1 : Nat) : Int) := by rw [wrap_id (by omega) (by omega)]; rfl
    have hm : (c + F.at0 a k + F.at0 b k).tmod 10000 = (c + F.at0 a k + F.at0 b k) % 10000 := Int.tmod_eq_emod_of_nonneg hs.1
    have hd : (c + F.at0 a k + F.at0 b k).tdiv 10000 = (c + F.at0 a k + F.at0 b k) / 10000 := Int.tdiv_eq_ediv_of_nonneg hs.1
    refine ⟨(acc ++ [(c + F.at0 a k + F.at0 b k) % 10000], (c + F.at0 a k + F.at0 b k) / 10000, k + 1), ?_, rfl, ⟨by simp only; omega, by simp only [List.length_append, List.length_singleton]; omega, by simp only; omega⟩, by simp only; omega, ?_⟩
    · have hi : idx (k : Int) = some k := idx_n (by omega)
      by_cases ca : k < a.length
      · have hy : a[k]? = some a[k] := List.getElem?_eq_getElem ca
        have ea : F.at0 a k = a[k] := by simp [F.at0, ca]
        rw [ea] at q1 hs hm hd ⊢
        generalize a[k] = x at hy ea q1 hs hm hd ⊢
        have w1 : IntKind.i64.wrap (c + x) = c + x := wrap_id (by omega) (by omega)
        by_cases cb : k < b.length
        · have hz : b[k]? = some b[k] := List.getElem?_eq_getElem cb
          have eb : F.at0 b k = b[k] := by simp [F.at0, cb]
          rw [eb] at q2 hs hm hd ⊢
          generalize b[k] = y at hz eb q2 hs hm hd ⊢
          have w2 : IntKind.i64.wrap (c + x + y) = c + x + y := wrap_id (by omega) (by omega)
          have w3 : IntKind.i64.wrap ((c + x + y) % 10000) = (c + x + y) % 10000 := wrap_id (by omega) (by omega)
          have w4 : IntKind.i64.wrap ((c + x + y) / 10000) = (c + x + y) / 10000 := wrap_id (by omega) (by omega)
          rw [evAddL]
          simp only [unstAdd, unstAdd0, prlAdd, outAdd, etaEnt, etaLst, etaSeg, etaRot, etaBeat, etaSpan, etaHole, Option.bind_some, List.length_map, unStrs, unInts, unBools, unU8s, unEnts, unLsts, unSegs, unRots, unBeats, unSpans, unHoles, F.lt, F.le, cond_true, cond_false, Bool.and_true, Bool.true_and, cast_lt ca, cast_lt cb, decide_eq_true ca, decide_eq_true cb, hi, hw, getD_at hy, getD_at hz, w1, w2, hm, hd, w3, w4, hb, stAdd, Bool.true_or]
          rw [List.map_append]
          rfl
        · have eb : F.at0 b k = 0 := by simp [F.at0, cb]
          rw [eb, Int.add_zero] at hs hm hd ⊢
          have w3 : IntKind.i64.wrap ((c + x) % 10000) = (c + x) % 10000 := wrap_id (by omega) (by omega)
          have w4 : IntKind.i64.wrap ((c + x) / 10000) = (c + x) / 10000 := wrap_id (by omega) (by omega)
          have cb2 : ¬ (k : Int) < (b.length : Int) := by omega
          rw [evAddL]
          simp only [unstAdd, unstAdd0, prlAdd, outAdd, etaEnt, etaLst, etaSeg, etaRot, etaBeat, etaSpan, etaHole, Option.bind_some, List.length_map, unStrs, unInts, unBools, unU8s, unEnts, unLsts, unSegs, unRots, unBeats, unSpans, unHoles, F.lt, F.le, cond_true, cond_false, Bool.and_true, Bool.true_and, cast_lt ca, decide_eq_false cb2, decide_eq_true ca, hi, hw, getD_at hy, w1, hm, hd, w3, w4, hb, stAdd, Bool.true_or]
          rw [List.map_append]
          rfl
      · have ea : F.at0 a k = 0 := by simp [F.at0, ca]
        have ca2 : ¬ (k : Int) < (a.length : Int) := by omega
        have cb : k < b.length := by omega
        have hz : b[k]? = some b[k] := List.getElem?_eq_getElem cb
        have eb : F.at0 b k = b[k] := by simp [F.at0, cb]
        rw [ea, eb, Int.add_zero] at hs hm hd ⊢
        rw [eb] at q2
        generalize b[k] = y at hz eb q2 hs hm hd ⊢
        have w2 : IntKind.i64.wrap (c + y) = c + y := wrap_id (by omega) (by omega)
        have w3 : IntKind.i64.wrap ((c + y) % 10000) = (c + y) % 10000 := wrap_id (by omega) (by omega)
        have w4 : IntKind.i64.wrap ((c + y) / 10000) = (c + y) / 10000 := wrap_id (by omega) (by omega)
        rw [evAddL]
        simp only [unstAdd, unstAdd0, prlAdd, outAdd, etaEnt, etaLst, etaSeg, etaRot, etaBeat, etaSpan, etaHole, Option.bind_some, List.length_map, unStrs, unInts, unBools, unU8s, unEnts, unLsts, unSegs, unRots, unBeats, unSpans, unHoles, F.lt, F.le, cond_true, cond_false, Bool.and_true, Bool.true_and, decide_eq_false ca2, cast_lt cb, decide_eq_true cb, hi, hw, getD_at hz, w2, hm, hd, w3, w4, hb, stAdd, Bool.false_or]
        rw [List.map_append]
        rfl
    · simp only [outAdd, hn, F.addR, Nat.add_sub_cancel, List.append_assoc, List.singleton_append]
      done
  · have hk : k = max a.length b.length := by omega
    left
    refine ⟨(.exit 0, ⟨[(6, vI c), (5, .own 5)], [(5, ⟨false, 3, 1, acc.map eI⟩)]⟩), ?_, ?_, by simp, rfl⟩
    · have ca2 : ¬ (k : Int) < (a.length : Int) := by omega
      have cb2 : ¬ (k : Int) < (b.length : Int) := by omega
      rw [evAddL]
      simp only [unstAdd, unstAdd0, prlAdd, outAdd, etaEnt, etaLst, etaSeg, etaRot, etaBeat, etaSpan, etaHole, Option.bind_some, List.length_map, unStrs, unInts, unBools, unU8s, unEnts, unLsts, unSegs, unRots, unBeats, unSpans, unHoles, F.lt, F.le, cond_true, cond_false, Bool.and_true, Bool.true_and, decide_eq_false ca2, decide_eq_false cb2]
    · have hn : max a.length b.length - k = 0 := by omega
      simp only [outAdd, hn, F.addR, List.append_nil]
      rfl

theorem evAdd (a : List Int) (b : List Int) : (runF enAdd false Tryz.f78 [.sl (a.map eI), .sl (b.map eI)]).val =
  Option.bind (unenc stAdd1 (St.mk [(7, (vI (0 : Int))), (6, (vI (0 : Int))), (5, .own 5), (1, AV.sl (List.map eI b)), (0, AV.sl (List.map eI a))] [(5, Blk.mk false 3 1
  [])])) fun (z : List Int × List Int × List Int × Int × Nat) => bif F.nk (1000 : Nat) z.fst && F.nk (1000 : Nat) z.snd.fst && decide ((0 : Int) ≤ z.snd.snd.snd.fst) &&
  decide (z.snd.snd.snd.fst ≤ (1 : Int)) && decide (List.length z.snd.snd.fst ≤ z.snd.snd.snd.snd) && decide (z.snd.snd.snd.snd ≤ max (List.length z.fst) (List.length
  z.snd.fst)) && true then bif decide ((0 : Int) < (F.addR z.fst z.snd.fst (max (List.length z.fst) (List.length z.snd.fst) - z.snd.snd.snd.snd) z.snd.snd.snd.snd
  z.snd.snd.snd.fst).snd) then bif Nat.ble ((List.length (List.map eI (z.snd.snd.fst ++ (F.addR z.fst z.snd.fst (max (List.length z.fst) (List.length z.snd.fst) -
  z.snd.snd.snd.snd) z.snd.snd.snd.snd z.snd.snd.snd.fst).fst)) + (1 : Nat)) * (8 : Nat)) (140737488355328 : Nat) && true then some (AV.sl (List.map eI (z.snd.snd.fst ++
  (F.addR z.fst z.snd.fst (max (List.length z.fst) (List.length z.snd.fst) - z.snd.snd.snd.snd) z.snd.snd.snd.snd z.snd.snd.snd.fst).fst) ++ [[(vI (F.addR z.fst z.snd.fst
  (max (List.length z.fst) (List.length z.snd.fst) - z.snd.snd.snd.snd) z.snd.snd.snd.snd z.snd.snd.snd.fst).snd)]]), []) else none else some (AV.sl (List.map eI
  (z.snd.snd.fst ++ (F.addR z.fst z.snd.fst (max (List.length z.fst) (List.length z.snd.fst) - z.snd.snd.snd.snd) z.snd.snd.snd.snd z.snd.snd.snd.fst).fst)), []) else none := (runFR_val).symm.trans (by kernel_rfl)

def encAdd1 (a : List Int) (b : List Int) : List AV := [.sl (a.map eI), .sl (b.map eI)]

def encAdd (a : (List Int) × (List Int)) : List AV := encAdd1 a.1 a.2

theorem encAdd_inj (a a' : (List Int) × (List Int)) (h : encAdd a = encAdd a') : a = a' := by
  simp only [encAdd, encAdd1] at h
  try simp [strs_inj, ints_inj, bools_inj, u8s_inj, eEnts_inj, eEnt_iff, eLsts_inj, eLst_iff, eSegs_inj, eSeg_iff, eRots_inj, eRot_iff, eBeats_inj, eBeat_iff, eSpans_inj, eSpan_iff, eHoles_inj, eHole_iff] at h
  grind

theorem unAdd (a : List Int) (b : List Int) : unenc encAdd ([AV.sl (List.map eI a), AV.sl (List.map eI b)]) = some (a, b) := unenc_of encAdd_inj (a, b) rfl

def resAdd1 (a : List Int) (b : List Int) : AV × Heap := (.sl ((F.lb (F.nv a + F.nv b)).map eI), [])

def preAdd1 (a : List Int) (b : List Int) : Bool := F.nk 1000 a && F.nk 1000 b

noncomputable def oAdd : Orc := orc 78 false encAdd (fun a => preAdd1 a.1 a.2) fun a => resAdd1 a.1 a.2

theorem okAdd : OrcOK Tryz.prog noG oAdd := by
  refine mk_ok Tryz.f78 (keep := false) (by kernel_rfl) (by kernel_rfl) enAdd_ok mixed (one_loop (x0 := loopN Tryz.f78 0) (by kernel_rfl) (lpo_ok ?_)) (by first | exact fun _ _ => ⟨rfl, rfl⟩ | (intro h; cases h)) ?_
  · rintro ⟨a, b, acc, c, k⟩ hp
    exact lpAdd_ok a b acc c k hp
  rintro ⟨a, b⟩ hpre hok
  show (runF enAdd false _ (encAdd1 _ _)).val = some (resAdd1 _ _)
  unfold encAdd1 resAdd1
  rw [evAdd]
  have hpre : (F.nk 1000 a && F.nk 1000 b) = true := hpre
  have hpre2 := hpre
  rw [Bool.and_eq_true] at hpre2
  have l1 := F.nk_len hpre2.1
  have l2 := F.nk_len hpre2.2
  have hres : F.lb (F.nv a + F.nv b) = F.addL 0 a b := by
    obtain ⟨m, hm1, hm⟩ := F.nk_of hpre2.1
    obtain ⟨n, hn1, hn⟩ := F.nk_of hpre2.2
    have := F.addL_eq (m + n) m n 0 (Nat.le_refl _) (by decide)
    rw [Nat.zero_add] at this
    rw [hm1, hn1, F.nv_lb, F.nv_lb, ← this]
    rfl
  have hc := F.addR_c (F.nk_ok hpre2.1) (F.nk_ok hpre2.2) (max a.length b.length) 0 0 (by decide)
  have hl := F.addR_len a b (max a.length b.length) 0 0
  have hR := F.addL_R 0 a b
  have hb : Nat.ble (((F.addR a b (max a.length b.length) 0 0).1.length + 1) * 8) 140737488355328 = true := ble_t (by omega)
  simp only [unstAdd, unstAdd0, prlAdd, outAdd, etaEnt, etaLst, etaSeg, etaRot, etaBeat, etaSpan, etaHole, Option.bind_some, List.length_map, unStrs, unInts, unBools, unU8s, unEnts, unLsts, unSegs, unRots, unBeats, unSpans, unHoles, F.lt, F.le, cond_true, cond_false, Bool.and_true, Bool.true_and, hpre, hres, hR, decide_true, Nat.zero_le, Nat.sub_zero, List.nil_append, List.length_nil, Int.le_refl, hb, (by decide : decide ((0 : Int) ≤ 1) = true)]
  cases hq : decide (0 < (F.addR a b (max a.length b.length) 0 0).2)
  · have hq := of_decide_eq_false hq
    simp [if_neg hq]
  · have hq := of_decide_eq_true hq
    simp [if_pos hq]
    rfl

end M

/-- A limb of a difference, and its borrow. -/
def F.subV (v : Int) : Int := bif decide (v < 0) then v + 10000 else v

def F.subC (v : Int) : Int := bif decide (v < 0) then 1 else 0

def F.subR (a b : List Int) : Nat → Nat → Int → List Int
  | 0, _, _ => []
  | n + 1, k, c => F.subV (F.at0 a k - c - F.at0 b k) :: F.subR a b n (k + 1) (F.subC (F.at0 a k - c - F.at0 b k))

theorem F.subR_ss (x y : Int) (a b : List Int) : ∀ n k c, F.subR (x :: a) (y :: b) n (k + 1) c = F.subR a b n k c
  | 0, k, c => rfl
  | n + 1, k, c => by rw [F.subR, F.subR, F.at0_s, F.at0_s, F.subR_ss]

theorem F.subR_sn (x : Int) (a : List Int) : ∀ n k c, F.subR (x :: a) [] n (k + 1) c = F.subR a [] n k c
  | 0, k, c => rfl
  | n + 1, k, c => by rw [F.subR, F.subR, F.at0_s, F.at0_nil, F.at0_nil, F.subR_sn]

theorem F.subL_R : ∀ (c : Int) (a b : List Int), F.subL c a b = F.subR a b a.length 0 c
  | c, [], b => by cases b <;> rfl
  | c, x :: a, [] => by
    rw [F.subL, List.length_cons, F.subR, F.at0_z, F.at0_nil, Int.sub_zero, F.subR_sn, ← F.subL_R]
    unfold F.subV F.subC
    by_cases h : x - c < 0
    · simp [h]
    · simp [h]
  | c, x :: a, y :: b => by
    rw [F.subL, List.length_cons, F.subR, F.at0_z, F.at0_z, F.subR_ss, ← F.subL_R]
    unfold F.subV F.subC
    by_cases h : x - c - y < 0
    · simp [h]
    · simp [h]

theorem F.subR_len (a b : List Int) : ∀ n k c, (F.subR a b n k c).length = n
  | 0, k, c => rfl
  | n + 1, k, c => by rw [F.subR]; simp only [List.length_cons, F.subR_len]

namespace M

def stLes (a : List Int) (b : List Int) (acc : List Int) (c : Int) (k : Nat) : St := ⟨[(7, vI k), (6, vI c), (5, .own 5), (1, .sl (b.map eI)), (0, .sl (a.map eI))], [(5, ⟨false, 3, 1, acc.map eI⟩)]⟩

def stLes1 (a : (List Int) × (List Int) × (List Int) × Int × Nat) : St := stLes a.1 a.2.1 a.2.2.1 a.2.2.2.1 a.2.2.2.2

theorem stLes_inj (a a' : (List Int) × (List Int) × (List Int) × Int × Nat) (h : stLes1 a = stLes1 a') : a = a' := by
  simp only [stLes1, stLes] at h
  try simp [strs_inj, ints_inj, bools_inj, u8s_inj, eEnts_inj, eEnt_iff, eLsts_inj, eLst_iff, eSegs_inj, eSeg_iff, eRots_inj, eRot_iff, eBeats_inj, eBeat_iff, eSpans_inj, eSpan_iff, eHoles_inj, eHole_iff] at h
  grind

theorem unstLes (a : List Int) (b : List Int) (acc : List Int) (c : Int) (k : Nat) : unenc stLes1 (St.mk [(7, (vI (↑k : Int))), (6, (vI c)), (5, .own 5), (1, AV.sl (List.map eI b)), (0, AV.sl (List.map eI a))] [(5, Blk.mk false 3 1 (List.map eI acc))]) = some (a, b, acc, c, k) := unenc_of stLes_inj (a, b, acc, c, k) rfl

theorem unstLes0 (a : List Int) (b : List Int)  : unenc stLes1 (St.mk [(7, (vI (0 : Int))), (6, (vI (0 : Int))), (5, .own 5), (1, AV.sl (List.map eI b)), (0, AV.sl (List.map eI a))] [(5, Blk.mk false 3 1 [])]) = some (a, b, [], 0, 0) := unenc_of stLes_inj (a, b, [], 0, 0) rfl

def outLes (a : List Int) (b : List Int) (acc : List Int) (c : Int) (k : Nat) : T (Ex × St) := .ret (.exit 0, ⟨[(5, .own 5)], [(5, ⟨false, 3, 1, (acc ++ F.subR a b (a.length - k) k c).map eI⟩)]⟩)

noncomputable def prlLes (a : List Int) (b : List Int) (acc : List Int) (c : Int) (k : Nat) : Bool := F.nk 1000 a && F.nk 1000 b && decide (0 ≤ c) && decide (c ≤ 1) && decide (acc.length ≤ k) && decide (k ≤ a.length)

noncomputable def lpLes : Nat × (St → T (Ex × St)) := (4, lpo [7, 6, 5, 1, 0] [5] stLes1 (fun a => prlLes a.1 a.2.1 a.2.2.1 a.2.2.2.1 a.2.2.2.2) fun a => outLes a.1 a.2.1 a.2.2.1 a.2.2.2.1 a.2.2.2.2)

noncomputable def enLes : Env := envH ty noG lks [oTrm] [] [] [lpLes]

theorem enLes_ok : EnvOK Tryz.prog enLes := by
  refine envH_ok lks_ok ty_ok ?_ ?_
  · simp only [List.forall_mem_cons]
    exact ⟨okTrm, by simp⟩
  · simp

theorem evLesL (a : List Int) (b : List Int) (acc : List Int) (c : Int) (k : Nat) : ((exec enLes (loopN Tryz.f79 0) (stLes a b acc c k)).bind (lessX ([7, 6, 5, 1, 0], [5]) ([5], [5]) ([], []))).val =
  bif decide ((↑k : Int) < (↑(List.length (List.map eI a)) : Int)) then Option.bind (unenc (List.map eI) (List.map eI a)) fun (z : List Int) => bif decide (k < List.length
  z) then bif decide ((↑k : Int) < (↑(List.length (List.map eI b)) : Int)) then Option.bind (unenc (List.map eI) (List.map eI b)) fun (z_1 : List Int) => bif decide (k <
  List.length z_1) then bif decide (IntKind.wrap IntKind.i64 (IntKind.wrap IntKind.i64 (List.getD z k (0 : Int) - c) - List.getD z_1 k (0 : Int)) < (0 : Int)) then bif
  Nat.ble ((List.length (List.map eI acc) + (1 : Nat)) * (8 : Nat)) (140737488355328 : Nat) && true then some (Ex.normal, St.mk [(7, (vI (IntKind.wrap IntKind.i64 ((↑k :
  Int) + (1 : Int))))), (6, (vI (1 : Int))), (5, .own 5), (1, AV.sl (List.map eI b)), (0, AV.sl (List.map eI a))] [(5, Blk.mk false 3 1 (List.map eI acc ++ [[(vI
  (IntKind.wrap IntKind.i64 (IntKind.wrap IntKind.i64 (IntKind.wrap IntKind.i64 (List.getD z k (0 : Int) - c) - List.getD z_1 k (0 : Int)) + (10000 : Int))))]]))]) else none
  else bif Nat.ble ((List.length (List.map eI acc) + (1 : Nat)) * (8 : Nat)) (140737488355328 : Nat) && true then some (Ex.normal, St.mk [(7, (vI (IntKind.wrap IntKind.i64
  ((↑k : Int) + (1 : Int))))), (6, (vI (0 : Int))), (5, .own 5), (1, AV.sl (List.map eI b)), (0, AV.sl (List.map eI a))] [(5, Blk.mk false 3 1 (List.map eI acc ++ [[(vI
  (IntKind.wrap IntKind.i64 (IntKind.wrap IntKind.i64 (List.getD z k (0 : Int) - c) - List.getD z_1 k (0 : Int))))]]))]) else none else none else bif decide (IntKind.wrap
  IntKind.i64 (List.getD z k (0 : Int) - c) < (0 : Int)) then bif Nat.ble ((List.length (List.map eI acc) + (1 : Nat)) * (8 : Nat)) (140737488355328 : Nat) && true then some
  (Ex.normal, St.mk [(7, (vI (IntKind.wrap IntKind.i64 ((↑k : Int) + (1 : Int))))), (6, (vI (1 : Int))), (5, .own 5), (1, AV.sl (List.map eI b)), (0, AV.sl (List.map eI a))]
  [(5, Blk.mk false 3 1 (List.map eI acc ++ [[(vI (IntKind.wrap IntKind.i64 (IntKind.wrap IntKind.i64 (List.getD z k (0 : Int) - c) + (10000 : Int))))]]))]) else none else
  bif Nat.ble ((List.length (List.map eI acc) + (1 : Nat)) * (8 : Nat)) (140737488355328 : Nat) && true then some (Ex.normal, St.mk [(7, (vI (IntKind.wrap IntKind.i64 ((↑k :
  Int) + (1 : Int))))), (6, (vI (0 : Int))), (5, .own 5), (1, AV.sl (List.map eI b)), (0, AV.sl (List.map eI a))] [(5, Blk.mk false 3 1 (List.map eI acc ++ [[(vI
  (IntKind.wrap IntKind.i64 (List.getD z k (0 : Int) - c)))]]))]) else none else none else some (Ex.exit (0 : Nat), St.mk [(5, .own 5)] [(5, Blk.mk false 3 1 (List.map eI
  acc))]) := (execR_bind _ _ _).symm.trans (by kernel_rfl)

theorem lpLes_ok (a : List Int) (b : List Int) (acc : List Int) (c : Int) (k : Nat) (hp : prlLes a b acc c k = true) : ∀ ex s', (outLes a b acc c k).val = some (ex, s') → LoopOK enLes (loopN Tryz.f79 0) (stLes a b acc c k) ex s' := by
  simp only [prlLes, Bool.and_eq_true, decide_eq_true_eq] at hp
  obtain ⟨⟨⟨⟨⟨h1, h2⟩, h3⟩, h4⟩, h5⟩, h6⟩ := hp
  have l1 := F.nk_len h1
  have l2 := F.nk_len h2
  have o1 := F.nk_ok h1
  have o2 := F.nk_ok h2
  clear h1 h2
  refine loop_gen (st := fun p : List Int × Int × Nat => stLes a b p.1 p.2.1 p.2.2) (out := fun p => outLes a b p.1 p.2.1 p.2.2) (I := fun p => (0 ≤ p.2.1 ∧ p.2.1 ≤ 1) ∧ p.1.length ≤ p.2.2 ∧ p.2.2 ≤ a.length) (n := ([7, 6, 5, 1, 0], [5])) (e := ([5], [5])) (r := ([], [])) (fun p => a.length - p.2.2) ?_ (acc, c, k) ⟨⟨h3, h4⟩, h5, h6⟩
  rintro ⟨acc, c, k⟩ ⟨⟨g1, g2⟩, g3, g4⟩
  simp only at g1 g2 g3 g4
  by_cases hlt : k < a.length
  · right
    have hb : Nat.ble ((acc.length + 1) * 8) 140737488355328 = true := ble_t (by omega)
    have q1 := F.at0_ok o1 k
    have q2 := F.at0_ok o2 k
    have hn : a.length - k = (a.length - (k + 1)) + 1 := by omega
    have hw : IntKind.i64.wrap ((k : Int) + 1) = ((k + 1 : Nat) : Int) := by rw [wrap_id (by omega) (by omega)]; rfl
    have hcc : 0 ≤ F.subC (F.at0 a k - c - F.at0 b k) ∧ F.subC (F.at0 a k - c - F.at0 b k) ≤ 1 := by
      unfold F.subC
      cases decide (F.at0 a k - c - F.at0 b k < 0) <;> simp
    refine ⟨(acc ++ [F.subV (F.at0 a k - c - F.at0 b k)], F.subC (F.at0 a k - c - F.at0 b k), k + 1), ?_, rfl, ⟨hcc, by simp only [List.length_append, List.length_singleton]; omega, by simp only; omega⟩, by simp only; omega, ?_⟩
    · have hi : idx (k : Int) = some k := idx_n (by omega)
      have hy : a[k]? = some a[k] := List.getElem?_eq_getElem hlt
      have ea : F.at0 a k = a[k] := by simp [F.at0, hlt]
      rw [ea] at q1 ⊢
      generalize a[k] = x at hy ea q1 ⊢
      have w1 : IntKind.i64.wrap (x - c) = x - c := wrap_id (by omega) (by omega)
      by_cases cb : k < b.length
      · have hz : b[k]? = some b[k] := List.getElem?_eq_getElem cb
        have eb : F.at0 b k = b[k] := by simp [F.at0, cb]
        rw [eb] at q2 ⊢
        generalize b[k] = y at hz eb q2 ⊢
        have w2 : IntKind.i64.wrap (x - c - y) = x - c - y := wrap_id (by omega) (by omega)
        have w3 : IntKind.i64.wrap (x - c - y + 10000) = x - c - y + 10000 := wrap_id (by omega) (by omega)
        rw [evLesL]
        simp only [unTrm, preTrm1, unstLes, unstLes0, prlLes, outLes, etaEnt, etaLst, etaSeg, etaRot, etaBeat, etaSpan, etaHole, Option.bind_some, List.length_map, unStrs, unInts, unBools, unU8s, unEnts, unLsts, unSegs, unRots, unBeats, unSpans, unHoles, F.lt, F.le, cond_true, cond_false, Bool.and_true, Bool.true_and, cast_lt hlt, cast_lt cb, decide_eq_true hlt, decide_eq_true cb, hi, hw, getD_at hy, getD_at hz, w1, w2, w3, hb, stLes, F.subV, F.subC]
        rw [List.map_append]
        cases decide (x - c - y < 0) <;> rfl
      · have eb : F.at0 b k = 0 := by simp [F.at0, cb]
        rw [eb, Int.sub_zero]
        have w3 : IntKind.i64.wrap (x - c + 10000) = x - c + 10000 := wrap_id (by omega) (by omega)
        have cb2 : ¬ (k : Int) < (b.length : Int) := by omega
        rw [evLesL]
        simp only [unTrm, preTrm1, unstLes, unstLes0, prlLes, outLes, etaEnt, etaLst, etaSeg, etaRot, etaBeat, etaSpan, etaHole, Option.bind_some, List.length_map, unStrs, unInts, unBools, unU8s, unEnts, unLsts, unSegs, unRots, unBeats, unSpans, unHoles, F.lt, F.le, cond_true, cond_false, Bool.and_true, Bool.true_and, cast_lt hlt, decide_eq_false cb2, decide_eq_true hlt, hi, hw, getD_at hy, w1, w3, hb, stLes, F.subV, F.subC]
        rw [List.map_append]
        cases decide (x - c < 0) <;> rfl
    · simp only [outLes, hn, F.subR, Nat.add_sub_cancel, List.append_assoc, List.singleton_append]
  · have hk : k = a.length := by omega
    left
    refine ⟨(.exit 0, ⟨[(5, .own 5)], [(5, ⟨false, 3, 1, acc.map eI⟩)]⟩), ?_, ?_, by simp, rfl⟩
    · have ca2 : ¬ (k : Int) < (a.length : Int) := by omega
      rw [evLesL]
      simp only [unTrm, preTrm1, unstLes, unstLes0, prlLes, outLes, etaEnt, etaLst, etaSeg, etaRot, etaBeat, etaSpan, etaHole, Option.bind_some, List.length_map, unStrs, unInts, unBools, unU8s, unEnts, unLsts, unSegs, unRots, unBeats, unSpans, unHoles, F.lt, F.le, cond_true, cond_false, Bool.and_true, Bool.true_and, decide_eq_false ca2]
    · have hn : a.length - k = 0 := by omega
      simp only [outLes, hn, F.subR, List.append_nil]
      rfl

theorem evLes (a : List Int) (b : List Int) : (runF enLes false Tryz.f79 [.sl (a.map eI), .sl (b.map eI)]).val =
  Option.bind (unenc stLes1 (St.mk [(7, (vI (0 : Int))), (6, (vI (0 : Int))), (5, .own 5), (1, AV.sl (List.map eI b)), (0, AV.sl (List.map eI a))] [(5, Blk.mk false 3 1
  [])])) fun (z : List Int × List Int × List Int × Int × Nat) => bif F.nk (1000 : Nat) z.fst && F.nk (1000 : Nat) z.snd.fst && decide ((0 : Int) ≤ z.snd.snd.snd.fst) &&
  decide (z.snd.snd.snd.fst ≤ (1 : Int)) && decide (List.length z.snd.snd.fst ≤ z.snd.snd.snd.snd) && decide (z.snd.snd.snd.snd ≤ List.length z.fst) && true then Option.bind
  (unenc encTrm [AV.sl (List.map eI (z.snd.snd.fst ++ F.subR z.fst z.snd.fst (List.length z.fst - z.snd.snd.snd.snd) z.snd.snd.snd.snd z.snd.snd.snd.fst))]) fun (z : List
  Int) => bif decide (List.length z ≤ (100000 : Nat)) then some (AV.sl (List.map eI (F.trimL z)), []) else none else none := (runFR_val).symm.trans (by kernel_rfl)

def encLes1 (a : List Int) (b : List Int) : List AV := [.sl (a.map eI), .sl (b.map eI)]

def encLes (a : (List Int) × (List Int)) : List AV := encLes1 a.1 a.2

theorem encLes_inj (a a' : (List Int) × (List Int)) (h : encLes a = encLes a') : a = a' := by
  simp only [encLes, encLes1] at h
  try simp [strs_inj, ints_inj, bools_inj, u8s_inj, eEnts_inj, eEnt_iff, eLsts_inj, eLst_iff, eSegs_inj, eSeg_iff, eRots_inj, eRot_iff, eBeats_inj, eBeat_iff, eSpans_inj, eSpan_iff, eHoles_inj, eHole_iff] at h
  grind

theorem unLes (a : List Int) (b : List Int) : unenc encLes ([AV.sl (List.map eI a), AV.sl (List.map eI b)]) = some (a, b) := unenc_of encLes_inj (a, b) rfl

def resLes1 (a : List Int) (b : List Int) : AV × Heap := (.sl ((F.lb (F.nv a - F.nv b)).map eI), [])

def preLes1 (a : List Int) (b : List Int) : Bool := F.nk 1000 a && F.nk 1000 b && decide (F.nv b ≤ F.nv a)

noncomputable def oLes : Orc := orc 79 false encLes (fun a => preLes1 a.1 a.2) fun a => resLes1 a.1 a.2

theorem okLes : OrcOK Tryz.prog noG oLes := by
  refine mk_ok Tryz.f79 (keep := false) (by kernel_rfl) (by kernel_rfl) enLes_ok mixed (one_loop (x0 := loopN Tryz.f79 0) (by kernel_rfl) (lpo_ok ?_)) (by first | exact fun _ _ => ⟨rfl, rfl⟩ | (intro h; cases h)) ?_
  · rintro ⟨a, b, acc, c, k⟩ hp
    exact lpLes_ok a b acc c k hp
  rintro ⟨a, b⟩ hpre hok
  show (runF enLes false _ (encLes1 _ _)).val = some (resLes1 _ _)
  unfold encLes1 resLes1
  rw [evLes]
  have hpre : (F.nk 1000 a && F.nk 1000 b && decide (F.nv b ≤ F.nv a)) = true := hpre
  have hpre2 := hpre
  rw [Bool.and_eq_true, Bool.and_eq_true, decide_eq_true_eq] at hpre2
  obtain ⟨⟨p1, p2⟩, p3⟩ := hpre2
  have l1 := F.nk_len p1
  have l2 := F.nk_len p2
  have hres : F.trimL (F.subR a b a.length 0 0) = F.lb (F.nv a - F.nv b) := by
    obtain ⟨m, hm1, hm⟩ := F.nk_of p1
    obtain ⟨n, hn1, hn⟩ := F.nk_of p2
    rw [← F.subL_R]
    rw [hm1, hn1, F.nv_lb, F.nv_lb] at p3 ⊢
    exact F.sub_lb p3
  have hl := F.subR_len a b a.length 0 0
  have hb : decide ((F.subR a b a.length 0 0).length ≤ 100000) = true := decide_eq_true (by omega)
  simp only [unTrm, preTrm1, unstLes, unstLes0, prlLes, outLes, etaEnt, etaLst, etaSeg, etaRot, etaBeat, etaSpan, etaHole, Option.bind_some, List.length_map, unStrs, unInts, unBools, unU8s, unEnts, unLsts, unSegs, unRots, unBeats, unSpans, unHoles, F.lt, F.le, cond_true, cond_false, Bool.and_true, Bool.true_and, p1, p2, decide_true, Nat.zero_le, Nat.sub_zero, List.nil_append, List.length_nil, Int.le_refl, hb, hres, (by decide : decide ((0 : Int) ≤ 1) = true)]
  done

end M

end Go.Proofs.YtlemjphdhapfpaaGreatDoor
