/- What is proved here: a byte written to a used strings.Builder (no statement of the seat). -/
import Derived.Lib.AtoiAll
import Derived.Lib.AtoiAllCases
import Derived.Lib.ItoaMem
import Derived.Handy
import Derived.BigGuard
import Derived.WalkKit
import Derived.Lib.Walk
import Derived.BigCall
import Derived.Lib.AtoiErrMem
import Derived.Lib.Repeat
import Derived.Shelf.Bits.Mul64
import Derived.Lib.AppendStr
import Derived.Shelf.Strings.Builder1
import Derived.Lib.AppendZeros
import Derived.Test.YtajmdlpanlbnjaaGreatDoorB4

namespace Go.Proofs.YtajmdlpanlbnjaaGreatDoor
open Go Go.RowKit
set_option linter.unusedVariables false
set_option linter.unusedSimpArgs false
set_option maxHeartbeats 1000000

def F.at0 (a : List Int) (k : Nat) : Int := bif decide (k < a.length) then a.getD k 0 else 0

def F.addR (a b : List Int) : Nat → Nat → Int → List Int × Int
  | 0, _, c => ([], c)
  | n + 1, k, c => ((c + F.at0 a k + F.at0 b k) % 10000 :: (F.addR a b n (k + 1) ((c + F.at0 a k + F.at0 b k) / 10000)).1, (F.addR a b n (k + 1) ((c + F.at0 a k + F.at0 b k) / 10000)).2)

theorem F.at0_nil (k : Nat) : F.at0 [] k = 0 := rfl

theorem F.at0_z (x : Int) (a : List Int) : F.at0 (x :: a) 0 = x := by simp [F.at0]

theorem F.at0_s (x : Int) (a : List Int) (k : Nat) : F.at0 (x :: a) (k + 1) = F.at0 a k := by
  unfold F.at0
  by_cases h : k < a.length
  · simp [h]
  · simp [h]

theorem F.addR_ss (x y : Int) (a b : List Int) : ∀ n k c, F.addR (x :: a) (y :: b) n (k + 1) c = F.addR a b n k c
  | 0, k, c => rfl
  | n + 1, k, c => by rw [F.addR, F.addR, F.at0_s, F.at0_s, F.addR_ss]

theorem F.addR_sn (x : Int) (a : List Int) : ∀ n k c, F.addR (x :: a) [] n (k + 1) c = F.addR a [] n k c
  | 0, k, c => rfl
  | n + 1, k, c => by rw [F.addR, F.addR, F.at0_s, F.at0_nil, F.at0_nil, F.addR_sn]

theorem F.addR_ns (y : Int) (b : List Int) : ∀ n k c, F.addR [] (y :: b) n (k + 1) c = F.addR [] b n k c
  | 0, k, c => rfl
  | n + 1, k, c => by rw [F.addR, F.addR, F.at0_s, F.at0_nil, F.at0_nil, F.addR_ns]

theorem F.addL_R : ∀ (c : Int) (a b : List Int), F.addL c a b = (F.addR a b (max a.length b.length) 0 c).1 ++ (if 0 < (F.addR a b (max a.length b.length) 0 c).2 then [(F.addR a b (max a.length b.length) 0 c).2] else [])
  | c, [], [] => by rw [F.addL]; rfl
  | c, x :: a, [] => by
    have ih := F.addL_R ((c + x) / 10000) a []
    have e : max (x :: a).length ([] : List Int).length = max a.length ([] : List Int).length + 1 := by simp
    rw [F.addL, ih, e, F.addR, F.at0_z, F.at0_nil, Int.add_zero, F.addR_sn]
    rfl
  | c, [], y :: b => by
    have ih := F.addL_R ((c + y) / 10000) [] b
    have e : max ([] : List Int).length (y :: b).length = max ([] : List Int).length b.length + 1 := by simp
    rw [F.addL, ih, e, F.addR, F.at0_z, F.at0_nil, Int.add_zero, F.addR_ns]
    rfl
  | c, x :: a, y :: b => by
    have ih := F.addL_R ((c + x + y) / 10000) a b
    have e : max (x :: a).length (y :: b).length = max a.length b.length + 1 := by simp only [List.length_cons]; omega
    rw [F.addL, ih, e, F.addR, F.at0_z, F.at0_z, F.addR_ss]
    rfl
termination_by _ a b => a.length + b.length

theorem F.addR_len (a b : List Int) : ∀ n k c, (F.addR a b n k c).1.length = n
  | 0, k, c => rfl
  | n + 1, k, c => by rw [F.addR]; simp only [List.length_cons, F.addR_len]

theorem F.at0_ok {a : List Int} (h : F.okL a) (k : Nat) : 0 ≤ F.at0 a k ∧ F.at0 a k ≤ 9999 := by
  unfold F.at0
  by_cases hk : k < a.length
  · simp only [decide_eq_true hk, cond_true, List.getD, List.getElem?_eq_getElem hk, Option.getD_some]
    exact h _ (List.getElem_mem hk)
  · rw [decide_eq_false hk]; simp

theorem F.nk_ok {k : Nat} {a : List Int} (h : F.nk k a = true) : F.okL a := by
  obtain ⟨m, rfl, _⟩ := F.nk_of h
  exact F.lb_ok m

theorem F.addR_c {a b : List Int} (ha : F.okL a) (hb : F.okL b) : ∀ n k c, 0 ≤ c ∧ c ≤ 1 → 0 ≤ (F.addR a b n k c).2 ∧ (F.addR a b n k c).2 ≤ 1
  | 0, k, c, h => h
  | n + 1, k, c, h => by
    rw [F.addR]
    have h1 := F.at0_ok ha k
    have h2 := F.at0_ok hb k
    exact F.addR_c ha hb n (k + 1) _ (by omega)

namespace M

def stLad (a : List Int) (b : List Int) (acc : List Int) (c : Int) (k : Nat) : St := ⟨[(7, vI k), (6, vI c), (5, .own 5), (1, .sl (b.map eI)), (0, .sl (a.map eI))], [(5, ⟨false, 3, 1, acc.map eI⟩)]⟩

def stLad1 (a : (List Int) × (List Int) × (List Int) × Int × Nat) : St := stLad a.1 a.2.1 a.2.2.1 a.2.2.2.1 a.2.2.2.2

theorem stLad_inj (a a' : (List Int) × (List Int) × (List Int) × Int × Nat) (h : stLad1 a = stLad1 a') : a = a' := by
  simp only [stLad1, stLad] at h
  try simp [ints_inj, strs_inj, ents_inj, eEnt_iff, eLst_iff] at h
  grind

theorem unstLad (a : List Int) (b : List Int) (acc : List Int) (c : Int) (k : Nat) : unenc stLad1 (St.mk [(7, (vI (↑k : Int))), (6, (vI c)), (5, .own 5), (1, AV.sl (List.map eI b)), (0, AV.sl (List.map eI a))] [(5, Blk.mk false 3 1 (List.map eI acc))]) = some (a, b, acc, c, k) := unenc_of stLad_inj (a, b, acc, c, k) rfl

theorem unstLad0 (a : List Int) (b : List Int)  : unenc stLad1 (St.mk [(7, (vI (0 : Int))), (6, (vI (0 : Int))), (5, .own 5), (1, AV.sl (List.map eI b)), (0, AV.sl (List.map eI a))] [(5, Blk.mk false 3 1 [])]) = some (a, b, [], 0, 0) := unenc_of stLad_inj (a, b, [], 0, 0) rfl

def outLad (a : List Int) (b : List Int) (acc : List Int) (c : Int) (k : Nat) : T (Ex × St) := .ret (.exit 0, ⟨[(6, vI (F.addR a b (max a.length b.length - k) k c).2), (5, .own 5)], [(5, ⟨false, 3, 1, (acc ++ (F.addR a b (max a.length b.length - k) k c).1).map eI⟩)]⟩)

noncomputable def prlLad (a : List Int) (b : List Int) (acc : List Int) (c : Int) (k : Nat) : Bool := F.nk 1000 a && F.nk 1000 b && decide (0 ≤ c) && decide (c ≤ 1) && decide (acc.length ≤ k) && decide (k ≤ max a.length b.length)

noncomputable def lpLad : Nat × (St → T (Ex × St)) := (4, lpo [7, 6, 5, 1, 0] [5] stLad1 (fun a => prlLad a.1 a.2.1 a.2.2.1 a.2.2.2.1 a.2.2.2.2) fun a => outLad a.1 a.2.1 a.2.2.1 a.2.2.2.1 a.2.2.2.2)

noncomputable def enLad : Env := envH ty noG lks [] [] [] [lpLad]

theorem enLad_ok : EnvOK Tryz.prog enLad := by
  refine envH_ok lks_ok ty_ok ?_ ?_
  · simp
  · simp

theorem evLadL (a : List Int) (b : List Int) (acc : List Int) (c : Int) (k : Nat) : ((exec enLad (loopN Tryz.f120 0) (stLad a b acc c k)).bind (lessX ([7, 6, 5, 1, 0], [5]) ([6, 5], [5]) ([], []))).val =
  (fun (q : Bool) => (fun (q_1 : Nat × AV) => (fun (q_2 : Bool) => (fun (q_3 : List (Nat × AV)) => bif bif decide ((↑k : Int) < (↑(List.length (List.map eI a)) : Int)) then
  true else q then bif decide ((↑k : Int) < (↑(List.length (List.map eI a)) : Int)) then Option.bind (unenc (List.map eI) (List.map eI a)) fun (z : List Int) => (fun (q_4 :
  Int) => bif decide (k < List.length z) then bif q then Option.bind (unenc (List.map eI) (List.map eI b)) fun (z : List Int) => bif decide (k < List.length z) then bif q_2
  then some (Ex.normal, St.mk (q_1 :: (6, (vI (IntKind.wrap IntKind.i64 (Int.tdiv (IntKind.wrap IntKind.i64 (q_4 + List.getD z k (0 : Int))) (10000 : Int))))) :: q_3) [(5,
  Blk.mk false 3 1 (List.map eI acc ++ [[(vI (Int.tmod (IntKind.wrap IntKind.i64 (q_4 + List.getD z k (0 : Int))) (10000 : Int)))]]))]) else none else none else bif q_2 then
  some (Ex.normal, St.mk (q_1 :: (6, (vI (IntKind.wrap IntKind.i64 (Int.tdiv q_4 (10000 : Int))))) :: q_3) [(5, Blk.mk false 3 1 (List.map eI acc ++ [[(vI (Int.tmod q_4
  (10000 : Int)))]]))]) else none else none) (IntKind.wrap IntKind.i64 (c + List.getD z k (0 : Int))) else bif q then Option.bind (unenc (List.map eI) (List.map eI b)) fun
  (z : List Int) => bif decide (k < List.length z) then bif q_2 then some (Ex.normal, St.mk (q_1 :: (6, (vI (IntKind.wrap IntKind.i64 (Int.tdiv (IntKind.wrap IntKind.i64 (c
  + List.getD z k (0 : Int))) (10000 : Int))))) :: q_3) [(5, Blk.mk false 3 1 (List.map eI acc ++ [[(vI (Int.tmod (IntKind.wrap IntKind.i64 (c + List.getD z k (0 : Int)))
  (10000 : Int)))]]))]) else none else none else bif q_2 then some (Ex.normal, St.mk (q_1 :: (6, (vI (IntKind.wrap IntKind.i64 (Int.tdiv c (10000 : Int))))) :: q_3) [(5,
  Blk.mk false 3 1 (List.map eI acc ++ [[(vI (Int.tmod c (10000 : Int)))]]))]) else none else some (Ex.exit (0 : Nat), St.mk [(6, (vI c)), (5, .own 5)] [(5, Blk.mk false 3 1
  (List.map eI acc))])) [(5, .own 5), (1, AV.sl (List.map eI b)), (0, AV.sl (List.map eI a))]) (Nat.ble ((List.length (List.map eI acc) + (1 : Nat)) * (8 : Nat))
  (140737488355328 : Nat) && true)) (7, (vI (IntKind.wrap IntKind.i64 ((↑k : Int) + (1 : Int)))))) (decide ((↑k : Int) < (↑(List.length (List.map eI b)) : Int))) := (execR_bind _ _ _).symm.trans (by kernel_rfl)

theorem lpLad_ok (a : List Int) (b : List Int) (acc : List Int) (c : Int) (k : Nat) (hp : prlLad a b acc c k = true) : ∀ ex s', (outLad a b acc c k).val = some (ex, s') → LoopOK enLad (loopN Tryz.f120 0) (stLad a b acc c k) ex s' := by
  simp only [prlLad, Bool.and_eq_true, decide_eq_true_eq] at hp
  obtain ⟨⟨⟨⟨⟨h1, h2⟩, h3⟩, h4⟩, h5⟩, h6⟩ := hp
  have l1 := F.nk_len h1
  have l2 := F.nk_len h2
  have o1 := F.nk_ok h1
  have o2 := F.nk_ok h2
  clear h1 h2
  refine loop_gen (st := fun p : List Int × Int × Nat => stLad a b p.1 p.2.1 p.2.2) (out := fun p => outLad a b p.1 p.2.1 p.2.2) (I := fun p => (0 ≤ p.2.1 ∧ p.2.1 ≤ 1) ∧ p.1.length ≤ p.2.2 ∧ p.2.2 ≤ max a.length b.length) (n := ([7, 6, 5, 1, 0], [5])) (e := ([6, 5], [5])) (r := ([], [])) (fun p => max a.length b.length - p.2.2) ?_ (acc, c, k) ⟨⟨h3, h4⟩, h5, h6⟩
  rintro ⟨acc, c, k⟩ ⟨⟨g1, g2⟩, g3, g4⟩
  simp only at g1 g2 g3 g4
  by_cases hlt : k < max a.length b.length
  · right
    have hb : Nat.ble ((acc.length + 1) * 8) 140737488355328 = true := ble_t (by omega)
    have q1 := F.at0_ok o1 k
    have q2 := F.at0_ok o2 k
    have hs : (0 ≤ c + F.at0 a k + F.at0 b k) ∧ c + F.at0 a k + F.at0 b k < 20000 := by omega
    have hn : max a.length b.length - k = (max a.length b.length - (k + 1)) + 1 := by omega
    have hw : IntKind.i64.wrap ((k : Int) + 1) = ((k + 1 : Nat) : Int) := by rw [wrap_id (by omega) (by omega)]; rfl
    have hm : (c + F.at0 a k + F.at0 b k).tmod 10000 = (c + F.at0 a k + F.at0 b k) % 10000 := Int.tmod_eq_emod_of_nonneg hs.1
    have hd : (c + F.at0 a k + F.at0 b k).tdiv 10000 = (c + F.at0 a k + F.at0 b k) / 10000 := Int.tdiv_eq_ediv_of_nonneg hs.1
    refine ⟨(acc ++ [(c + F.at0 a k + F.at0 b k) % 10000], (c + F.at0 a k + F.at0 b k) / 10000, k + 1), ?_, rfl, ⟨by simp only; omega, by simp only [List.length_append, List.length_singleton]; omega, by simp only; omega⟩, by simp only; omega, ?_⟩
    · have hi : idx (k : Int) = some k := idx_n (by omega)
      by_cases ca : k < a.length
      · have hy : a[k]? = some a[k] := List.getElem?_eq_getElem ca
        have ea : F.at0 a k = a[k] := by simp [F.at0, ca]
        rw [ea] at q1 hs hm hd ⊢
        generalize a[k] = x at hy ea q1 hs hm hd ⊢
        have w1 : IntKind.i64.wrap (c + x) = c + x := wrap_id (by omega) (by omega)
        by_cases cb : k < b.length
        · have hz : b[k]? = some b[k] := List.getElem?_eq_getElem cb
          have eb : F.at0 b k = b[k] := by simp [F.at0, cb]
          rw [eb] at q2 hs hm hd ⊢
          generalize b[k] = y at hz eb q2 hs hm hd ⊢
          have w2 : IntKind.i64.wrap (c + x + y) = c + x + y := wrap_id (by omega) (by omega)
          have w3 : IntKind.i64.wrap ((c + x + y) % 10000) = (c + x + y) % 10000 := wrap_id (by omega) (by omega)
          have w4 : IntKind.i64.wrap ((c + x + y) / 10000) = (c + x + y) / 10000 := wrap_id (by omega) (by omega)
          rw [evLadL]
          simp only [unstLad, unstLad0, prlLad, outLad, etaEnt, etaLst, etaSnd, etaStrm, etaMas, Option.bind_some, List.length_map, unStrs, unInts, unBools, unEnts, unItms, unTrns, cond_true, cond_false, Bool.and_true, Bool.true_and, cast_lt ca, cast_lt cb, decide_eq_true ca, decide_eq_true cb, hi, hw, getD_at hy, getD_at hz, w1, w2, hm, hd, w3, w4, hb, stLad, Bool.true_or]
          rw [List.map_append]
          rfl
        · have eb : F.at0 b k = 0 := by simp [F.at0, cb]
          rw [eb, Int.add_zero] at hs hm hd ⊢
          have w3 : IntKind.i64.wrap ((c + x) % 10000) = (c + x) % 10000 := wrap_id (by omega) (by omega)
          have w4 : IntKind.i64.wrap ((c + x) / 10000) = (c + x) / 10000 := wrap_id (by omega) (by omega)
          have cb2 : ¬ (k : Int) < (b.length : Int) := by omega
          rw [evLadL]
          simp only [unstLad, unstLad0, prlLad, outLad, etaEnt, etaLst, etaSnd, etaStrm, etaMas, Option.bind_some, List.length_map, unStrs, unInts, unBools, unEnts, unItms, unTrns, cond_true, cond_false, Bool.and_true, Bool.true_and, cast_lt ca, decide_eq_false cb2, decide_eq_true ca, hi, hw, getD_at hy, w1, hm, hd, w3, w4, hb, stLad, Bool.true_or]
          rw [List.map_append]
          rfl
      · have ea : F.at0 a k = 0 := by simp [F.at0, ca]
        have ca2 : ¬ (k : Int) < (a.length : Int) := by omega
        have cb : k < b.length := by omega
        have hz : b[k]? = some b[k] := List.getElem?_eq_getElem cb
        have eb : F.at0 b k = b[k] := by simp [F.at0, cb]
        rw [ea, eb, Int.add_zero] at hs hm hd ⊢
        rw [eb] at q2
        generalize b[k] = y at hz eb q2 hs hm hd ⊢
        have w2 : IntKind.i64.wrap (c + y) = c + y := wrap_id (by omega) (by omega)
        have w3 : IntKind.i64.wrap ((c + y) % 10000) = (c + y) % 10000 := wrap_id (by omega) (by omega)
        have w4 : IntKind.i64.wrap ((c + y) / 10000) = (c + y) / 10000 := wrap_id (by omega) (by omega)
        rw [evLadL]
        simp only [unstLad, unstLad0, prlLad, outLad, etaEnt, etaLst, etaSnd, etaStrm, etaMas, Option.bind_some, List.length_map, unStrs, unInts, unBools, unEnts, unItms, unTrns, cond_true, cond_false, Bool.and_true, Bool.true_and, decide_eq_false ca2, cast_lt cb, decide_eq_true cb, hi, hw, getD_at hz, w2, hm, hd, w3, w4, hb, stLad, Bool.false_or]
        rw [List.map_append]
        rfl
    · simp only [outLad, hn, F.addR, Nat.add_sub_cancel, List.append_assoc, List.singleton_append]
      done
  · have hk : k = max a.length b.length := by omega
    left
    refine ⟨(.exit 0, ⟨[(6, vI c), (5, .own 5)], [(5, ⟨false, 3, 1, acc.map eI⟩)]⟩), ?_, ?_, by simp, rfl⟩
    · have ca2 : ¬ (k : Int) < (a.length : Int) := by omega
      have cb2 : ¬ (k : Int) < (b.length : Int) := by omega
      rw [evLadL]
      simp only [unstLad, unstLad0, prlLad, outLad, etaEnt, etaLst, etaSnd, etaStrm, etaMas, Option.bind_some, List.length_map, unStrs, unInts, unBools, unEnts, unItms, unTrns, cond_true, cond_false, Bool.and_true, Bool.true_and, decide_eq_false ca2, decide_eq_false cb2]
    · have hn : max a.length b.length - k = 0 := by omega
      simp only [outLad, hn, F.addR, List.append_nil]
      rfl

theorem evLad (a : List Int) (b : List Int) : (runF enLad false Tryz.f120 [.sl (a.map eI), .sl (b.map eI)]).val =
  Option.bind (unenc stLad1 (St.mk [(7, (vI (0 : Int))), (6, (vI (0 : Int))), (5, .own 5), (1, AV.sl (List.map eI b)), (0, AV.sl (List.map eI a))] [(5, Blk.mk false 3 1
  [])])) fun (z : List Int × List Int × List Int × Int × Nat) => bif F.nk (1000 : Nat) z.fst && F.nk (1000 : Nat) z.snd.fst && decide ((0 : Int) ≤ z.snd.snd.snd.fst) &&
  decide (z.snd.snd.snd.fst ≤ (1 : Int)) && decide (List.length z.snd.snd.fst ≤ z.snd.snd.snd.snd) && decide (z.snd.snd.snd.snd ≤ max (List.length z.fst) (List.length
  z.snd.fst)) && true then bif decide ((0 : Int) < (F.addR z.fst z.snd.fst (max (List.length z.fst) (List.length z.snd.fst) - z.snd.snd.snd.snd) z.snd.snd.snd.snd
  z.snd.snd.snd.fst).snd) then bif Nat.ble ((List.length (List.map eI (z.snd.snd.fst ++ (F.addR z.fst z.snd.fst (max (List.length z.fst) (List.length z.snd.fst) -
  z.snd.snd.snd.snd) z.snd.snd.snd.snd z.snd.snd.snd.fst).fst)) + (1 : Nat)) * (8 : Nat)) (140737488355328 : Nat) && true then some (AV.sl (List.map eI (z.snd.snd.fst ++
  (F.addR z.fst z.snd.fst (max (List.length z.fst) (List.length z.snd.fst) - z.snd.snd.snd.snd) z.snd.snd.snd.snd z.snd.snd.snd.fst).fst) ++ [[(vI (F.addR z.fst z.snd.fst
  (max (List.length z.fst) (List.length z.snd.fst) - z.snd.snd.snd.snd) z.snd.snd.snd.snd z.snd.snd.snd.fst).snd)]]), []) else none else some (AV.sl (List.map eI
  (z.snd.snd.fst ++ (F.addR z.fst z.snd.fst (max (List.length z.fst) (List.length z.snd.fst) - z.snd.snd.snd.snd) z.snd.snd.snd.snd z.snd.snd.snd.fst).fst)), []) else none := (runFR_val).symm.trans (by kernel_rfl)

def encLad1 (a : List Int) (b : List Int) : List AV := [.sl (a.map eI), .sl (b.map eI)]

def encLad (a : (List Int) × (List Int)) : List AV := encLad1 a.1 a.2

theorem encLad_inj (a a' : (List Int) × (List Int)) (h : encLad a = encLad a') : a = a' := by
  simp only [encLad, encLad1] at h
  try simp [ints_inj, strs_inj, ents_inj, eEnt_iff, eLst_iff] at h
  grind

theorem unLad (a : List Int) (b : List Int) : unenc encLad ([AV.sl (List.map eI a), AV.sl (List.map eI b)]) = some (a, b) := unenc_of encLad_inj (a, b) rfl

def resLad1 (a : List Int) (b : List Int) : AV × Heap := (.sl ((F.lb (F.nv a + F.nv b)).map eI), [])

def preLad1 (a : List Int) (b : List Int) : Bool := F.nk 1000 a && F.nk 1000 b

noncomputable def oLad : Orc := orc 120 false encLad (fun a => preLad1 a.1 a.2) fun a => resLad1 a.1 a.2

theorem okLad : OrcOK Tryz.prog noG oLad := by
  refine mk_ok Tryz.f120 (keep := false) (by kernel_rfl) (by kernel_rfl) enLad_ok mixed (one_loop (x0 := loopN Tryz.f120 0) (by kernel_rfl) (lpo_ok ?_)) (by first | exact fun _ _ => ⟨rfl, rfl⟩ | (intro h; cases h)) ?_
  · rintro ⟨a, b, acc, c, k⟩ hp
    exact lpLad_ok a b acc c k hp
  rintro ⟨a, b⟩ hpre hok
  show (runF enLad false _ (encLad1 _ _)).val = some (resLad1 _ _)
  unfold encLad1 resLad1
  rw [evLad]
  have hpre : (F.nk 1000 a && F.nk 1000 b) = true := hpre
  have hpre2 := hpre
  rw [Bool.and_eq_true] at hpre2
  have l1 := F.nk_len hpre2.1
  have l2 := F.nk_len hpre2.2
  have hres : F.lb (F.nv a + F.nv b) = F.addL 0 a b := by
    obtain ⟨m, hm1, hm⟩ := F.nk_of hpre2.1
    obtain ⟨n, hn1, hn⟩ := F.nk_of hpre2.2
    have := F.addL_eq (m + n) m n 0 (Nat.le_refl _) (by decide)
    rw [Nat.zero_add] at this
    rw [hm1, hn1, F.nv_lb, F.nv_lb, ← this]
    rfl
  have hc := F.addR_c (F.nk_ok hpre2.1) (F.nk_ok hpre2.2) (max a.length b.length) 0 0 (by decide)
  have hl := F.addR_len a b (max a.length b.length) 0 0
  have hR := F.addL_R 0 a b
  have hb : Nat.ble (((F.addR a b (max a.length b.length) 0 0).1.length + 1) * 8) 140737488355328 = true := ble_t (by omega)
  simp only [unstLad, unstLad0, prlLad, outLad, etaEnt, etaLst, etaSnd, etaStrm, etaMas, Option.bind_some, List.length_map, unStrs, unInts, unBools, unEnts, unItms, unTrns, cond_true, cond_false, Bool.and_true, Bool.true_and, hpre, hres, hR, decide_true, Nat.zero_le, Nat.sub_zero, List.nil_append, List.length_nil, Int.le_refl, hb, (by decide : decide ((0 : Int) ≤ 1) = true)]
  cases hq : decide (0 < (F.addR a b (max a.length b.length) 0 0).2)
  · have hq := of_decide_eq_false hq
    simp [if_neg hq]
  · have hq := of_decide_eq_true hq
    simp [if_pos hq]
    rfl

end M

def F.subV (v : Int) : Int := bif decide (v < 0) then v + 10000 else v

def F.subC (v : Int) : Int := bif decide (v < 0) then 1 else 0

def F.subR (a b : List Int) : Nat → Nat → Int → List Int
  | 0, _, _ => []
  | n + 1, k, c => F.subV (F.at0 a k - c - F.at0 b k) :: F.subR a b n (k + 1) (F.subC (F.at0 a k - c - F.at0 b k))

theorem F.subR_ss (x y : Int) (a b : List Int) : ∀ n k c, F.subR (x :: a) (y :: b) n (k + 1) c = F.subR a b n k c
  | 0, k, c => rfl
  | n + 1, k, c => by rw [F.subR, F.subR, F.at0_s, F.at0_s, F.subR_ss]

theorem F.subR_sn (x : Int) (a : List Int) : ∀ n k c, F.subR (x :: a) [] n (k + 1) c = F.subR a [] n k c
  | 0, k, c => rfl
  | n + 1, k, c => by rw [F.subR, F.subR, F.at0_s, F.at0_nil, F.at0_nil, F.subR_sn]

theorem F.subL_R : ∀ (c : Int) (a b : List Int), F.subL c a b = F.subR a b a.length 0 c
  | c, [], b => by cases b <;> rfl
  | c, x :: a, [] => by
    rw [F.subL, List.length_cons, F.subR, F.at0_z, F.at0_nil, Int.sub_zero, F.subR_sn, ← F.subL_R]
    unfold F.subV F.subC
    by_cases h : x - c < 0
    · simp [h]
    · simp [h]
  | c, x :: a, y :: b => by
    rw [F.subL, List.length_cons, F.subR, F.at0_z, F.at0_z, F.subR_ss, ← F.subL_R]
    unfold F.subV F.subC
    by_cases h : x - c - y < 0
    · simp [h]
    · simp [h]

theorem F.subR_len (a b : List Int) : ∀ n k c, (F.subR a b n k c).length = n
  | 0, k, c => rfl
  | n + 1, k, c => by rw [F.subR]; simp only [List.length_cons, F.subR_len]

namespace M

def stLes (a : List Int) (b : List Int) (acc : List Int) (c : Int) (k : Nat) : St := ⟨[(7, vI k), (6, vI c), (5, .own 5), (1, .sl (b.map eI)), (0, .sl (a.map eI))], [(5, ⟨false, 3, 1, acc.map eI⟩)]⟩

def stLes1 (a : (List Int) × (List Int) × (List Int) × Int × Nat) : St := stLes a.1 a.2.1 a.2.2.1 a.2.2.2.1 a.2.2.2.2

theorem stLes_inj (a a' : (List Int) × (List Int) × (List Int) × Int × Nat) (h : stLes1 a = stLes1 a') : a = a' := by
  simp only [stLes1, stLes] at h
  try simp [ints_inj, strs_inj, ents_inj, eEnt_iff, eLst_iff] at h
  grind

theorem unstLes (a : List Int) (b : List Int) (acc : List Int) (c : Int) (k : Nat) : unenc stLes1 (St.mk [(7, (vI (↑k : Int))), (6, (vI c)), (5, .own 5), (1, AV.sl (List.map eI b)), (0, AV.sl (List.map eI a))] [(5, Blk.mk false 3 1 (List.map eI acc))]) = some (a, b, acc, c, k) := unenc_of stLes_inj (a, b, acc, c, k) rfl

theorem unstLes0 (a : List Int) (b : List Int)  : unenc stLes1 (St.mk [(7, (vI (0 : Int))), (6, (vI (0 : Int))), (5, .own 5), (1, AV.sl (List.map eI b)), (0, AV.sl (List.map eI a))] [(5, Blk.mk false 3 1 [])]) = some (a, b, [], 0, 0) := unenc_of stLes_inj (a, b, [], 0, 0) rfl

def outLes (a : List Int) (b : List Int) (acc : List Int) (c : Int) (k : Nat) : T (Ex × St) := .ret (.exit 0, ⟨[(5, .own 5)], [(5, ⟨false, 3, 1, (acc ++ F.subR a b (a.length - k) k c).map eI⟩)]⟩)

noncomputable def prlLes (a : List Int) (b : List Int) (acc : List Int) (c : Int) (k : Nat) : Bool := F.nk 1000 a && F.nk 1000 b && decide (0 ≤ c) && decide (c ≤ 1) && decide (acc.length ≤ k) && decide (k ≤ a.length)

noncomputable def lpLes : Nat × (St → T (Ex × St)) := (4, lpo [7, 6, 5, 1, 0] [5] stLes1 (fun a => prlLes a.1 a.2.1 a.2.2.1 a.2.2.2.1 a.2.2.2.2) fun a => outLes a.1 a.2.1 a.2.2.1 a.2.2.2.1 a.2.2.2.2)

noncomputable def enLes : Env := envH ty noG lks [oTrm] [] [] [lpLes]

theorem enLes_ok : EnvOK Tryz.prog enLes := by
  refine envH_ok lks_ok ty_ok ?_ ?_
  · simp only [List.forall_mem_cons]
    exact ⟨okTrm, by simp⟩
  · simp

theorem evLesL (a : List Int) (b : List Int) (acc : List Int) (c : Int) (k : Nat) : ((exec enLes (loopN Tryz.f135 0) (stLes a b acc c k)).bind (lessX ([7, 6, 5, 1, 0], [5]) ([5], [5]) ([], []))).val =
  (fun (q : Nat × AV) => (fun (q_1 : Bool) => (fun (q_2 : List (Nat × AV)) => (fun (q_3 : List (Nat × AV)) => (fun (q : List (Nat × AV)) => bif decide ((↑k : Int) <
  (↑(List.length (List.map eI a)) : Int)) then Option.bind (unenc (List.map eI) (List.map eI a)) fun (z : List Int) => (fun (q_4 : Int) => bif decide (k < List.length z)
  then bif decide ((↑k : Int) < (↑(List.length (List.map eI b)) : Int)) then Option.bind (unenc (List.map eI) (List.map eI b)) fun (z : List Int) => (fun (q_5 : Int) => bif
  decide (k < List.length z) then bif decide (q_5 < (0 : Int)) then bif q_1 then some (Ex.normal, St.mk q_3 [(5, Blk.mk false 3 1 (List.map eI acc ++ [[(vI (IntKind.wrap
  IntKind.i64 (q_5 + (10000 : Int))))]]))]) else none else bif q_1 then some (Ex.normal, St.mk q [(5, Blk.mk false 3 1 (List.map eI acc ++ [[(vI q_5)]]))]) else none else
  none) (IntKind.wrap IntKind.i64 (q_4 - List.getD z k (0 : Int))) else bif decide (q_4 < (0 : Int)) then bif q_1 then some (Ex.normal, St.mk q_3 [(5, Blk.mk false 3 1
  (List.map eI acc ++ [[(vI (IntKind.wrap IntKind.i64 (q_4 + (10000 : Int))))]]))]) else none else bif q_1 then some (Ex.normal, St.mk q [(5, Blk.mk false 3 1 (List.map eI
  acc ++ [[(vI q_4)]]))]) else none else none) (IntKind.wrap IntKind.i64 (List.getD z k (0 : Int) - c)) else some (Ex.exit (0 : Nat), St.mk [(5, .own 5)] [(5, Blk.mk false 3
  1 (List.map eI acc))])) (q :: (6, (vI (0 : Int))) :: q_2)) (q :: (6, (vI (1 : Int))) :: q_2)) [(5, .own 5), (1, AV.sl (List.map eI b)), (0, AV.sl (List.map eI a))])
  (Nat.ble ((List.length (List.map eI acc) + (1 : Nat)) * (8 : Nat)) (140737488355328 : Nat) && true)) (7, (vI (IntKind.wrap IntKind.i64 ((↑k : Int) + (1 : Int))))) := (execR_bind _ _ _).symm.trans (by kernel_rfl)

theorem lpLes_ok (a : List Int) (b : List Int) (acc : List Int) (c : Int) (k : Nat) (hp : prlLes a b acc c k = true) : ∀ ex s', (outLes a b acc c k).val = some (ex, s') → LoopOK enLes (loopN Tryz.f135 0) (stLes a b acc c k) ex s' := by
  simp only [prlLes, Bool.and_eq_true, decide_eq_true_eq] at hp
  obtain ⟨⟨⟨⟨⟨h1, h2⟩, h3⟩, h4⟩, h5⟩, h6⟩ := hp
  have l1 := F.nk_len h1
  have l2 := F.nk_len h2
  have o1 := F.nk_ok h1
  have o2 := F.nk_ok h2
  clear h1 h2
  refine loop_gen (st := fun p : List Int × Int × Nat => stLes a b p.1 p.2.1 p.2.2) (out := fun p => outLes a b p.1 p.2.1 p.2.2) (I := fun p => (0 ≤ p.2.1 ∧ p.2.1 ≤ 1) ∧ p.1.length ≤ p.2.2 ∧ p.2.2 ≤ a.length) (n := ([7, 6, 5, 1, 0], [5])) (e := ([5], [5])) (r := ([], [])) (fun p => a.length - p.2.2) ?_ (acc, c, k) ⟨⟨h3, h4⟩, h5, h6⟩
  rintro ⟨acc, c, k⟩ ⟨⟨g1, g2⟩, g3, g4⟩
  simp only at g1 g2 g3 g4
  by_cases hlt : k < a.length
  · right
    have hb : Nat.ble ((acc.length + 1) * 8) 140737488355328 = true := ble_t (by omega)
    have q1 := F.at0_ok o1 k
    have q2 := F.at0_ok o2 k
    have hn : a.length - k = (a.length - (k + 1)) + 1 := by omega
    have hw : IntKind.i64.wrap ((k : Int) + 1) = ((k + 1 : Nat) : Int) := by rw [wrap_id (by omega) (by omega)]; rfl
    have hcc : 0 ≤ F.subC (F.at0 a k - c - F.at0 b k) ∧ F.subC (F.at0 a k - c - F.at0 b k) ≤ 1 := by
      unfold F.subC
      cases decide (F.at0 a k - c - F.at0 b k < 0) <;> simp
    refine ⟨(acc ++ [F.subV (F.at0 a k - c - F.at0 b k)], F.subC (F.at0 a k - c - F.at0 b k), k + 1), ?_, rfl, ⟨hcc, by simp only [List.length_append, List.length_singleton]; omega, by simp only; omega⟩, by simp only; omega, ?_⟩
    · have hi : idx (k : Int) = some k := idx_n (by omega)
      have hy : a[k]? = some a[k] := List.getElem?_eq_getElem hlt
      have ea : F.at0 a k = a[k] := by simp [F.at0, hlt]
      rw [ea] at q1 ⊢
      generalize a[k] = x at hy ea q1 ⊢
      have w1 : IntKind.i64.wrap (x - c) = x - c := wrap_id (by omega) (by omega)
      by_cases cb : k < b.length
      · have hz : b[k]? = some b[k] := List.getElem?_eq_getElem cb
        have eb : F.at0 b k = b[k] := by simp [F.at0, cb]
        rw [eb] at q2 ⊢
        generalize b[k] = y at hz eb q2 ⊢
        have w2 : IntKind.i64.wrap (x - c - y) = x - c - y := wrap_id (by omega) (by omega)
        have w3 : IntKind.i64.wrap (x - c - y + 10000) = x - c - y + 10000 := wrap_id (by omega) (by omega)
        rw [evLesL]
        simp only [unTrm, preTrm1, unstLes, unstLes0, prlLes, outLes, etaEnt, etaLst, etaSnd, etaStrm, etaMas, Option.bind_some, List.length_map, unStrs, unInts, unBools, unEnts, unItms, unTrns, cond_true, cond_false, Bool.and_true, Bool.true_and, cast_lt hlt, cast_lt cb, decide_eq_true hlt, decide_eq_true cb, hi, hw, getD_at hy, getD_at hz, w1, w2, w3, hb, stLes, F.subV, F.subC]
        rw [List.map_append]
        cases decide (x - c - y < 0) <;> rfl
      · have eb : F.at0 b k = 0 := by simp [F.at0, cb]
        rw [eb, Int.sub_zero]
        have w3 : IntKind.i64.wrap (x - c + 10000) = x - c + 10000 := wrap_id (by omega) (by omega)
        have cb2 : ¬ (k : Int) < (b.length : Int) := by omega
        rw [evLesL]
        simp only [unTrm, preTrm1, unstLes, unstLes0, prlLes, outLes, etaEnt, etaLst, etaSnd, etaStrm, etaMas, Option.bind_some, List.length_map, unStrs, unInts, unBools, unEnts, unItms, unTrns, cond_true, cond_false, Bool.and_true, Bool.true_and, cast_lt hlt, decide_eq_false cb2, decide_eq_true hlt, hi, hw, getD_at hy, w1, w3, hb, stLes, F.subV, F.subC]
        rw [List.map_append]
        cases decide (x - c < 0) <;> rfl
    · simp only [outLes, hn, F.subR, Nat.add_sub_cancel, List.append_assoc, List.singleton_append]
  · have hk : k = a.length := by omega
    left
    refine ⟨(.exit 0, ⟨[(5, .own 5)], [(5, ⟨false, 3, 1, acc.map eI⟩)]⟩), ?_, ?_, by simp, rfl⟩
    · have ca2 : ¬ (k : Int) < (a.length : Int) := by omega
      rw [evLesL]
      simp only [unTrm, preTrm1, unstLes, unstLes0, prlLes, outLes, etaEnt, etaLst, etaSnd, etaStrm, etaMas, Option.bind_some, List.length_map, unStrs, unInts, unBools, unEnts, unItms, unTrns, cond_true, cond_false, Bool.and_true, Bool.true_and, decide_eq_false ca2]
    · have hn : a.length - k = 0 := by omega
      simp only [outLes, hn, F.subR, List.append_nil]
      rfl

theorem evLes (a : List Int) (b : List Int) : (runF enLes false Tryz.f135 [.sl (a.map eI), .sl (b.map eI)]).val =
  Option.bind (unenc stLes1 (St.mk [(7, (vI (0 : Int))), (6, (vI (0 : Int))), (5, .own 5), (1, AV.sl (List.map eI b)), (0, AV.sl (List.map eI a))] [(5, Blk.mk false 3 1
  [])])) fun (z : List Int × List Int × List Int × Int × Nat) => bif F.nk (1000 : Nat) z.fst && F.nk (1000 : Nat) z.snd.fst && decide ((0 : Int) ≤ z.snd.snd.snd.fst) &&
  decide (z.snd.snd.snd.fst ≤ (1 : Int)) && decide (List.length z.snd.snd.fst ≤ z.snd.snd.snd.snd) && decide (z.snd.snd.snd.snd ≤ List.length z.fst) && true then Option.bind
  (unenc encTrm [AV.sl (List.map eI (z.snd.snd.fst ++ F.subR z.fst z.snd.fst (List.length z.fst - z.snd.snd.snd.snd) z.snd.snd.snd.snd z.snd.snd.snd.fst))]) fun (z : List
  Int) => bif decide (List.length z ≤ (100000 : Nat)) then some (AV.sl (List.map eI (F.trimL z)), []) else none else none := (runFR_val).symm.trans (by kernel_rfl)

def encLes1 (a : List Int) (b : List Int) : List AV := [.sl (a.map eI), .sl (b.map eI)]

def encLes (a : (List Int) × (List Int)) : List AV := encLes1 a.1 a.2

theorem encLes_inj (a a' : (List Int) × (List Int)) (h : encLes a = encLes a') : a = a' := by
  simp only [encLes, encLes1] at h
  try simp [ints_inj, strs_inj, ents_inj, eEnt_iff, eLst_iff] at h
  grind

theorem unLes (a : List Int) (b : List Int) : unenc encLes ([AV.sl (List.map eI a), AV.sl (List.map eI b)]) = some (a, b) := unenc_of encLes_inj (a, b) rfl

def resLes1 (a : List Int) (b : List Int) : AV × Heap := (.sl ((F.lb (F.nv a - F.nv b)).map eI), [])

def preLes1 (a : List Int) (b : List Int) : Bool := F.nk 1000 a && F.nk 1000 b && decide (F.nv b ≤ F.nv a)

noncomputable def oLes : Orc := orc 135 false encLes (fun a => preLes1 a.1 a.2) fun a => resLes1 a.1 a.2

theorem okLes : OrcOK Tryz.prog noG oLes := by
  refine mk_ok Tryz.f135 (keep := false) (by kernel_rfl) (by kernel_rfl) enLes_ok mixed (one_loop (x0 := loopN Tryz.f135 0) (by kernel_rfl) (lpo_ok ?_)) (by first | exact fun _ _ => ⟨rfl, rfl⟩ | (intro h; cases h)) ?_
  · rintro ⟨a, b, acc, c, k⟩ hp
    exact lpLes_ok a b acc c k hp
  rintro ⟨a, b⟩ hpre hok
  show (runF enLes false _ (encLes1 _ _)).val = some (resLes1 _ _)
  unfold encLes1 resLes1
  rw [evLes]
  have hpre : (F.nk 1000 a && F.nk 1000 b && decide (F.nv b ≤ F.nv a)) = true := hpre
  have hpre2 := hpre
  rw [Bool.and_eq_true, Bool.and_eq_true, decide_eq_true_eq] at hpre2
  obtain ⟨⟨p1, p2⟩, p3⟩ := hpre2
  have l1 := F.nk_len p1
  have l2 := F.nk_len p2
  have hres : F.trimL (F.subR a b a.length 0 0) = F.lb (F.nv a - F.nv b) := by
    obtain ⟨m, hm1, hm⟩ := F.nk_of p1
    obtain ⟨n, hn1, hn⟩ := F.nk_of p2
    rw [← F.subL_R]
    rw [hm1, hn1, F.nv_lb, F.nv_lb] at p3 ⊢
    exact F.sub_lb p3
  have hl := F.subR_len a b a.length 0 0
  have hb : decide ((F.subR a b a.length 0 0).length ≤ 100000) = true := decide_eq_true (by omega)
  simp only [unTrm, preTrm1, unstLes, unstLes0, prlLes, outLes, etaEnt, etaLst, etaSnd, etaStrm, etaMas, Option.bind_some, List.length_map, unStrs, unInts, unBools, unEnts, unItms, unTrns, cond_true, cond_false, Bool.and_true, Bool.true_and, p1, p2, decide_true, Nat.zero_le, Nat.sub_zero, List.nil_append, List.length_nil, Int.le_refl, hb, hres, (by decide : decide ((0 : Int) ≤ 1) = true)]
  done

end M

def F.rowD (x : Int) : Int → List Int → List Int → List Int × Int
  | c, o :: os, y :: b => ((o + x * y + c) % 10000 :: (F.rowD x ((o + x * y + c) / 10000) os b).1, (F.rowD x ((o + x * y + c) / 10000) os b).2)
  | c, os, [] => (os, c)
  | c, [], _ :: _ => ([], c)

theorem F.rowD_nil (x c : Int) (os : List Int) : F.rowD x c os [] = (os, c) := by cases os <;> rfl

theorem F.mrow_D (x : Int) : ∀ (b os : List Int) (c : Int), b.length < os.length → F.mrow x c os b = (F.rowD x c os b).1.set b.length ((F.rowD x c os b).1.getD b.length 0 + (F.rowD x c os b).2)
  | [], o :: os, c, _ => by rw [F.mrow, F.rowD_nil]; rfl
  | y :: b, o :: os, c, h => by
    have ih := F.mrow_D x b os ((o + x * y + c) / 10000) (by simpa using h)
    rw [F.mrow, ih, F.rowD]
    rfl
  | [], [], c, h => by simp at h
  | y :: b, [], c, h => by simp at h

theorem F.rowD_len (x : Int) : ∀ (b os : List Int) (c : Int), (F.rowD x c os b).1.length = os.length
  | [], os, c => by rw [F.rowD_nil]
  | y :: b, o :: os, c => by rw [F.rowD]; simp only [List.length_cons, F.rowD_len]
  | y :: b, [], c => rfl

theorem F.rowD_ok {x : Int} (hx : 0 ≤ x ∧ x ≤ 9999) : ∀ (b os : List Int) (c : Int), F.okL b → F.okL os → (0 ≤ c ∧ c ≤ 9999) → F.okL (F.rowD x c os b).1 ∧ 0 ≤ (F.rowD x c os b).2 ∧ (F.rowD x c os b).2 ≤ 9999
  | [], os, c, _, ho, hc => by rw [F.rowD_nil]; exact ⟨ho, hc⟩
  | y :: b, o :: os, c, hb, ho2, hc => by
    have h3 := hb y (List.mem_cons_self ..)
    have hm := F.mul_bd hx h3
    have ho := ho2 o (List.mem_cons_self ..)
    obtain ⟨q1, q2⟩ := F.rowD_ok hx b os ((o + x * y + c) / 10000) (fun z hz => hb z (List.mem_cons_of_mem _ hz)) (fun z hz => ho2 z (List.mem_cons_of_mem _ hz)) (by omega)
    rw [F.rowD]
    exact ⟨F.okL_cons (by omega) q1, q2⟩
  | y :: b, [], c, _, _, hc => ⟨F.okL_nil, hc⟩

theorem F.rowD_z {x : Int} : ∀ (b os : List Int) (c : Int), b.length < os.length → F.zeroFrom b.length os → (F.rowD x c os b).1.getD b.length 0 = 0
  | [], o :: os, c, _, hz => by rw [F.rowD_nil]; exact hz o (by simp)
  | y :: b, o :: os, c, h, hz => by
    have := F.rowD_z (x := x) b os ((o + x * y + c) / 10000) (by simpa using h) (fun z h => hz z (by simpa using h))
    rw [F.rowD]
    simpa using this
  | [], [], c, h, _ => by simp at h
  | y :: b, [], c, h, _ => by simp at h

def F.okB (l : List Int) : Bool := l.all fun x => decide (0 ≤ x) && decide (x ≤ 9999)

theorem F.okB_iff {l : List Int} : F.okB l = true ↔ F.okL l := by
  unfold F.okB F.okL
  rw [List.all_eq_true]
  constructor
  · intro h x hx; have := h x hx; simpa using this
  · intro h x hx; have := h x hx; simpa using this

def F.zB (k : Nat) (l : List Int) : Bool := (l.drop k).all fun x => x == 0

theorem F.zB_iff {k : Nat} {l : List Int} : F.zB k l = true ↔ F.zeroFrom k l := by
  unfold F.zB F.zeroFrom
  rw [List.all_eq_true]
  constructor
  · intro h x hx; have := h x hx; simpa using this
  · intro h x hx; have := h x hx; simpa using this

theorem F.okL_app {a b : List Int} (h1 : F.okL a) (h2 : F.okL b) : F.okL (a ++ b) := fun x hx => by
  rcases List.mem_append.1 hx with h | h
  · exact h1 x h
  · exact h2 x h

theorem F.okL_drop {a : List Int} (k : Nat) (h : F.okL a) : F.okL (a.drop k) := fun x hx => h x (List.mem_of_mem_drop hx)

theorem F.okL_take {a : List Int} (k : Nat) (h : F.okL a) : F.okL (a.take k) := fun x hx => h x (List.mem_of_mem_take hx)

def F.row1 (x : Int) (b : List Int) (i : Nat) (out : List Int) : List Int := out.take i ++ F.mrow x 0 (out.drop i) b

namespace M

def stTin (a : List Int) (b : List Int) (i : Nat) (out : List Int) (c : Int) (k : Nat) : St := ⟨[(8, vI k), (7, vI c), (6, vI i), (5, .own 15), (1, .sl (b.map eI)), (0, .sl (a.map eI))], [(15, ⟨false, 3, 1, out.map eI⟩)]⟩

def stTin1 (a : (List Int) × (List Int) × Nat × (List Int) × Int × Nat) : St := stTin a.1 a.2.1 a.2.2.1 a.2.2.2.1 a.2.2.2.2.1 a.2.2.2.2.2

theorem stTin_inj (a a' : (List Int) × (List Int) × Nat × (List Int) × Int × Nat) (h : stTin1 a = stTin1 a') : a = a' := by
  simp only [stTin1, stTin] at h
  try simp [ints_inj, strs_inj, ents_inj, eEnt_iff, eLst_iff] at h
  grind

theorem unstTin (a : List Int) (b : List Int) (i : Nat) (out : List Int) (c : Int) (k : Nat) : unenc stTin1 (St.mk [(8, (vI (↑k : Int))), (7, (vI c)), (6, (vI (↑i : Int))), (5, .own 15), (1, AV.sl (List.map eI b)), (0, AV.sl (List.map eI a))] [(15, Blk.mk false 3 1 (List.map eI
  out))]) = some (a, b, i, out, c, k) := unenc_of stTin_inj (a, b, i, out, c, k) rfl

theorem unstTin0 (a : List Int) (b : List Int) (i : Nat) (out : List Int)  : unenc stTin1 (St.mk [(8, (vI (0 : Int))), (7, (vI (0 : Int))), (6, (vI (↑i : Int))), (5, .own 15), (1, AV.sl (List.map eI b)), (0, AV.sl (List.map eI a))] [(15, Blk.mk false 3 1
  (List.map eI out))]) = some (a, b, i, out, 0, 0) := unenc_of stTin_inj (a, b, i, out, 0, 0) rfl

def outTin (a : List Int) (b : List Int) (i : Nat) (out : List Int) (c : Int) (k : Nat) : T (Ex × St) := .ret (.exit 2, ⟨[(7, vI (F.rowD (a.getD i 0) c (out.drop (i + k)) (b.drop k)).2), (6, vI i), (5, .own 15), (1, .sl (b.map eI)), (0, .sl (a.map eI))], [(15, ⟨false, 3, 1, (out.take (i + k) ++ (F.rowD (a.getD i 0) c (out.drop (i + k)) (b.drop k)).1).map eI⟩)]⟩)

noncomputable def prlTin (a : List Int) (b : List Int) (i : Nat) (out : List Int) (c : Int) (k : Nat) : Bool := F.nk 400 a && F.nk 400 b && F.okB out && decide (0 ≤ c) && decide (c ≤ 9999) && decide (k ≤ b.length) && decide (i < a.length) && decide (out.length = a.length + b.length)

noncomputable def lpTin : Nat × (St → T (Ex × St)) := (7, lpo [8, 7, 6, 5, 1, 0] [15] stTin1 (fun a => prlTin a.1 a.2.1 a.2.2.1 a.2.2.2.1 a.2.2.2.2.1 a.2.2.2.2.2) fun a => outTin a.1 a.2.1 a.2.2.1 a.2.2.2.1 a.2.2.2.2.1 a.2.2.2.2.2)

def stTmz (a : List Int) (b : List Int) (out : List Int) (i : Nat) : St := ⟨[(6, vI i), (5, .own 15), (1, .sl (b.map eI)), (0, .sl (a.map eI))], [(15, ⟨false, 3, 1, out.map eI⟩)]⟩

def stTmz1 (a : (List Int) × (List Int) × (List Int) × Nat) : St := stTmz a.1 a.2.1 a.2.2.1 a.2.2.2

theorem stTmz_inj (a a' : (List Int) × (List Int) × (List Int) × Nat) (h : stTmz1 a = stTmz1 a') : a = a' := by
  simp only [stTmz1, stTmz] at h
  try simp [ints_inj, strs_inj, ents_inj, eEnt_iff, eLst_iff] at h
  grind

theorem unstTmz (a : List Int) (b : List Int) (out : List Int) (i : Nat) : unenc stTmz1 (St.mk [(6, (vI (↑i : Int))), (5, .own 15), (1, AV.sl (List.map eI b)), (0, AV.sl (List.map eI a))] [(15, Blk.mk false 3 1 (List.map eI out))]) = some (a, b, out, i) := unenc_of stTmz_inj (a, b, out, i) rfl

theorem unstTmz0 (a : List Int) (b : List Int) (out : List Int)  : unenc stTmz1 (St.mk [(6, (vI (0 : Int))), (5, .own 15), (1, AV.sl (List.map eI b)), (0, AV.sl (List.map eI a))] [(15, Blk.mk false 3 1 (List.map eI out))]) = some (a, b, out, 0) := unenc_of stTmz_inj (a, b, out, 0) rfl

def outTmz (a : List Int) (b : List Int) (out : List Int) (i : Nat) : T (Ex × St) := .ret (.exit 0, ⟨[(5, .own 15)], [(15, ⟨false, 3, 1, (out.take i ++ F.mulR b (a.drop i) (out.drop i)).map eI⟩)]⟩)

noncomputable def prlTmz (a : List Int) (b : List Int) (out : List Int) (i : Nat) : Bool := F.nk 400 a && F.nk 400 b && F.okB out && F.zB (i + b.length) out && decide (i ≤ a.length) && decide (out.length = a.length + b.length)

noncomputable def lpTmz : Nat × (St → T (Ex × St)) := (3, lpo [6, 5, 1, 0] [15] stTmz1 (fun a => prlTmz a.1 a.2.1 a.2.2.1 a.2.2.2) fun a => outTmz a.1 a.2.1 a.2.2.1 a.2.2.2)

noncomputable def enTmz : Env := envH ty noG lks [oTrm] [] [] [lpTmz, lpTin]

theorem enTmz_ok : EnvOK Tryz.prog enTmz := by
  refine envH_ok lks_ok ty_ok ?_ ?_
  · simp only [List.forall_mem_cons]
    exact ⟨okTrm, by simp⟩
  · simp

theorem evTinL (a : List Int) (b : List Int) (i : Nat) (out : List Int) (c : Int) (k : Nat) : ((exec enTmz (loopN Tryz.f137 1) (stTin a b i out c k)).bind (lessX ([8, 7, 6, 5, 1, 0], [15]) ([7, 6, 5, 1, 0], [15]) ([], []))).val =
  bif decide ((↑k : Int) < (↑(List.length (List.map eI b)) : Int)) then Option.bind (idx (IntKind.wrap IntKind.i64 ((↑i : Int) + (↑k : Int)))) fun (z : Nat) => bif decide (z
  < List.length (Blk.mk false 3 1 (List.map eI out)).rows) then Option.bind (unenc (List.map eI) (List.map eI out)) fun (z_1 : List Int) => bif decide (z < List.length z_1)
  then Option.bind (unenc (List.map eI) (List.map eI a)) fun (z_2 : List Int) => bif decide (i < List.length z_2) then Option.bind (unenc (List.map eI) (List.map eI b)) fun
  (z_3 : List Int) => bif decide (k < List.length z_3) then Option.bind (idx (IntKind.wrap IntKind.i64 ((↑i : Int) + (↑k : Int)))) fun (z_4 : Nat) => bif decide (z_4 <
  List.length (Blk.mk false 3 1 (List.map eI out)).rows) then Option.bind (unenc (List.map eI) (List.map eI out)) fun (z_5 : List Int) => bif decide (z_4 < List.length z_5)
  then some (Ex.normal, St.mk [(8, (vI (IntKind.wrap IntKind.i64 ((↑k : Int) + (1 : Int))))), (7, (vI (IntKind.wrap IntKind.i64 (Int.tdiv (IntKind.wrap IntKind.i64
  (IntKind.wrap IntKind.i64 (List.getD z_1 z (0 : Int) + IntKind.wrap IntKind.i64 (List.getD z_2 i (0 : Int) * List.getD z_3 k (0 : Int))) + c)) (10000 : Int))))), (6, (vI
  (↑i : Int))), (5, .own 15), (1, AV.sl (List.map eI b)), (0, AV.sl (List.map eI a))] [(15, Blk.mk false 3 1 (List.set (List.map eI out) z_4 [(vI (Int.tmod (IntKind.wrap
  IntKind.i64 (IntKind.wrap IntKind.i64 (List.getD z_1 z (0 : Int) + IntKind.wrap IntKind.i64 (List.getD z_2 i (0 : Int) * List.getD z_3 k (0 : Int))) + c)) (10000 :
  Int)))]))]) else none else none else none else none else none else none else some (Ex.exit (2 : Nat), St.mk [(7, (vI c)), (6, (vI (↑i : Int))), (5, .own 15), (1, AV.sl
  (List.map eI b)), (0, AV.sl (List.map eI a))] [(15, Blk.mk false 3 1 (List.map eI out))]) := (execR_bind _ _ _).symm.trans (by kernel_rfl)

theorem lpTin_ok (a : List Int) (b : List Int) (i : Nat) (out : List Int) (c : Int) (k : Nat) (hp : prlTin a b i out c k = true) : ∀ ex s', (outTin a b i out c k).val = some (ex, s') → LoopOK enTmz (loopN Tryz.f137 1) (stTin a b i out c k) ex s' := by
  simp only [prlTin, Bool.and_eq_true, decide_eq_true_eq] at hp
  obtain ⟨⟨⟨⟨⟨⟨⟨h1, h2⟩, h3⟩, h4⟩, h5⟩, h6⟩, h7⟩, h8⟩ := hp
  have l1 := F.nk_len h1
  have l2 := F.nk_len h2
  have o1 := F.nk_ok h1
  have o2 := F.nk_ok h2
  have h3 := F.okB_iff.1 h3
  have hx : a[i]? = some a[i] := List.getElem?_eq_getElem h7
  have hxg : a.getD i 0 = a[i] := by simp [hx]
  have hxo := o1 _ (List.getElem_mem h7)
  clear h1 h2
  refine loop_gen (st := fun p : List Int × Int × Nat => stTin a b i p.1 p.2.1 p.2.2) (out := fun p => outTin a b i p.1 p.2.1 p.2.2) (I := fun p => F.okL p.1 ∧ (0 ≤ p.2.1 ∧ p.2.1 ≤ 9999) ∧ p.2.2 ≤ b.length ∧ p.1.length = a.length + b.length) (n := ([8, 7, 6, 5, 1, 0], [15])) (e := ([7, 6, 5, 1, 0], [15])) (r := ([], [])) (fun p => b.length - p.2.2) ?_ (out, c, k) ⟨h3, ⟨h4, h5⟩, h6, h8⟩
  rintro ⟨out, c, k⟩ ⟨g0, ⟨g1, g2⟩, g3, g4⟩
  simp only at g0 g1 g2 g3 g4
  generalize hxe : a[i] = x at hx hxg hxo
  by_cases hlt : k < b.length
  · right
    have hy : b[k]? = some b[k] := List.getElem?_eq_getElem hlt
    have hyo := o2 _ (List.getElem_mem hlt)
    have hq : i + k < out.length := by omega
    have ho : out[i + k]? = some out[i + k] := List.getElem?_eq_getElem hq
    have hoo := g0 _ (List.getElem_mem hq)
    generalize b[k] = y at hy hyo
    generalize out[i + k] = o at ho hoo
    have hm := F.mul_bd hxo hyo
    have w0 : IntKind.i64.wrap ((i : Int) + (k : Int)) = ((i + k : Nat) : Int) := by rw [wrap_id (by omega) (by omega)]; rfl
    have w1 : IntKind.i64.wrap (x * y) = x * y := wrap_id (by omega) (by omega)
    have w2 : IntKind.i64.wrap (o + x * y) = o + x * y := wrap_id (by omega) (by omega)
    have w3 : IntKind.i64.wrap (o + x * y + c) = o + x * y + c := wrap_id (by omega) (by omega)
    have hs : (0 : Int) ≤ o + x * y + c := by omega
    have w4 : IntKind.i64.wrap ((o + x * y + c) % 10000) = (o + x * y + c) % 10000 := wrap_id (by omega) (by omega)
    have w5 : IntKind.i64.wrap ((o + x * y + c) / 10000) = (o + x * y + c) / 10000 := wrap_id (by omega) (by omega)
    have m1 : (o + x * y + c).tmod 10000 = (o + x * y + c) % 10000 := Int.tmod_eq_emod_of_nonneg hs
    have m2 : (o + x * y + c).tdiv 10000 = (o + x * y + c) / 10000 := Int.tdiv_eq_ediv_of_nonneg hs
    have hw : IntKind.i64.wrap ((k : Int) + 1) = ((k + 1 : Nat) : Int) := by rw [wrap_id (by omega) (by omega)]; rfl
    have i1 : idx (k : Int) = some k := idx_n (by omega)
    have i2 : idx (i : Int) = some i := idx_n (by omega)
    have i3 : idx ((i + k : Nat) : Int) = some (i + k) := idx_n (by omega)
    have hd := drop_y hy
    have hod := drop_y ho
    refine ⟨(out.set (i + k) ((o + x * y + c) % 10000), (o + x * y + c) / 10000, k + 1), ?_, rfl, ⟨?_, by simp only; omega, by simp only; omega, by simp only [List.length_set]; omega⟩, by simp only; omega, ?_⟩
    · rw [evTinL]
      simp only [unTrm, preTrm1, unstTmz, unstTin, unstTmz0, unstTin0, prlTmz, prlTin, outTmz, outTin, etaEnt, etaLst, etaSnd, etaStrm, etaMas, Option.bind_some, List.length_map, unStrs, unInts, unBools, unEnts, unItms, unTrns, cond_true, cond_false, Bool.and_true, Bool.true_and, cast_lt hlt, decide_eq_true hlt, decide_eq_true h7, decide_eq_true hq, i1, i2, w0, i3, hw, getD_at hx, getD_at hy, getD_at ho, w1, w2, w3, m1, m2, w4, w5, stTin]
      rw [List.map_set]
      rfl
    · intro z hz
      rcases List.mem_or_eq_of_mem_set hz with h | rfl
      · exact g0 z h
      · omega
    · have e1 : (out.set (i + k) ((o + x * y + c) % 10000)).drop (i + (k + 1)) = out.drop (i + k + 1) := by
        rw [List.drop_set_of_lt (by omega)]
        rfl
      have e2 : (out.set (i + k) ((o + x * y + c) % 10000)).take (i + (k + 1)) = out.take (i + k) ++ [(o + x * y + c) % 10000] := by
        rw [show i + (k + 1) = i + k + 1 from rfl, List.take_succ_eq_append_getElem (by simpa using hq), List.take_set_of_le (Nat.le_refl _), List.getElem_set_self]
      simp only [outTin, hxg, e1, e2, hd, hod, F.rowD, List.append_assoc, List.singleton_append]
  · have hk : k = b.length := by omega
    left
    refine ⟨(.exit 2, ⟨[(7, vI c), (6, vI i), (5, .own 15), (1, .sl (b.map eI)), (0, .sl (a.map eI))], [(15, ⟨false, 3, 1, out.map eI⟩)]⟩), ?_, ?_, by simp, rfl⟩
    · have c2 : ¬ (k : Int) < (b.length : Int) := by omega
      rw [evTinL]
      simp only [unTrm, preTrm1, unstTmz, unstTin, unstTmz0, unstTin0, prlTmz, prlTin, outTmz, outTin, etaEnt, etaLst, etaSnd, etaStrm, etaMas, Option.bind_some, List.length_map, unStrs, unInts, unBools, unEnts, unItms, unTrns, cond_true, cond_false, Bool.and_true, Bool.true_and, decide_eq_false c2]
    · simp only [outTin, hk, List.drop_length, F.rowD_nil, List.take_append_drop]
      rfl

end M

theorem F.mulR_cons (b : List Int) (x : Int) (a out : List Int) (h : out ≠ []) : F.mrow x 0 out b = (F.mrow x 0 out b).headD 0 :: (F.mrow x 0 out b).tail ∧
    F.mulR b (x :: a) out = (F.mrow x 0 out b).headD 0 :: F.mulR b a (F.mrow x 0 out b).tail := by
  cases out with
  | nil => exact absurd rfl h
  | cons o os =>
    cases b with
    | nil => exact ⟨rfl, by rw [F.mulR, F.mrow]; rfl⟩
    | cons y b => exact ⟨rfl, by rw [F.mulR, F.mrow]; rfl⟩

theorem F.set_app {p q : List Int} {n : Nat} (k : Nat) (v : Int) (h : p.length = n) : (p ++ q).set (n + k) v = p ++ q.set k v := by
  rw [List.set_append_right _ _ (by omega), h, Nat.add_sub_cancel_left]

theorem F.getD_app {p q : List Int} {n : Nat} (k : Nat) (h : p.length = n) : (p ++ q).getD (n + k) 0 = q.getD k 0 := by
  simp only [List.getD]
  rw [List.getElem?_append_right (by omega), h, Nat.add_sub_cancel_left]

namespace M

theorem evTmzL (a : List Int) (b : List Int) (out : List Int) (i : Nat) : ((exec enTmz (loopN Tryz.f137 0) (stTmz a b out i)).bind (lessX ([6, 5, 1, 0], [15]) ([5], [15]) ([], []))).val =
  bif decide ((↑i : Int) < (↑(List.length (List.map eI a)) : Int)) then Option.bind (unenc stTin1 (St.mk [(8, (vI (0 : Int))), (7, (vI (0 : Int))), (6, (vI (↑i : Int))), (5,
  .own 15), (1, AV.sl (List.map eI b)), (0, AV.sl (List.map eI a))] [(15, Blk.mk false 3 1 (List.map eI out))])) fun (z : List Int × List Int × Nat × List Int × Int × Nat)
  => (fun (q : Int) => (fun (q_1 : Nat) => (fun (q_2 : Option Nat) => (fun (q_3 : List Int × Int) => (fun (q_4 : List Row) => (fun (q_5 : Option (List Int)) => (fun (q_6 :
  Nat) => bif F.nk (400 : Nat) z.fst && F.nk (400 : Nat) z.snd.fst && F.okB z.snd.snd.snd.fst && decide ((0 : Int) ≤ q) && decide (q ≤ (9999 : Int)) && decide (q_1 ≤
  List.length z.snd.fst) && decide (z.snd.snd.fst < List.length z.fst) && decide (List.length z.snd.snd.snd.fst = List.length z.fst + List.length z.snd.fst) && true then
  Option.bind q_2 fun (z_1 : Nat) => bif decide (z_1 < q_6) then Option.bind q_5 fun (z_2 : List Int) => bif decide (z_1 < List.length z_2) then Option.bind q_2 fun (z_3 :
  Nat) => bif decide (z_3 < q_6) then Option.bind q_5 fun (z_4 : List Int) => bif decide (z_3 < List.length z_4) then some (Ex.normal, St.mk [(6, (vI (IntKind.wrap
  IntKind.i64 ((↑z.snd.snd.fst : Int) + (1 : Int))))), (5, .own 15), (1, AV.sl (List.map eI z.snd.fst)), (0, AV.sl (List.map eI z.fst))] [(15, Blk.mk false 3 1 (List.set q_4
  z_3 [(vI (IntKind.wrap IntKind.i64 (List.getD z_2 z_1 (0 : Int) + q_3.snd)))]))]) else none else none else none else none else none) (List.length (Blk.mk false 3 1
  q_4).rows)) (unenc (List.map eI) q_4)) (List.map eI (List.take (z.snd.snd.fst + q_1) z.snd.snd.snd.fst ++ q_3.fst))) (F.rowD (List.getD z.fst z.snd.snd.fst (0 : Int)) q
  (List.drop (z.snd.snd.fst + q_1) z.snd.snd.snd.fst) (List.drop q_1 z.snd.fst))) (idx (IntKind.wrap IntKind.i64 ((↑z.snd.snd.fst : Int) + (↑(List.length (List.map eI
  z.snd.fst)) : Int))))) z.snd.snd.snd.snd.snd) z.snd.snd.snd.snd.fst else some (Ex.exit (0 : Nat), St.mk [(5, .own 15)] [(15, Blk.mk false 3 1 (List.map eI out))]) := (execR_bind _ _ _).symm.trans (by kernel_rfl)

theorem lpTmz_ok (a : List Int) (b : List Int) (out : List Int) (i : Nat) (hp : prlTmz a b out i = true) : ∀ ex s', (outTmz a b out i).val = some (ex, s') → LoopOK enTmz (loopN Tryz.f137 0) (stTmz a b out i) ex s' := by
  simp only [prlTmz, Bool.and_eq_true, decide_eq_true_eq] at hp
  obtain ⟨⟨⟨⟨⟨h1, h2⟩, h3⟩, h4⟩, h5⟩, h6⟩ := hp
  have l1 := F.nk_len h1
  have l2 := F.nk_len h2
  have o1 := F.nk_ok h1
  have o2 := F.nk_ok h2
  have h3 := F.okB_iff.1 h3
  have h4 := F.zB_iff.1 h4
  refine loop_gen (st := fun p : List Int × Nat => stTmz a b p.1 p.2) (out := fun p => outTmz a b p.1 p.2) (I := fun p => F.okL p.1 ∧ F.zeroFrom (p.2 + b.length) p.1 ∧ p.2 ≤ a.length ∧ p.1.length = a.length + b.length) (n := ([6, 5, 1, 0], [15])) (e := ([5], [15])) (r := ([], [])) (fun p => a.length - p.2) ?_ (out, i) ⟨h3, h4, h5, h6⟩
  clear h3 h4 h5 h6
  rintro ⟨out, i⟩ ⟨g0, g1, g2, g3⟩
  simp only at g0 g1 g2 g3
  by_cases hlt : i < a.length
  · right
    have hx : a[i]? = some a[i] := List.getElem?_eq_getElem hlt
    have hxg : a.getD i 0 = a[i] := by simp [hx]
    have hxo := o1 _ (List.getElem_mem hlt)
    generalize a[i] = x at hx hxg hxo
    have hod := F.okL_drop i g0
    have hzd : F.zeroFrom b.length (out.drop i) := fun z hz => g1 z (by rw [List.drop_drop] at hz; exact hz)
    have hbl : b.length < (out.drop i).length := by rw [List.length_drop]; omega
    have hD := F.mrow_D x b (out.drop i) 0 hbl
    obtain ⟨k1, k2, k3⟩ := F.rowD_ok hxo b (out.drop i) 0 o2 hod (by decide)
    have kz := F.rowD_z (x := x) b (out.drop i) 0 hbl hzd
    have kl := F.rowD_len x b (out.drop i) 0
    obtain ⟨m1, m2⟩ := F.mrow_ok hxo b (out.drop i) 0 o2 hod hzd (by decide)
    have htl : (out.take i).length = i := by rw [List.length_take]; omega
    have hll : (out.take i ++ (F.rowD x 0 (out.drop i) b).1).length = a.length + b.length := by rw [List.length_append, kl, htl, List.length_drop]; omega
    have hml : (F.mrow x 0 (out.drop i) b).length = (out.drop i).length := by rw [hD, List.length_set, kl]
    have hgd := F.getD_app (p := out.take i) (q := (F.rowD x 0 (out.drop i) b).1) b.length htl
    have hst := F.set_app (p := out.take i) (q := (F.rowD x 0 (out.drop i) b).1) b.length ((F.rowD x 0 (out.drop i) b).1.getD b.length 0 + (F.rowD x 0 (out.drop i) b).2) htl
    rw [← hD] at hst
    rw [kz, Int.zero_add] at hst
    rw [kz] at hgd
    have w0 : IntKind.i64.wrap ((i : Int) + (b.length : Int)) = ((i + b.length : Nat) : Int) := by rw [wrap_id (by omega) (by omega)]; rfl
    have w1 : IntKind.i64.wrap (0 + (F.rowD x 0 (out.drop i) b).2) = (F.rowD x 0 (out.drop i) b).2 := by rw [Int.zero_add]; exact wrap_id (by omega) (by omega)
    have hw : IntKind.i64.wrap ((i : Int) + 1) = ((i + 1 : Nat) : Int) := by rw [wrap_id (by omega) (by omega)]; rfl
    have i3 : idx ((i + b.length : Nat) : Int) = some (i + b.length) := idx_n (by omega)
    have hle : decide (i + b.length < (out.take i ++ (F.rowD x 0 (out.drop i) b).1).length) = true := decide_eq_true (by omega)
    have hob := F.okB_iff.2 g0
    refine ⟨(out.take i ++ F.mrow x 0 (out.drop i) b, i + 1), ?_, rfl, ⟨F.okL_app (F.okL_take i g0) m1, ?_, by simp only; omega, by simp only [List.length_append, htl, hml, List.length_drop]; omega⟩, by simp only; omega, ?_⟩
    · rw [evTmzL]
      simp only [unTrm, preTrm1, unstTmz, unstTin, unstTmz0, unstTin0, prlTmz, prlTin, outTmz, outTin, etaEnt, etaLst, etaSnd, etaStrm, etaMas, Option.bind_some, List.length_map, unStrs, unInts, unBools, unEnts, unItms, unTrns, cond_true, cond_false, Bool.and_true, Bool.true_and, cast_lt hlt, h1, h2, hob, decide_eq_true hlt, g3, decide_true, Int.le_refl, (by decide : decide ((0 : Int) ≤ 9999) = true), Nat.zero_le, Nat.add_zero, List.drop_zero, hxg, w0, i3, hle, hgd, w1, hst, hw, stTmz]
      rw [← hst, List.map_set]
      rfl
    · intro z hz
      simp only at hz
      rw [List.drop_append, List.drop_of_length_le (by omega), List.nil_append, htl, show i + 1 + b.length - i = b.length + 1 by omega] at hz
      exact m2 z hz
    · have hne : out.drop i ≠ [] := fun e => by rw [e] at hbl; simp at hbl
      obtain ⟨e1, e2⟩ := F.mulR_cons b x (a.drop (i + 1)) (out.drop i) hne
      have e3 : (out.take i ++ F.mrow x 0 (out.drop i) b).take (i + 1) = out.take i ++ [(F.mrow x 0 (out.drop i) b).headD 0] := by
        rw [List.take_append, List.take_of_length_le (by omega), htl, show i + 1 - i = 1 by omega]
        congr 1
        rw [e1]; rfl
      have e4 : (out.take i ++ F.mrow x 0 (out.drop i) b).drop (i + 1) = (F.mrow x 0 (out.drop i) b).tail := by
        rw [List.drop_append, List.drop_of_length_le (by omega), List.nil_append, htl, show i + 1 - i = 1 by omega, List.drop_one]
      simp only [outTmz, drop_y hx, e2, e3, e4, List.append_assoc, List.singleton_append]
  · have hk : i = a.length := by omega
    left
    refine ⟨(.exit 0, ⟨[(5, .own 15)], [(15, ⟨false, 3, 1, out.map eI⟩)]⟩), ?_, ?_, by simp, rfl⟩
    · have c2 : ¬ (i : Int) < (a.length : Int) := by omega
      rw [evTmzL]
      simp only [unTrm, preTrm1, unstTmz, unstTin, unstTmz0, unstTin0, prlTmz, prlTin, outTmz, outTin, etaEnt, etaLst, etaSnd, etaStrm, etaMas, Option.bind_some, List.length_map, unStrs, unInts, unBools, unEnts, unItms, unTrns, cond_true, cond_false, Bool.and_true, Bool.true_and, decide_eq_false c2]
    · simp only [outTmz, hk, List.drop_length, F.mulR, List.take_append_drop]
      rfl

theorem evTmz (a : List Int) (b : List Int) : (runF enTmz false Tryz.f137 [.sl (a.map eI), .sl (b.map eI)]).val =
  Option.bind (idx (IntKind.wrap IntKind.i64 ((↑(List.length (List.map eI a)) : Int) + (↑(List.length (List.map eI b)) : Int)))) fun (z : Nat) => Option.bind (idx
  (IntKind.wrap IntKind.i64 ((↑(List.length (List.map eI a)) : Int) + (↑(List.length (List.map eI b)) : Int)))) fun (z_1 : Nat) => bif Nat.ble z z_1 && Nat.ble (z_1 * (8 :
  Nat)) (140737488355328 : Nat) then Option.bind (unenc stTmz1 (St.mk [(6, (vI (0 : Int))), (5, .own 15), (1, AV.sl (List.map eI b)), (0, AV.sl (List.map eI a))] [(15,
  Blk.mk false 3 1 (List.replicate z [(vI (0 : Int))]))])) fun (z : List Int × List Int × List Int × Nat) => bif F.nk (400 : Nat) z.fst && F.nk (400 : Nat) z.snd.fst &&
  F.okB z.snd.snd.fst && F.zB (z.snd.snd.snd + List.length z.snd.fst) z.snd.snd.fst && decide (z.snd.snd.snd ≤ List.length z.fst) && decide (List.length z.snd.snd.fst =
  List.length z.fst + List.length z.snd.fst) && true then Option.bind (unenc encTrm [AV.sl (List.map eI (List.take z.snd.snd.snd z.snd.snd.fst ++ F.mulR z.snd.fst (List.drop
  z.snd.snd.snd z.fst) (List.drop z.snd.snd.snd z.snd.snd.fst)))]) fun (z : List Int) => bif decide (List.length z ≤ (100000 : Nat)) then some (AV.sl (List.map eI (F.trimL
  z)), []) else none else none else none := (runFR_val).symm.trans (by kernel_rfl)

def encTmz1 (a : List Int) (b : List Int) : List AV := [.sl (a.map eI), .sl (b.map eI)]

def encTmz (a : (List Int) × (List Int)) : List AV := encTmz1 a.1 a.2

theorem encTmz_inj (a a' : (List Int) × (List Int)) (h : encTmz a = encTmz a') : a = a' := by
  simp only [encTmz, encTmz1] at h
  try simp [ints_inj, strs_inj, ents_inj, eEnt_iff, eLst_iff] at h
  grind

theorem unTmz (a : List Int) (b : List Int) : unenc encTmz ([AV.sl (List.map eI a), AV.sl (List.map eI b)]) = some (a, b) := unenc_of encTmz_inj (a, b) rfl

def resTmz1 (a : List Int) (b : List Int) : AV × Heap := (.sl ((F.lb (F.nv a * F.nv b)).map eI), [])

def preTmz1 (a : List Int) (b : List Int) : Bool := F.nk 400 a && F.nk 400 b

noncomputable def oTmz : Orc := orc 137 false encTmz (fun a => preTmz1 a.1 a.2) fun a => resTmz1 a.1 a.2

theorem okTmz : OrcOK Tryz.prog noG oTmz := by
  refine mk_ok Tryz.f137 (keep := false) (by kernel_rfl) (by kernel_rfl) enTmz_ok mixed (two_loops (x0 := loopN Tryz.f137 0) (x1 := loopN Tryz.f137 1) (by kernel_rfl) (lpo_ok ?_) (lpo_ok ?_)) (by first | exact fun _ _ => ⟨rfl, rfl⟩ | (intro h; cases h)) ?_
  · rintro ⟨a, b, out, i⟩ hp
    exact lpTmz_ok a b out i hp
  · rintro ⟨a, b, i, out, c, k⟩ hp
    exact lpTin_ok a b i out c k hp
  rintro ⟨a, b⟩ hpre hok
  show (runF enTmz false _ (encTmz1 _ _)).val = some (resTmz1 _ _)
  unfold encTmz1 resTmz1
  rw [evTmz]
  have hpre : (F.nk 400 a && F.nk 400 b) = true := hpre
  have hpre2 := hpre
  rw [Bool.and_eq_true] at hpre2
  obtain ⟨p1, p2⟩ := hpre2
  have l1 := F.nk_len p1
  have l2 := F.nk_len p2
  have hres : F.trimL (F.mulR b a (List.replicate (a.length + b.length) 0)) = F.lb (F.nv a * F.nv b) := by
    obtain ⟨m, hm1, hm⟩ := F.nk_of p1
    obtain ⟨n, hn1, hn⟩ := F.nk_of p2
    rw [hm1, hn1, F.nv_lb, F.nv_lb]
    exact F.mul_lb m n
  have hrep : ∀ n : Nat, List.replicate n [vI (0 : Int)] = (List.replicate n (0 : Int)).map eI := fun n => by rw [List.map_replicate]; rfl
  have w0 : IntKind.i64.wrap ((a.length : Int) + (b.length : Int)) = ((a.length + b.length : Nat) : Int) := by rw [wrap_id (by omega) (by omega)]; rfl
  have i0 : idx ((a.length + b.length : Nat) : Int) = some (a.length + b.length) := idx_n (by omega)
  have hb1 : Nat.ble (a.length + b.length) (a.length + b.length) = true := ble_t (Nat.le_refl _)
  have hb2 : Nat.ble ((a.length + b.length) * 8) 140737488355328 = true := ble_t (by omega)
  have hok : F.okB (List.replicate (a.length + b.length) 0) = true := F.okB_iff.2 fun x hx => by rw [(List.mem_replicate.1 hx).2]; decide
  have hz : F.zB (0 + b.length) (List.replicate (a.length + b.length) 0) = true := F.zB_iff.2 fun x hx => (List.mem_replicate.1 (List.mem_of_mem_drop hx)).2
  have hl : decide ((F.mulR b a (List.replicate (a.length + b.length) 0)).length ≤ 100000) = true := decide_eq_true (by
    have h := (F.mulR_eq (F.nk_ok p2) a (List.replicate (a.length + b.length) 0) (F.nk_ok p1) (F.okB_iff.1 hok) (fun x hx => (List.mem_replicate.1 (List.mem_of_mem_drop hx)).2) (by rw [List.length_replicate]; exact Nat.le_refl _)).2.2
    rw [h, List.length_replicate]; omega)
  simp only [unTrm, preTrm1, unstTmz, unstTin, unstTmz0, unstTin0, prlTmz, prlTin, outTmz, outTin, etaEnt, etaLst, etaSnd, etaStrm, etaMas, Option.bind_some, List.length_map, unStrs, unInts, unBools, unEnts, unItms, unTrns, cond_true, cond_false, Bool.and_true, Bool.true_and, p1, p2, w0, i0, hb1, hb2, hrep, hok, hz, List.length_replicate, decide_true, Nat.zero_le, List.take_zero, List.nil_append, List.drop_zero, hl, hres]
  done

theorem unTrm_1 (n : Int) : unenc encTrm [.sl [[vI n]]] = some [n] := unTrm [n]

theorem trim_1 {n : Int} (h1 : 0 ≤ n) (h2 : n ≤ 9999) : F.trimL [n] = F.lb n.toNat := by
  rw [F.trimL_eq (F.okL_cons ⟨h1, h2⟩ F.okL_nil)]
  congr 1
  simp [F.vl]

theorem nk_up {j k : Nat} {l : List Int} (h : F.nk j l = true) (hjk : j ≤ k) : F.nk k l = true := by
  obtain ⟨m, rfl, hm⟩ := F.nk_of h
  exact F.nk_lb (F.lb_lt hm hjk)

theorem nk_1 {n : Int} (h2 : n ≤ 9999) {k : Nat} (hk : 1 ≤ k) : F.nk k (F.lb n.toNat) = true := F.nk_lb (F.lb_lt (m := 1) (by omega) hk)

noncomputable def enSml : Env := envH ty noG lks [oTrm, oTmz] [] [] []

theorem enSml_ok : EnvOK Tryz.prog enSml := by
  refine envH_ok lks_ok ty_ok ?_ ?_
  · simp only [List.forall_mem_cons]
    exact ⟨okTrm, okTmz, by simp⟩
  · simp

theorem evSml (a : List Int) (n : Int) : (runF enSml false Tryz.f134 [.sl (a.map eI), vI n]).val =
  Option.bind (unenc encTrm [AV.sl [[(vI n)]]]) fun (z : List Int) => bif decide (List.length z ≤ (100000 : Nat)) then Option.bind (unenc encTmz [AV.sl (List.map eI a),
  AV.sl (List.map eI (F.trimL z))]) fun (z : List Int × List Int) => bif F.nk (400 : Nat) z.fst && F.nk (400 : Nat) z.snd then some (AV.sl (List.map eI (F.lb (F.nv z.fst *
  F.nv z.snd))), []) else none else none := (runFR_val).symm.trans (by kernel_rfl)

def encSml1 (a : List Int) (n : Int) : List AV := [.sl (a.map eI), vI n]

def encSml (a : (List Int) × Int) : List AV := encSml1 a.1 a.2

theorem encSml_inj (a a' : (List Int) × Int) (h : encSml a = encSml a') : a = a' := by
  simp only [encSml, encSml1] at h
  try simp [ints_inj, strs_inj, ents_inj, eEnt_iff, eLst_iff] at h
  grind

theorem unSml (a : List Int) (n : Int) : unenc encSml ([AV.sl (List.map eI a), (vI n)]) = some (a, n) := unenc_of encSml_inj (a, n) rfl

def resSml1 (a : List Int) (n : Int) : AV × Heap := (.sl ((F.lb (F.nv a * n.toNat)).map eI), [])

def preSml1 (a : List Int) (n : Int) : Bool := F.nk 300 a && decide (0 ≤ n) && decide (n ≤ 9999)

noncomputable def oSml : Orc := orc 134 false encSml (fun a => preSml1 a.1 a.2) fun a => resSml1 a.1 a.2

theorem okSml : OrcOK Tryz.prog noG oSml := by
  refine mk_ok Tryz.f134 (keep := false) (by kernel_rfl) (by kernel_rfl) enSml_ok mixed (no_loops (by kernel_rfl)) (by first | exact fun _ _ => ⟨rfl, rfl⟩ | (intro h; cases h)) ?_
  rintro ⟨a, n⟩ hpre hok
  show (runF enSml false _ (encSml1 _ _)).val = some (resSml1 _ _)
  unfold encSml1 resSml1
  rw [evSml]
  have hpre : (F.nk 300 a && decide (0 ≤ n) && decide (n ≤ 9999)) = true := hpre
  have hpre2 := hpre
  rw [Bool.and_eq_true, Bool.and_eq_true, decide_eq_true_eq, decide_eq_true_eq] at hpre2
  simp only [unTrm, unTmz, preTrm1, preTmz1, etaEnt, etaLst, etaSnd, etaStrm, etaMas, Option.bind_some, List.length_map, unStrs, unInts, unBools, unEnts, unItms, unTrns, cond_true, cond_false, Bool.and_true, Bool.true_and, nk_up hpre2.1.1 (by decide : 300 ≤ 400), unTrm_1, trim_1 hpre2.1.2 hpre2.2, nk_1 hpre2.2 (by decide : 1 ≤ 400), (by rfl : decide ([n].length ≤ 100000) = true), F.nv_lb]
  rfl

end M

namespace M

theorem nk_mul {j k l m n : Nat} (h1 : m < 10000 ^ j) (h2 : n < 10000 ^ k) (h : j + k ≤ l) : F.nk l (F.lb (m * n)) = true := F.nk_lb (F.lb_lt (F.mul_lt h1 h2) h)

theorem nk_lt {k : Nat} {l : List Int} (h : F.nk k l = true) : F.nv l < 10000 ^ k := by
  obtain ⟨m, rfl, hm⟩ := F.nk_of h
  rw [F.nv_lb]; exact hm

def stDvi (a : List Int) (b : List Int) (out : List Int) (r : List Int) (i : Int) (lo : Nat) (hi : Nat) : St := ⟨[(11, vI hi), (10, vI lo), (8, vI i), (7, .sl (r.map eI)), (6, .own 15), (1, .sl (b.map eI)), (0, .sl (a.map eI))], [(15, ⟨false, 3, 1, out.map eI⟩)]⟩

def stDvi1 (a : (List Int) × (List Int) × (List Int) × (List Int) × Int × Nat × Nat) : St := stDvi a.1 a.2.1 a.2.2.1 a.2.2.2.1 a.2.2.2.2.1 a.2.2.2.2.2.1 a.2.2.2.2.2.2

theorem stDvi_inj (a a' : (List Int) × (List Int) × (List Int) × (List Int) × Int × Nat × Nat) (h : stDvi1 a = stDvi1 a') : a = a' := by
  simp only [stDvi1, stDvi] at h
  try simp [ints_inj, strs_inj, ents_inj, eEnt_iff, eLst_iff] at h
  grind

theorem unstDvi (a : List Int) (b : List Int) (out : List Int) (r : List Int) (i : Int) (lo : Nat) (hi : Nat) : unenc stDvi1 (St.mk [(11, (vI (↑hi : Int))), (10, (vI (↑lo : Int))), (8, (vI i)), (7, AV.sl (List.map eI r)), (6, .own 15), (1, AV.sl (List.map eI b)), (0, AV.sl (List.map eI a))] [(15,
  Blk.mk false 3 1 (List.map eI out))]) = some (a, b, out, r, i, lo, hi) := unenc_of stDvi_inj (a, b, out, r, i, lo, hi) rfl

theorem unstDvi0 (a : List Int) (b : List Int) (out : List Int) (r : List Int) (i : Int)  : unenc stDvi1 (St.mk [(11, (vI (9999 : Int))), (10, (vI (0 : Int))), (8, (vI i)), (7, AV.sl (List.map eI r)), (6, .own 15), (1, AV.sl (List.map eI b)), (0, AV.sl (List.map eI a))] [(15,
  Blk.mk false 3 1 (List.map eI out))]) = some (a, b, out, r, i, 0, 9999) := unenc_of stDvi_inj (a, b, out, r, i, 0, 9999) rfl

def outDvi (a : List Int) (b : List Int) (out : List Int) (r : List Int) (i : Int) (lo : Nat) (hi : Nat) : T (Ex × St) := .ret (.exit 2, ⟨[(10, vI (F.nv r / F.nv b : Nat)), (8, vI i), (7, .sl (r.map eI)), (6, .own 15), (1, .sl (b.map eI)), (0, .sl (a.map eI))], [(15, ⟨false, 3, 1, out.map eI⟩)]⟩)

noncomputable def prlDvi (a : List Int) (b : List Int) (out : List Int) (r : List Int) (i : Int) (lo : Nat) (hi : Nat) : Bool := F.nk 200 b && decide (0 < F.nv b) && F.nk 201 r && decide (lo ≤ F.nv r / F.nv b) && decide (F.nv r / F.nv b ≤ hi) && decide (hi ≤ 9999)

noncomputable def lpDvi : Nat × (St → T (Ex × St)) := (10, lpo [11, 10, 8, 7, 6, 1, 0] [15] stDvi1 (fun a => prlDvi a.1 a.2.1 a.2.2.1 a.2.2.2.1 a.2.2.2.2.1 a.2.2.2.2.2.1 a.2.2.2.2.2.2) fun a => outDvi a.1 a.2.1 a.2.2.1 a.2.2.2.1 a.2.2.2.2.1 a.2.2.2.2.2.1 a.2.2.2.2.2.2)

def stDv (a : List Int) (b : List Int) (out : List Int) (i : Int) : St := ⟨[(8, vI i), (7, .own 7), (6, .own 15), (1, .sl (b.map eI)), (0, .sl (a.map eI))], [(15, ⟨false, 3, 1, out.map eI⟩), (7, ⟨false, 3, 1, []⟩)]⟩

def stDv1 (a : (List Int) × (List Int) × (List Int) × Int) : St := stDv a.1 a.2.1 a.2.2.1 a.2.2.2

theorem stDv_inj (a a' : (List Int) × (List Int) × (List Int) × Int) (h : stDv1 a = stDv1 a') : a = a' := by
  simp only [stDv1, stDv] at h
  try simp [ints_inj, strs_inj, ents_inj, eEnt_iff, eLst_iff] at h
  grind

theorem unstDv (a : List Int) (b : List Int) (out : List Int) (i : Int) : unenc stDv1 (St.mk [(8, (vI i)), (7, .own 7), (6, .own 15), (1, AV.sl (List.map eI b)), (0, AV.sl (List.map eI a))] [(15, Blk.mk false 3 1 (List.map eI out)), (7, Blk.mk false 3 1 [])]) = some (a, b, out, i) := unenc_of stDv_inj (a, b, out, i) rfl

def outDv (a : List Int) (b : List Int) (out : List Int) (i : Int) : T (Ex × St) := .ifB (decide (i < 0)) (.ret (.exit 0, ⟨[(7, .own 7), (6, .own 15)], [(15, ⟨false, 3, 1, []⟩), (7, ⟨false, 3, 1, []⟩)]⟩))
      (.ret (.exit 0, ⟨[(7, .sl ((F.lb (F.dqo (F.nv b) a).2).map eI)), (6, .own 15)], [(15, ⟨false, 3, 1, (F.dqo (F.nv b) a).1.map eI⟩)]⟩))

noncomputable def prlDv (a : List Int) (b : List Int) (out : List Int) (i : Int) : Bool := F.nk 200 a && F.nk 200 b && decide (0 < F.nv b) && decide (out = List.replicate a.length 0) && decide (i = (a.length : Int) - 1)

noncomputable def lpDv : Nat × (St → T (Ex × St)) := (4, lpo [8, 7, 6, 1, 0] [15, 7] stDv1 (fun a => prlDv a.1 a.2.1 a.2.2.1 a.2.2.2) fun a => outDv a.1 a.2.1 a.2.2.1 a.2.2.2)

noncomputable def enDv : Env := envH ty noG lks [oTrm, oSml, oCpr, oLes] [] [] [lpDv, lpDvi]

theorem enDv_ok : EnvOK Tryz.prog enDv := by
  refine envH_ok lks_ok ty_ok ?_ ?_
  · simp only [List.forall_mem_cons]
    exact ⟨okTrm, okSml, okCpr, okLes, by simp⟩
  · simp

theorem evDviL (a : List Int) (b : List Int) (out : List Int) (r : List Int) (i : Int) (lo : Nat) (hi : Nat) : ((exec enDv (loopN Tryz.f118 1) (stDvi a b out r i lo hi)).bind (lessX ([11, 10, 8, 7, 6, 1, 0], [15]) ([10, 8, 7, 6, 1, 0], [15]) ([], []))).val =
  bif decide ((↑lo : Int) < (↑hi : Int)) then Option.bind (unenc encSml [AV.sl (List.map eI b), (vI (IntKind.wrap IntKind.i64 (Int.tdiv (IntKind.wrap IntKind.i64
  (IntKind.wrap IntKind.i64 ((↑lo : Int) + (↑hi : Int)) + (1 : Int))) (2 : Int))))]) fun (z : List Int × Int) => bif F.nk (300 : Nat) z.fst && decide ((0 : Int) ≤ z.snd) &&
  decide (z.snd ≤ (9999 : Int)) then Option.bind (unenc encCpr [AV.sl (List.map eI (F.lb (F.nv z.fst * Int.toNat z.snd))), AV.sl (List.map eI r)]) fun (z : List Int × List
  Int) => bif F.nk (1000 : Nat) z.fst && F.nk (1000 : Nat) z.snd then bif decide (F.sgn (↑(F.nv z.fst) : Int) (↑(F.nv z.snd) : Int) ≤ (0 : Int)) then some (Ex.normal, St.mk
  [(11, (vI (↑hi : Int))), (10, (vI (IntKind.wrap IntKind.i64 (Int.tdiv (IntKind.wrap IntKind.i64 (IntKind.wrap IntKind.i64 ((↑lo : Int) + (↑hi : Int)) + (1 : Int))) (2 :
  Int))))), (8, (vI i)), (7, AV.sl (List.map eI r)), (6, .own 15), (1, AV.sl (List.map eI b)), (0, AV.sl (List.map eI a))] [(15, Blk.mk false 3 1 (List.map eI out))]) else
  some (Ex.normal, St.mk [(11, (vI (IntKind.wrap IntKind.i64 (IntKind.wrap IntKind.i64 (Int.tdiv (IntKind.wrap IntKind.i64 (IntKind.wrap IntKind.i64 ((↑lo : Int) + (↑hi :
  Int)) + (1 : Int))) (2 : Int)) - (1 : Int))))), (10, (vI (↑lo : Int))), (8, (vI i)), (7, AV.sl (List.map eI r)), (6, .own 15), (1, AV.sl (List.map eI b)), (0, AV.sl
  (List.map eI a))] [(15, Blk.mk false 3 1 (List.map eI out))]) else none else none else some (Ex.exit (2 : Nat), St.mk [(10, (vI (↑lo : Int))), (8, (vI i)), (7, AV.sl
  (List.map eI r)), (6, .own 15), (1, AV.sl (List.map eI b)), (0, AV.sl (List.map eI a))] [(15, Blk.mk false 3 1 (List.map eI out))]) := (execR_bind _ _ _).symm.trans (by kernel_rfl)

theorem lpDvi_ok (a : List Int) (b : List Int) (out : List Int) (r : List Int) (i : Int) (lo : Nat) (hi : Nat) (hp : prlDvi a b out r i lo hi = true) : ∀ ex s', (outDvi a b out r i lo hi).val = some (ex, s') → LoopOK enDv (loopN Tryz.f118 1) (stDvi a b out r i lo hi) ex s' := by
  simp only [prlDvi, Bool.and_eq_true, decide_eq_true_eq] at hp
  obtain ⟨⟨⟨⟨⟨h1, h2⟩, h3⟩, h4⟩, h5⟩, h6⟩ := hp
  have n1 := nk_up h1 (by decide : 200 ≤ 300)
  have n2 := nk_up h3 (by decide : 201 ≤ 1000)
  have hbv := nk_lt h1
  generalize hqe : F.nv r / F.nv b = q at h4 h5
  refine loop_gen (st := fun p : Nat × Nat => stDvi a b out r i p.1 p.2) (out := fun p => outDvi a b out r i p.1 p.2) (I := fun p => p.1 ≤ q ∧ q ≤ p.2 ∧ p.2 ≤ 9999) (n := ([11, 10, 8, 7, 6, 1, 0], [15])) (e := ([10, 8, 7, 6, 1, 0], [15])) (r := ([], [])) (fun p => p.2 - p.1) ?_ (lo, hi) ⟨h4, h5, h6⟩
  clear h4 h5 h6
  rintro ⟨lo, hi⟩ ⟨g1, g2, g3⟩
  simp only at g1 g2 g3
  by_cases hlt : lo < hi
  · right
    obtain ⟨m, hm⟩ : ∃ m, m = (lo + hi + 1) / 2 := ⟨_, rfl⟩
    have hm1 : lo < m := by omega
    have hm2 : m ≤ hi := by omega
    have w1 : IntKind.i64.wrap ((lo : Int) + (hi : Int)) = ((lo + hi : Nat) : Int) := by rw [wrap_id (by omega) (by omega)]; rfl
    have w2 : IntKind.i64.wrap (((lo + hi : Nat) : Int) + 1) = ((lo + hi + 1 : Nat) : Int) := by rw [wrap_id (by omega) (by omega)]; rfl
    have w3 : (((lo + hi + 1 : Nat) : Int)).tdiv 2 = ((m : Nat) : Int) := by rw [Int.tdiv_eq_ediv_of_nonneg (by omega)]; omega
    have w4 : IntKind.i64.wrap ((m : Nat) : Int) = (m : Int) := wrap_id (by omega) (by omega)
    have w5 : IntKind.i64.wrap ((m : Int) - 1) = ((m - 1 : Nat) : Int) := by rw [wrap_id (by omega) (by omega)]; omega
    have p1 : decide ((0 : Int) ≤ (m : Int)) = true := decide_eq_true (by omega)
    have p2 : decide ((m : Int) ≤ 9999) = true := decide_eq_true (by omega)
    have k1 : F.nk 1000 (F.lb (F.nv b * m)) = true := nk_mul (k := 1) hbv (by omega) (by decide)
    have hs := F.sgn_le (F.nv b * m) (F.nv r)
    have hd := F.div_le (b := F.nv b) (R := F.nv r) (mid := m) h2
    rw [hqe] at hd
    by_cases hc : m ≤ q
    · refine ⟨(m, hi), ?_, rfl, ⟨hc, g2, g3⟩, by simp only; omega, rfl⟩
      rw [decide_eq_true (hd.2 hc)] at hs
      rw [evDviL]
      simp only [unTrm, unSml, unCpr, unLes, preTrm1, preSml1, preCpr1, preLes1, unstDv, unstDvi, unstDvi0, prlDv, prlDvi, outDv, outDvi, etaEnt, etaLst, etaSnd, etaStrm, etaMas, Option.bind_some, List.length_map, unStrs, unInts, unBools, unEnts, unItms, unTrns, cond_true, cond_false, Bool.and_true, Bool.true_and, cast_lt hlt, w1, w2, w3, w4, n1, n2, p1, p2, Int.toNat_natCast, k1, F.nv_lb, hs, stDvi]
    · refine ⟨(lo, m - 1), ?_, rfl, ⟨g1, by simp only; omega, by simp only; omega⟩, by simp only; omega, rfl⟩
      rw [decide_eq_false (fun h => hc (hd.1 h))] at hs
      rw [evDviL]
      simp only [unTrm, unSml, unCpr, unLes, preTrm1, preSml1, preCpr1, preLes1, unstDv, unstDvi, unstDvi0, prlDv, prlDvi, outDv, outDvi, etaEnt, etaLst, etaSnd, etaStrm, etaMas, Option.bind_some, List.length_map, unStrs, unInts, unBools, unEnts, unItms, unTrns, cond_true, cond_false, Bool.and_true, Bool.true_and, cast_lt hlt, w1, w2, w3, w4, w5, n1, n2, p1, p2, Int.toNat_natCast, k1, F.nv_lb, hs, stDvi]
  · have hk : lo = q := by omega
    left
    refine ⟨(.exit 2, ⟨[(10, vI lo), (8, vI i), (7, .sl (r.map eI)), (6, .own 15), (1, .sl (b.map eI)), (0, .sl (a.map eI))], [(15, ⟨false, 3, 1, out.map eI⟩)]⟩), ?_, ?_, by simp, rfl⟩
    · have c2 : ¬ (lo : Int) < (hi : Int) := by omega
      rw [evDviL]
      simp only [unTrm, unSml, unCpr, unLes, preTrm1, preSml1, preCpr1, preLes1, unstDv, unstDvi, unstDvi0, prlDv, prlDvi, outDv, outDvi, etaEnt, etaLst, etaSnd, etaStrm, etaMas, Option.bind_some, List.length_map, unStrs, unInts, unBools, unEnts, unItms, unTrns, cond_true, cond_false, Bool.and_true, Bool.true_and, decide_eq_false c2]
    · simp only [outDvi, hqe, hk]
      rfl

end M

theorem F.dqo_step {B : Nat} (hB : 0 < B) {x : Int} {l : List Int} (hx : 0 ≤ x ∧ x ≤ 9999) (hl : F.okL l) :
    F.trimL (x :: F.lb (F.dqo B l).2) = F.lb (x.toNat + 10000 * (F.dqo B l).2) ∧ (x.toNat + 10000 * (F.dqo B l).2) / B ≤ 9999 ∧ x.toNat + 10000 * (F.dqo B l).2 < 10000 * B ∧
    B * ((x.toNat + 10000 * (F.dqo B l).2) / B) ≤ x.toNat + 10000 * (F.dqo B l).2 ∧
    x.toNat + 10000 * (F.dqo B l).2 - B * ((x.toNat + 10000 * (F.dqo B l).2) / B) = (F.dqo B (x :: l)).2 := by
  have hr : (F.dqo B l).2 < B := by rw [(F.dqo_eq hB hl).2.2.1]; exact Nat.mod_lt _ hB
  have hlt : x.toNat + 10000 * (F.dqo B l).2 < 10000 * B := by omega
  have e := Nat.div_add_mod (x.toNat + 10000 * (F.dqo B l).2) B
  refine ⟨?_, ?_, hlt, ?_, ?_⟩
  · have := F.trimL_cons (x := x.toNat) (r := (F.dqo B l).2) (by omega)
    rwa [Int.toNat_of_nonneg hx.1] at this
  · have := (Nat.div_lt_iff_lt_mul (k := B) (x := x.toNat + 10000 * (F.dqo B l).2) (y := 10000) hB).2 hlt
    omega
  · omega
  · rw [F.dqo]; show _ = _ % B; omega

theorem F.set_rep (n : Nat) (v : Int) (D : List Int) : (List.replicate (n + 1) (0 : Int) ++ D).set n v = List.replicate n 0 ++ v :: D := by
  rw [List.replicate_succ', List.append_assoc, List.set_append_right _ _ (by simp), List.length_replicate, Nat.sub_self]
  rfl

namespace M

theorem unTrm_c (x : Int) (l : List Int) : unenc encTrm [.sl ([vI x] :: l.map eI)] = some (x :: l) := unTrm (x :: l)

def stDvS (a b out rs : List Int) (i : Int) : St := ⟨[(8, vI i), (7, .sl (rs.map eI)), (6, .own 15), (1, .sl (b.map eI)), (0, .sl (a.map eI))], [(15, ⟨false, 3, 1, out.map eI⟩)]⟩

theorem evDvS (a b out rs : List Int) (i : Int) : ((exec enDv (loopN Tryz.f118 0) (stDvS a b out rs i)).bind (lessX ([8, 7, 6, 1, 0], [15, 7]) ([7, 6], [15, 7]) ([], []))).val =
  bif decide ((0 : Int) ≤ i) then Option.bind (idx i) fun (z : Nat) => Option.bind (unenc (List.map eI) (List.map eI a)) fun (z_1 : List Int) => bif decide (z < List.length
  z_1) then bif Nat.ble (((1 : Nat) + List.length (List.map eI rs)) * (8 : Nat)) (140737488355328 : Nat) && List.all (List.map eI rs) fun (r : Row) => Nat.beq (List.length
  r) (TI.mk false (1 : Nat) [] [AV.e0] (3 : Nat) (1 : Nat) (8 : Nat) [(vI (0 : Int))] none (4 : Nat) []).esize then Option.bind (unenc encTrm [AV.sl ([(vI (List.getD z_1 z
  (0 : Int)))] :: List.map eI rs)]) fun (z : List Int) => bif decide (List.length z ≤ (100000 : Nat)) then Option.bind (unenc stDvi1 (St.mk [(11, (vI (9999 : Int))), (10,
  (vI (0 : Int))), (8, (vI i)), (7, AV.sl (List.map eI (F.trimL z))), (6, .own 15), (1, AV.sl (List.map eI b)), (0, AV.sl (List.map eI a))] [(15, Blk.mk false 3 1 (List.map
  eI out))])) fun (z : List Int × List Int × List Int × List Int × Int × Nat × Nat) => (fun (q : Nat × Nat) => (fun (q_1 : Nat) => (fun (q_2 : List AV) => bif F.nk (200 :
  Nat) z.snd.fst && decide ((0 : Nat) < F.nv z.snd.fst) && F.nk (201 : Nat) z.snd.snd.snd.fst && decide (q.fst ≤ q_1) && decide (q_1 ≤ q.snd) && decide (q.snd ≤ (9999 :
  Nat)) && true then Option.bind (idx z.snd.snd.snd.snd.fst) fun (z_2 : Nat) => bif decide (z_2 < List.length (Blk.mk false 3 1 (List.map eI z.snd.snd.fst)).rows) then
  Option.bind (unenc (List.map eI) (List.map eI z.snd.snd.fst)) fun (z_3 : List Int) => bif decide (z_2 < List.length z_3) then Option.bind (unenc encSml (AV.sl (List.map eI
  z.snd.fst) :: q_2)) fun (z_4 : List Int × Int) => bif F.nk (300 : Nat) z_4.fst && decide ((0 : Int) ≤ z_4.snd) && decide (z_4.snd ≤ (9999 : Int)) then Option.bind (unenc
  encLes [AV.sl (List.map eI z.snd.snd.snd.fst), AV.sl (List.map eI (F.lb (F.nv z_4.fst * Int.toNat z_4.snd)))]) fun (z_5 : List Int × List Int) => bif F.nk (1000 : Nat)
  z_5.fst && F.nk (1000 : Nat) z_5.snd && decide (F.nv z_5.snd ≤ F.nv z_5.fst) then some (Ex.normal, St.mk [(8, (vI (IntKind.wrap IntKind.i64 (z.snd.snd.snd.snd.fst - (1 :
  Int))))), (7, AV.sl (List.map eI (F.lb (F.nv z_5.fst - F.nv z_5.snd)))), (6, .own 15), (1, AV.sl (List.map eI z.snd.fst)), (0, AV.sl (List.map eI z.fst))] [(15, Blk.mk
  false 3 1 (List.set (List.map eI z.snd.snd.fst) z_2 q_2))]) else none else none else none else none else none) [(vI (↑(Nat.div (F.nv z.snd.snd.snd.fst) (F.nv z.snd.fst)) :
  Int))]) (F.nv z.snd.snd.snd.fst / F.nv z.snd.fst)) z.snd.snd.snd.snd.snd else none else none else none else some (Ex.exit (0 : Nat), St.mk [(7, AV.sl (List.map eI rs)),
  (6, .own 15)] [(15, Blk.mk false 3 1 (List.map eI out))]) := (execR_bind _ _ _).symm.trans (by kernel_rfl)

theorem evDvN (a b out : List Int) (i : Int) : ((exec enDv (loopN Tryz.f118 0) (stDv a b out i)).bind (lessX ([8, 7, 6, 1, 0], [15, 7]) ([7, 6], [15, 7]) ([], []))).val =
  bif decide ((0 : Int) ≤ i) then Option.bind (idx i) fun (z : Nat) => Option.bind (unenc (List.map eI) (List.map eI a)) fun (z_1 : List Int) => bif decide (z < List.length
  z_1) then Option.bind (unenc encTrm [AV.sl [[(vI (List.getD z_1 z (0 : Int)))]]]) fun (z : List Int) => bif decide (List.length z ≤ (100000 : Nat)) then Option.bind (unenc
  stDvi1 (St.mk [(11, (vI (9999 : Int))), (10, (vI (0 : Int))), (8, (vI i)), (7, AV.sl (List.map eI (F.trimL z))), (6, .own 15), (1, AV.sl (List.map eI b)), (0, AV.sl
  (List.map eI a))] [(15, Blk.mk false 3 1 (List.map eI out))])) fun (z : List Int × List Int × List Int × List Int × Int × Nat × Nat) => (fun (q : Nat × Nat) => (fun (q_1 :
  Nat) => (fun (q_2 : List AV) => bif F.nk (200 : Nat) z.snd.fst && decide ((0 : Nat) < F.nv z.snd.fst) && F.nk (201 : Nat) z.snd.snd.snd.fst && decide (q.fst ≤ q_1) &&
  decide (q_1 ≤ q.snd) && decide (q.snd ≤ (9999 : Nat)) && true then Option.bind (idx z.snd.snd.snd.snd.fst) fun (z_2 : Nat) => bif decide (z_2 < List.length (Blk.mk false 3
  1 (List.map eI z.snd.snd.fst)).rows) then Option.bind (unenc (List.map eI) (List.map eI z.snd.snd.fst)) fun (z_3 : List Int) => bif decide (z_2 < List.length z_3) then
  Option.bind (unenc encSml (AV.sl (List.map eI z.snd.fst) :: q_2)) fun (z_4 : List Int × Int) => bif F.nk (300 : Nat) z_4.fst && decide ((0 : Int) ≤ z_4.snd) && decide
  (z_4.snd ≤ (9999 : Int)) then Option.bind (unenc encLes [AV.sl (List.map eI z.snd.snd.snd.fst), AV.sl (List.map eI (F.lb (F.nv z_4.fst * Int.toNat z_4.snd)))]) fun (z_5 :
  List Int × List Int) => bif F.nk (1000 : Nat) z_5.fst && F.nk (1000 : Nat) z_5.snd && decide (F.nv z_5.snd ≤ F.nv z_5.fst) then some (Ex.normal, St.mk [(8, (vI
  (IntKind.wrap IntKind.i64 (z.snd.snd.snd.snd.fst - (1 : Int))))), (7, AV.sl (List.map eI (F.lb (F.nv z_5.fst - F.nv z_5.snd)))), (6, .own 15), (1, AV.sl (List.map eI
  z.snd.fst)), (0, AV.sl (List.map eI z.fst))] [(15, Blk.mk false 3 1 (List.set (List.map eI z.snd.snd.fst) z_2 q_2))]) else none else none else none else none else none)
  [(vI (↑(Nat.div (F.nv z.snd.snd.snd.fst) (F.nv z.snd.fst)) : Int))]) (F.nv z.snd.snd.snd.fst / F.nv z.snd.fst)) z.snd.snd.snd.snd.snd else none else none else some
  (Ex.exit (0 : Nat), St.mk [(7, .own 7), (6, .own 15)] [(15, Blk.mk false 3 1 (List.map eI out)), (7, Blk.mk false 3 1 [])]) := (execR_bind _ _ _).symm.trans (by kernel_rfl)

def stDx (a b : List Int) : Option Nat → St
  | none => stDv a b (List.replicate a.length 0) ((a.length : Int) - 1)
  | some n => stDvS a b (List.replicate n 0 ++ (F.dqo (F.nv b) (a.drop n)).1) (F.lb (F.dqo (F.nv b) (a.drop n)).2) ((n : Int) - 1)

def outDx (a b : List Int) : Option Nat → T (Ex × St)
  | none => outDv a b (List.replicate a.length 0) ((a.length : Int) - 1)
  | some n => .ret (.exit 0, ⟨[(7, .sl ((F.lb (F.dqo (F.nv b) a).2).map eI)), (6, .own 15)], [(15, ⟨false, 3, 1, (F.dqo (F.nv b) a).1.map eI⟩)]⟩)

theorem dv_step {a b : List Int} (h1 : F.nk 200 a = true) (h2 : F.nk 200 b = true) (h3 : 0 < F.nv b) {n : Nat} (hlt : n < a.length) (rs : List Int) (hrs : rs = F.lb (F.dqo (F.nv b) (a.drop (n + 1))).2) (out : List Int) (ho : out = List.replicate (n + 1) 0 ++ (F.dqo (F.nv b) (a.drop (n + 1))).1) :
    ((exec enDv (loopN Tryz.f118 0) (stDvS a b out rs n)).bind (lessX ([8, 7, 6, 1, 0], [15, 7]) ([7, 6], [15, 7]) ([], []))).val = some (.normal, stDx a b (some n)) ∧
    (rs = [] → ((exec enDv (loopN Tryz.f118 0) (stDv a b out n)).bind (lessX ([8, 7, 6, 1, 0], [15, 7]) ([7, 6], [15, 7]) ([], []))).val = some (.normal, stDx a b (some n))) := by
  have l1 := F.nk_len h1
  have o1 := F.nk_ok h1
  have n2 := nk_up h2 (by decide : 200 ≤ 300)
  have hbv := nk_lt h2
  have hx : a[n]? = some a[n] := List.getElem?_eq_getElem hlt
  have hxo := o1 _ (List.getElem_mem hlt)
  generalize hxe : a[n] = x at hx hxo
  obtain ⟨q1, q2, q3, q4, q5⟩ := F.dqo_step h3 hxo (F.okL_drop (n + 1) o1)
  have hD : (F.dqo (F.nv b) (x :: a.drop (n + 1))).1 = (((x.toNat + 10000 * (F.dqo (F.nv b) (a.drop (n + 1))).2) / F.nv b : Nat) : Int) :: (F.dqo (F.nv b) (a.drop (n + 1))).1 := by rw [F.dqo]
  have hdl : (F.dqo (F.nv b) (a.drop (n + 1))).1.length + (n + 1) = a.length := by
    rw [(F.dqo_eq h3 (F.okL_drop (n + 1) o1)).2.2.2, List.length_drop]; omega
  have hset := F.set_rep n (((x.toNat + 10000 * (F.dqo (F.nv b) (a.drop (n + 1))).2) / F.nv b : Nat) : Int) (F.dqo (F.nv b) (a.drop (n + 1))).1
  rw [← ho, ← hD, ← drop_y hx] at hset
  rw [← hrs] at q1
  rw [← drop_y hx] at q5
  have hol : out.length = a.length := by rw [ho, List.length_append, List.length_replicate]; omega
  have hrl : rs.length ≤ 200 := by
    rw [hrs]
    refine F.lb_len ?_
    have : (F.dqo (F.nv b) (a.drop (n + 1))).2 < F.nv b := by rw [(F.dqo_eq h3 (F.okL_drop (n + 1) o1)).2.2.1]; exact Nat.mod_lt _ h3
    omega
  generalize hy : x.toNat + 10000 * (F.dqo (F.nv b) (a.drop (n + 1))).2 = y at q1 q2 q3 q4 q5 hset
  generalize hqe : y / F.nv b = q at q2 q4 q5 hset
  have hylt : y < 10000 ^ 1 * 10000 ^ 200 := by rw [Nat.pow_one]; exact Nat.lt_of_lt_of_le q3 (Nat.mul_le_mul_left _ (Nat.le_of_lt hbv))
  have k201 : F.nk 201 (F.lb y) = true := F.nk_lb (by rw [← Nat.pow_add] at hylt; exact F.lb_lt hylt (by decide))
  have k1000 := nk_up k201 (by decide : 201 ≤ 1000)
  have k1000b : F.nk 1000 (F.lb (F.nv b * q)) = true := nk_mul (k := 1) hbv (by omega) (by decide)
  have hi0 : decide ((0 : Int) ≤ (n : Int)) = true := decide_eq_true (by omega)
  have i2 : idx (n : Int) = some n := idx_n (by omega)
  have hbr : Nat.ble ((1 + rs.length) * 8) 140737488355328 = true := ble_t (by omega)
  have hall : ((rs.map eI).all fun r => (List.length r).beq 1) = true := List.all_eq_true.2 fun r hr => by
    obtain ⟨x, _, rfl⟩ := List.mem_map.1 hr
    rfl
  have hc1 : decide ((x :: rs).length ≤ 100000) = true := decide_eq_true (by simp only [List.length_cons]; omega)
  have hc2 : decide (([x] : List Int).length ≤ 100000) = true := decide_eq_true (by simp)
  have hdv : ∀ u v : Nat, Nat.div u v = u / v := fun _ _ => rfl
  have hq9 : decide (q ≤ 9999) = true := decide_eq_true q2
  have hz0 : decide ((0 : Int) ≤ (q : Int)) = true := decide_eq_true (by omega)
  have hz9 : decide ((q : Int) ≤ 9999) = true := decide_eq_true (by omega)
  have hno : decide (n < out.length) = true := decide_eq_true (by omega)
  have hle : decide (F.nv b * q ≤ y) = true := decide_eq_true q4
  have hw : IntKind.i64.wrap ((n : Int) - 1) = (n : Int) - 1 := wrap_id (by omega) (by omega)
  refine ⟨?_, fun he => ?_⟩
  · rw [evDvS]
    simp only [unTrm, unSml, unCpr, unLes, preTrm1, preSml1, preCpr1, preLes1, unstDv, unstDvi, unstDvi0, prlDv, prlDvi, outDv, outDvi, etaEnt, etaLst, etaSnd, etaStrm, etaMas, Option.bind_some, List.length_map, unStrs, unInts, unBools, unEnts, unItms, unTrns, cond_true, cond_false, Bool.and_true, Bool.true_and, hi0, i2, decide_eq_true hlt, getD_at hx, hbr, hall, unTrm_c, hc1, q1, h2, n2, decide_eq_true h3, k201, k1000, k1000b, hdv, hqe, F.nv_lb, hq9, hz0, hz9, hno, hle, q5, decide_true, Nat.zero_le, Nat.le_refl, Int.toNat_natCast, hw]
    rw [stDx, ← hset, stDvS, List.map_set]
    rfl
  · subst he
    rw [evDvN]
    simp only [unTrm, unSml, unCpr, unLes, preTrm1, preSml1, preCpr1, preLes1, unstDv, unstDvi, unstDvi0, prlDv, prlDvi, outDv, outDvi, etaEnt, etaLst, etaSnd, etaStrm, etaMas, Option.bind_some, List.length_map, unStrs, unInts, unBools, unEnts, unItms, unTrns, cond_true, cond_false, Bool.and_true, Bool.true_and, hi0, i2, decide_eq_true hlt, getD_at hx, hbr, hall, unTrm_1, hc2, q1, h2, n2, decide_eq_true h3, k201, k1000, k1000b, hdv, hqe, F.nv_lb, hq9, hz0, hz9, hno, hle, q5, decide_true, Nat.zero_le, Nat.le_refl, Int.toNat_natCast, hw]
    rw [stDx, ← hset, stDvS, List.map_set]
    rfl

end M

namespace M

theorem dq_nil (B : Nat) : F.dqo B [] = ([], 0) := rfl

theorem lpDv_ok (a : List Int) (b : List Int) (out : List Int) (i : Int) (hp : prlDv a b out i = true) : ∀ ex s', (outDv a b out i).val = some (ex, s') → LoopOK enDv (loopN Tryz.f118 0) (stDv a b out i) ex s' := by
  simp only [prlDv, Bool.and_eq_true, decide_eq_true_eq] at hp
  obtain ⟨⟨⟨⟨h1, h2⟩, h3⟩, h4⟩, h5⟩ := hp
  subst h4 h5
  have l1 := F.nk_len h1
  refine loop_gen (st := stDx a b) (out := outDx a b) (I := fun o => ∀ n, o = some n → n < a.length) (n := ([8, 7, 6, 1, 0], [15, 7])) (e := ([7, 6], [15, 7])) (r := ([], [])) (fun o => match o with | none => a.length + 1 | some n => n) ?_ none (fun n h => by cases h)
  intro o ho
  cases o with
  | none =>
    by_cases hz : a.length = 0
    · left
      have ha : a = [] := List.length_eq_zero_iff.1 hz
      subst ha
      refine ⟨(.exit 0, ⟨[(7, .own 7), (6, .own 15)], [(15, ⟨false, 3, 1, []⟩), (7, ⟨false, 3, 1, []⟩)]⟩), ?_, rfl, by simp, rfl⟩
      show ((exec enDv (loopN Tryz.f118 0) (stDv [] b (List.replicate 0 0) (-1))).bind _).val = _
      rw [evDvN]
      rfl
    · right
      obtain ⟨n, hn⟩ : ∃ n, a.length = n + 1 := ⟨a.length - 1, by omega⟩
      have hd : a.drop (n + 1) = [] := List.drop_eq_nil_of_le (by omega)
      have e1 : ([] : List Int) = F.lb (F.dqo (F.nv b) (a.drop (n + 1))).2 := by rw [hd, dq_nil, F.lb_zero]
      have e2 : List.replicate (n + 1) (0 : Int) = List.replicate (n + 1) 0 ++ (F.dqo (F.nv b) (a.drop (n + 1))).1 := by rw [hd, dq_nil]; exact (List.append_nil _).symm
      have hs := (dv_step h1 h2 h3 (n := n) (by omega) [] e1 _ e2).2 rfl
      refine ⟨some n, ?_, ?_, fun m h => by cases h; omega, by simp only; omega, ?_⟩
      · have e : stDx a b none = stDv a b (List.replicate (n + 1) 0) (n : Int) := by
          show stDv a b (List.replicate a.length 0) ((a.length : Int) - 1) = _
          rw [hn, show ((n + 1 : Nat) : Int) - 1 = (n : Int) by omega]
        rw [e]; exact hs
      · rfl
      · have hf : decide ((a.length : Int) - 1 < 0) = false := decide_eq_false (by omega)
        simp only [outDx, outDv, hf]
        rfl
  | some m =>
    have hm := ho m rfl
    cases m with
    | zero =>
      left
      refine ⟨(.exit 0, ⟨[(7, .sl ((F.lb (F.dqo (F.nv b) a).2).map eI)), (6, .own 15)], [(15, ⟨false, 3, 1, (F.dqo (F.nv b) a).1.map eI⟩)]⟩), ?_, rfl, by simp, rfl⟩
      show ((exec enDv (loopN Tryz.f118 0) (stDvS a b (List.replicate 0 0 ++ (F.dqo (F.nv b) (a.drop 0)).1) (F.lb (F.dqo (F.nv b) (a.drop 0)).2) (-1))).bind _).val = _
      rw [evDvS]
      rfl
    | succ n =>
      right
      have hs := (dv_step h1 h2 h3 (n := n) (by omega) _ rfl _ rfl).1
      refine ⟨some n, ?_, rfl, fun m h => by cases h; omega, by simp only; omega, rfl⟩
      have e : stDx a b (some (n + 1)) = stDvS a b (List.replicate (n + 1) 0 ++ (F.dqo (F.nv b) (a.drop (n + 1))).1) (F.lb (F.dqo (F.nv b) (a.drop (n + 1))).2) (n : Int) := by
        show stDvS a b _ _ (((n + 1 : Nat) : Int) - 1) = _
        rw [show ((n + 1 : Nat) : Int) - 1 = (n : Int) by omega]
      rw [e]; exact hs

theorem evDv (a : List Int) (b : List Int) : (runF enDv false Tryz.f118 [.sl (a.map eI), .sl (b.map eI)]).val =
  bif Nat.ble (List.length (List.map eI a)) (List.length (List.map eI a)) && Nat.ble (List.length (List.map eI a) * (8 : Nat)) (140737488355328 : Nat) then Option.bind
  (unenc stDv1 (St.mk [(8, (vI (IntKind.wrap IntKind.i64 ((↑(List.length (List.map eI a)) : Int) - (1 : Int))))), (7, .own 7), (6, .own 15), (1, AV.sl (List.map eI b)), (0,
  AV.sl (List.map eI a))] [(15, Blk.mk false 3 1 (List.replicate (List.length (List.map eI a)) [(vI (0 : Int))])), (7, Blk.mk false 3 1 [])])) fun (z : List Int × List Int ×
  List Int × Int) => bif F.nk (200 : Nat) z.fst && F.nk (200 : Nat) z.snd.fst && decide ((0 : Nat) < F.nv z.snd.fst) && decide (z.snd.snd.fst = List.replicate (List.length
  z.fst) (0 : Int)) && decide (z.snd.snd.snd = (↑(List.length z.fst) : Int) - (1 : Int)) && true then bif decide (z.snd.snd.snd < (0 : Int)) then Option.bind (unenc encTrm
  [AV.sl []]) fun (z : List Int) => bif decide (List.length z ≤ (100000 : Nat)) then some (AV.tup [AV.sl (List.map eI (F.trimL z)), AV.sl []], []) else none else Option.bind
  (unenc encTrm [AV.sl (List.map eI (F.dqo (F.nv z.snd.fst) z.fst).fst)]) fun (z_1 : List Int) => bif decide (List.length z_1 ≤ (100000 : Nat)) then some (AV.tup [AV.sl
  (List.map eI (F.trimL z_1)), AV.sl (List.map eI (F.lb (F.dqo (F.nv z.snd.fst) z.fst).snd))], []) else none else none else none := (runFR_val).symm.trans (by kernel_rfl)

def encDv1 (a : List Int) (b : List Int) : List AV := [.sl (a.map eI), .sl (b.map eI)]

def encDv (a : (List Int) × (List Int)) : List AV := encDv1 a.1 a.2

theorem encDv_inj (a a' : (List Int) × (List Int)) (h : encDv a = encDv a') : a = a' := by
  simp only [encDv, encDv1] at h
  try simp [ints_inj, strs_inj, ents_inj, eEnt_iff, eLst_iff] at h
  grind

theorem unDv (a : List Int) (b : List Int) : unenc encDv ([AV.sl (List.map eI a), AV.sl (List.map eI b)]) = some (a, b) := unenc_of encDv_inj (a, b) rfl

def resDv1 (a : List Int) (b : List Int) : AV × Heap := (.tup [.sl ((F.lb (F.nv a / F.nv b)).map eI), .sl ((F.lb (F.nv a % F.nv b)).map eI)], [])

def preDv1 (a : List Int) (b : List Int) : Bool := F.nk 200 a && F.nk 200 b && decide (0 < F.nv b)

noncomputable def oDv : Orc := orc 118 false encDv (fun a => preDv1 a.1 a.2) fun a => resDv1 a.1 a.2

theorem okDv : OrcOK Tryz.prog noG oDv := by
  refine mk_ok Tryz.f118 (keep := false) (by kernel_rfl) (by kernel_rfl) enDv_ok mixed (two_loops (x0 := loopN Tryz.f118 0) (x1 := loopN Tryz.f118 1) (by kernel_rfl) (lpo_ok ?_) (lpo_ok ?_)) (by first | exact fun _ _ => ⟨rfl, rfl⟩ | (intro h; cases h)) ?_
  · rintro ⟨a, b, out, i⟩ hp
    exact lpDv_ok a b out i hp
  · rintro ⟨a, b, out, r, i, lo, hi⟩ hp
    exact lpDvi_ok a b out r i lo hi hp
  rintro ⟨a, b⟩ hpre hok
  show (runF enDv false _ (encDv1 _ _)).val = some (resDv1 _ _)
  unfold encDv1 resDv1
  rw [evDv]
  have hpre : (F.nk 200 a && F.nk 200 b && decide (0 < F.nv b)) = true := hpre
  have hpre2 := hpre
  rw [Bool.and_eq_true, Bool.and_eq_true, decide_eq_true_eq] at hpre2
  obtain ⟨⟨p1, p2⟩, p3⟩ := hpre2
  have l1 := F.nk_len p1
  have hres : F.trimL (F.dqo (F.nv b) a).1 = F.lb (F.nv a / F.nv b) ∧ (F.dqo (F.nv b) a).2 = F.nv a % F.nv b := by
    obtain ⟨m, hm1, hm⟩ := F.nk_of p1
    rw [hm1, F.nv_lb]
    exact F.dqo_lb p3 m
  have hrep : ∀ n : Nat, List.replicate n [vI (0 : Int)] = (List.replicate n (0 : Int)).map eI := fun n => by rw [List.map_replicate]; rfl
  have w0 : IntKind.i64.wrap ((a.length : Int) - 1) = (a.length : Int) - 1 := wrap_id (by omega) (by omega)
  have hb1 : Nat.ble a.length a.length = true := ble_t (Nat.le_refl _)
  have hb2 : Nat.ble (a.length * 8) 140737488355328 = true := ble_t (by omega)
  have hdl := (F.dqo_eq p3 (F.nk_ok p1)).2.2.2
  have hl : decide ((F.dqo (F.nv b) a).1.length ≤ 100000) = true := decide_eq_true (by omega)
  have u0 : unenc encTrm [.sl []] = some [] := unTrm []
  simp only [unTrm, unSml, unCpr, unLes, preTrm1, preSml1, preCpr1, preLes1, unstDv, unstDvi, unstDvi0, prlDv, prlDvi, outDv, outDvi, etaEnt, etaLst, etaSnd, etaStrm, etaMas, Option.bind_some, List.length_map, unStrs, unInts, unBools, unEnts, unItms, unTrns, cond_true, cond_false, Bool.and_true, Bool.true_and, p1, p2, w0, hrep, decide_eq_true p3, hb1, hb2, hl, decide_true, hres.1, hres.2, u0]
  by_cases hz : (a.length : Int) - 1 < 0
  · have ha : a = [] := List.length_eq_zero_iff.1 (by omega)
    subst ha
    rw [decide_eq_true hz, cond_true, show F.nv [] = 0 from rfl, Nat.zero_div, Nat.zero_mod, F.lb_zero]
    rfl
  · rw [decide_eq_false hz, cond_false]

end M

namespace M

def stCom (a : List Int) (b : List Int) : St := ⟨[(1, .sl (b.map eI)), (0, .sl (a.map eI))], []⟩

def stCom1 (a : (List Int) × (List Int)) : St := stCom a.1 a.2

theorem stCom_inj (a a' : (List Int) × (List Int)) (h : stCom1 a = stCom1 a') : a = a' := by
  simp only [stCom1, stCom] at h
  try simp [ints_inj, strs_inj, ents_inj, eEnt_iff, eLst_iff] at h
  grind

theorem unstCom (a : List Int) (b : List Int) : unenc stCom1 (St.mk [(1, AV.sl (List.map eI b)), (0, AV.sl (List.map eI a))] []) = some (a, b) := unenc_of stCom_inj (a, b) rfl

def outCom (a : List Int) (b : List Int) : T (Ex × St) := .ret (.exit 0, ⟨[(0, .sl ((F.lb (Nat.gcd (F.nv b) (F.nv a))).map eI))], []⟩)

noncomputable def prlCom (a : List Int) (b : List Int) : Bool := F.nk 200 a && F.nk 200 b

noncomputable def lpCom : Nat × (St → T (Ex × St)) := (1, lpo [1, 0] [] stCom1 (fun a => prlCom a.1 a.2) fun a => outCom a.1 a.2)

noncomputable def enCom : Env := envH ty noG lks [oDv] [] [] [lpCom]

theorem enCom_ok : EnvOK Tryz.prog enCom := by
  refine envH_ok lks_ok ty_ok ?_ ?_
  · simp only [List.forall_mem_cons]
    exact ⟨okDv, by simp⟩
  · simp

theorem evComL (a : List Int) (b : List Int) : ((exec enCom (loopN Tryz.f151 0) (stCom a b)).bind (lessX ([1, 0], []) ([0], []) ([], []))).val =
  bif decide ((0 : Int) < (↑(List.length (List.map eI b)) : Int)) then Option.bind (unenc encDv [AV.sl (List.map eI a), AV.sl (List.map eI b)]) fun (z : List Int × List Int)
  => bif F.nk (200 : Nat) z.fst && F.nk (200 : Nat) z.snd && decide ((0 : Nat) < F.nv z.snd) then some (Ex.normal, St.mk [(1, AV.sl (List.map eI (F.lb (Nat.mod (F.nv z.fst)
  (F.nv z.snd))))), (0, AV.sl (List.map eI b))] []) else none else some (Ex.exit (0 : Nat), St.mk [(0, AV.sl (List.map eI a))] []) := (execR_bind _ _ _).symm.trans (by kernel_rfl)

theorem lpCom_ok (a : List Int) (b : List Int) (hp : prlCom a b = true) : ∀ ex s', (outCom a b).val = some (ex, s') → LoopOK enCom (loopN Tryz.f151 0) (stCom a b) ex s' := by
  simp only [prlCom, Bool.and_eq_true, decide_eq_true_eq] at hp
  obtain ⟨h1, h2⟩ := hp
  obtain ⟨m, rfl, hm⟩ := F.nk_of h1
  obtain ⟨n, rfl, hn⟩ := F.nk_of h2
  clear h1 h2
  refine loop_gen (st := fun p : Nat × Nat => stCom (F.lb p.1) (F.lb p.2)) (out := fun p => outCom (F.lb p.1) (F.lb p.2)) (I := fun p => p.1 < 10000 ^ 200 ∧ p.2 < 10000 ^ 200) (n := ([1, 0], [])) (e := ([0], [])) (r := ([], [])) (fun p => p.2) ?_ (m, n) ⟨hm, hn⟩
  clear hm hn
  rintro ⟨m, n⟩ ⟨hm, hn⟩
  simp only at hm hn
  have k1 := F.nk_lb hm
  have k2 := F.nk_lb hn
  have hl := F.lb_emp n
  by_cases hz : n = 0
  · left
    refine ⟨(.exit 0, ⟨[(0, .sl ((F.lb m).map eI))], []⟩), ?_, ?_, by simp, rfl⟩
    · have c : ¬ (0 : Int) < ((F.lb n).length : Int) := by omega
      rw [evComL]
      simp only [unDv, preDv1, unstCom, prlCom, outCom, etaEnt, etaLst, etaSnd, etaStrm, etaMas, Option.bind_some, List.length_map, unStrs, unInts, unBools, unEnts, unItms, unTrns, cond_true, cond_false, Bool.and_true, Bool.true_and, decide_eq_false c]
    · simp only [outCom, F.nv_lb, hz, Nat.gcd_zero_left]
      rfl
  · right
    have c : (0 : Int) < ((F.lb n).length : Int) := by omega
    have hm2 : m % n < n := Nat.mod_lt _ (by omega)
    refine ⟨(n, m % n), ?_, rfl, ⟨hn, Nat.lt_trans hm2 hn⟩, hm2, ?_⟩
    · have hp : decide (0 < n) = true := decide_eq_true (by omega)
      rw [evComL]
      simp only [unDv, preDv1, unstCom, prlCom, outCom, etaEnt, etaLst, etaSnd, etaStrm, etaMas, Option.bind_some, List.length_map, unStrs, unInts, unBools, unEnts, unItms, unTrns, cond_true, cond_false, Bool.and_true, Bool.true_and, decide_eq_true c, k1, k2, F.nv_lb, hp, stCom]
      rfl
    · simp only [outCom, F.nv_lb]
      rw [← Nat.gcd_rec]

theorem evCom (a : List Int) (b : List Int) : (runF enCom false Tryz.f151 [.sl (a.map eI), .sl (b.map eI)]).val =
  Option.bind (unenc stCom1 (St.mk [(1, AV.sl (List.map eI b)), (0, AV.sl (List.map eI a))] [])) fun (z : List Int × List Int) => bif F.nk (200 : Nat) z.fst && F.nk (200 :
  Nat) z.snd && true then some (AV.sl (List.map eI (F.lb (Nat.gcd (F.nv z.snd) (F.nv z.fst)))), []) else none := (runFR_val).symm.trans (by kernel_rfl)

def encCom1 (a : List Int) (b : List Int) : List AV := [.sl (a.map eI), .sl (b.map eI)]

def encCom (a : (List Int) × (List Int)) : List AV := encCom1 a.1 a.2

theorem encCom_inj (a a' : (List Int) × (List Int)) (h : encCom a = encCom a') : a = a' := by
  simp only [encCom, encCom1] at h
  try simp [ints_inj, strs_inj, ents_inj, eEnt_iff, eLst_iff] at h
  grind

theorem unCom (a : List Int) (b : List Int) : unenc encCom ([AV.sl (List.map eI a), AV.sl (List.map eI b)]) = some (a, b) := unenc_of encCom_inj (a, b) rfl

def resCom1 (a : List Int) (b : List Int) : AV × Heap := (.sl ((F.lb (Nat.gcd (F.nv b) (F.nv a))).map eI), [])

def preCom1 (a : List Int) (b : List Int) : Bool := F.nk 200 a && F.nk 200 b

noncomputable def oCom : Orc := orc 151 false encCom (fun a => preCom1 a.1 a.2) fun a => resCom1 a.1 a.2

theorem okCom : OrcOK Tryz.prog noG oCom := by
  refine mk_ok Tryz.f151 (keep := false) (by kernel_rfl) (by kernel_rfl) enCom_ok mixed (one_loop (x0 := loopN Tryz.f151 0) (by kernel_rfl) (lpo_ok ?_)) (by first | exact fun _ _ => ⟨rfl, rfl⟩ | (intro h; cases h)) ?_
  · rintro ⟨a, b⟩ hp
    exact lpCom_ok a b hp
  rintro ⟨a, b⟩ hpre hok
  show (runF enCom false _ (encCom1 _ _)).val = some (resCom1 _ _)
  unfold encCom1 resCom1
  rw [evCom]
  have hpre : (F.nk 200 a && F.nk 200 b) = true := hpre
  simp only [unDv, preDv1, unstCom, prlCom, outCom, etaEnt, etaLst, etaSnd, etaStrm, etaMas, Option.bind_some, List.length_map, unStrs, unInts, unBools, unEnts, unItms, unTrns, cond_true, cond_false, Bool.and_true, Bool.true_and, hpre]

theorem unCpr_1 (a : List Int) : unenc encCpr [.sl (a.map eI), .sl [[vI 1]]] = some (a, [1]) := unCpr a [1]

theorem nk_one {k : Nat} (h : 1 ≤ k) : F.nk k [1] = true := by
  have := F.nk_lb (k := k) (n := 1) (F.lb_lt (m := 1) (by decide) h)
  rwa [F.lb_one] at this

theorem nv_one : F.nv [1] = 1 := rfl

theorem len_nv {k : Nat} {l : List Int} (h : F.nk k l = true) : ((l.length : Int) == 0) = decide (F.nv l = 0) := by
  obtain ⟨m, rfl, hm⟩ := F.nk_of h
  rw [F.nv_lb]
  have := F.lb_emp m
  by_cases hz : m = 0
  · rw [decide_eq_true hz, this.2 hz]; rfl
  · rw [decide_eq_false hz]
    have : (F.lb m).length ≠ 0 := fun e => hz (this.1 e)
    simp; exact fun e => hz (F.lb_nil.1 e)

theorem lb_nv {k : Nat} {l : List Int} (h : F.nk k l = true) : F.lb (F.nv l) = l := by
  obtain ⟨m, rfl, hm⟩ := F.nk_of h
  rw [F.nv_lb]

noncomputable def enLow : Env := envH ty noG lks [oCom, oCpr, oDv] [] [] []

theorem enLow_ok : EnvOK Tryz.prog enLow := by
  refine envH_ok lks_ok ty_ok ?_ ?_
  · simp only [List.forall_mem_cons]
    exact ⟨okCom, okCpr, okDv, by simp⟩
  · simp

theorem evLow (ng : Bool) (tp : List Int) (bt : List Int) : (runF enLow false Tryz.f136 [vB ng, .sl (tp.map eI), .sl (bt.map eI)]).val =
  bif (↑(List.length (List.map eI tp)) : Int) == (0 : Int) then some (AV.agg [(vB false), AV.sl [], AV.sl [[(vI (1 : Int))]]], []) else Option.bind (unenc encCom [AV.sl
  (List.map eI tp), AV.sl (List.map eI bt)]) fun (z : List Int × List Int) => bif F.nk (200 : Nat) z.fst && F.nk (200 : Nat) z.snd then Option.bind (unenc encCpr [AV.sl
  (List.map eI (F.lb (Nat.gcd (F.nv z.snd) (F.nv z.fst)))), AV.sl [[(vI (1 : Int))]]]) fun (z_1 : List Int × List Int) => bif F.nk (1000 : Nat) z_1.fst && F.nk (1000 : Nat)
  z_1.snd then bif F.sgn (↑(F.nv z_1.fst) : Int) (↑(F.nv z_1.snd) : Int) == (0 : Int) then some (AV.agg [(vB ng), AV.sl (List.map eI tp), AV.sl (List.map eI bt)], []) else
  Option.bind (unenc encDv [AV.sl (List.map eI tp), AV.sl (List.map eI (F.lb (Nat.gcd (F.nv z.snd) (F.nv z.fst))))]) fun (z_2 : List Int × List Int) => bif F.nk (200 : Nat)
  z_2.fst && F.nk (200 : Nat) z_2.snd && decide ((0 : Nat) < F.nv z_2.snd) then Option.bind (unenc encDv [AV.sl (List.map eI bt), AV.sl (List.map eI (F.lb (Nat.gcd (F.nv
  z.snd) (F.nv z.fst))))]) fun (z : List Int × List Int) => bif F.nk (200 : Nat) z.fst && F.nk (200 : Nat) z.snd && decide ((0 : Nat) < F.nv z.snd) then some (AV.agg [(vB
  ng), AV.sl (List.map eI (F.lb (Nat.div (F.nv z_2.fst) (F.nv z_2.snd)))), AV.sl (List.map eI (F.lb (Nat.div (F.nv z.fst) (F.nv z.snd))))], []) else none else none else none
  else none := (runFR_val).symm.trans (by kernel_rfl)

def encLow1 (ng : Bool) (tp : List Int) (bt : List Int) : List AV := [vB ng, .sl (tp.map eI), .sl (bt.map eI)]

def encLow (a : Bool × (List Int) × (List Int)) : List AV := encLow1 a.1 a.2.1 a.2.2

theorem encLow_inj (a a' : Bool × (List Int) × (List Int)) (h : encLow a = encLow a') : a = a' := by
  simp only [encLow, encLow1] at h
  try simp [ints_inj, strs_inj, ents_inj, eEnt_iff, eLst_iff] at h
  grind

theorem unLow (ng : Bool) (tp : List Int) (bt : List Int) : unenc encLow ([(vB ng), AV.sl (List.map eI tp), AV.sl (List.map eI bt)]) = some (ng, tp, bt) := unenc_of encLow_inj (ng, tp, bt) rfl

def resLow1 (ng : Bool) (tp : List Int) (bt : List Int) : AV × Heap := (.agg [vB (ng && decide (0 < F.nv tp)), .sl ((F.lb (F.nv tp / Nat.gcd (F.nv bt) (F.nv tp))).map eI), .sl ((F.lb (F.nv bt / Nat.gcd (F.nv bt) (F.nv tp))).map eI)], [])

def preLow1 (ng : Bool) (tp : List Int) (bt : List Int) : Bool := F.nk 200 tp && F.nk 200 bt && decide (0 < F.nv bt)

noncomputable def oLow : Orc := orc 136 false encLow (fun a => preLow1 a.1 a.2.1 a.2.2) fun a => resLow1 a.1 a.2.1 a.2.2

theorem okLow : OrcOK Tryz.prog noG oLow := by
  refine mk_ok Tryz.f136 (keep := false) (by kernel_rfl) (by kernel_rfl) enLow_ok mixed (no_loops (by kernel_rfl)) (by first | exact fun _ _ => ⟨rfl, rfl⟩ | (intro h; cases h)) ?_
  rintro ⟨ng, tp, bt⟩ hpre hok
  show (runF enLow false _ (encLow1 _ _ _)).val = some (resLow1 _ _ _)
  unfold encLow1 resLow1
  rw [evLow]
  have hpre : (F.nk 200 tp && F.nk 200 bt && decide (0 < F.nv bt)) = true := hpre
  rw [Bool.and_eq_true, Bool.and_eq_true, decide_eq_true_eq] at hpre
  obtain ⟨⟨p1, p2⟩, p3⟩ := hpre
  have hdv : ∀ u v : Nat, Nat.div u v = u / v := fun _ _ => rfl
  have hg : 0 < Nat.gcd (F.nv bt) (F.nv tp) := Nat.gcd_pos_of_pos_left _ p3
  have hgl : Nat.gcd (F.nv bt) (F.nv tp) < 10000 ^ 200 := Nat.lt_of_le_of_lt (Nat.gcd_le_left _ p3) (nk_lt p2)
  have k1 := F.nk_lb hgl
  have k2 := nk_up k1 (by decide : 200 ≤ 1000)
  have hs := F.sgn_eq (Nat.gcd (F.nv bt) (F.nv tp)) 1
  have e1 := lb_nv p1
  have e2 := lb_nv p2
  simp only [unCom, unCpr, unDv, preCom1, preCpr1, preDv1, etaEnt, etaLst, etaSnd, etaStrm, etaMas, Option.bind_some, List.length_map, unStrs, unInts, unBools, unEnts, unItms, unTrns, cond_true, cond_false, Bool.and_true, Bool.true_and, p1, p2, unCpr_1, len_nv p1, nk_one (by decide : 1 ≤ 1000), nv_one, F.nv_lb, k1, k2, hdv, decide_eq_true hg]
  by_cases hz : F.nv tp = 0
  · rw [decide_eq_true hz, hz, Nat.gcd_zero_right, Nat.zero_div, Nat.div_self p3, F.lb_zero, F.lb_one]
    simp
    rfl
  · have hp : decide (0 < F.nv tp) = true := decide_eq_true (by omega)
    rw [decide_eq_false hz, hp, Bool.and_true, cond_false]
    have hs : (F.sgn ((Nat.gcd (F.nv bt) (F.nv tp) : Nat) : Int) 1 == 0) = decide (Nat.gcd (F.nv bt) (F.nv tp) = 1) := hs
    simp only [Int.natCast_one]
    rw [hs]
    by_cases h1 : Nat.gcd (F.nv bt) (F.nv tp) = 1
    · rw [decide_eq_true h1, h1, Nat.div_one, Nat.div_one, e1, e2]; rfl
    · rw [decide_eq_false h1]; rfl

end M

def F.lowT (t b : Nat) : List Int := F.lb (t / Nat.gcd b t)

def F.lowB (t b : Nat) : List Int := F.lb (b / Nat.gcd b t)

namespace M

theorem nk_le {j k n : Nat} (h : n < 10000 ^ j) (hjk : j ≤ k) : F.nk k (F.lb n) = true := F.nk_lb (F.lb_lt h hjk)

noncomputable def enLnm : Env := envH ty noG lks [oTmz, oLad, oLes, oCpr, oLow] [] [] []

theorem enLnm_ok : EnvOK Tryz.prog enLnm := by
  refine envH_ok lks_ok ty_ok ?_ ?_
  · simp only [List.forall_mem_cons]
    exact ⟨okTmz, okLad, okLes, okCpr, okLow, by simp⟩
  · simp

theorem evTms (xn : Bool) (xt : List Int) (xb : List Int) (yn : Bool) (yt : List Int) (yb : List Int) : (runF enLnm false Tryz.f122 [.agg [vB xn, .sl (xt.map eI), .sl (xb.map eI)], .agg [vB yn, .sl (yt.map eI), .sl (yb.map eI)]]).val =
  Option.bind (unenc encTmz [AV.sl (List.map eI xt), AV.sl (List.map eI yt)]) fun (z : List Int × List Int) => bif F.nk (400 : Nat) z.fst && F.nk (400 : Nat) z.snd then
  Option.bind (unenc encTmz [AV.sl (List.map eI xb), AV.sl (List.map eI yb)]) fun (z_1 : List Int × List Int) => bif F.nk (400 : Nat) z_1.fst && F.nk (400 : Nat) z_1.snd
  then Option.bind (unenc encLow [(vB !xn == yn), AV.sl (List.map eI (F.lb (F.nv z.fst * F.nv z.snd))), AV.sl (List.map eI (F.lb (F.nv z_1.fst * F.nv z_1.snd)))]) fun (z :
  Bool × List Int × List Int) => bif F.nk (200 : Nat) z.snd.fst && F.nk (200 : Nat) z.snd.snd && decide ((0 : Nat) < F.nv z.snd.snd) then some (AV.agg [(vB (z.fst && decide
  ((0 : Nat) < F.nv z.snd.fst))), AV.sl (List.map eI (F.lb (Nat.div (F.nv z.snd.fst) (Nat.gcd (F.nv z.snd.snd) (F.nv z.snd.fst))))), AV.sl (List.map eI (F.lb (Nat.div (F.nv
  z.snd.snd) (Nat.gcd (F.nv z.snd.snd) (F.nv z.snd.fst)))))], []) else none else none else none := (runFR_val).symm.trans (by kernel_rfl)

def encTms1 (xn : Bool) (xt : List Int) (xb : List Int) (yn : Bool) (yt : List Int) (yb : List Int) : List AV := [.agg [vB xn, .sl (xt.map eI), .sl (xb.map eI)], .agg [vB yn, .sl (yt.map eI), .sl (yb.map eI)]]

def encTms (a : Bool × (List Int) × (List Int) × Bool × (List Int) × (List Int)) : List AV := encTms1 a.1 a.2.1 a.2.2.1 a.2.2.2.1 a.2.2.2.2.1 a.2.2.2.2.2

theorem encTms_inj (a a' : Bool × (List Int) × (List Int) × Bool × (List Int) × (List Int)) (h : encTms a = encTms a') : a = a' := by
  simp only [encTms, encTms1] at h
  try simp [ints_inj, strs_inj, ents_inj, eEnt_iff, eLst_iff] at h
  grind

theorem unTms (xn : Bool) (xt : List Int) (xb : List Int) (yn : Bool) (yt : List Int) (yb : List Int) : unenc encTms ([AV.agg [(vB xn), AV.sl (List.map eI xt), AV.sl (List.map eI xb)], AV.agg [(vB yn), AV.sl (List.map eI yt), AV.sl (List.map eI yb)]]) = some (xn, xt, xb, yn, yt, yb) := unenc_of encTms_inj (xn, xt, xb, yn, yt, yb) rfl

def resTms1 (xn : Bool) (xt : List Int) (xb : List Int) (yn : Bool) (yt : List Int) (yb : List Int) : AV × Heap := (.agg [vB ((xn != yn) && decide (0 < F.nv xt * F.nv yt)), .sl ((F.lowT (F.nv xt * F.nv yt) (F.nv xb * F.nv yb)).map eI), .sl ((F.lowB (F.nv xt * F.nv yt) (F.nv xb * F.nv yb)).map eI)], [])

def preTms1 (xn : Bool) (xt : List Int) (xb : List Int) (yn : Bool) (yt : List Int) (yb : List Int) : Bool := F.nk 90 xt && F.nk 90 xb && F.nk 90 yt && F.nk 90 yb && decide (0 < F.nv xb) && decide (0 < F.nv yb)

noncomputable def oTms : Orc := orc 122 false encTms (fun a => preTms1 a.1 a.2.1 a.2.2.1 a.2.2.2.1 a.2.2.2.2.1 a.2.2.2.2.2) fun a => resTms1 a.1 a.2.1 a.2.2.1 a.2.2.2.1 a.2.2.2.2.1 a.2.2.2.2.2

theorem okTms : OrcOK Tryz.prog noG oTms := by
  refine mk_ok Tryz.f122 (keep := false) (by kernel_rfl) (by kernel_rfl) enLnm_ok mixed (no_loops (by kernel_rfl)) (by first | exact fun _ _ => ⟨rfl, rfl⟩ | (intro h; cases h)) ?_
  rintro ⟨xn, xt, xb, yn, yt, yb⟩ hpre hok
  show (runF enLnm false _ (encTms1 _ _ _ _ _ _)).val = some (resTms1 _ _ _ _ _ _)
  unfold encTms1 resTms1
  rw [evTms]
  have hpre : (F.nk 90 xt && F.nk 90 xb && F.nk 90 yt && F.nk 90 yb && decide (0 < F.nv xb) && decide (0 < F.nv yb)) = true := hpre
  simp only [Bool.and_eq_true, decide_eq_true_eq] at hpre
  obtain ⟨⟨⟨⟨⟨p1, p2⟩, p3⟩, p4⟩, p5⟩, p6⟩ := hpre
  have k1 := nk_mul (l := 200) (nk_lt p1) (nk_lt p3) (by decide)
  have k2 := nk_mul (l := 200) (nk_lt p2) (nk_lt p4) (by decide)
  have hp : decide (0 < F.nv xb * F.nv yb) = true := decide_eq_true (Nat.mul_pos p5 p6)
  simp only [unTmz, unLad, unLes, unCpr, unLow, preTmz1, preLad1, preLes1, preCpr1, preLow1, etaEnt, etaLst, etaSnd, etaStrm, etaMas, Option.bind_some, List.length_map, unStrs, unInts, unBools, unEnts, unItms, unTrns, cond_true, cond_false, Bool.and_true, Bool.true_and, nk_up p1 (by decide : 90 ≤ 400), nk_up p2 (by decide : 90 ≤ 400), nk_up p3 (by decide : 90 ≤ 400), nk_up p4 (by decide : 90 ≤ 400), F.nv_lb, k1, k2, hp]
  rfl

theorem evOvr (xn : Bool) (xt : List Int) (xb : List Int) (yn : Bool) (yt : List Int) (yb : List Int) : (runF enLnm false Tryz.f121 [.agg [vB xn, .sl (xt.map eI), .sl (xb.map eI)], .agg [vB yn, .sl (yt.map eI), .sl (yb.map eI)]]).val =
  Option.bind (unenc encTmz [AV.sl (List.map eI xt), AV.sl (List.map eI yb)]) fun (z : List Int × List Int) => bif F.nk (400 : Nat) z.fst && F.nk (400 : Nat) z.snd then
  Option.bind (unenc encTmz [AV.sl (List.map eI xb), AV.sl (List.map eI yt)]) fun (z_1 : List Int × List Int) => bif F.nk (400 : Nat) z_1.fst && F.nk (400 : Nat) z_1.snd
  then Option.bind (unenc encLow [(vB !xn == yn), AV.sl (List.map eI (F.lb (F.nv z.fst * F.nv z.snd))), AV.sl (List.map eI (F.lb (F.nv z_1.fst * F.nv z_1.snd)))]) fun (z :
  Bool × List Int × List Int) => bif F.nk (200 : Nat) z.snd.fst && F.nk (200 : Nat) z.snd.snd && decide ((0 : Nat) < F.nv z.snd.snd) then some (AV.agg [(vB (z.fst && decide
  ((0 : Nat) < F.nv z.snd.fst))), AV.sl (List.map eI (F.lb (Nat.div (F.nv z.snd.fst) (Nat.gcd (F.nv z.snd.snd) (F.nv z.snd.fst))))), AV.sl (List.map eI (F.lb (Nat.div (F.nv
  z.snd.snd) (Nat.gcd (F.nv z.snd.snd) (F.nv z.snd.fst)))))], []) else none else none else none := (runFR_val).symm.trans (by kernel_rfl)

def encOvr1 (xn : Bool) (xt : List Int) (xb : List Int) (yn : Bool) (yt : List Int) (yb : List Int) : List AV := [.agg [vB xn, .sl (xt.map eI), .sl (xb.map eI)], .agg [vB yn, .sl (yt.map eI), .sl (yb.map eI)]]

def encOvr (a : Bool × (List Int) × (List Int) × Bool × (List Int) × (List Int)) : List AV := encOvr1 a.1 a.2.1 a.2.2.1 a.2.2.2.1 a.2.2.2.2.1 a.2.2.2.2.2

theorem encOvr_inj (a a' : Bool × (List Int) × (List Int) × Bool × (List Int) × (List Int)) (h : encOvr a = encOvr a') : a = a' := by
  simp only [encOvr, encOvr1] at h
  try simp [ints_inj, strs_inj, ents_inj, eEnt_iff, eLst_iff] at h
  grind

theorem unOvr (xn : Bool) (xt : List Int) (xb : List Int) (yn : Bool) (yt : List Int) (yb : List Int) : unenc encOvr ([AV.agg [(vB xn), AV.sl (List.map eI xt), AV.sl (List.map eI xb)], AV.agg [(vB yn), AV.sl (List.map eI yt), AV.sl (List.map eI yb)]]) = some (xn, xt, xb, yn, yt, yb) := unenc_of encOvr_inj (xn, xt, xb, yn, yt, yb) rfl

def resOvr1 (xn : Bool) (xt : List Int) (xb : List Int) (yn : Bool) (yt : List Int) (yb : List Int) : AV × Heap := (.agg [vB ((xn != yn) && decide (0 < F.nv xt * F.nv yb)), .sl ((F.lowT (F.nv xt * F.nv yb) (F.nv xb * F.nv yt)).map eI), .sl ((F.lowB (F.nv xt * F.nv yb) (F.nv xb * F.nv yt)).map eI)], [])

def preOvr1 (xn : Bool) (xt : List Int) (xb : List Int) (yn : Bool) (yt : List Int) (yb : List Int) : Bool := F.nk 90 xt && F.nk 90 xb && F.nk 90 yt && F.nk 90 yb && decide (0 < F.nv xb) && decide (0 < F.nv yt)

noncomputable def oOvr : Orc := orc 121 false encOvr (fun a => preOvr1 a.1 a.2.1 a.2.2.1 a.2.2.2.1 a.2.2.2.2.1 a.2.2.2.2.2) fun a => resOvr1 a.1 a.2.1 a.2.2.1 a.2.2.2.1 a.2.2.2.2.1 a.2.2.2.2.2

theorem okOvr : OrcOK Tryz.prog noG oOvr := by
  refine mk_ok Tryz.f121 (keep := false) (by kernel_rfl) (by kernel_rfl) enLnm_ok mixed (no_loops (by kernel_rfl)) (by first | exact fun _ _ => ⟨rfl, rfl⟩ | (intro h; cases h)) ?_
  rintro ⟨xn, xt, xb, yn, yt, yb⟩ hpre hok
  show (runF enLnm false _ (encOvr1 _ _ _ _ _ _)).val = some (resOvr1 _ _ _ _ _ _)
  unfold encOvr1 resOvr1
  rw [evOvr]
  have hpre : (F.nk 90 xt && F.nk 90 xb && F.nk 90 yt && F.nk 90 yb && decide (0 < F.nv xb) && decide (0 < F.nv yt)) = true := hpre
  simp only [Bool.and_eq_true, decide_eq_true_eq] at hpre
  obtain ⟨⟨⟨⟨⟨p1, p2⟩, p3⟩, p4⟩, p5⟩, p6⟩ := hpre
  have k1 := nk_mul (l := 200) (nk_lt p1) (nk_lt p4) (by decide)
  have k2 := nk_mul (l := 200) (nk_lt p2) (nk_lt p3) (by decide)
  have hp : decide (0 < F.nv xb * F.nv yt) = true := decide_eq_true (Nat.mul_pos p5 p6)
  simp only [unTmz, unLad, unLes, unCpr, unLow, preTmz1, preLad1, preLes1, preCpr1, preLow1, etaEnt, etaLst, etaSnd, etaStrm, etaMas, Option.bind_some, List.length_map, unStrs, unInts, unBools, unEnts, unItms, unTrns, cond_true, cond_false, Bool.and_true, Bool.true_and, nk_up p1 (by decide : 90 ≤ 400), nk_up p2 (by decide : 90 ≤ 400), nk_up p3 (by decide : 90 ≤ 400), nk_up p4 (by decide : 90 ≤ 400), F.nv_lb, k1, k2, hp]
  rfl

end M

theorem F.dv_itoa (n : Nat) : F.dv (F.itoa (n : Int)) = n := by
  unfold F.dv
  rw [F.itoa_n]
  exact (F.dd_ok n).2.1

theorem F.all_itoa (n : Nat) : (F.bs (F.itoa (n : Int))).all F.dgB = true := by
  rw [F.itoa_n]
  exact (F.dd_ok n).1

def F.pad4 (l : List UInt8) : List UInt8 := List.replicate (4 - l.length) 48 ++ l

theorem F.pad_dd {b : Nat} (h : b < 10000) : F.pad4 (Lib.decDigits b) = [UInt8.ofNat (48 + b / 1000), UInt8.ofNat (48 + b / 100 % 10), UInt8.ofNat (48 + b / 10 % 10), UInt8.ofNat (48 + b % 10)] := by
  by_cases h1 : b < 10
  · rw [F.dd_lt h1, show b / 1000 = 0 by omega, show b / 100 % 10 = 0 by omega, show b / 10 % 10 = 0 by omega, show b % 10 = b by omega]
    rfl
  · rw [F.dd_ge h1]
    by_cases h2 : b / 10 < 10
    · rw [F.dd_lt h2, show b / 1000 = 0 by omega, show b / 100 % 10 = 0 by omega, show b / 10 % 10 = b / 10 by omega]
      rfl
    · rw [F.dd_ge h2]
      by_cases h3 : b / 10 / 10 < 10
      · rw [F.dd_lt h3, show b / 1000 = 0 by omega, show b / 100 % 10 = b / 10 / 10 by omega]
        rfl
      · rw [F.dd_ge h3, F.dd_lt (by omega : b / 10 / 10 / 10 < 10), show b / 1000 = b / 10 / 10 / 10 by omega, show b / 100 % 10 = b / 10 / 10 % 10 by omega]
        rfl

theorem F.dd_app {a b : Nat} (ha : 0 < a) (h : b < 10000) : Lib.decDigits (a * 10000 + b) = Lib.decDigits a ++ F.pad4 (Lib.decDigits b) := by
  rw [F.pad_dd h, F.dd_ge (n := a * 10000 + b) (by omega), F.dd_ge (n := (a * 10000 + b) / 10) (by omega), F.dd_ge (n := (a * 10000 + b) / 10 / 10) (by omega), F.dd_ge (n := (a * 10000 + b) / 10 / 10 / 10) (by omega)]
  rw [show (a * 10000 + b) / 10 / 10 / 10 / 10 = a by omega, show (a * 10000 + b) / 10 / 10 / 10 % 10 = b / 1000 by omega, show (a * 10000 + b) / 10 / 10 % 10 = b / 100 % 10 by omega, show (a * 10000 + b) / 10 % 10 = b / 10 % 10 by omega, show (a * 10000 + b) % 10 = b % 10 by omega]
  simp

def F.pcs (s : ByteArray) : List Int := if h : s.size = 0 then [] else ((F.dv (s.extract (s.size - 4) s.size) : Nat) : Int) :: F.pcs (s.extract 0 (s.size - 4))
termination_by s.size
decreasing_by rw [ByteArray.size_extract]; omega

theorem F.bs_ext (s : ByteArray) (i j : Nat) : F.bs (s.extract i j) = ((F.bs s).take j).drop i := by
  unfold F.bs
  rw [ByteArray.data_extract, Array.toList_extract, List.extract_eq_take_drop]
  rw [List.drop_take]

theorem F.dv_split {s : ByteArray} (k : Nat) (hk : k ≤ s.size) : F.dv s = F.dv (s.extract 0 k) * 10 ^ (s.size - k) + F.dv (s.extract k s.size) := by
  have hl := F.bs_len s
  unfold F.dv
  rw [F.bs_ext, F.bs_ext, List.drop_zero, List.take_of_length_le (by omega : (F.bs s).length ≤ s.size)]
  conv => lhs; rw [← List.take_append_drop k (F.bs s)]
  rw [F.dvA_app, F.dvA_acc, List.length_drop, hl]

theorem F.all_ext {s : ByteArray} (h : (F.bs s).all F.dgB = true) (i j : Nat) : (F.bs (s.extract i j)).all F.dgB = true := by
  rw [F.bs_ext, List.all_eq_true]
  intro x hx
  exact List.all_eq_true.1 h x (List.mem_of_mem_take (List.mem_of_mem_drop hx))

theorem F.pcs_ok : ∀ (n : Nat) (s : ByteArray), s.size ≤ n → (F.bs s).all F.dgB = true → F.okL (F.pcs s) ∧ F.vl (F.pcs s) = ((F.dv s : Nat) : Int) := by
  intro n
  induction n with
  | zero =>
    intro s hs _
    have h0 : s.size = 0 := by omega
    rw [F.pcs, dif_pos h0]
    have : F.bs s = [] := List.length_eq_zero_iff.1 (by rw [F.bs_len, h0])
    exact ⟨F.okL_nil, by unfold F.dv; rw [this]; rfl⟩
  | succ n ih =>
    intro s hs hd
    by_cases h0 : s.size = 0
    · exact ih s (by omega) hd
    · rw [F.pcs, dif_neg h0]
      have hz : (s.extract 0 (s.size - 4)).size = s.size - 4 := by rw [ByteArray.size_extract]; omega
      have hz2 : (s.extract (s.size - 4) s.size).size = s.size - (s.size - 4) := by rw [ByteArray.size_extract]; omega
      obtain ⟨i1, i2⟩ := ih (s.extract 0 (s.size - 4)) (by omega) (F.all_ext hd _ _)
      have hlt := F.dvA_lt _ (F.all_ext hd (s.size - 4) s.size)
      rw [F.bs_len, hz2] at hlt
      have h4 : 10 ^ (s.size - (s.size - 4)) ≤ 10 ^ 4 := Nat.pow_le_pow_right (by decide) (by clear hlt hs hz hz2; omega)
      have hlt2 : F.dv (s.extract (s.size - 4) s.size) < 10000 := Nat.lt_of_lt_of_le hlt h4
      refine ⟨F.okL_cons (by omega) i1, ?_⟩
      have hsp := F.dv_split (s := s) (s.size - 4) (by omega)
      rw [F.vl, i2, hsp]
      by_cases h : 4 ≤ s.size
      · rw [show s.size - (s.size - 4) = 4 by clear hlt hlt2 hsp; omega]
        clear hlt hlt2 hsp
        omega
      · have e0 : F.bs (s.extract 0 (s.size - 4)) = [] := List.length_eq_zero_iff.1 (by rw [F.bs_len, hz]; omega)
        have e1 : F.dv (s.extract 0 (s.size - 4)) = 0 := by unfold F.dv; rw [e0]; rfl
        rw [e1]; omega

theorem F.pcs_lb {s : ByteArray} (h : (F.bs s).all F.dgB = true) : F.trimL (F.pcs s) = F.lb (F.dv s) := by
  obtain ⟨q1, q2⟩ := F.pcs_ok s.size s (Nat.le_refl _) h
  rw [F.trimL_eq q1, q2]; rfl

end Go.Proofs.YtajmdlpanlbnjaaGreatDoor

namespace Go.Proofs.YtajmdlpanlbnjaaGreatDoor
open Go Go.RowKit Go.Lib Go.Sort
set_option linter.unusedVariables false
set_option linter.unusedSimpArgs false
set_option maxHeartbeats 4000000
set_option maxRecDepth 100000

theorem holds_zero0 (w : World) (T : TypeId) (nd : Nat) (hs : nd ≤ 24) : Holds (fun (b : UInt8) => Value.int .u8 (b.toNat : Int)) (w.alloc (.cells Lib.zeros24 T)) w.heap.size 0 (Array.replicate nd (0 : UInt8)) := fun j hj => by
  have hj' : j < nd := by simpa using hj
  refine ⟨?_, World.frozen?_alloc_new _ _ _ _⟩
  rw [World.cell?_alloc_new, Lib.zeros24_at _ (by omega), getElem!_pos _ j hj]
  simp

theorem fin_pos0 (w : World) (o : Obj) (dk : Array UInt8) (k : Nat) : ∃ os, (putRow (fun (b : UInt8) => Value.int .u8 (b.toNat : Int)) (w.alloc o) w.heap.size 0 dk).drewN k = grow (w.drewN k) os := by
  rw [Go.Sort.alloc_eq_grow]
  obtain ⟨os', _, e⟩ := Go.Sort.putRow_grow_new (fun (b : UInt8) => Value.int .u8 (b.toNat : Int)) w #[o] w.heap.size 0 dk (Nat.le_refl _)
  exact ⟨os', by rw [e]; rfl⟩

theorem fmtU_in (u : Nat) (hu64 : u < 18446744073709551616) (w : World) (htab : Lib.TabIs Tryz.prog w "internal/strconv.uint64pow10" .u64 Lib.pow10Tab) :
    Calls Tryz.prog 152 #[.int .u64 u, .int .i64 10] w fun e w' => e = .returned (.string ⟨(Lib.decDigits u).toArray⟩) ∧ ∃ k os, w' = grow (w.drewN k) os := by
  by_cases hs : u < 100
  · have hs2 : (u : Int) < 100 := by omega
    go_enter Tryz.func152, Tryz.ntmps152
    go_wp2_with (go_at_call 109; refine (Tryz.internal_strconv_small u hs _).mono ?_; rintro e w' ⟨rfl, rfl⟩)
    go_ret
    exact ⟨rfl, 0, #[], by simp [World.drewN_zero]⟩
  · have hs2 : ¬ (u : Int) < 100 := by omega
    have hu1 : 1 ≤ u := by omega
    have hnd20 : Lib.nDigits u ≤ 20 := by have := Lib.numDigits_eq u hu1 hu64; split at this <;> omega
    have hb3 : Lib.nDigits u ≤ 24 := by omega
    have hal : Tryz.prog.arrayLen 139 = 24 := by kernel_rfl
    have hsl1 : ∀ W, (Instr.sliceAt 139 (.pointer (some ⟨w.heap.size, 0, none⟩)) none (some (.int .i64 (Lib.nDigits u : Int))) none).run Tryz.prog W = .ok (.slice (some ⟨w.heap.size, 0, none⟩) (Lib.nDigits u) 24) W := fun W => by
      rw [run_sliceAt_array_h W 139 ⟨w.heap.size, 0, none⟩ (by kernel_rfl) .i64 (Lib.nDigits u : Int) (by omega) (by rw [hal]; omega)]
      go_simp
    have hH0 := holds_zero0 w 139 (Lib.nDigits u) hb3
    have hfmt := Tryz.internal_strconv_formatBase10 w.heap.size 0 24 u (Array.replicate (Lib.nDigits u) 0) (w.alloc (.cells Lib.zeros24 139)) hH0 (by rw [Array.size_replicate]; exact Lib.lt_pow_nDigits u) hu64 (by rw [Array.size_replicate]; omega)
    rw [Array.size_replicate] at hfmt
    have HH0 := Lib.hid hH0
    clear hH0 hal
    go_enter Tryz.func152, Tryz.ntmps152
    go_wp2_with (first
      | (go_at_call 110; refine (Tryz.internal_strconv_numDigits u hu1 hu64 _ (Lib.tabIs_alloc htab _)).mono ?_; rintro e w' ⟨rfl, rfl⟩))
    go_at_call 111
    refine hfmt.mono ?_
    rintro e w' ⟨rfl, k, v', dk, rfl, hF⟩
    have hcv : (convert 79 9 (.slice (some ⟨w.heap.size, 0, none⟩) (Lib.nDigits u) 24)).run Tryz.prog ((putRow (fun (b : UInt8) => Value.int .u8 (b.toNat : Int)) (w.alloc (.cells Lib.zeros24 139)) w.heap.size 0 dk).drewN k) = .ok (.string ⟨(Lib.decDigits u).toArray⟩) ((putRow (fun (b : UInt8) => Value.int .u8 (b.toNat : Int)) (w.alloc (.cells Lib.zeros24 139)) w.heap.size 0 dk).drewN k) := by
      have h := run_convert_bytes_back (P := Tryz.prog) ((putRow (fun (b : UInt8) => Value.int .u8 (b.toNat : Int)) (w.alloc (.cells Lib.zeros24 139)) w.heap.size 0 dk).drewN k) 79 9 5 ⟨w.heap.size, 0, none⟩ 24 (Lib.decDigits u) (by kernel_rfl) (by kernel_rfl) (by kernel_rfl) (fun j hj => by
        rw [Lib.row_is_numeral hF j hj, Lib.add_plain, World.cell?_drewN]
        exact cell?_putRow (fun (b : UInt8) => Value.int .u8 (b.toNat : Int)) _ w.heap.size 0 _ dk HH0.out (by rw [hF.size, Array.size_replicate]) j (by rw [hF.size]; rw [Lib.decDigits_length] at hj; exact hj))
      rw [Lib.decDigits_length] at h
      exact h
    go_wp2
    go_ret
    obtain ⟨os, eo⟩ := fin_pos0 w (.cells Lib.zeros24 139) dk k
    exact ⟨rfl, k, os, eo⟩

theorem fmtU (u : Nat) (hu64 : u < 18446744073709551616) (w : World) (htab : Lib.TabIs Tryz.prog w "internal/strconv.uint64pow10" .u64 Lib.pow10Tab) :
    Calls Tryz.prog 139 #[.int .u64 u, .int .i64 10] w fun e w' => e = .returned (.string ⟨(Lib.decDigits u).toArray⟩) ∧ ∃ k os, w' = grow (w.drewN k) os := by
  have hI := fmtU_in u hu64 w htab
  go_enter Tryz.func139, Tryz.ntmps139
  go_wp2_with (go_at_call 152; refine hI.mono ?_; rintro e w' ⟨rfl, k, os, rfl⟩)
  go_ret
  exact ⟨rfl, k, os, rfl⟩

namespace M

def encFmt1 (n : Nat) : List AV := [.v (.int .u64 n), vI 10]

def encFmt (a : Nat) : List AV := encFmt1 a

theorem encFmt_inj (a a' : Nat) (h : encFmt a = encFmt a') : a = a' := by
  simp only [encFmt, encFmt1] at h
  try simp [ints_inj, strs_inj, ents_inj, eEnt_iff, eLst_iff] at h
  grind

theorem unFmt (n : Nat) : unenc encFmt ([AV.v (Value.int IntKind.u64 (↑n : Int)), (vI (10 : Int))]) = some (n) := unenc_of encFmt_inj (n) rfl

def resFmt1 (n : Nat) : AV × Heap := (vS (F.itoa n), [])

def preFmt1 (n : Nat) : Bool := decide (n ≤ 18446744073709551615)

noncomputable def oFmt : Orc := orc 139 true encFmt (fun a => preFmt1 a) fun a => resFmt1 a

theorem okFmt : OrcOK Tryz.prog noG oFmt := by
  refine orc_ok ⟨Tryz.f139, by kernel_rfl, by kernel_rfl, by kernel_rfl⟩ (fun n hp _ => ?_) (fun _ _ => ⟨rfl, rfl⟩)
  have hp : n ≤ 18446744073709551615 := of_decide_eq_true hp
  have e : F.itoa (n : Int) = ⟨(Lib.decDigits n).toArray⟩ := by unfold F.itoa; rw [Lib.itoa_nonneg]
  have hl : Lib.nDigits n ≤ 20 := by
    by_cases h : n < 10
    · rw [Lib.nDigits_small h]; omega
    · have := Lib.numDigits_eq n (by omega) (by omega); split at this <;> omega
  have hz : (F.itoa (n : Int)).size ≤ 9223372036854775807 := by
    rw [e]
    show (Lib.decDigits n).toArray.size ≤ _
    rw [List.size_toArray, Lib.decDigits_length]; omega
  refine SpecP.below2 (fun w S => rv_mk (by show (F.itoa (n : Int)).size ≤ 9223372036854775807; exact hz)) fun _ _ w S hG => ?_
  have hg := hG 2 ⟨[], fun cs => cs = (Lib.pow10Tab.map fun z => Value.int .u64 z).toArray⟩ rfl
  obtain ⟨cs, ty, o, h1, h2⟩ := hg.cells
  have htab : Lib.TabIs Tryz.prog w "internal/strconv.uint64pow10" .u64 Lib.pow10Tab := by
    have hn : Tryz.prog.globalNamed "internal/strconv.uint64pow10" = some 2 := by kernel_rfl
    simp only [Lib.TabIs, World.var?, hn, Option.bind_some, h1]
    rw [h2]
  refine (fmtU n (by omega) w htab).mono ?_
  rintro e' w' ⟨he, k, os, rfl⟩
  rw [← e] at he
  exact ⟨he, below_grow w k os⟩

end M

end Go.Proofs.YtajmdlpanlbnjaaGreatDoor

namespace Go.Proofs.YtajmdlpanlbnjaaGreatDoor
open Go Go.RowKit
set_option linter.unusedVariables false
set_option linter.unusedSimpArgs false
set_option maxHeartbeats 1000000

namespace M

end M

theorem F.isD_ext {s : ByteArray} (h : (F.bs s).all F.dgB = true) (hs : s.size ≤ 1000) (h0 : s.size ≠ 0) : F.isD (s.extract (s.size - 4) s.size) = true := by
  have hz2 : (s.extract (s.size - 4) s.size).size = s.size - (s.size - 4) := by rw [ByteArray.size_extract]; omega
  have ha := F.all_ext h (s.size - 4) s.size
  have hlt := F.dvA_lt _ ha
  rw [F.bs_len, hz2] at hlt
  have h4 : 10 ^ (s.size - (s.size - 4)) ≤ 10 ^ 4 := Nat.pow_le_pow_right (by decide) (by clear hlt hz2; omega)
  have hlt2 : F.dv (s.extract (s.size - 4) s.size) < 10000 := Nat.lt_of_lt_of_le hlt h4
  unfold F.isD
  rw [ha, decide_eq_true (by clear hlt h4 hlt2; omega), decide_eq_true (by clear hlt h4; omega)]
  rfl

namespace M

def stLim (s : ByteArray) (acc : List Int) : St := ⟨[(3, .own 3), (0, vS s)], [(3, ⟨false, 3, 1, acc.map eI⟩)]⟩

def stLim1 (a : ByteArray × (List Int)) : St := stLim a.1 a.2

theorem stLim_inj (a a' : ByteArray × (List Int)) (h : stLim1 a = stLim1 a') : a = a' := by
  simp only [stLim1, stLim] at h
  try simp [ints_inj, strs_inj, ents_inj, eEnt_iff, eLst_iff] at h
  grind

theorem unstLim (s : ByteArray) (acc : List Int) : unenc stLim1 (St.mk [(3, .own 3), (0, (vS s))] [(3, Blk.mk false 3 1 (List.map eI acc))]) = some (s, acc) := unenc_of stLim_inj (s, acc) rfl

theorem unstLim0 (s : ByteArray)  : unenc stLim1 (St.mk [(3, .own 3), (0, (vS s))] [(3, Blk.mk false 3 1 [])]) = some (s, []) := unenc_of stLim_inj (s, []) rfl

def outLim (s : ByteArray) (acc : List Int) : T (Ex × St) := .ret (.exit 0, ⟨[(3, .own 3)], [(3, ⟨false, 3, 1, (acc ++ F.pcs s).map eI⟩)]⟩)

noncomputable def prlLim (s : ByteArray) (acc : List Int) : Bool := (F.bs s).all F.dgB && decide (s.size ≤ 1000) && decide (acc.length + s.size ≤ 1000)

noncomputable def lpLim : Nat × (St → T (Ex × St)) := (2, lpo [3, 0] [3] stLim1 (fun a => prlLim a.1 a.2) fun a => outLim a.1 a.2)

noncomputable def enLim : Env := envH ty noG lks [oTrm, oAto] [] [] [lpLim]

theorem enLim_ok : EnvOK Tryz.prog enLim := by
  refine envH_ok lks_ok ty_ok ?_ ?_
  · simp only [List.forall_mem_cons]
    exact ⟨okTrm, okAto, by simp⟩
  · simp

theorem evLimL (s : ByteArray) (acc : List Int) : ((exec enLim (loopN Tryz.f138 0) (stLim s acc)).bind (lessX ([3, 0], [3]) ([3], [3]) ([], []))).val =
  bif decide ((0 : Int) < (↑(ByteArray.size s) : Int)) then Option.bind (idx (max (0 : Int) (IntKind.wrap IntKind.i64 ((↑(ByteArray.size s) : Int) - (4 : Int))))) fun (z :
  Nat) => bif Nat.ble z (ByteArray.size s) && Nat.ble (ByteArray.size s) (ByteArray.size s) then Option.bind (unenc encAto [(vS (ByteArray.extract s z (ByteArray.size s)))])
  fun (z : ByteArray) => bif F.isD z && decide (ByteArray.size z ≤ (1000 : Nat)) then bif Nat.ble ((List.length (List.map eI acc) + (1 : Nat)) * (8 : Nat)) (140737488355328
  : Nat) && true then Option.bind (idx (max (0 : Int) (IntKind.wrap IntKind.i64 ((↑(ByteArray.size s) : Int) - (4 : Int))))) fun (z_1 : Nat) => bif Nat.ble (0 : Nat) z_1 &&
  Nat.ble z_1 (ByteArray.size s) then some (Ex.normal, St.mk [(3, .own 3), (0, (vS (ByteArray.extract s (0 : Nat) z_1)))] [(3, Blk.mk false 3 1 (List.map eI acc ++ [[(vI
  (↑(F.dv z) : Int))]]))]) else none else none else none else none else some (Ex.exit (0 : Nat), St.mk [(3, .own 3)] [(3, Blk.mk false 3 1 (List.map eI acc))]) := (execR_bind _ _ _).symm.trans (by kernel_rfl)

theorem lpLim_ok (s : ByteArray) (acc : List Int) (hp : prlLim s acc = true) : ∀ ex s', (outLim s acc).val = some (ex, s') → LoopOK enLim (loopN Tryz.f138 0) (stLim s acc) ex s' := by
  simp only [prlLim, Bool.and_eq_true, decide_eq_true_eq] at hp
  obtain ⟨⟨h1, h2⟩, h3⟩ := hp
  refine loop_gen (st := fun p : ByteArray × List Int => stLim p.1 p.2) (out := fun p => outLim p.1 p.2) (I := fun p => (F.bs p.1).all F.dgB = true ∧ p.1.size ≤ 1000 ∧ p.2.length + p.1.size ≤ 1000) (n := ([3, 0], [3])) (e := ([3], [3])) (r := ([], [])) (fun p => p.1.size) ?_ (s, acc) ⟨h1, h2, h3⟩
  clear h1 h2 h3
  rintro ⟨s, acc⟩ ⟨h1, h2, h3⟩
  simp only at h1 h2 h3
  by_cases h0 : s.size = 0
  · left
    refine ⟨(.exit 0, ⟨[(3, .own 3)], [(3, ⟨false, 3, 1, acc.map eI⟩)]⟩), ?_, ?_, by simp, rfl⟩
    · have c : ¬ (0 : Int) < (s.size : Int) := by omega
      rw [evLimL]
      simp only [unTrm, unAto, preTrm1, preAto1, unstLim, unstLim0, prlLim, outLim, etaEnt, etaLst, etaSnd, etaStrm, etaMas, Option.bind_some, List.length_map, unStrs, unInts, unBools, unEnts, unItms, unTrns, cond_true, cond_false, Bool.and_true, Bool.true_and, decide_eq_false c]
    · rw [outLim, F.pcs, dif_pos h0, List.append_nil]
      rfl
  · right
    have c : (0 : Int) < (s.size : Int) := by omega
    have hm : max 0 (IntKind.i64.wrap ((s.size : Int) - 4)) = ((s.size - 4 : Nat) : Int) := by rw [wrap_id (by omega) (by omega)]; omega
    have hi : idx ((s.size - 4 : Nat) : Int) = some (s.size - 4) := idx_n (by omega)
    have hz : (s.extract 0 (s.size - 4)).size = s.size - 4 := by rw [ByteArray.size_extract]; omega
    have hz2 : (s.extract (s.size - 4) s.size).size ≤ 1000 := by rw [ByteArray.size_extract]; omega
    have b1 : Nat.ble (s.size - 4) s.size = true := ble_t (by omega)
    have b2 : Nat.ble s.size s.size = true := ble_t (Nat.le_refl _)
    have b3 : Nat.ble ((acc.length + 1) * 8) 140737488355328 = true := ble_t (by omega)
    refine ⟨(s.extract 0 (s.size - 4), acc ++ [((F.dv (s.extract (s.size - 4) s.size) : Nat) : Int)]), ?_, rfl, ⟨F.all_ext h1 _ _, by simp only; omega, by simp only [List.length_append, List.length_singleton]; omega⟩, by simp only; omega, ?_⟩
    · rw [evLimL]
      simp only [unTrm, unAto, preTrm1, preAto1, unstLim, unstLim0, prlLim, outLim, etaEnt, etaLst, etaSnd, etaStrm, etaMas, Option.bind_some, List.length_map, unStrs, unInts, unBools, unEnts, unItms, unTrns, cond_true, cond_false, Bool.and_true, Bool.true_and, decide_eq_true c, hm, hi, b1, b2, b3, ble_t (Nat.zero_le _), F.isD_ext h1 h2 h0, decide_eq_true hz2, stLim]
      rw [List.map_append]
      rfl
    · have e : F.pcs s = ((F.dv (s.extract (s.size - 4) s.size) : Nat) : Int) :: F.pcs (s.extract 0 (s.size - 4)) := by rw [F.pcs, dif_neg h0]
      simp only [outLim]
      rw [e, List.append_assoc, List.singleton_append]

theorem evLim (s : ByteArray) : (runF enLim false Tryz.f138 [vS s]).val =
  Option.bind (unenc stLim1 (St.mk [(3, .own 3), (0, (vS s))] [(3, Blk.mk false 3 1 [])])) fun (z : ByteArray × List Int) => bif List.all (F.bs z.fst) F.dgB && decide
  (ByteArray.size z.fst ≤ (1000 : Nat)) && decide (List.length z.snd + ByteArray.size z.fst ≤ (1000 : Nat)) && true then Option.bind (unenc encTrm [AV.sl (List.map eI (z.snd
  ++ F.pcs z.fst))]) fun (z : List Int) => bif decide (List.length z ≤ (100000 : Nat)) then some (AV.sl (List.map eI (F.trimL z)), []) else none else none := (runFR_val).symm.trans (by kernel_rfl)

def encLim1 (s : ByteArray) : List AV := [vS s]

def encLim (a : ByteArray) : List AV := encLim1 a

theorem encLim_inj (a a' : ByteArray) (h : encLim a = encLim a') : a = a' := by
  simp only [encLim, encLim1] at h
  try simp [ints_inj, strs_inj, ents_inj, eEnt_iff, eLst_iff] at h
  grind

theorem unLim (s : ByteArray) : unenc encLim ([(vS s)]) = some (s) := unenc_of encLim_inj (s) rfl

def resLim1 (s : ByteArray) : AV × Heap := (.sl ((F.lb (F.dv s)).map eI), [])

def preLim1 (s : ByteArray) : Bool := (F.bs s).all F.dgB && decide (s.size ≤ 1000)

noncomputable def oLim : Orc := orc 138 false encLim (fun a => preLim1 a) fun a => resLim1 a

theorem okLim : OrcOK Tryz.prog noG oLim := by
  refine mk_ok Tryz.f138 (keep := false) (by kernel_rfl) (by kernel_rfl) enLim_ok mixed (one_loop (x0 := loopN Tryz.f138 0) (by kernel_rfl) (lpo_ok ?_)) (by first | exact fun _ _ => ⟨rfl, rfl⟩ | (intro h; cases h)) ?_
  · rintro ⟨s, acc⟩ hp
    exact lpLim_ok s acc hp
  rintro s hpre hok
  show (runF enLim false _ (encLim1 _)).val = some (resLim1 _)
  unfold encLim1 resLim1
  rw [evLim]
  have hpre : ((F.bs s).all F.dgB && decide (s.size ≤ 1000)) = true := hpre
  rw [Bool.and_eq_true, decide_eq_true_eq] at hpre
  have hl : ∀ (n : Nat) (s : ByteArray), s.size ≤ n → (F.pcs s).length ≤ n := by
    intro n
    induction n with
    | zero => intro s hs; rw [F.pcs, dif_pos (by omega)]; exact Nat.le_refl _
    | succ n ih =>
      intro s hs
      by_cases h0 : s.size = 0
      · rw [F.pcs, dif_pos h0]; exact Nat.zero_le _
      · rw [F.pcs, dif_neg h0, List.length_cons]
        have := ih (s.extract 0 (s.size - 4)) (by rw [ByteArray.size_extract]; omega)
        omega
  have hl := hl s.size s (Nat.le_refl _)
  simp only [unTrm, unAto, preTrm1, preAto1, unstLim, unstLim0, prlLim, outLim, etaEnt, etaLst, etaSnd, etaStrm, etaMas, Option.bind_some, List.length_map, unStrs, unInts, unBools, unEnts, unItms, unTrns, cond_true, cond_false, Bool.and_true, Bool.true_and, hpre.1, decide_eq_true hpre.2, List.length_nil, Nat.zero_add, List.nil_append, decide_eq_true (by omega : (F.pcs s).length ≤ 100000), F.pcs_lb hpre.1]

end M

theorem F.bs_cat (a b : ByteArray) : F.bs (a ++ b) = F.bs a ++ F.bs b := by
  unfold F.bs
  rw [ByteArray.data_append, Array.toList_append]

theorem F.rep_zrs (k : Nat) : (⟨(Lib.repeatL [48] k).toArray⟩ : ByteArray) = F.zrs k := by
  refine F.bsx ?_
  show (Lib.repeatL [48] k).toArray.toList = _
  rw [F.bs_zrs]
  simp only
  induction k with
  | zero => rfl
  | succ k ih => simp only [Lib.repeatL, List.replicate_succ, ih]; rfl

theorem F.cat_assoc (a b c : ByteArray) : a ++ b ++ c = a ++ (b ++ c) := F.bsx (by simp only [F.bs_cat, List.append_assoc])

theorem F.cat_nil (a : ByteArray) : a ++ ⟨#[]⟩ = a := F.bsx (by rw [F.bs_cat]; exact List.append_nil _)

def F.pdT (x : Int) : ByteArray := F.zrs (4 - (F.itoa x).size) ++ F.itoa x

def F.tlT (l : List Int) : Nat → ByteArray
  | 0 => ⟨#[]⟩
  | k + 1 => F.pdT (l.getD k 0) ++ F.tlT l k

def F.lxL : List Int → ByteArray
  | [] => ⟨#[]⟩
  | [x] => F.itoa x
  | x :: y :: l => F.lxL (y :: l) ++ F.pdT x

theorem F.tlT_cons (x : Int) (l : List Int) : ∀ k, F.tlT (x :: l) (k + 1) = F.tlT l k ++ F.pdT x
  | 0 => by
    show F.pdT x ++ ⟨#[]⟩ = _
    rw [F.cat_nil]
    exact F.bsx (by rw [F.bs_cat]; rfl)
  | k + 1 => by
    rw [F.tlT, F.tlT_cons x l k, F.tlT, ← F.cat_assoc]
    rfl

theorem F.lxL_eq : ∀ (l : List Int) (h : l ≠ []), F.itoa (l.getLast h) ++ F.tlT l (l.length - 1) = F.lxL l
  | [x], _ => by
    show F.itoa x ++ ⟨#[]⟩ = F.itoa x
    exact F.cat_nil _
  | x :: y :: l, h => by
    have ih := F.lxL_eq (y :: l) (by simp)
    rw [F.lxL, ← ih, List.getLast_cons (by simp), F.cat_assoc]
    congr 1
    exact F.tlT_cons x (y :: l) l.length

theorem F.lxL_lb (n : Nat) (h : 0 < n) : F.lxL (F.lb n) = F.itoa (n : Int) := by
  induction n using Nat.strongRecOn with
  | ind n ih =>
    rw [F.lb_pos (by omega)]
    by_cases hs : n < 10000
    · rw [show n / 10000 = 0 by omega, F.lb_zero, F.lxL, show n % 10000 = n by omega]
    · have hp : 0 < n / 10000 := by omega
      have i := ih (n / 10000) (by omega) hp
      have hc : F.lxL (((n % 10000 : Nat) : Int) :: F.lb (n / 10000)) = F.lxL (F.lb (n / 10000)) ++ F.pdT ((n % 10000 : Nat) : Int) := by
        rw [F.lb_pos (by omega : n / 10000 ≠ 0)]
        rfl
      rw [hc, i]
      refine F.bsx ?_
      have hd := F.dd_app hp (Nat.mod_lt n (by decide : 0 < 10000))
      rw [show n / 10000 * 10000 + n % 10000 = n by omega] at hd
      unfold F.pdT
      rw [F.bs_cat, F.bs_cat, F.bs_zrs, F.itoa_n, F.itoa_n, F.itoa_n, hd]
      unfold F.pad4
      rw [← F.bs_len, F.itoa_n]

theorem F.itoa_0 : F.itoa ((0 : Nat) : Int) = ⟨#[48]⟩ := F.bsx (by rw [F.itoa_n, F.dd_lt (by decide)]; rfl)

theorem F.dd_len4 {n : Nat} (h : n ≤ 9999) : (F.itoa (n : Int)).size ≤ 4 := by
  have e := F.pad_dd (b := n) (by omega)
  have := congrArg List.length e
  unfold F.pad4 at this
  rw [List.length_append, List.length_replicate] at this
  rw [← F.bs_len, F.itoa_n]
  simp only [List.length_cons, List.length_nil] at this
  omega

namespace M

def encRpt1 (c : Nat) : List AV := [vS ⟨#[48]⟩, vI c]

def encRpt (a : Nat) : List AV := encRpt1 a

theorem encRpt_inj (a a' : Nat) (h : encRpt a = encRpt a') : a = a' := by
  simp only [encRpt, encRpt1] at h
  try simp [ints_inj, strs_inj, ents_inj, eEnt_iff, eLst_iff] at h
  grind

theorem unRpt (c : Nat) : unenc encRpt ([(vS (ByteArray.mk (Array.mk [(48 : UInt8)]))), (vI (↑c : Int))]) = some (c) := unenc_of encRpt_inj (c) rfl

def resRpt1 (c : Nat) : AV × Heap := (vS (F.zrs c), [])

def preRpt1 (c : Nat) : Bool := decide (c ≤ 1000)

noncomputable def oRpt : Orc := orc 124 true encRpt (fun a => preRpt1 a) fun a => resRpt1 a

theorem okRpt : OrcOK Tryz.prog noG oRpt := by
  refine orc_ok ⟨Tryz.f124, by kernel_rfl, by kernel_rfl, by kernel_rfl⟩ (fun c hp _ => ?_) (fun _ _ => ⟨rfl, rfl⟩)
  have hp : c ≤ 1000 := of_decide_eq_true hp
  refine SpecP.below2 (fun w S => rv_mk (by show (F.zrs c).size ≤ 9223372036854775807; rw [F.zrs_size]; omega)) fun _ _ w S hG => ?_
  refine (Tryz.strings_Repeat ⟨#[48]⟩ c w (by omega) (by show 1 * c ≤ _; omega)).mono ?_
  rintro e w' ⟨he, hb⟩
  exact ⟨by rw [he, ← F.rep_zrs], hb⟩

def stDig (l : List Int) (t : ByteArray) (i : Int) : St := ⟨[(4, vI i), (3, vS t), (0, .sl (l.map eI))], []⟩

def stDig1 (a : (List Int) × ByteArray × Int) : St := stDig a.1 a.2.1 a.2.2

theorem stDig_inj (a a' : (List Int) × ByteArray × Int) (h : stDig1 a = stDig1 a') : a = a' := by
  simp only [stDig1, stDig] at h
  try simp [ints_inj, strs_inj, ents_inj, eEnt_iff, eLst_iff] at h
  grind

theorem unstDig (l : List Int) (t : ByteArray) (i : Int) : unenc stDig1 (St.mk [(4, (vI i)), (3, (vS t)), (0, AV.sl (List.map eI l))] []) = some (l, t, i) := unenc_of stDig_inj (l, t, i) rfl

def outDig (l : List Int) (t : ByteArray) (i : Int) : T (Ex × St) := .ret (.exit 0, ⟨[(3, vS (t ++ F.tlT l (i + 1).toNat))], []⟩)

noncomputable def prlDig (l : List Int) (t : ByteArray) (i : Int) : Bool := F.nk 200 l && decide (-1 ≤ i) && decide (i < l.length) && decide (t.size + 4 * (i + 1).toNat ≤ 10000)

noncomputable def lpDig : Nat × (St → T (Ex × St)) := (5, lpo [4, 3, 0] [] stDig1 (fun a => prlDig a.1 a.2.1 a.2.2) fun a => outDig a.1 a.2.1 a.2.2)

noncomputable def enDig : Env := envH ty noG lks [oIta, oRpt] [] [] [lpDig]

theorem enDig_ok : EnvOK Tryz.prog enDig := by
  refine envH_ok lks_ok ty_ok ?_ ?_
  · simp only [List.forall_mem_cons]
    exact ⟨okIta, okRpt, by simp⟩
  · simp

theorem evDigL (l : List Int) (t : ByteArray) (i : Int) : ((exec enDig (loopN Tryz.f108 0) (stDig l t i)).bind (lessX ([4, 3, 0], []) ([3], []) ([], []))).val =
  bif decide ((0 : Int) ≤ i) then Option.bind (idx i) fun (z : Nat) => Option.bind (unenc (List.map eI) (List.map eI l)) fun (z_1 : List Int) => bif decide (z < List.length
  z_1) then Option.bind (unenc encIta [(vI (List.getD z_1 z (0 : Int)))]) fun (z : Int) => bif decide ((-9223372036854775808 : Int) ≤ z) && decide (z ≤ (9223372036854775807
  : Int)) then Option.bind (unenc encRpt [(vS (ByteArray.mk (Array.mk [(48 : UInt8)]))), (vI (IntKind.wrap IntKind.i64 ((4 : Int) - (↑(ByteArray.size (F.itoa z)) : Int))))])
  fun (z_2 : Nat) => bif decide (z_2 ≤ (1000 : Nat)) then bif Nat.ble (ByteArray.size (F.zrs z_2) + ByteArray.size (F.itoa z)) (9223372036854775807 : Nat) then bif Nat.ble
  (ByteArray.size t + ByteArray.size (F.zrs z_2 ++ F.itoa z)) (9223372036854775807 : Nat) then some (Ex.normal, St.mk [(4, (vI (IntKind.wrap IntKind.i64 (i - (1 : Int))))),
  (3, (vS (t ++ (F.zrs z_2 ++ F.itoa z)))), (0, AV.sl (List.map eI l))] []) else none else none else none else none else none else some (Ex.exit (0 : Nat), St.mk [(3, (vS
  t))] []) := (execR_bind _ _ _).symm.trans (by kernel_rfl)

theorem lpDig_ok (l : List Int) (t : ByteArray) (i : Int) (hp : prlDig l t i = true) : ∀ ex s', (outDig l t i).val = some (ex, s') → LoopOK enDig (loopN Tryz.f108 0) (stDig l t i) ex s' := by
  simp only [prlDig, Bool.and_eq_true, decide_eq_true_eq] at hp
  obtain ⟨⟨⟨h1, h2⟩, h3⟩, h4⟩ := hp
  have l1 := F.nk_len h1
  have o1 := F.nk_ok h1
  clear h1
  obtain ⟨n, rfl⟩ : ∃ n : Nat, i = (n : Int) - 1 := ⟨(i + 1).toNat, by omega⟩
  have hn : ((n : Int) - 1 + 1).toNat = n := by omega
  rw [hn] at h4
  refine loop_gen (st := fun p : ByteArray × Nat => stDig l p.1 ((p.2 : Int) - 1)) (out := fun p => outDig l p.1 ((p.2 : Int) - 1)) (I := fun p => p.2 ≤ l.length ∧ p.1.size + 4 * p.2 ≤ 10000) (n := ([4, 3, 0], [])) (e := ([3], [])) (r := ([], [])) (fun p => p.2) ?_ (t, n) ⟨by omega, h4⟩
  clear h2 h3 h4 hn
  rintro ⟨t, n⟩ ⟨g1, g2⟩
  simp only at g1 g2
  have e : ((n : Int) - 1 + 1).toNat = n := by omega
  cases n with
  | zero =>
    left
    refine ⟨(.exit 0, ⟨[(3, vS t)], []⟩), ?_, ?_, by simp, rfl⟩
    · rw [evDigL]; simp
    · simp only [outDig, e, F.tlT, F.cat_nil]; rfl
  | succ j =>
    right
    have hlt : j < l.length := g1
    have hy : l[j]? = some l[j] := List.getElem?_eq_getElem hlt
    have hg : l.getD j 0 = l[j] := by simp [hy]
    have hx := o1 _ (List.getElem_mem hlt)
    generalize l[j] = x at hy hg hx
    obtain ⟨m, rfl⟩ : ∃ m : Nat, x = m := ⟨x.toNat, by omega⟩
    have hm4 := F.dd_len4 (n := m) (by omega)
    have hj : (((j + 1 : Nat) : Int) - 1) = (j : Int) := by omega
    have hw : IntKind.i64.wrap ((j : Int) - 1) = (j : Int) - 1 := wrap_id (by omega) (by omega)
    have hw4 : IntKind.i64.wrap (4 - ((F.itoa (m : Int)).size : Int)) = ((4 - (F.itoa (m : Int)).size : Nat) : Int) := by rw [wrap_id (by omega) (by omega)]; omega
    have hi : idx ((j : Nat) : Int) = some j := idx_n (by omega)
    have h0 : decide ((0 : Int) ≤ (j : Int)) = true := decide_eq_true (by omega)
    have p1 : decide (-9223372036854775808 ≤ (m : Int)) = true := decide_eq_true (by omega)
    have p2 : decide ((m : Int) ≤ 9223372036854775807) = true := decide_eq_true (by omega)
    have p3 : decide (4 - (F.itoa (m : Int)).size ≤ 1000) = true := decide_eq_true (by omega)
    have b1 : Nat.ble ((F.zrs (4 - (F.itoa (m : Int)).size)).size + (F.itoa (m : Int)).size) 9223372036854775807 = true := ble_t (by rw [F.zrs_size]; omega)
    have hps : (F.pdT (m : Int)).size = 4 := by unfold F.pdT; rw [ByteArray.size_append, F.zrs_size]; omega
    have b2 : Nat.ble (t.size + (F.zrs (4 - (F.itoa (m : Int)).size) ++ F.itoa (m : Int)).size) 9223372036854775807 = true := ble_t (by
      show t.size + (F.pdT (m : Int)).size ≤ _
      omega)
    rw [hj] at e ⊢
    refine ⟨(t ++ F.pdT (m : Int), j), ?_, rfl, ⟨by simp only; omega, by simp only [ByteArray.size_append, hps]; omega⟩, by simp only; omega, ?_⟩
    · rw [evDigL]
      simp only [unIta, unRpt, preIta1, preRpt1, unstDig, prlDig, outDig, etaEnt, etaLst, etaSnd, etaStrm, etaMas, Option.bind_some, List.length_map, unStrs, unInts, unBools, unEnts, unItms, unTrns, cond_true, cond_false, Bool.and_true, Bool.true_and, h0, hi, decide_eq_true hlt, getD_at hy, hw, hw4, p1, p2, p3, b1, b2, stDig]
      rfl
    · have e2 : ((j : Int) - 1 + 1).toNat = j := by omega
      simp only [outDig, e, e2, F.tlT, hg, F.cat_assoc]

theorem evDig (l : List Int) : (runF enDig false Tryz.f108 [.sl (l.map eI)]).val =
  bif (↑(List.length (List.map eI l)) : Int) == (0 : Int) then some ((vS (ByteArray.mk (Array.mk [(48 : UInt8)]))), []) else Option.bind (idx (IntKind.wrap IntKind.i64
  ((↑(List.length (List.map eI l)) : Int) - (1 : Int)))) fun (z : Nat) => Option.bind (unenc (List.map eI) (List.map eI l)) fun (z_1 : List Int) => bif decide (z <
  List.length z_1) then Option.bind (unenc encIta [(vI (List.getD z_1 z (0 : Int)))]) fun (z : Int) => bif decide ((-9223372036854775808 : Int) ≤ z) && decide (z ≤
  (9223372036854775807 : Int)) then Option.bind (unenc stDig1 (St.mk [(4, (vI (IntKind.wrap IntKind.i64 ((↑(List.length (List.map eI l)) : Int) - (2 : Int))))), (3, (vS
  (F.itoa z))), (0, AV.sl (List.map eI l))] [])) fun (z : List Int × ByteArray × Int) => bif F.nk (200 : Nat) z.fst && decide ((-1 : Int) ≤ z.snd.snd) && decide (z.snd.snd <
  (↑(List.length z.fst) : Int)) && decide (ByteArray.size z.snd.fst + (4 : Nat) * Int.toNat (z.snd.snd + (1 : Int)) ≤ (10000 : Nat)) && true then some ((vS (z.snd.fst ++
  F.tlT z.fst (Int.toNat (z.snd.snd + (1 : Int))))), []) else none else none else none := (runFR_val).symm.trans (by kernel_rfl)

def encDig1 (l : List Int) : List AV := [.sl (l.map eI)]

def encDig (a : (List Int)) : List AV := encDig1 a

theorem encDig_inj (a a' : (List Int)) (h : encDig a = encDig a') : a = a' := by
  simp only [encDig, encDig1] at h
  try simp [ints_inj, strs_inj, ents_inj, eEnt_iff, eLst_iff] at h
  grind

theorem unDig (l : List Int) : unenc encDig ([AV.sl (List.map eI l)]) = some (l) := unenc_of encDig_inj (l) rfl

def resDig1 (l : List Int) : AV × Heap := (vS (F.itoa (F.nv l : Nat)), [])

def preDig1 (l : List Int) : Bool := F.nk 200 l

noncomputable def oDig : Orc := orc 108 true encDig (fun a => preDig1 a) fun a => resDig1 a

theorem okDig : OrcOK Tryz.prog noG oDig := by
  refine mk_ok Tryz.f108 (keep := false) (by kernel_rfl) (by kernel_rfl) enDig_ok mixed (one_loop (x0 := loopN Tryz.f108 0) (by kernel_rfl) (lpo_ok ?_)) (by first | exact fun _ _ => ⟨rfl, rfl⟩ | (intro h; cases h)) ?_
  · rintro ⟨l, t, i⟩ hp
    exact lpDig_ok l t i hp
  rintro l hpre hok
  show (runF enDig false _ (encDig1 _)).val = some (resDig1 _)
  unfold encDig1 resDig1
  rw [evDig]
  have hpre : F.nk 200 l = true := hpre
  have l1 := F.nk_len hpre
  have o1 := F.nk_ok hpre
  have hln := len_nv hpre
  by_cases hz : F.nv l = 0
  · rw [decide_eq_true hz] at hln
    simp only [unIta, unRpt, preIta1, preRpt1, unstDig, prlDig, outDig, etaEnt, etaLst, etaSnd, etaStrm, etaMas, Option.bind_some, List.length_map, unStrs, unInts, unBools, unEnts, unItms, unTrns, cond_true, cond_false, Bool.and_true, Bool.true_and, hln, hz]
    rw [F.itoa_0]
  · rw [decide_eq_false hz] at hln
    have hne : l ≠ [] := by rintro rfl; exact hz rfl
    have hpos : 0 < l.length := List.length_pos_iff.2 hne
    have hw1 : IntKind.i64.wrap ((l.length : Int) - 1) = ((l.length - 1 : Nat) : Int) := by rw [wrap_id (by omega) (by omega)]; omega
    have hw2 : IntKind.i64.wrap ((l.length : Int) - 2) = (l.length : Int) - 2 := wrap_id (by omega) (by omega)
    have hi : idx ((l.length - 1 : Nat) : Int) = some (l.length - 1) := idx_n (by omega)
    have hlt : l.length - 1 < l.length := by omega
    have hg : l.getD (l.length - 1) 0 = l.getLast hne := by simp [List.getD, List.getElem?_eq_getElem hlt, List.getLast_eq_getElem]
    have hx := o1 _ (List.getLast_mem hne)
    have htx := F.lxL_eq l hne
    have hres : F.lxL l = F.itoa (F.nv l : Nat) := by
      obtain ⟨m, hm, _⟩ := F.nk_of hpre
      have := F.lxL_lb m (by rw [hm, F.nv_lb] at hz; omega)
      rw [hm, F.nv_lb]; exact this
    rw [hres] at htx
    generalize l.getLast hne = x at hg hx htx
    obtain ⟨m, rfl⟩ : ∃ m : Nat, x = m := ⟨x.toNat, by omega⟩
    have hm4 := F.dd_len4 (n := m) (by omega)
    have e : ((l.length : Int) - 2 + 1).toNat = l.length - 1 := by omega
    simp only [unIta, unRpt, preIta1, preRpt1, unstDig, prlDig, outDig, etaEnt, etaLst, etaSnd, etaStrm, etaMas, Option.bind_some, List.length_map, unStrs, unInts, unBools, unEnts, unItms, unTrns, cond_true, cond_false, Bool.and_true, Bool.true_and, hln, hw1, hw2, hi, decide_eq_true hlt, hg, hpre, e, htx, decide_eq_true (by omega : (-9223372036854775808 : Int) ≤ (m : Int)), decide_eq_true (by omega : (m : Int) ≤ 9223372036854775807), decide_eq_true (by omega : (-1 : Int) ≤ (l.length : Int) - 2), decide_eq_true (by omega : (l.length : Int) - 2 < (l.length : Int)), decide_eq_true (by omega : (F.itoa (m : Int)).size + 4 * (l.length - 1) ≤ 10000)]

end M

def F.rndUp (way : Int) (xn : Bool) (t b : Nat) : Bool :=
  bif way == 1 then xn && decide (0 < t % b) else bif way == 3 then !xn && decide (0 < t % b) else bif way == 2 then decide (b ≤ t % b + t % b) else false

def F.rndU (way : Int) (xn : Bool) (t b : Nat) : Nat := bif F.rndUp way xn t b then t / b + 1 else t / b

def F.sg (xn : Bool) (q : Nat) : Int := bif xn then -(q : Int) else q

theorem F.lb_gt (n : Nat) : decide ((0 : Int) < ((F.lb n).length : Int)) = decide (0 < n) := by
  have h := F.lb_emp n
  by_cases hz : n = 0
  · rw [decide_eq_false (by omega), decide_eq_false (by omega)]
  · rw [decide_eq_true (by omega), decide_eq_true (by omega)]

namespace M

theorem unLad_1 (a : List Int) : unenc encLad [.sl (a.map eI), .sl [[vI 1]]] = some (a, [1]) := unLad a [1]

noncomputable def enRnd1 : Env := envH ty noG lks [oDv, oLad, oCpr] [] [] []

theorem enRnd1_ok : EnvOK Tryz.prog enRnd1 := by
  refine envH_ok lks_ok ty_ok ?_ ?_
  · simp only [List.forall_mem_cons]
    exact ⟨okDv, okLad, okCpr, by simp⟩
  · simp

theorem evRou (xn : Bool) (xt : List Int) (xb : List Int) (way : Int) : (runF enRnd1 false Tryz.f106 [.agg [vB xn, .sl (xt.map eI), .sl (xb.map eI)], vI way]).val =
  Option.bind (unenc encDv [AV.sl (List.map eI xt), AV.sl (List.map eI xb)]) fun (z : List Int × List Int) => bif F.nk (200 : Nat) z.fst && F.nk (200 : Nat) z.snd && decide
  ((0 : Nat) < F.nv z.snd) then bif way == (1 : Int) then bif bif xn then decide ((0 : Int) < (↑(List.length (List.map eI (F.lb (Nat.mod (F.nv z.fst) (F.nv z.snd))))) :
  Int)) else false then Option.bind (unenc encLad [AV.sl (List.map eI (F.lb (Nat.div (F.nv z.fst) (F.nv z.snd)))), AV.sl [[(vI (1 : Int))]]]) fun (z : List Int × List Int)
  => bif F.nk (1000 : Nat) z.fst && F.nk (1000 : Nat) z.snd then some (AV.sl (List.map eI (F.lb (F.nv z.fst + F.nv z.snd))), []) else none else some (AV.sl (List.map eI
  (F.lb (Nat.div (F.nv z.fst) (F.nv z.snd)))), []) else bif way == (3 : Int) then bif bif !xn then decide ((0 : Int) < (↑(List.length (List.map eI (F.lb (Nat.mod (F.nv
  z.fst) (F.nv z.snd))))) : Int)) else false then Option.bind (unenc encLad [AV.sl (List.map eI (F.lb (Nat.div (F.nv z.fst) (F.nv z.snd)))), AV.sl [[(vI (1 : Int))]]]) fun
  (z : List Int × List Int) => bif F.nk (1000 : Nat) z.fst && F.nk (1000 : Nat) z.snd then some (AV.sl (List.map eI (F.lb (F.nv z.fst + F.nv z.snd))), []) else none else
  some (AV.sl (List.map eI (F.lb (Nat.div (F.nv z.fst) (F.nv z.snd)))), []) else bif way == (2 : Int) then Option.bind (unenc encLad [AV.sl (List.map eI (F.lb (Nat.mod (F.nv
  z.fst) (F.nv z.snd)))), AV.sl (List.map eI (F.lb (Nat.mod (F.nv z.fst) (F.nv z.snd))))]) fun (z_1 : List Int × List Int) => bif F.nk (1000 : Nat) z_1.fst && F.nk (1000 :
  Nat) z_1.snd then Option.bind (unenc encCpr [AV.sl (List.map eI (F.lb (F.nv z_1.fst + F.nv z_1.snd))), AV.sl (List.map eI xb)]) fun (z_2 : List Int × List Int) => bif F.nk
  (1000 : Nat) z_2.fst && F.nk (1000 : Nat) z_2.snd then bif decide ((0 : Int) ≤ F.sgn (↑(F.nv z_2.fst) : Int) (↑(F.nv z_2.snd) : Int)) then Option.bind (unenc encLad [AV.sl
  (List.map eI (F.lb (Nat.div (F.nv z.fst) (F.nv z.snd)))), AV.sl [[(vI (1 : Int))]]]) fun (z : List Int × List Int) => bif F.nk (1000 : Nat) z.fst && F.nk (1000 : Nat)
  z.snd then some (AV.sl (List.map eI (F.lb (F.nv z.fst + F.nv z.snd))), []) else none else some (AV.sl (List.map eI (F.lb (Nat.div (F.nv z.fst) (F.nv z.snd)))), []) else
  none else none else some (AV.sl (List.map eI (F.lb (Nat.div (F.nv z.fst) (F.nv z.snd)))), []) else none := (runFR_val).symm.trans (by kernel_rfl)

def encRou1 (xn : Bool) (xt : List Int) (xb : List Int) (way : Int) : List AV := [.agg [vB xn, .sl (xt.map eI), .sl (xb.map eI)], vI way]

def encRou (a : Bool × (List Int) × (List Int) × Int) : List AV := encRou1 a.1 a.2.1 a.2.2.1 a.2.2.2

theorem encRou_inj (a a' : Bool × (List Int) × (List Int) × Int) (h : encRou a = encRou a') : a = a' := by
  simp only [encRou, encRou1] at h
  try simp [ints_inj, strs_inj, ents_inj, eEnt_iff, eLst_iff] at h
  grind

theorem unRou (xn : Bool) (xt : List Int) (xb : List Int) (way : Int) : unenc encRou ([AV.agg [(vB xn), AV.sl (List.map eI xt), AV.sl (List.map eI xb)], (vI way)]) = some (xn, xt, xb, way) := unenc_of encRou_inj (xn, xt, xb, way) rfl

def resRou1 (xn : Bool) (xt : List Int) (xb : List Int) (way : Int) : AV × Heap := (.sl ((F.lb (F.rndU way xn (F.nv xt) (F.nv xb))).map eI), [])

def preRou1 (xn : Bool) (xt : List Int) (xb : List Int) (way : Int) : Bool := F.nk 200 xt && F.nk 200 xb && decide (0 < F.nv xb)

noncomputable def oRou : Orc := orc 106 false encRou (fun a => preRou1 a.1 a.2.1 a.2.2.1 a.2.2.2) fun a => resRou1 a.1 a.2.1 a.2.2.1 a.2.2.2

theorem okRou : OrcOK Tryz.prog noG oRou := by
  refine mk_ok Tryz.f106 (keep := false) (by kernel_rfl) (by kernel_rfl) enRnd1_ok mixed (no_loops (by kernel_rfl)) (by first | exact fun _ _ => ⟨rfl, rfl⟩ | (intro h; cases h)) ?_
  rintro ⟨xn, xt, xb, way⟩ hpre hok
  show (runF enRnd1 false _ (encRou1 _ _ _ _)).val = some (resRou1 _ _ _ _)
  unfold encRou1 resRou1
  rw [evRou]
  have hpre : (F.nk 200 xt && F.nk 200 xb && decide (0 < F.nv xb)) = true := hpre
  simp only [Bool.and_eq_true, decide_eq_true_eq] at hpre
  obtain ⟨⟨p1, p2⟩, p3⟩ := hpre
  have hm : F.nv xt % F.nv xb < 10000 ^ 200 := Nat.lt_trans (Nat.mod_lt _ p3) (nk_lt p2)
  have hq : F.nv xt / F.nv xb < 10000 ^ 200 := Nat.lt_of_le_of_lt (Nat.div_le_self _ _) (nk_lt p1)
  have hdv : ∀ u v : Nat, Nat.div u v = u / v := fun _ _ => rfl
  have hmo : ∀ u v : Nat, Nat.mod u v = u % v := fun _ _ => rfl
  have k1 := nk_le (k := 1000) hm (by decide)
  have k2 := nk_le (k := 1000) hq (by decide)
  have k3 : F.nk 1000 (F.lb (F.nv xt % F.nv xb + F.nv xt % F.nv xb)) = true := nk_le (F.add_lt hm hm) (by decide)
  have k4 := nk_up p2 (by decide : 200 ≤ 1000)
  simp only [unDv, unLad, unCpr, preDv1, preLad1, preCpr1, etaEnt, etaLst, etaSnd, etaStrm, etaMas, Option.bind_some, List.length_map, unStrs, unInts, unBools, unEnts, unItms, unTrns, cond_true, cond_false, Bool.and_true, Bool.true_and, p1, p2, decide_eq_true p3, hdv, hmo, F.lb_gt, k1, k2, k3, k4, F.nv_lb, F.sgn_ge, unLad_1, nk_one (by decide : 1 ≤ 1000), nv_one]
  unfold F.rndU F.rndUp
  cases way == 1 <;> cases way == 3 <;> cases way == 2 <;> cases xn <;> (first | rfl | (cases decide (0 < F.nv xt % F.nv xb) <;> rfl) | (cases decide (F.nv xb ≤ F.nv xt % F.nv xb + F.nv xt % F.nv xb) <;> rfl))

def _root_.Go.Proofs.YtajmdlpanlbnjaaGreatDoor.F.whole (way : Int) (xn : Bool) (t b : Nat) : Int := bif decide ((4611686018427387904 : Int) < F.rndU way xn t b) then (bif xn then -4611686018427387904 else 4611686018427387904) else F.sg xn (F.rndU way xn t b)

theorem unLow_1 (ng : Bool) (t : List Int) : unenc encLow [vB ng, .sl (t.map eI), .sl [[vI 1]]] = some (ng, t, [1]) := unLow ng t [1]

noncomputable def enInt : Env := envH ty noG lks [oFmt, oLim, oLow] [] [] []

theorem enInt_ok : EnvOK Tryz.prog enInt := by
  refine envH_ok lks_ok ty_ok ?_ ?_
  · simp only [List.forall_mem_cons]
    exact ⟨okFmt, okLim, okLow, by simp⟩
  · simp

theorem evInt (n : Int) : (runF enInt false Tryz.f123 [vI n]).val =
  bif decide (n < (0 : Int)) then Option.bind (unenc encFmt [AV.v (Value.int IntKind.u64 (IntKind.wrap IntKind.u64 ((0 : Int) - IntKind.wrap IntKind.u64 n))), (vI (10 :
  Int))]) fun (z : Nat) => bif decide (z ≤ (18446744073709551615 : Nat)) then Option.bind (unenc encLim [(vS (F.itoa (↑z : Int)))]) fun (z : ByteArray) => bif List.all (F.bs
  z) F.dgB && decide (ByteArray.size z ≤ (1000 : Nat)) then Option.bind (unenc encLow [(vB (decide (n < (0 : Int)))), AV.sl (List.map eI (F.lb (F.dv z))), AV.sl [[(vI (1 :
  Int))]]]) fun (z : Bool × List Int × List Int) => bif F.nk (200 : Nat) z.snd.fst && F.nk (200 : Nat) z.snd.snd && decide ((0 : Nat) < F.nv z.snd.snd) then some (AV.agg
  [(vB (z.fst && decide ((0 : Nat) < F.nv z.snd.fst))), AV.sl (List.map eI (F.lb (Nat.div (F.nv z.snd.fst) (Nat.gcd (F.nv z.snd.snd) (F.nv z.snd.fst))))), AV.sl (List.map eI
  (F.lb (Nat.div (F.nv z.snd.snd) (Nat.gcd (F.nv z.snd.snd) (F.nv z.snd.fst)))))], []) else none else none else none else Option.bind (unenc encFmt [AV.v (Value.int
  IntKind.u64 (IntKind.wrap IntKind.u64 n)), (vI (10 : Int))]) fun (z : Nat) => bif decide (z ≤ (18446744073709551615 : Nat)) then Option.bind (unenc encLim [(vS (F.itoa (↑z
  : Int)))]) fun (z : ByteArray) => bif List.all (F.bs z) F.dgB && decide (ByteArray.size z ≤ (1000 : Nat)) then Option.bind (unenc encLow [(vB (decide (n < (0 : Int)))),
  AV.sl (List.map eI (F.lb (F.dv z))), AV.sl [[(vI (1 : Int))]]]) fun (z : Bool × List Int × List Int) => bif F.nk (200 : Nat) z.snd.fst && F.nk (200 : Nat) z.snd.snd &&
  decide ((0 : Nat) < F.nv z.snd.snd) then some (AV.agg [(vB (z.fst && decide ((0 : Nat) < F.nv z.snd.fst))), AV.sl (List.map eI (F.lb (Nat.div (F.nv z.snd.fst) (Nat.gcd
  (F.nv z.snd.snd) (F.nv z.snd.fst))))), AV.sl (List.map eI (F.lb (Nat.div (F.nv z.snd.snd) (Nat.gcd (F.nv z.snd.snd) (F.nv z.snd.fst)))))], []) else none else none else
  none := (runFR_val).symm.trans (by kernel_rfl)

def encInt1 (n : Int) : List AV := [vI n]

def encInt (a : Int) : List AV := encInt1 a

theorem encInt_inj (a a' : Int) (h : encInt a = encInt a') : a = a' := by
  simp only [encInt, encInt1] at h
  try simp [ints_inj, strs_inj, ents_inj, eEnt_iff, eLst_iff] at h
  grind

theorem unInt (n : Int) : unenc encInt ([(vI n)]) = some (n) := unenc_of encInt_inj (n) rfl

def resInt1 (n : Int) : AV × Heap := (.agg [vB (decide (n < 0)), .sl ((F.lb n.natAbs).map eI), .sl ((F.lb 1).map eI)], [])

def preInt1 (n : Int) : Bool := decide (-9223372036854775808 ≤ n) && decide (n ≤ 9223372036854775807)

noncomputable def oInt : Orc := orc 123 false encInt (fun a => preInt1 a) fun a => resInt1 a

theorem okInt : OrcOK Tryz.prog noG oInt := by
  refine mk_ok Tryz.f123 (keep := false) (by kernel_rfl) (by kernel_rfl) enInt_ok mixed (no_loops (by kernel_rfl)) (by first | exact fun _ _ => ⟨rfl, rfl⟩ | (intro h; cases h)) ?_
  rintro n hpre hok
  show (runF enInt false _ (encInt1 _)).val = some (resInt1 _)
  unfold encInt1 resInt1
  rw [evInt]
  have hpre : (decide (-9223372036854775808 ≤ n) && decide (n ≤ 9223372036854775807)) = true := hpre
  rw [Bool.and_eq_true, decide_eq_true_eq, decide_eq_true_eq] at hpre
  have hu : n.natAbs ≤ 9223372036854775808 := by omega
  have hlt : n.natAbs < 10000 ^ 5 := Nat.lt_of_le_of_lt hu (by decide)
  have k1 : F.nk 200 (F.lb n.natAbs) = true := nk_le hlt (by decide)
  have hsz : decide ((F.itoa ((n.natAbs : Nat) : Int)).size ≤ 1000) = true := decide_eq_true (by
    rw [← F.bs_len, F.itoa_n, Lib.decDigits_length]
    by_cases h : n.natAbs < 10
    · rw [Lib.nDigits_small h]; omega
    · have := Lib.numDigits_eq n.natAbs (by omega) (by omega)
      split at this <;> omega)
  have hdv : ∀ u v : Nat, Nat.div u v = u / v := fun _ _ => rfl
  have hp : decide (0 < F.nv [1]) = true := rfl
  have hw : n < 0 → IntKind.u64.wrap (0 - IntKind.u64.wrap n) = ((n.natAbs : Nat) : Int) := fun h => by rw [IntKind.wrap_u64, IntKind.wrap_u64]; omega
  have hw2 : ¬ n < 0 → IntKind.u64.wrap n = ((n.natAbs : Nat) : Int) := fun h => by rw [IntKind.wrap_u64]; omega
  by_cases hn : n < 0
  · have hn0 : decide (0 < n.natAbs) = true := decide_eq_true (by omega)
    simp only [unFmt, unLim, unLow, preFmt1, preLim1, preLow1, etaEnt, etaLst, etaSnd, etaStrm, etaMas, Option.bind_some, List.length_map, unStrs, unInts, unBools, unEnts, unItms, unTrns, cond_true, cond_false, Bool.and_true, Bool.true_and, decide_eq_true hn, hw hn, decide_eq_true (by omega : n.natAbs ≤ 18446744073709551615), F.all_itoa, hsz, F.dv_itoa, unLow_1, k1, nk_one (by decide : 1 ≤ 200), hp, F.nv_lb, nv_one, hdv, Nat.gcd_one_left, Nat.div_one, hn0]
    rfl
  · simp only [unFmt, unLim, unLow, preFmt1, preLim1, preLow1, etaEnt, etaLst, etaSnd, etaStrm, etaMas, Option.bind_some, List.length_map, unStrs, unInts, unBools, unEnts, unItms, unTrns, cond_true, cond_false, Bool.and_true, Bool.true_and, decide_eq_false hn, hw2 hn, decide_eq_true (by omega : n.natAbs ≤ 18446744073709551615), F.all_itoa, hsz, F.dv_itoa, unLow_1, k1, nk_one (by decide : 1 ≤ 200), hp, F.nv_lb, nv_one, hdv, Nat.gcd_one_left, Nat.div_one, Bool.false_and]
    rfl

end M

namespace M

theorem nk_abs {n : Int} (h1 : -9223372036854775808 ≤ n) (h2 : n ≤ 9223372036854775807) {k : Nat} (hk : 5 ≤ k) : F.nk k (F.lb n.natAbs) = true :=
  nk_le (Nat.lt_of_le_of_lt (by omega : n.natAbs ≤ 9223372036854775808) (by decide : 9223372036854775808 < 10000 ^ 5)) hk

theorem nk_lb1 {k : Nat} (h : 1 ≤ k) : F.nk k (F.lb 1) = true := F.nk_lb (F.lb_lt (m := 1) (by decide) h)

noncomputable def enTur : Env := envH ty noG lks [oInt, oTms, oOvr] [] [] []

theorem enTur_ok : EnvOK Tryz.prog enTur := by
  refine envH_ok lks_ok ty_ok ?_ ?_
  · simp only [List.forall_mem_cons]
    exact ⟨okInt, okTms, okOvr, by simp⟩
  · simp

theorem evTur (n : Int) (fr : Int) (tq : Int) : (runF enTur false Tryz.f107 [vI n, vI fr, vI tq]).val =
  Option.bind (unenc encInt [(vI n)]) fun (z : Int) => bif decide ((-9223372036854775808 : Int) ≤ z) && decide (z ≤ (9223372036854775807 : Int)) then Option.bind (unenc
  encInt [(vI tq)]) fun (z_1 : Int) => bif decide ((-9223372036854775808 : Int) ≤ z_1) && decide (z_1 ≤ (9223372036854775807 : Int)) then Option.bind (unenc encTms [AV.agg
  [(vB (decide (z < (0 : Int)))), AV.sl (List.map eI (F.lb (Int.natAbs z))), AV.sl (List.map eI (F.lb (1 : Nat)))], AV.agg [(vB (decide (z_1 < (0 : Int)))), AV.sl (List.map
  eI (F.lb (Int.natAbs z_1))), AV.sl (List.map eI (F.lb (1 : Nat)))]]) fun (z : Bool × List Int × List Int × Bool × List Int × List Int) => bif F.nk (90 : Nat) z.snd.fst &&
  F.nk (90 : Nat) z.snd.snd.fst && F.nk (90 : Nat) z.snd.snd.snd.snd.fst && F.nk (90 : Nat) z.snd.snd.snd.snd.snd && decide ((0 : Nat) < F.nv z.snd.snd.fst) && decide ((0 :
  Nat) < F.nv z.snd.snd.snd.snd.snd) then Option.bind (unenc encInt [(vI fr)]) fun (z_2 : Int) => bif decide ((-9223372036854775808 : Int) ≤ z_2) && decide (z_2 ≤
  (9223372036854775807 : Int)) then Option.bind (unenc encOvr [AV.agg [(vB (z.fst != z.snd.snd.snd.fst && decide ((0 : Nat) < F.nv z.snd.fst * F.nv z.snd.snd.snd.snd.fst))),
  AV.sl (List.map eI (F.lowT (F.nv z.snd.fst * F.nv z.snd.snd.snd.snd.fst) (F.nv z.snd.snd.fst * F.nv z.snd.snd.snd.snd.snd))), AV.sl (List.map eI (F.lowB (F.nv z.snd.fst *
  F.nv z.snd.snd.snd.snd.fst) (F.nv z.snd.snd.fst * F.nv z.snd.snd.snd.snd.snd)))], AV.agg [(vB (decide (z_2 < (0 : Int)))), AV.sl (List.map eI (F.lb (Int.natAbs z_2))),
  AV.sl (List.map eI (F.lb (1 : Nat)))]]) fun (z : Bool × List Int × List Int × Bool × List Int × List Int) => bif F.nk (90 : Nat) z.snd.fst && F.nk (90 : Nat) z.snd.snd.fst
  && F.nk (90 : Nat) z.snd.snd.snd.snd.fst && F.nk (90 : Nat) z.snd.snd.snd.snd.snd && decide ((0 : Nat) < F.nv z.snd.snd.fst) && decide ((0 : Nat) < F.nv
  z.snd.snd.snd.snd.fst) then some (AV.agg [(vB (z.fst != z.snd.snd.snd.fst && decide ((0 : Nat) < F.nv z.snd.fst * F.nv z.snd.snd.snd.snd.snd))), AV.sl (List.map eI (F.lowT
  (F.nv z.snd.fst * F.nv z.snd.snd.snd.snd.snd) (F.nv z.snd.snd.fst * F.nv z.snd.snd.snd.snd.fst))), AV.sl (List.map eI (F.lowB (F.nv z.snd.fst * F.nv z.snd.snd.snd.snd.snd)
  (F.nv z.snd.snd.fst * F.nv z.snd.snd.snd.snd.fst)))], []) else none else none else none else none else none := (runFR_val).symm.trans (by kernel_rfl)

def encTur1 (n : Int) (fr : Int) (tq : Int) : List AV := [vI n, vI fr, vI tq]

def encTur (a : Int × Int × Int) : List AV := encTur1 a.1 a.2.1 a.2.2

theorem encTur_inj (a a' : Int × Int × Int) (h : encTur a = encTur a') : a = a' := by
  simp only [encTur, encTur1] at h
  try simp [ints_inj, strs_inj, ents_inj, eEnt_iff, eLst_iff] at h
  grind

theorem unTur (n : Int) (fr : Int) (tq : Int) : unenc encTur ([(vI n), (vI fr), (vI tq)]) = some (n, fr, tq) := unenc_of encTur_inj (n, fr, tq) rfl

def resTur1 (n : Int) (fr : Int) (tq : Int) : AV × Heap := (.agg [vB (decide (n < 0) && decide (0 < n.natAbs * tq.natAbs)), .sl ((F.lowT (n.natAbs * tq.natAbs) fr.natAbs).map eI), .sl ((F.lowB (n.natAbs * tq.natAbs) fr.natAbs).map eI)], [])

def preTur1 (n : Int) (fr : Int) (tq : Int) : Bool := decide (-9223372036854775808 ≤ n) && decide (n ≤ 9223372036854775807) && decide (1 ≤ fr) && decide (fr ≤ 9223372036854775807) && decide (1 ≤ tq) && decide (tq ≤ 9223372036854775807)

noncomputable def oTur : Orc := orc 107 false encTur (fun a => preTur1 a.1 a.2.1 a.2.2) fun a => resTur1 a.1 a.2.1 a.2.2

theorem okTur : OrcOK Tryz.prog noG oTur := by
  refine mk_ok Tryz.f107 (keep := false) (by kernel_rfl) (by kernel_rfl) enTur_ok mixed (no_loops (by kernel_rfl)) (by first | exact fun _ _ => ⟨rfl, rfl⟩ | (intro h; cases h)) ?_
  rintro ⟨n, fr, tq⟩ hpre hok
  show (runF enTur false _ (encTur1 _ _ _)).val = some (resTur1 _ _ _)
  unfold encTur1 resTur1
  rw [evTur]
  have hpre : (decide (-9223372036854775808 ≤ n) && decide (n ≤ 9223372036854775807) && decide (1 ≤ fr) && decide (fr ≤ 9223372036854775807) && decide (1 ≤ tq) && decide (tq ≤ 9223372036854775807)) = true := hpre
  simp only [Bool.and_eq_true, decide_eq_true_eq] at hpre
  obtain ⟨⟨⟨⟨⟨p1, p2⟩, p3⟩, p4⟩, p5⟩, p6⟩ := hpre
  have k1 := nk_abs p1 p2 (by decide : 5 ≤ 90)
  have k2 := nk_abs (by omega : -9223372036854775808 ≤ fr) p4 (by decide : 5 ≤ 90)
  have k3 := nk_abs (by omega : -9223372036854775808 ≤ tq) p6 (by decide : 5 ≤ 90)
  have k4 := nk_lb1 (by decide : 1 ≤ 90)
  have hm : n.natAbs * tq.natAbs < 10000 ^ (5 + 5) := F.mul_lt (Nat.lt_of_le_of_lt (by omega : n.natAbs ≤ 9223372036854775808) (by decide)) (Nat.lt_of_le_of_lt (by omega : tq.natAbs ≤ 9223372036854775808) (by decide))
  have k5 := nk_le (k := 90) hm (by decide)
  have e1 : F.lowT (n.natAbs * tq.natAbs) 1 = F.lb (n.natAbs * tq.natAbs) := by unfold F.lowT; rw [Nat.gcd_one_left, Nat.div_one]
  have e2 : F.lowB (n.natAbs * tq.natAbs) 1 = F.lb 1 := by unfold F.lowB; rw [Nat.gcd_one_left, Nat.div_one]
  have d1 : decide (tq < 0) = false := decide_eq_false (by omega)
  have d2 : decide (fr < 0) = false := decide_eq_false (by omega)
  have d3 : decide (0 < fr.natAbs) = true := decide_eq_true (by omega)
  have d4 : decide (0 < 1) = true := rfl
  simp only [unInt, unTms, unOvr, preInt1, preTms1, preOvr1, etaEnt, etaLst, etaSnd, etaStrm, etaMas, Option.bind_some, List.length_map, unStrs, unInts, unBools, unEnts, unItms, unTrns, cond_true, cond_false, Bool.and_true, Bool.true_and, decide_eq_true p1, decide_eq_true p2, decide_eq_true p4, decide_eq_true p6, decide_eq_true (by omega : -9223372036854775808 ≤ fr), decide_eq_true (by omega : -9223372036854775808 ≤ tq), k1, k2, k3, k4, k5, F.nv_lb, Nat.mul_one, Nat.one_mul, e1, e2, d1, d2, d3, d4]
  have hb2 : ∀ x y : Bool, (((x != false) && y) != false && y) = (x && y) := by decide
  rw [hb2]

end M

theorem size_walk (n : Int) (h0 : -9223372036854775808 ≤ n) (h1 : n ≤ 9223372036854775807) (w : World) :
    Calls Tryz.prog 98 #[.int .i64 n] w fun e w' => e = .returned (.int .u64 (n.natAbs : Int)) ∧ w' = w := by
  have e1 : n < 0 → IntKind.u64.wrap (-IntKind.u64.wrap n) = (n.natAbs : Int) := fun h => by rw [IntKind.wrap_u64, IntKind.wrap_u64]; omega
  have e2 : ¬ n < 0 → IntKind.u64.wrap n = (n.natAbs : Int) := fun h => by rw [IntKind.wrap_u64]; omega
  go_enter Tryz.func98, Tryz.ntmps98
  by_cases h : n < 0
  · go_wp2
    go_ret
    exact ⟨by simp [e1 h], rfl⟩
  · go_wp2
    go_ret
    exact ⟨by simp [e2 h], rfl⟩

def F.i64B (a : Int) : Bool := decide (-9223372036854775808 ≤ a) && decide (a ≤ 9223372036854775807)

namespace M

theorem below_ret {P : Program} {f : FuncId} {cargs : Array Value} {w : World} {S : Nat → Prop} {rv : Value} {r : AV} (hlt : ∀ b, S b → b < w.heap.size) (hr : ∀ w S, RV w S noKeys r rv)
    (h : Calls P f cargs w fun e w' => e = .returned rv ∧ Below w.heap.size w w') :
    Calls P f cargs w fun e w' => ∃ v S' β', e = .returned v ∧ Below w.heap.size w w' ∧ (∀ b, S b → S' b) ∧ (∀ b, S' b → S b ∨ w.heap.size ≤ b) ∧
      (∀ b, S' b → b < w'.heap.size) ∧ (∀ k k' x x', β' k = some x → β' k' = some x' → x.real = true → x'.real = true → x.b = x'.b → k = k') ∧
      (∀ k x, β' k = some x → x.real = true → w.heap.size ≤ x.b ∧ x.b < w'.heap.size ∧ ¬ S' x.b) ∧
      (∀ k x, β' k = some x → ∃ bl, mget ([] : Heap) k = some bl ∧ bl.box = false ∧ (x.real = true → BlkOK w' S' noKeys bl x) ∧ (x.real = false → bl.rows = [])) ∧
      (∀ k bl, mget ([] : Heap) k = some bl → ∃ x, β' k = some x) ∧ RV w' S' β' r v := by
  refine h.mono ?_
  rintro e w' ⟨rfl, hb⟩
  exact ⟨rv, S, noKeys, rfl, hb, fun _ h => h, fun _ h => .inl h, fun b h => Nat.lt_of_lt_of_le (hlt b h) hb.size, (fun _ _ _ _ h => by cases h), (fun _ _ h => by cases h), (fun _ _ h => by cases h), (fun _ _ h => by cases h), hr _ _⟩

end M

set_option maxHeartbeats 4000000 in
set_option maxRecDepth 100000 in
theorem div0_walk (l d : Nat) (hd : 0 < d) (hl : l < 18446744073709551616) (w : World) :
    Calls Tryz.prog 99 #[.int .u64 0, .int .u64 (l : Int), .int .u64 (d : Int)] w fun e w' => e = .returned (.tuple #[.int .u64 ((l / d : Nat) : Int), .int .u64 ((l % d : Nat) : Int)]) ∧ Below w.heap.size w w' := by
  have h1 : ¬ (d : Int) = 0 := by omega
  have h2 : ¬ (d : Int) ≤ 0 := by omega
  have h3 : (0 : Int) < (d : Int) := by omega
  go_enter Tryz.func99, Tryz.ntmps99
  go_wp2
  go_region
  all_goals (go_wp2; go_ret2; refine ⟨?_, Below.drew (Below.refl _ _)⟩)
  all_goals
    have e1 : IntKind.u64.wrap ((l : Int) / (d : Int)) = ((l / d : Nat) : Int) := by
      have := Nat.div_le_self l d
      rw [IntKind.wrap_u64, ← Int.natCast_ediv]
      generalize l / d = q at *
      omega
    show Ending.returned (Value.tuple #[.int .u64 (IntKind.u64.wrap ((l : Int) / (d : Int))), .int .u64 ((l : Int) % (d : Int))]) = _
    rw [e1]
    rfl

namespace F

def mhi (x y : Nat) : Nat := x * y / 18446744073709551616

def mlo (x y : Nat) : Nat := x * y % 18446744073709551616

def dqm (l d : Nat) : Nat := l / d

def drm (l d : Nat) : Nat := l % d

def rnd (way : Int) (neg : Bool) (r d : Int) : Bool := bif way == 1 then neg && decide (0 < r) else bif way == 3 then !neg && decide (0 < r) else decide (d - r ≤ r)

def sclQ (n m d : Int) : Nat := n.natAbs * m.natAbs / d.natAbs

def sclR (n m d : Int) : Nat := n.natAbs * m.natAbs % d.natAbs

def sclP (n m d way : Int) : Int := bif rnd way (decide (n < 0)) (sclR n m d) d then (sclQ n m d : Int) + 1 else (sclQ n m d : Int)

def sclS (n m d way : Int) : Int := bif decide (1152921504606846976 < sclP n m d way) then 1152921504606846976 else sclP n m d way

def scl (n m d way : Int) : Int := bif decide (n < 0) then -(sclS n m d way) else sclS n m d way

end F

namespace M

theorem evRnd (way : Int) (neg : Bool) (r : Int) (d : Int) : (runF en0 false Tryz.f100 [vI way, vB neg, .v (.int .u64 r), .v (.int .u64 d)]).val =
  bif way == (1 : Int) then some ((vB (bif neg then decide ((0 : Int) < r) else false)), []) else bif way == (3 : Int) then some ((vB (bif !neg then decide ((0 : Int) < r)
  else false)), []) else some ((vB (decide (IntKind.wrap IntKind.u64 (d - r) ≤ r))), []) := (runFR_val).symm.trans (by kernel_rfl)

def encRnd1 (way : Int) (neg : Bool) (r : Int) (d : Int) : List AV := [vI way, vB neg, .v (.int .u64 r), .v (.int .u64 d)]

def encRnd (a : Int × Bool × Int × Int) : List AV := encRnd1 a.1 a.2.1 a.2.2.1 a.2.2.2

theorem encRnd_inj (a a' : Int × Bool × Int × Int) (h : encRnd a = encRnd a') : a = a' := by
  simp only [encRnd, encRnd1] at h
  try simp  at h
  grind

theorem unRnd (way : Int) (neg : Bool) (r : Int) (d : Int) : unenc encRnd ([(vI way), (vB neg), AV.v (Value.int IntKind.u64 r), AV.v (Value.int IntKind.u64 d)]) = some (way, neg, r, d) := unenc_of encRnd_inj (way, neg, r, d) rfl

def resRnd1 (way : Int) (neg : Bool) (r : Int) (d : Int) : AV × Heap := (vB (F.rnd way neg r d), [])

def preRnd1 (way : Int) (neg : Bool) (r : Int) (d : Int) : Bool := decide (0 ≤ r) && decide (r ≤ d) && decide (d ≤ 18446744073709551615)

noncomputable def oRnd : Orc := orc 100 true encRnd (fun a => preRnd1 a.1 a.2.1 a.2.2.1 a.2.2.2) fun a => resRnd1 a.1 a.2.1 a.2.2.1 a.2.2.2

theorem okRnd : OrcOK Tryz.prog noG oRnd := by
  refine mk_ok Tryz.f100 (keep := false) (by kernel_rfl) (by kernel_rfl) en0_ok mixed (no_loops (by kernel_rfl)) (by first | exact fun _ _ => ⟨rfl, rfl⟩ | (intro h; cases h)) ?_
  rintro ⟨way, neg, r, d⟩ hpre hok
  show (runF en0 false _ (encRnd1 _ _ _ _)).val = some (resRnd1 _ _ _ _)
  unfold encRnd1 resRnd1
  rw [evRnd]
  simp only [preRnd1, Bool.and_eq_true, decide_eq_true_eq] at hpre
  obtain ⟨⟨h1, h2⟩, h3⟩ := hpre
  have w1 : IntKind.u64.wrap (d - r) = d - r := by rw [IntKind.wrap_u64]; omega
  simp only [etaEnt, etaLst, etaSnd, etaStrm, etaMas, Option.bind_some, List.length_map, unStrs, unInts, unBools, unEnts, unItms, unTrns, cond_true, cond_false, Bool.and_true, Bool.true_and, w1, F.rnd]
  cases way == 1
  · cases way == 3
    · rfl
    · cases neg <;> rfl
  · cases neg <;> rfl

def encSiz1 (n : Int) : List AV := [vI n]

def encSiz (a : Int) : List AV := encSiz1 a

theorem encSiz_inj (a a' : Int) (h : encSiz a = encSiz a') : a = a' := by
  simp only [encSiz, encSiz1] at h
  try simp  at h
  grind

theorem unSiz (n : Int) : unenc encSiz ([(vI n)]) = some (n) := unenc_of encSiz_inj (n) rfl

def resSiz1 (n : Int) : AV × Heap := (.v (.int .u64 (n.natAbs : Int)), [])

def preSiz1 (n : Int) : Bool := F.i64B n

noncomputable def oSiz : Orc := orc 98 true encSiz (fun a => preSiz1 a) fun a => resSiz1 a

theorem u64_ok {n : Nat} (h : n < 18446744073709551616) : okAtom (.int .u64 (n : Int)) := by
  show IntKind.u64.min ≤ _ ∧ _ ≤ IntKind.u64.max
  simp only [IntKind.min, IntKind.max, IntKind.signed, IntKind.bits]
  simp
  omega

theorem okSiz : OrcOK Tryz.prog noG oSiz := by
  refine orc_ok ⟨Tryz.f98, by kernel_rfl, by kernel_rfl, by kernel_rfl⟩ (fun n hp _ => ?_) (fun _ _ => ⟨rfl, rfl⟩)
  simp only [preSiz1, F.i64B, Bool.and_eq_true, decide_eq_true_eq] at hp
  refine SpecP.below1 (fun w S => rv_mk (u64_ok (by omega))) fun _ w S hG => ?_
  refine (size_walk n hp.1 hp.2 w).mono ?_
  rintro e w' ⟨he, rfl⟩
  exact ⟨he, Below.refl _ _⟩

def encMul1 (x : Nat) (y : Nat) : List AV := [.v (.int .u64 x), .v (.int .u64 y)]

def encMul (a : Nat × Nat) : List AV := encMul1 a.1 a.2

theorem encMul_inj (a a' : Nat × Nat) (h : encMul a = encMul a') : a = a' := by
  simp only [encMul, encMul1] at h
  try simp  at h
  grind

theorem unMul (x : Nat) (y : Nat) : unenc encMul ([AV.v (Value.int IntKind.u64 (↑x : Int)), AV.v (Value.int IntKind.u64 (↑y : Int))]) = some (x, y) := unenc_of encMul_inj (x, y) rfl

def resMul1 (x : Nat) (y : Nat) : AV × Heap := (.tup [.v (.int .u64 (F.mhi x y : Nat)), .v (.int .u64 (F.mlo x y : Nat))], [])

def preMul1 (x : Nat) (y : Nat) : Bool := decide (x < 18446744073709551616) && decide (y < 18446744073709551616)

noncomputable def oMul : Orc := orc 97 true encMul (fun a => preMul1 a.1 a.2) fun a => resMul1 a.1 a.2

theorem pair_rv {a b : Nat} (ha : a < 18446744073709551616) (hb : b < 18446744073709551616) (w : World) (S : Nat → Prop) : RV w S noKeys (.tup [.v (.int .u64 (a : Int)), .v (.int .u64 (b : Int))]) (.tuple #[.int .u64 (a : Int), .int .u64 (b : Int)]) :=
  ⟨[.int .u64 (a : Int), .int .u64 (b : Int)], rfl, R0.v (w := w) (S := S) (u64_ok ha), R0.v (w := w) (S := S) (u64_ok hb), trivial⟩

theorem okMul : OrcOK Tryz.prog noG oMul := by
  refine orc_ok ⟨Tryz.f97, by kernel_rfl, by kernel_rfl, by kernel_rfl⟩ (fun z hp _ => ?_) (fun _ _ => ⟨rfl, rfl⟩)
  obtain ⟨x, y⟩ := z
  simp only [preMul1, Bool.and_eq_true, decide_eq_true_eq] at hp
  have h1 : x * y ≤ 18446744073709551615 * 18446744073709551615 := Nat.mul_le_mul (by omega) (by omega)
  refine SpecP.below2 (pair_rv (by show x * y / 18446744073709551616 < _; generalize x * y = p at h1; omega) (by unfold F.mlo; omega)) fun _ _ w S hG => ?_
  refine (Tryz.bits_Mul64 x y hp.1 hp.2 w).mono ?_
  rintro e w' ⟨he, rfl⟩
  exact ⟨he, Below.refl _ _⟩

def encDv01 (l : Nat) (d : Nat) : List AV := [.v (.int .u64 0), .v (.int .u64 l), .v (.int .u64 d)]

def encDv0 (a : Nat × Nat) : List AV := encDv01 a.1 a.2

theorem encDv0_inj (a a' : Nat × Nat) (h : encDv0 a = encDv0 a') : a = a' := by
  simp only [encDv0, encDv01] at h
  try simp  at h
  grind

theorem unDv0 (l : Nat) (d : Nat) : unenc encDv0 ([AV.v (Value.int IntKind.u64 (0 : Int)), AV.v (Value.int IntKind.u64 (↑l : Int)), AV.v (Value.int IntKind.u64 (↑d : Int))]) = some (l, d) := unenc_of encDv0_inj (l, d) rfl

def resDv01 (l : Nat) (d : Nat) : AV × Heap := (.tup [.v (.int .u64 (F.dqm l d : Nat)), .v (.int .u64 (F.drm l d : Nat))], [])

def preDv01 (l : Nat) (d : Nat) : Bool := decide (0 < d) && decide (l < 18446744073709551616)

noncomputable def oDv0 : Orc := orc 99 true encDv0 (fun a => preDv01 a.1 a.2) fun a => resDv01 a.1 a.2

theorem okDv0 : OrcOK Tryz.prog noG oDv0 := by
  refine orc_ok ⟨Tryz.f99, by kernel_rfl, by kernel_rfl, by kernel_rfl⟩ (fun z hp _ => ?_) (fun _ _ => ⟨rfl, rfl⟩)
  obtain ⟨l, d⟩ := z
  simp only [preDv01, Bool.and_eq_true, decide_eq_true_eq] at hp
  have h1 := Nat.div_le_self l d
  have h2 := Nat.mod_le l d
  have hr := pair_rv (a := F.dqm l d) (b := F.drm l d) (by unfold F.dqm; omega) (by unfold F.drm; omega)
  intro w S cargs hlt hg hargs
  match cargs, hargs with
  | [u, v, t], ⟨r1, r2, r3, _⟩ =>
    obtain ⟨rfl, _⟩ := rv_v r1
    obtain ⟨rfl, _⟩ := rv_v r2
    obtain ⟨rfl, _⟩ := rv_v r3
    exact below_ret hlt hr (div0_walk l d hp.1 hp.2 w)

noncomputable def enScl : Env := envH ty noG lks [oSiz, oMul, oDv0, oRnd] [] [] []

theorem enScl_ok : EnvOK Tryz.prog enScl := by
  refine envH_ok lks_ok ty_ok ?_ ?_
  · simp only [List.forall_mem_cons]
    exact ⟨okSiz, okMul, okDv0, okRnd, by simp⟩
  · simp

theorem evScl (n : Int) (m : Int) (d : Int) (way : Int) : (runF enScl false Tryz.f82 [vI n, vI m, vI d, vI way]).val =
  (fun (q : List AV) => (fun (q_1 : Option (AV × Heap)) => Option.bind (unenc encSiz [(vI n)]) fun (z : Int) => bif F.i64B z then Option.bind (unenc encMul [AV.v (Value.int
  IntKind.u64 (↑(Int.natAbs z) : Int)), AV.v (Value.int IntKind.u64 (IntKind.wrap IntKind.u64 m))]) fun (z : Nat × Nat) => bif decide (z.fst < (18446744073709551616 : Nat))
  && decide (z.snd < (18446744073709551616 : Nat)) then bif decide ((↑(F.mhi z.fst z.snd) : Int) < IntKind.wrap IntKind.u64 d) then Option.bind (unenc encDv0 (AV.v
  (Value.int IntKind.u64 (↑(F.mhi z.fst z.snd) : Int)) :: AV.v (Value.int IntKind.u64 (↑(F.mlo z.fst z.snd) : Int)) :: q)) fun (z : Nat × Nat) => (fun (q_2 : Int) => (fun
  (q_3 : Int) => (fun (q_4 : Int) => bif decide ((0 : Nat) < z.snd) && decide (z.fst < (18446744073709551616 : Nat)) then Option.bind (unenc encRnd ((vI way) :: (vB (decide
  (n < (0 : Int)))) :: AV.v (Value.int IntKind.u64 (↑(F.drm z.fst z.snd) : Int)) :: q)) fun (z : Int × Bool × Int × Int) => bif decide ((0 : Int) ≤ z.snd.snd.fst) && decide
  (z.snd.snd.fst ≤ z.snd.snd.snd) && decide (z.snd.snd.snd ≤ (18446744073709551615 : Int)) then bif F.rnd z.fst z.snd.fst z.snd.snd.fst z.snd.snd.snd then bif decide
  ((1152921504606846976 : Int) < q_3) then q_1 else bif decide (n < (0 : Int)) then some ((vI (IntKind.wrap IntKind.i64 ((0 : Int) - q_4))), []) else some ((vI q_4), [])
  else bif decide ((1152921504606846976 : Int) < q_2) then q_1 else bif decide (n < (0 : Int)) then some ((vI (IntKind.wrap IntKind.i64 ((0 : Int) - IntKind.wrap IntKind.i64
  q_2))), []) else some ((vI (IntKind.wrap IntKind.i64 q_2)), []) else none else none) (IntKind.wrap IntKind.i64 q_3)) (IntKind.wrap IntKind.u64 (q_2 + (1 : Int)))) (↑(F.dqm
  z.fst z.snd) : Int) else Option.bind (unenc encRnd ((vI way) :: (vB (decide (n < (0 : Int)))) :: AV.v (Value.int IntKind.u64 (0 : Int)) :: q)) fun (z : Int × Bool × Int ×
  Int) => bif decide ((0 : Int) ≤ z.snd.snd.fst) && decide (z.snd.snd.fst ≤ z.snd.snd.snd) && decide (z.snd.snd.snd ≤ (18446744073709551615 : Int)) then bif F.rnd z.fst
  z.snd.fst z.snd.snd.fst z.snd.snd.snd then q_1 else q_1 else none else none else none) (bif decide (n < (0 : Int)) then some ((vI (IntKind.wrap IntKind.i64 ((0 : Int) -
  IntKind.wrap IntKind.i64 (1152921504606846976 : Int)))), []) else some ((vI (IntKind.wrap IntKind.i64 (1152921504606846976 : Int))), []))) [AV.v (Value.int IntKind.u64
  (IntKind.wrap IntKind.u64 d))] := (runFR_val).symm.trans (by kernel_rfl)

def encScl1 (n : Int) (m : Int) (d : Int) (way : Int) : List AV := [vI n, vI m, vI d, vI way]

def encScl (a : Int × Int × Int × Int) : List AV := encScl1 a.1 a.2.1 a.2.2.1 a.2.2.2

theorem encScl_inj (a a' : Int × Int × Int × Int) (h : encScl a = encScl a') : a = a' := by
  simp only [encScl, encScl1] at h
  try simp  at h
  grind

theorem unScl (n : Int) (m : Int) (d : Int) (way : Int) : unenc encScl ([(vI n), (vI m), (vI d), (vI way)]) = some (n, m, d, way) := unenc_of encScl_inj (n, m, d, way) rfl

def resScl1 (n : Int) (m : Int) (d : Int) (way : Int) : AV × Heap := (vI (F.scl n m d way), [])

def preScl1 (n : Int) (m : Int) (d : Int) (way : Int) : Bool := F.i64B n && decide (0 ≤ m) && decide (m ≤ 1000000) && decide (1 ≤ d) && decide (d ≤ 9223372036854775807) && decide (n.natAbs * m.natAbs < 9223372036854775808)

noncomputable def oScl : Orc := orc 82 true encScl (fun a => preScl1 a.1 a.2.1 a.2.2.1 a.2.2.2) fun a => resScl1 a.1 a.2.1 a.2.2.1 a.2.2.2

theorem okScl : OrcOK Tryz.prog noG oScl := by
  refine mk_ok Tryz.f82 (keep := false) (by kernel_rfl) (by kernel_rfl) enScl_ok mixed (no_loops (by kernel_rfl)) (by first | exact fun _ _ => ⟨rfl, rfl⟩ | (intro h; cases h)) ?_
  rintro ⟨n, m, d, way⟩ hpre hok
  show (runF enScl false _ (encScl1 _ _ _ _)).val = some (resScl1 _ _ _ _)
  unfold encScl1 resScl1
  rw [evScl]
  simp only [preScl1, Bool.and_eq_true, decide_eq_true_eq] at hpre
  obtain ⟨⟨⟨⟨⟨h1, h2⟩, h3⟩, h4⟩, h5⟩, h6⟩ := hpre
  have hn := h1
  simp only [F.i64B, Bool.and_eq_true, decide_eq_true_eq] at hn
  have w1 : IntKind.u64.wrap m = ((m.natAbs : Nat) : Int) := by rw [IntKind.wrap_u64]; omega
  have w2 : IntKind.u64.wrap d = ((d.natAbs : Nat) : Int) := by rw [IntKind.wrap_u64]; omega
  have w3 : ((F.mhi n.natAbs m.natAbs : Nat) : Int) = 0 := by unfold F.mhi; omega
  have w4 : F.mlo n.natAbs m.natAbs = n.natAbs * m.natAbs := by unfold F.mlo; omega
  have hd : ((d.natAbs : Nat) : Int) = d := by omega
  have hr : F.drm (n.natAbs * m.natAbs) d.natAbs < d.natAbs := Nat.mod_lt _ (by omega)
  have hq : F.dqm (n.natAbs * m.natAbs) d.natAbs ≤ n.natAbs * m.natAbs := Nat.div_le_self _ _
  simp only [unSiz, unMul, unDv0, unRnd, preSiz1, preMul1, preDv01, preRnd1, etaEnt, etaLst, etaSnd, etaStrm, etaMas, Option.bind_some, List.length_map, unStrs, unInts, unBools, unEnts, unItms, unTrns, cond_true, cond_false, Bool.and_true, Bool.true_and, h1, w1, w2, w3, w4]
  simp (disch := omega) only [decide_eq_true, Bool.and_self, cond_true]
  unfold F.scl F.sclS F.sclP
  rw [show F.sclQ n m d = F.dqm (n.natAbs * m.natAbs) d.natAbs from rfl, show F.sclR n m d = F.drm (n.natAbs * m.natAbs) d.natAbs from rfl, hd]
  generalize F.dqm (n.natAbs * m.natAbs) d.natAbs = q at *
  generalize F.drm (n.natAbs * m.natAbs) d.natAbs = r at *
  generalize n.natAbs * m.natAbs = p at *
  have u1 : IntKind.u64.wrap ((q : Int) + 1) = (q : Int) + 1 := by rw [IntKind.wrap_u64]; omega
  rw [u1]
  have key : ∀ x : Int, 0 ≤ x → x ≤ 1152921504606846976 → IntKind.i64.wrap x = x ∧ IntKind.i64.wrap (0 - x) = -x := fun x h1 h2 => by
    rw [IntKind.wrap_i64, IntKind.wrap_i64]; omega
  have kF := key 1152921504606846976 (by omega) (by omega)
  cases F.rnd way (decide (n < 0)) (r : Int) d
  · simp only [cond_false]
    by_cases hx : (1152921504606846976 : Int) < q
    · rw [decide_eq_true hx]
      cases decide (n < 0) <;> simp only [cond_true, cond_false, kF.1, kF.2]
    · rw [decide_eq_false hx]
      have k1 := key q (by omega) (by omega)
      cases decide (n < 0) <;> simp only [cond_true, cond_false, k1.1, k1.2]
  · simp only [cond_true]
    by_cases hx : (1152921504606846976 : Int) < q + 1
    · rw [decide_eq_true hx]
      cases decide (n < 0) <;> simp only [cond_true, cond_false, kF.1, kF.2]
    · rw [decide_eq_false hx]
      have k1 := key (q + 1) (by omega) (by omega)
      cases decide (n < 0) <;> simp only [cond_true, cond_false, k1.1, k1.2]

end M

def F.p10 : Nat → Int
  | 0 => 1
  | k + 1 => F.p10 k * 10

theorem F.scl_id {x : Int} (h0 : 0 ≤ x) (h1 : x < 1000) : F.scl x 1000 1000 2 = x := by
  obtain ⟨k, rfl⟩ := Int.eq_ofNat_of_zero_le h0
  have hq : F.sclQ (k : Int) 1000 1000 = k := by
    show ((k : Int).natAbs * 1000) / 1000 = k
    omega
  have hr : F.sclR (k : Int) 1000 1000 = 0 := by
    show ((k : Int).natAbs * 1000) % 1000 = 0
    omega
  have hP : F.sclP (k : Int) 1000 1000 2 = (k : Int) := by
    unfold F.sclP
    rw [hr, hq]
    have : F.rnd 2 (decide ((k : Int) < 0)) ((0 : Nat) : Int) 1000 = false := by
      unfold F.rnd
      rfl
    rw [this]
    rfl
  unfold F.scl F.sclS
  rw [hP, decide_eq_false (by omega), decide_eq_false (by omega)]
  rfl

theorem F.itoa_1000 {k : Nat} (h : k < 1000) : (F.itoa ((1000 + k : Nat) : Int)).size = 4 ∧ (F.itoa ((1000 + k : Nat) : Int)).extract 1 (F.itoa ((1000 + k : Nat) : Int)).size = F.pad (k : Int) 3 := by
  obtain ⟨d1, d2, d3⟩ := F.dd_ok (1000 + k)
  have hb := F.itoa_n (1000 + k)
  have h4 := F.dd_len 3 (1000 + k) (by show _ < 10000; omega)
  have hge : 4 ≤ (Lib.decDigits (1000 + k)).length := by
    have := F.dvA_lt _ d1
    rw [d2] at this
    by_cases h : 4 ≤ (Lib.decDigits (1000 + k)).length
    · exact h
    · have h2 : (10 : Nat) ^ (Lib.decDigits (1000 + k)).length ≤ 10 ^ 3 := Nat.pow_le_pow_right (by decide) (by omega)
      have h3 : (10 : Nat) ^ 3 = 1000 := by decide
      omega
  obtain ⟨a, b, c, d, e⟩ := F.l4 (show (Lib.decDigits (1000 + k)).length = 4 by omega)
  rw [e] at hb d1 d2
  have hz : (F.itoa ((1000 + k : Nat) : Int)).size = 4 := by rw [← F.bs_len, hb]; rfl
  refine ⟨hz, ?_⟩
  apply F.bsx
  obtain ⟨p1, p2, p3⟩ := F.pad_ok (k := k) (many := 3) h (by decide)
  rw [F.sub_bs, hz, hb]
  simp only [List.all_cons, List.all_nil, Bool.and_true, Bool.and_eq_true] at d1
  obtain ⟨g1, g2, g3, g4⟩ := d1
  have ga := g1
  have gb := g2
  have gc := g3
  have gd := g4
  simp only [F.dgB, Bool.and_eq_true, decide_eq_true_eq] at ga gb gc gd
  rw [F.dvA_cons, F.dvA_cons, F.dvA_cons, F.dvA_cons, F.dvA_nil] at d2
  show [b, c, d] = _
  refine F.dv_inj 3 _ _ rfl p1 ?_ p2 ?_
  · simp only [List.all_cons, List.all_nil, Bool.and_true, g2, g3, g4, Bool.and_self]
  · rw [p3, F.dvA_cons, F.dvA_cons, F.dvA_cons, F.dvA_nil]
    omega

theorem F.pad_size' (k : Nat) (h : k < 1000) : (F.pad (k : Int) 3).size = 3 := by
  rw [← F.bs_len]
  exact (F.pad_ok h (by decide)).1

namespace M

noncomputable def enNoT : Env := envH ty noG lks [oOut] [] [] []

theorem enNoT_ok : EnvOK Tryz.prog enNoT := by
  refine envH_ok lks_ok ty_ok ?_ ?_
  · simp only [List.forall_mem_cons]
    exact ⟨okOut, by simp⟩
  · simp

theorem evNoT (n : Int) : (runF enNoT false Tryz.f79 [vI n]).val =
  Option.bind (unenc encOut [(vI n), (vI (-1000000000000000 : Int)), (vI (1000000000000000 : Int))]) fun (z : Int × Int × Int) => some ((vB (F.out z.fst z.snd.fst
  z.snd.snd)), []) := (runFR_val).symm.trans (by kernel_rfl)

def encNoT1 (n : Int) : List AV := [vI n]

def encNoT (a : Int) : List AV := encNoT1 a

theorem encNoT_inj (a a' : Int) (h : encNoT a = encNoT a') : a = a' := by
  simp only [encNoT, encNoT1] at h
  try simp [strs_inj, ints_inj, ents_inj, eEnt_iff, eLst_iff, eSnds_inj, eStrms_inj] at h
  grind

theorem unNoT (n : Int) : unenc encNoT ([(vI n)]) = some (n) := unenc_of encNoT_inj (n) rfl

def resNoT1 (n : Int) : AV × Heap := (vB (F.out n (-1000000000000000) 1000000000000000), [])

def preNoT1 (n : Int) : Bool := true

noncomputable def oNoT : Orc := orc 79 true encNoT (fun a => preNoT1 a) fun a => resNoT1 a

theorem okNoT : OrcOK Tryz.prog noG oNoT := by
  refine mk_ok Tryz.f79 (keep := false) (by kernel_rfl) (by kernel_rfl) enNoT_ok mixed (no_loops (by kernel_rfl)) (by first | exact fun _ _ => ⟨rfl, rfl⟩ | (intro h; cases h)) ?_
  rintro n hpre hok
  show (runF enNoT false _ (encNoT1 _)).val = some (resNoT1 _)
  unfold encNoT1 resNoT1
  rw [evNoT]
  simp only [unOut, preOut1, etaEnt, etaLst, etaSnd, etaStrm, etaMas, Option.bind_some, List.length_map, unStrs, unInts, unBools, unEnts, unItms, unTrns, cond_true, cond_false, Bool.and_true, Bool.true_and]

theorem evNoS (n : Int) : (runF enNoT false Tryz.f80 [vI n]).val =
  Option.bind (unenc encOut [(vI n), (vI (1 : Int)), (vI (1000000000 : Int))]) fun (z : Int × Int × Int) => some ((vB (F.out z.fst z.snd.fst z.snd.snd)), []) := (runFR_val).symm.trans (by kernel_rfl)

def encNoS1 (n : Int) : List AV := [vI n]

def encNoS (a : Int) : List AV := encNoS1 a

theorem encNoS_inj (a a' : Int) (h : encNoS a = encNoS a') : a = a' := by
  simp only [encNoS, encNoS1] at h
  try simp [strs_inj, ints_inj, ents_inj, eEnt_iff, eLst_iff, eSnds_inj, eStrms_inj] at h
  grind

theorem unNoS (n : Int) : unenc encNoS ([(vI n)]) = some (n) := unenc_of encNoS_inj (n) rfl

def resNoS1 (n : Int) : AV × Heap := (vB (F.out n 1 1000000000), [])

def preNoS1 (n : Int) : Bool := true

noncomputable def oNoS : Orc := orc 80 true encNoS (fun a => preNoS1 a) fun a => resNoS1 a

theorem okNoS : OrcOK Tryz.prog noG oNoS := by
  refine mk_ok Tryz.f80 (keep := false) (by kernel_rfl) (by kernel_rfl) enNoT_ok mixed (no_loops (by kernel_rfl)) (by first | exact fun _ _ => ⟨rfl, rfl⟩ | (intro h; cases h)) ?_
  rintro n hpre hok
  show (runF enNoT false _ (encNoS1 _)).val = some (resNoS1 _)
  unfold encNoS1 resNoS1
  rw [evNoS]
  simp only [unOut, preOut1, etaEnt, etaLst, etaSnd, etaStrm, etaMas, Option.bind_some, List.length_map, unStrs, unInts, unBools, unEnts, unItms, unTrns, cond_true, cond_false, Bool.and_true, Bool.true_and]

def stPw (p : Int) (k : Nat) : St := ⟨[(5, vI k), (4, vI 3), (3, vI p)], []⟩

def stPw1 (a : Int × Nat) : St := stPw a.1 a.2

theorem stPw_inj (a a' : Int × Nat) (h : stPw1 a = stPw1 a') : a = a' := by
  simp only [stPw1, stPw] at h
  try simp [strs_inj, ints_inj, ents_inj, eEnt_iff, eLst_iff, eSnds_inj, eStrms_inj] at h
  grind

theorem unstPw (p : Int) (k : Nat) : unenc stPw1 (St.mk [(5, (vI (↑k : Int))), (4, (vI (3 : Int))), (3, (vI p))] []) = some (p, k) := unenc_of stPw_inj (p, k) rfl

theorem unstPw0   : unenc stPw1 (St.mk [(5, (vI (0 : Int))), (4, (vI (3 : Int))), (3, (vI (1 : Int)))] []) = some (1, 0) := unenc_of stPw_inj (1, 0) rfl

def outPw (p : Int) (k : Nat) : T (Ex × St) := .ret (.exit 0, ⟨[(3, vI 1000)], []⟩)

noncomputable def prlPw (p : Int) (k : Nat) : Bool := decide (p = F.p10 k) && decide (k ≤ 3)

noncomputable def lpPw : Nat × (St → T (Ex × St)) := (3, lpo [5, 4, 3] [] stPw1 (fun a => prlPw a.1 a.2) fun a => outPw a.1 a.2)

noncomputable def enPw : Env := envH ty noG lks [] [] [] [lpPw]

theorem enPw_ok : EnvOK Tryz.prog enPw := by
  refine envH_ok lks_ok ty_ok ?_ ?_
  · simp
  · simp

theorem evPwL (p : Int) (k : Nat) : ((exec enPw (loopN Tryz.f81 0) (stPw p k)).bind (lessX ([5, 4, 3], []) ([3], []) ([], []))).val =
  bif decide ((↑k : Int) < (3 : Int)) then some (Ex.normal, St.mk [(5, (vI (IntKind.wrap IntKind.i64 ((↑k : Int) + (1 : Int))))), (4, (vI (3 : Int))), (3, (vI (IntKind.wrap
  IntKind.i64 (p * (10 : Int)))))] []) else some (Ex.exit (0 : Nat), St.mk [(3, (vI p))] []) := (execR_bind _ _ _).symm.trans (by kernel_rfl)

theorem lpPw_ok (p : Int) (k : Nat) (hp : prlPw p k = true) : ∀ ex s', (outPw p k).val = some (ex, s') → LoopOK enPw (loopN Tryz.f81 0) (stPw p k) ex s' := by
  simp only [prlPw, Bool.and_eq_true, decide_eq_true_eq] at hp
  obtain ⟨h1, h2⟩ := hp
  subst h1
  refine loop_gen (st := fun k : Nat => stPw (F.p10 k) k) (out := fun k => outPw (F.p10 k) k) (I := fun k => k ≤ 3) (n := ([5, 4, 3], [])) (e := ([3], [])) (r := ([], [])) (fun k => 3 - k) ?_ k h2
  clear h2
  intro k hk
  have hb : 0 ≤ F.p10 k ∧ F.p10 k ≤ 1000 := by
    match k, hk with
    | 0, _ => decide
    | 1, _ => decide
    | 2, _ => decide
    | 3, _ => decide
  have w1 : IntKind.i64.wrap (F.p10 k * 10) = F.p10 (k + 1) := by rw [wrap_id (by omega) (by omega)]; rfl
  have w2 : IntKind.i64.wrap ((k : Int) + 1) = ((k + 1 : Nat) : Int) := by rw [wrap_id (by omega) (by omega)]; rfl
  by_cases hlt : k < 3
  · right
    refine ⟨k + 1, ?_, rfl, hlt, by omega, rfl⟩
    · rw [evPwL]
      simp only [unstPw, unstPw0, prlPw, outPw, etaEnt, etaLst, etaSnd, etaStrm, etaMas, Option.bind_some, List.length_map, unStrs, unInts, unBools, unEnts, unItms, unTrns, cond_true, cond_false, Bool.and_true, Bool.true_and, decide_eq_true (show (k : Int) < 3 by omega), w1, w2, stPw]
      try rfl
  · have : k = 3 := by omega
    subst this
    left
    refine ⟨(.exit 0, ⟨[(3, vI 1000)], []⟩), ?_, rfl, by simp, rfl⟩
    rw [evPwL]
    rfl

theorem evPw  : (runF enPw false Tryz.f81 [vI 3]).val =
  Option.bind (unenc stPw1 (St.mk [(5, (vI (0 : Int))), (4, (vI (3 : Int))), (3, (vI (1 : Int)))] [])) fun (z : Int × Nat) => bif decide (z.fst = F.p10 z.snd) && decide
  (z.snd ≤ (3 : Nat)) && true then some ((vI (1000 : Int)), []) else none := (runFR_val).symm.trans (by kernel_rfl)

def encPw1  : List AV := [vI 3]

def encPw (a : Unit) : List AV := encPw1

theorem encPw_inj (a a' : Unit) (h : encPw a = encPw a') : a = a' := rfl

theorem unPw  : unenc encPw ([(vI (3 : Int))]) = some () := unenc_of encPw_inj () rfl

def resPw1  : AV × Heap := (vI 1000, [])

def prePw1  : Bool := true

noncomputable def oPw : Orc := orc 81 true encPw (fun a => prePw1) fun a => resPw1

theorem okPw : OrcOK Tryz.prog noG oPw := by
  refine mk_ok Tryz.f81 (keep := false) (by kernel_rfl) (by kernel_rfl) enPw_ok mixed (one_loop (x0 := loopN Tryz.f81 0) (by kernel_rfl) (lpo_ok ?_)) (by first | exact fun _ _ => ⟨rfl, rfl⟩ | (intro h; cases h)) ?_
  · rintro ⟨p, k⟩ hp
    exact lpPw_ok p k hp
  rintro ⟨⟩ hpre hok
  show (runF enPw false _ (encPw1 )).val = some (resPw1 )
  unfold encPw1 resPw1
  rw [evPw]
  simp only [unstPw, unstPw0, prlPw, outPw, etaEnt, etaLst, etaSnd, etaStrm, etaMas, Option.bind_some, List.length_map, unStrs, unInts, unBools, unEnts, unItms, unTrns, cond_true, cond_false, Bool.and_true, Bool.true_and]
  try rfl

noncomputable def enDcm : Env := envH ty noG lks [oNoT, oNoS, oOut, oPw, oScl, oIta] [] [] []

theorem enDcm_ok : EnvOK Tryz.prog enDcm := by
  refine envH_ok lks_ok ty_ok ?_ ?_
  · simp only [List.forall_mem_cons]
    exact ⟨okNoT, okNoS, okOut, okPw, okScl, okIta, by simp⟩
  · simp

theorem evDcm (n : Int) : (runF enDcm false Tryz.f54 [vI n, vI 1000, vI 3]).val =
  (fun (q : ByteArray) => (fun (q_1 : ByteArray) => (fun (q_2 : List AV) => (fun (q_3 : Int) => (fun (q_4 : Int) => (fun (q_5 : Option (AV × Heap)) => Option.bind (unenc
  encNoT [(vI n)]) fun (z : Int) => bif !F.out z (-1000000000000000 : Int) (1000000000000000 : Int) then Option.bind (unenc encNoS [(vI (1000 : Int))]) fun (z : Int) => bif
  !F.out z (1 : Int) (1000000000 : Int) then Option.bind (unenc encOut [(vI (3 : Int)), (vI (0 : Int)), (vI (9 : Int))]) fun (z : Int × Int × Int) => bif F.out z.fst
  z.snd.fst z.snd.snd then q_5 else Option.bind (unenc encPw [(vI (3 : Int))]) fun (z : Unit) => Option.bind (unenc encScl [(vI (Int.tmod (max n (IntKind.wrap IntKind.i64
  ((0 : Int) - n))) (1000 : Int))), (vI (1000 : Int)), (vI (1000 : Int)), (vI (2 : Int))]) fun (z : Int × Int × Int × Int) => (fun (q_6 : Int) => bif F.i64B z.fst && decide
  ((0 : Int) ≤ z.snd.fst) && decide (z.snd.fst ≤ (1000000 : Int)) && decide ((1 : Int) ≤ z.snd.snd.fst) && decide (z.snd.snd.fst ≤ (9223372036854775807 : Int)) && decide
  (Int.natAbs z.fst * Int.natAbs z.snd.fst < (9223372036854775808 : Nat)) then bif q_6 == (1000 : Int) then Option.bind (unenc encIta [(vI q_4)]) fun (z : Int) => bif decide
  ((-9223372036854775808 : Int) ≤ z) && decide (z ≤ (9223372036854775807 : Int)) then Option.bind (unenc encIta [(vI (IntKind.wrap IntKind.i64 ((1000 : Int) + (0 : Int))))])
  fun (z_1 : Int) => (fun (q_7 : ByteArray) => (fun (q_8 : ByteArray) => (fun (q_9 : Option (AV × Heap)) => bif decide ((-9223372036854775808 : Int) ≤ z_1) && decide (z_1 ≤
  (9223372036854775807 : Int)) then bif Nat.ble (1 : Nat) (ByteArray.size (F.itoa z_1)) && Nat.ble (ByteArray.size (F.itoa z_1)) (ByteArray.size (F.itoa z_1)) then bif
  Nat.ble (ByteArray.size q + ByteArray.size q_7) (9223372036854775807 : Nat) then bif Nat.ble (ByteArray.size (F.itoa z) + ByteArray.size (q ++ q_7)) (9223372036854775807 :
  Nat) then bif decide (n < (0 : Int)) then bif decide ((0 : Int) < IntKind.wrap IntKind.i64 (q_4 + (0 : Int))) then bif Nat.ble (ByteArray.size q_1 + ByteArray.size q_8)
  (9223372036854775807 : Nat) then some (AV.tup ((vS (q_1 ++ q_8)) :: q_2), []) else none else q_9 else q_9 else none else none else none else none) (some (AV.tup ((vS q_8)
  :: q_2), []))) (F.itoa z ++ (q ++ q_7))) (ByteArray.extract (F.itoa z_1) (1 : Nat) (ByteArray.size (F.itoa z_1))) else none else Option.bind (unenc encIta [(vI q_3)]) fun
  (z : Int) => bif decide ((-9223372036854775808 : Int) ≤ z) && decide (z ≤ (9223372036854775807 : Int)) then Option.bind (unenc encIta [(vI (IntKind.wrap IntKind.i64 ((1000
  : Int) + q_6)))]) fun (z_1 : Int) => (fun (q_7 : ByteArray) => (fun (q_8 : ByteArray) => (fun (q_9 : Option (AV × Heap)) => bif decide ((-9223372036854775808 : Int) ≤ z_1)
  && decide (z_1 ≤ (9223372036854775807 : Int)) then bif Nat.ble (1 : Nat) (ByteArray.size (F.itoa z_1)) && Nat.ble (ByteArray.size (F.itoa z_1)) (ByteArray.size (F.itoa
  z_1)) then bif Nat.ble (ByteArray.size q + ByteArray.size q_7) (9223372036854775807 : Nat) then bif Nat.ble (ByteArray.size (F.itoa z) + ByteArray.size (q ++ q_7))
  (9223372036854775807 : Nat) then bif decide (n < (0 : Int)) then bif decide ((0 : Int) < IntKind.wrap IntKind.i64 (q_3 + q_6)) then bif Nat.ble (ByteArray.size q_1 +
  ByteArray.size q_8) (9223372036854775807 : Nat) then some (AV.tup ((vS (q_1 ++ q_8)) :: q_2), []) else none else q_9 else q_9 else none else none else none else none)
  (some (AV.tup ((vS q_8) :: q_2), []))) (F.itoa z ++ (q ++ q_7))) (ByteArray.extract (F.itoa z_1) (1 : Nat) (ByteArray.size (F.itoa z_1))) else none else none) (F.scl z.fst
  z.snd.fst z.snd.snd.fst z.snd.snd.snd) else q_5 else q_5) (some (AV.tup [(vS (ByteArray.mk (Array.mk []))), (vI (1 : Int))], []))) (IntKind.wrap IntKind.i64 (q_3 + (1 :
  Int)))) (IntKind.wrap IntKind.i64 (Int.tdiv (max n (IntKind.wrap IntKind.i64 ((0 : Int) - n))) (1000 : Int)))) [(vI (0 : Int))]) (ByteArray.mk (Array.mk [(45 : UInt8)])))
  (ByteArray.mk (Array.mk [(46 : UInt8)])) := (runFR_val).symm.trans (by kernel_rfl)

def encDcm1 (n : Int) : List AV := [vI n, vI 1000, vI 3]

def encDcm (a : Int) : List AV := encDcm1 a

theorem encDcm_inj (a a' : Int) (h : encDcm a = encDcm a') : a = a' := by
  simp only [encDcm, encDcm1] at h
  try simp [strs_inj, ints_inj, ents_inj, eEnt_iff, eLst_iff, eSnds_inj, eStrms_inj] at h
  grind

theorem unDcm (n : Int) : unenc encDcm ([(vI n), (vI (1000 : Int)), (vI (3 : Int))]) = some (n) := unenc_of encDcm_inj (n) rfl

def resDcm1 (n : Int) : AV × Heap := (.tup [vS (F.tmS n), vI 0], [])

def preDcm1 (n : Int) : Bool := decide (0 ≤ n) && decide (n ≤ 3600000)

noncomputable def oDcm : Orc := orc 54 true encDcm (fun a => preDcm1 a) fun a => resDcm1 a

theorem okDcm : OrcOK Tryz.prog noG oDcm := by
  refine mk_ok Tryz.f54 (keep := false) (by kernel_rfl) (by kernel_rfl) enDcm_ok mixed (no_loops (by kernel_rfl)) (by first | exact fun _ _ => ⟨rfl, rfl⟩ | (intro h; cases h)) ?_
  rintro n hpre hok
  show (runF enDcm false _ (encDcm1 _)).val = some (resDcm1 _)
  unfold encDcm1 resDcm1
  rw [evDcm]
  simp only [preDcm1, Bool.and_eq_true, decide_eq_true_eq] at hpre
  obtain ⟨h1, h2⟩ := hpre
  obtain ⟨N, rfl⟩ := Int.eq_ofNat_of_zero_le h1
  have hw : IntKind.i64.wrap (0 - (N : Int)) = 0 - (N : Int) := wrap_id (by omega) (by omega)
  have hm : max (N : Int) (0 - (N : Int)) = (N : Int) := Int.max_eq_left (by omega)
  have hq : (N : Int).tdiv 1000 = ((N / 1000 : Nat) : Int) := rfl
  have hx : (N : Int).tmod 1000 = ((N % 1000 : Nat) : Int) := rfl
  have hs := F.scl_id (x := ((N % 1000 : Nat) : Int)) (by omega) (by omega)
  obtain ⟨z1, z2⟩ := F.itoa_1000 (k := N % 1000) (by omega)
  have w1 : IntKind.i64.wrap ((N / 1000 : Nat) : Int) = ((N / 1000 : Nat) : Int) := wrap_id (by omega) (by omega)
  have w2 : IntKind.i64.wrap (1000 + ((N % 1000 : Nat) : Int)) = ((1000 + N % 1000 : Nat) : Int) := by rw [wrap_id (by omega) (by omega)]; rfl
  have o1 : F.out (N : Int) (-1000000000000000) 1000000000000000 = false := by unfold F.out; rw [decide_eq_false (by omega), decide_eq_false (by omega)]; rfl
  have o2 : F.out 1000 1 1000000000 = false := rfl
  have o3 : F.out 3 0 9 = false := rfl
  have hb : F.i64B ((N % 1000 : Nat) : Int) = true := by unfold F.i64B; rw [decide_eq_true (by omega), decide_eq_true (by omega)]; rfl
  have hd : decide (((N % 1000 : Nat) : Int).natAbs * Int.natAbs 1000 < 9223372036854775808) = true := decide_eq_true (by show _ * 1000 < _; omega)
  have he : (((N % 1000 : Nat) : Int) == 1000) = false := by simp; omega
  have hn : decide ((N : Int) < 0) = false := decide_eq_false (by omega)
  have k1 : decide ((0 : Int) ≤ 1000) = true := rfl
  have k2 : decide ((1000 : Int) ≤ 1000000) = true := rfl
  have k3 : decide ((1 : Int) ≤ 1000) = true := rfl
  have k4 : decide ((1000 : Int) ≤ 9223372036854775807) = true := rfl
  simp only [unNoT, unNoS, unOut, unPw, unScl, unIta, preNoT1, preNoS1, preOut1, prePw1, preScl1, preIta1, etaEnt, etaLst, etaSnd, etaStrm, etaMas, Option.bind_some, List.length_map, unStrs, unInts, unBools, unEnts, unItms, unTrns, cond_true, cond_false, Bool.and_true, Bool.true_and, hw, hm, hq, hx, hs, w1, w2, o1, o2, o3, hb, hd, he, hn, k1, k2, k3, k4, Bool.not_false]
  have t1 := F.itoa_size (n := ((N / 1000 : Nat) : Int)) (by omega) (by omega)
  have t2 := F.pad_size' (N % 1000) (by omega)
  have e1 : (⟨⟨[46]⟩⟩ : ByteArray).size = 1 := rfl
  have e2 : F.dot = ⟨⟨[46]⟩⟩ := rfl
  unfold F.tmS
  rw [hq, hx, ByteArray.append_assoc, e2]
  rw [decide_eq_true (by omega : -9223372036854775808 ≤ ((N / 1000 : Nat) : Int)), decide_eq_true (by omega : ((N / 1000 : Nat) : Int) ≤ 9223372036854775807), decide_eq_true (by omega : -9223372036854775808 ≤ ((1000 + N % 1000 : Nat) : Int)), decide_eq_true (by omega : ((1000 + N % 1000 : Nat) : Int) ≤ 9223372036854775807)]
  rw [z2, z1]
  have u1 : Nat.ble 1 4 = true := rfl
  have u2 : Nat.ble 4 4 = true := rfl
  rw [u1, u2]
  simp (disch := omega) only [ByteArray.size_append, e1, t2, ble_t, Bool.and_self, cond_true]

end M

theorem F.pad3 {r : Nat} (h : r < 1000) : F.bs (F.pad (r : Int) 3) = [UInt8.ofNat (48 + r / 100), UInt8.ofNat (48 + r / 10 % 10), UInt8.ofNat (48 + r % 10)] := by
  rw [F.bs_pad]
  by_cases h1 : r < 10
  · rw [F.dd_lt h1, show r / 100 = 0 by omega, show r / 10 % 10 = 0 by omega, show r % 10 = r by omega]
    rfl
  · rw [F.dd_ge h1]
    by_cases h2 : r / 10 < 10
    · rw [F.dd_lt h2, show r / 100 = 0 by omega, show r / 10 % 10 = r / 10 by omega]
      rfl
    · rw [F.dd_ge h2, F.dd_lt (by omega : r / 10 / 10 < 10), show r / 100 = r / 10 / 10 by omega]
      rfl

theorem F.bs_pad4 (N : Nat) : F.bs (F.pad (N : Int) 4) = Lib.decDigits (N / 1000) ++ F.bs (F.pad ((N % 1000 : Nat) : Int) 3) := by
  rw [F.pad3 (Nat.mod_lt N (by decide)), show N % 1000 / 100 = N / 100 % 10 by omega, show N % 1000 / 10 % 10 = N / 10 % 10 by omega, show N % 1000 % 10 = N % 10 by omega, F.bs_pad]
  by_cases h : N < 10000
  · have := F.pad_dd h
    unfold F.pad4 at this
    rw [this, F.dd_lt (by omega : N / 1000 < 10)]
    rfl
  · have e : Lib.decDigits N = Lib.decDigits (N / 1000) ++ [UInt8.ofNat (48 + N / 100 % 10), UInt8.ofNat (48 + N / 10 % 10), UInt8.ofNat (48 + N % 10)] := by
      rw [F.dd_ge (by omega : ¬ N < 10), F.dd_ge (by omega : ¬ N / 10 < 10), F.dd_ge (by omega : ¬ N / 10 / 10 < 10), show N / 10 / 10 / 10 = N / 1000 by omega, show N / 10 / 10 % 10 = N / 100 % 10 by omega]
      simp only [List.append_assoc, List.cons_append, List.nil_append]
    have hl : 4 - (Lib.decDigits N).length = 0 := by
      rw [e, F.dd_ge (by omega : ¬ N / 1000 < 10)]
      simp only [List.length_append, List.length_cons, List.length_nil]
      omega
    rw [hl, List.replicate_zero, List.nil_append, e]

theorem F.pad4_cut (N : Nat) : 4 ≤ (F.pad (N : Int) 4).size ∧ (F.pad (N : Int) 4).extract 0 ((F.pad (N : Int) 4).size - 3) = F.itoa ((N / 1000 : Nat) : Int) ∧ (F.pad (N : Int) 4).extract ((F.pad (N : Int) 4).size - 3) (F.pad (N : Int) 4).size = F.pad ((N % 1000 : Nat) : Int) 3 := by
  have hb := F.bs_pad4 N
  have h3 : (F.bs (F.pad ((N % 1000 : Nat) : Int) 3)).length = 3 := by rw [F.bs_len]; exact F.pad_size' (N % 1000) (Nat.mod_lt N (by decide))
  have hz : (F.pad (N : Int) 4).size = (Lib.decDigits (N / 1000)).length + 3 := by rw [← F.bs_len, hb, List.length_append, h3]
  have hp : 1 ≤ (Lib.decDigits (N / 1000)).length := List.length_pos_iff.2 (F.dd_ok _).2.2
  refine ⟨by omega, F.bsx ?_, F.bsx ?_⟩
  · rw [F.sub_bs, hb, hz, F.itoa_n, List.drop_zero, Nat.sub_zero, Nat.add_sub_cancel, List.take_left']
    rfl
  · rw [F.sub_bs, hb, hz, Nat.add_sub_cancel, List.drop_left' rfl, Nat.add_sub_cancel_left, List.take_of_length_le (by omega)]

namespace M

theorem evXit (n : Int) : (runF en0 false Tryz.f104 [vI n]).val =
  some ((vB (bif decide ((-1000000000000000 : Int) ≤ n) then decide (n ≤ (1000000000000000 : Int)) else false)), []) := (runFR_val).symm.trans (by kernel_rfl)

def encXit1 (n : Int) : List AV := [vI n]

def encXit (a : Int) : List AV := encXit1 a

theorem encXit_inj (a a' : Int) (h : encXit a = encXit a') : a = a' := by
  simp only [encXit, encXit1] at h
  try simp [strs_inj, ints_inj, ents_inj, eEnt_iff, eLst_iff, eSnds_inj, eStrms_inj] at h
  grind

theorem unXit (n : Int) : unenc encXit ([(vI n)]) = some (n) := unenc_of encXit_inj (n) rfl

def resXit1 (n : Int) : AV × Heap := (vB (decide (-1000000000000000 ≤ n) && decide (n ≤ 1000000000000000)), [])

def preXit1 (n : Int) : Bool := true

noncomputable def oXit : Orc := orc 104 true encXit (fun a => preXit1 a) fun a => resXit1 a

theorem okXit : OrcOK Tryz.prog noG oXit := by
  refine mk_ok Tryz.f104 (keep := false) (by kernel_rfl) (by kernel_rfl) en0_ok mixed (no_loops (by kernel_rfl)) (by first | exact fun _ _ => ⟨rfl, rfl⟩ | (intro h; cases h)) ?_
  rintro n hpre hok
  show (runF en0 false _ (encXit1 _)).val = some (resXit1 _)
  unfold encXit1 resXit1
  rw [evXit]
  cases decide (-1000000000000000 ≤ n) <;> rfl

theorem evXis (n : Int) : (runF en0 false Tryz.f105 [vI n]).val =
  some ((vB (bif decide ((1 : Int) ≤ n) then decide (n ≤ (1000000000 : Int)) else false)), []) := (runFR_val).symm.trans (by kernel_rfl)

def encXis1 (n : Int) : List AV := [vI n]

def encXis (a : Int) : List AV := encXis1 a

theorem encXis_inj (a a' : Int) (h : encXis a = encXis a') : a = a' := by
  simp only [encXis, encXis1] at h
  try simp [strs_inj, ints_inj, ents_inj, eEnt_iff, eLst_iff, eSnds_inj, eStrms_inj] at h
  grind

theorem unXis (n : Int) : unenc encXis ([(vI n)]) = some (n) := unenc_of encXis_inj (n) rfl

def resXis1 (n : Int) : AV × Heap := (vB (decide (1 ≤ n) && decide (n ≤ 1000000000)), [])

def preXis1 (n : Int) : Bool := true

noncomputable def oXis : Orc := orc 105 true encXis (fun a => preXis1 a) fun a => resXis1 a

theorem okXis : OrcOK Tryz.prog noG oXis := by
  refine mk_ok Tryz.f105 (keep := false) (by kernel_rfl) (by kernel_rfl) en0_ok mixed (no_loops (by kernel_rfl)) (by first | exact fun _ _ => ⟨rfl, rfl⟩ | (intro h; cases h)) ?_
  rintro n hpre hok
  show (runF en0 false _ (encXis1 _)).val = some (resXis1 _)
  unfold encXis1 resXis1
  rw [evXis]
  cases decide (1 ≤ n) <;> rfl

def stXt (n : Int) (p : Int) (k : Nat) : St := ⟨[(9, vI k), (8, vI p), (2, vI 3), (1, vI 1000), (0, vI n)], []⟩

def stXt1 (a : Int × Int × Nat) : St := stXt a.1 a.2.1 a.2.2

theorem stXt_inj (a a' : Int × Int × Nat) (h : stXt1 a = stXt1 a') : a = a' := by
  simp only [stXt1, stXt] at h
  try simp [strs_inj, ints_inj, ents_inj, eEnt_iff, eLst_iff, eSnds_inj, eStrms_inj] at h
  grind

theorem unstXt (n : Int) (p : Int) (k : Nat) : unenc stXt1 (St.mk [(9, (vI (↑k : Int))), (8, (vI p)), (2, (vI (3 : Int))), (1, (vI (1000 : Int))), (0, (vI n))] []) = some (n, p, k) := unenc_of stXt_inj (n, p, k) rfl

theorem unstXt0 (n : Int)  : unenc stXt1 (St.mk [(9, (vI (0 : Int))), (8, (vI (1 : Int))), (2, (vI (3 : Int))), (1, (vI (1000 : Int))), (0, (vI n))] []) = some (n, 1, 0) := unenc_of stXt_inj (n, 1, 0) rfl

def outXt (n : Int) (p : Int) (k : Nat) : T (Ex × St) := .ret (.exit 0, ⟨[(8, vI 1000), (2, vI 3), (1, vI 1000), (0, vI n)], []⟩)

noncomputable def prlXt (n : Int) (p : Int) (k : Nat) : Bool := decide (p = F.p10 k) && decide (k ≤ 3)

noncomputable def lpXt : Nat × (St → T (Ex × St)) := (5, lpo [9, 8, 2, 1, 0] [] stXt1 (fun a => prlXt a.1 a.2.1 a.2.2) fun a => outXt a.1 a.2.1 a.2.2)

def stXz (n : Int) (q : List Int) (s : ByteArray) : St := ⟨[(11, vS s), (10, .sl (q.map eI)), (2, vI 3), (0, vI n)], []⟩

def stXz1 (a : Int × (List Int) × ByteArray) : St := stXz a.1 a.2.1 a.2.2

theorem stXz_inj (a a' : Int × (List Int) × ByteArray) (h : stXz1 a = stXz1 a') : a = a' := by
  simp only [stXz1, stXz] at h
  try simp [strs_inj, ints_inj, ents_inj, eEnt_iff, eLst_iff, eSnds_inj, eStrms_inj] at h
  grind

theorem unstXz (n : Int) (q : List Int) (s : ByteArray) : unenc stXz1 (St.mk [(11, (vS s)), (10, AV.sl (List.map eI q)), (2, (vI (3 : Int))), (0, (vI n))] []) = some (n, q, s) := unenc_of stXz_inj (n, q, s) rfl

def outXz (n : Int) (q : List Int) (s : ByteArray) : T (Ex × St) := .ret (.exit 2, ⟨[(11, vS (F.zrs (4 - s.size) ++ s)), (10, .sl (q.map eI)), (2, vI 3), (0, vI n)], []⟩)

noncomputable def prlXz (n : Int) (q : List Int) (s : ByteArray) : Bool := decide (s.size ≤ 1000)

noncomputable def lpXz : Nat × (St → T (Ex × St)) := (10, lpo [11, 10, 2, 0] [] stXz1 (fun a => prlXz a.1 a.2.1 a.2.2) fun a => outXz a.1 a.2.1 a.2.2)

noncomputable def enXdc : Env := envH ty noG lks [oXit, oXis, oTur, oRou, oDig] [] [] [lpXt, lpXz]

theorem enXdc_ok : EnvOK Tryz.prog enXdc := by
  refine envH_ok lks_ok ty_ok ?_ ?_
  · simp only [List.forall_mem_cons]
    exact ⟨okXit, okXis, okTur, okRou, okDig, by simp⟩
  · simp

theorem evXtL (n : Int) (p : Int) (k : Nat) : ((exec enXdc (loopN Tryz.f84 0) (stXt n p k)).bind (lessX ([9, 8, 2, 1, 0], []) ([8, 2, 1, 0], []) ([], []))).val =
  bif decide ((↑k : Int) < (3 : Int)) then some (Ex.normal, St.mk [(9, (vI (IntKind.wrap IntKind.i64 ((↑k : Int) + (1 : Int))))), (8, (vI (IntKind.wrap IntKind.i64 (p * (10
  : Int))))), (2, (vI (3 : Int))), (1, (vI (1000 : Int))), (0, (vI n))] []) else some (Ex.exit (0 : Nat), St.mk [(8, (vI p)), (2, (vI (3 : Int))), (1, (vI (1000 : Int))),
  (0, (vI n))] []) := (execR_bind _ _ _).symm.trans (by kernel_rfl)

theorem lpXt_ok (n : Int) (p : Int) (k : Nat) (hp : prlXt n p k = true) : ∀ ex s', (outXt n p k).val = some (ex, s') → LoopOK enXdc (loopN Tryz.f84 0) (stXt n p k) ex s' := by
  simp only [prlXt, Bool.and_eq_true, decide_eq_true_eq] at hp
  obtain ⟨h1, h2⟩ := hp
  subst h1
  refine loop_gen (st := fun k : Nat => stXt n (F.p10 k) k) (out := fun k => outXt n (F.p10 k) k) (I := fun k => k ≤ 3) (n := ([9, 8, 2, 1, 0], [])) (e := ([8, 2, 1, 0], [])) (r := ([], [])) (fun k => 3 - k) ?_ k h2
  clear h2
  intro k hk
  have hb : 0 ≤ F.p10 k ∧ F.p10 k ≤ 1000 := by
    match k, hk with
    | 0, _ => decide
    | 1, _ => decide
    | 2, _ => decide
    | 3, _ => decide
  have w1 : IntKind.i64.wrap (F.p10 k * 10) = F.p10 (k + 1) := by rw [wrap_id (by omega) (by omega)]; rfl
  have w2 : IntKind.i64.wrap ((k : Int) + 1) = ((k + 1 : Nat) : Int) := by rw [wrap_id (by omega) (by omega)]; rfl
  by_cases hlt : k < 3
  · right
    refine ⟨k + 1, ?_, rfl, hlt, by omega, rfl⟩
    · rw [evXtL]
      simp only [unXit, unXis, unTur, unRou, unDig, preXit1, preXis1, preTur1, preRou1, preDig1, unstXt, unstXz, unstXt0, prlXt, prlXz, outXt, outXz, etaEnt, etaLst, etaSnd, etaStrm, etaMas, Option.bind_some, List.length_map, unStrs, unInts, unBools, unEnts, unItms, unTrns, cond_true, cond_false, Bool.and_true, Bool.true_and, decide_eq_true (show (k : Int) < 3 by omega), w1, w2, stXt]
      try rfl
  · have : k = 3 := by omega
    subst this
    left
    refine ⟨(.exit 0, ⟨[(8, vI 1000), (2, vI 3), (1, vI 1000), (0, vI n)], []⟩), ?_, rfl, by simp, rfl⟩
    rw [evXtL]
    rfl

theorem evXzL (n : Int) (q : List Int) (s : ByteArray) : ((exec enXdc (loopN Tryz.f84 1) (stXz n q s)).bind (lessX ([11, 10, 2, 0], []) ([11, 10, 2, 0], []) ([], []))).val =
  bif decide ((↑(ByteArray.size s) : Int) ≤ (3 : Int)) then bif Nat.ble (ByteArray.size (ByteArray.mk (Array.mk [(48 : UInt8)])) + ByteArray.size s) (9223372036854775807 :
  Nat) then some (Ex.normal, St.mk [(11, (vS (ByteArray.mk (Array.mk [(48 : UInt8)]) ++ s))), (10, AV.sl (List.map eI q)), (2, (vI (3 : Int))), (0, (vI n))] []) else none
  else some (Ex.exit (2 : Nat), St.mk [(11, (vS s)), (10, AV.sl (List.map eI q)), (2, (vI (3 : Int))), (0, (vI n))] []) := (execR_bind _ _ _).symm.trans (by kernel_rfl)

theorem lpXz_ok (n : Int) (q : List Int) (s : ByteArray) (hp : prlXz n q s = true) : ∀ ex s', (outXz n q s).val = some (ex, s') → LoopOK enXdc (loopN Tryz.f84 1) (stXz n q s) ex s' := by
  simp only [prlXz, Bool.and_eq_true, decide_eq_true_eq] at hp
  refine loop_gen (st := fun s : ByteArray => stXz n q s) (out := fun s => outXz n q s) (I := fun s => s.size ≤ 1000) (n := ([11, 10, 2, 0], [])) (e := ([11, 10, 2, 0], [])) (r := ([], [])) (fun s => 4 - s.size) ?_ s hp
  clear hp
  intro s hs
  by_cases h : s.size ≤ 3
  · right
    have e1 : ((⟨⟨[48]⟩⟩ : ByteArray) ++ s).size = s.size + 1 := by rw [ByteArray.size_append]; show 1 + s.size = _; omega
    refine ⟨⟨⟨[48]⟩⟩ ++ s, ?_, rfl, by omega, by omega, ?_⟩
    · rw [evXzL]
      simp only [unXit, unXis, unTur, unRou, unDig, preXit1, preXis1, preTur1, preRou1, preDig1, unstXt, unstXz, unstXt0, prlXt, prlXz, outXt, outXz, etaEnt, etaLst, etaSnd, etaStrm, etaMas, Option.bind_some, List.length_map, unStrs, unInts, unBools, unEnts, unItms, unTrns, cond_true, cond_false, Bool.and_true, Bool.true_and, decide_eq_true (show (s.size : Int) ≤ 3 by omega)]
      rw [ble_t (show (ByteArray.mk (Array.mk [48])).size + s.size ≤ 9223372036854775807 by show 1 + s.size ≤ _; omega)]
      rfl
    · have e2 : 4 - s.size = (4 - (s.size + 1)) + 1 := by omega
      simp only [outXz, e1]
      rw [e2, F.zrs_succ]
  · left
    refine ⟨(.exit 2, ⟨[(11, vS s), (10, .sl (q.map eI)), (2, vI 3), (0, vI n)], []⟩), ?_, ?_, by simp, rfl⟩
    · rw [evXzL]
      simp only [unXit, unXis, unTur, unRou, unDig, preXit1, preXis1, preTur1, preRou1, preDig1, unstXt, unstXz, unstXt0, prlXt, prlXz, outXt, outXz, etaEnt, etaLst, etaSnd, etaStrm, etaMas, Option.bind_some, List.length_map, unStrs, unInts, unBools, unEnts, unItms, unTrns, cond_true, cond_false, Bool.and_true, Bool.true_and, decide_eq_false (show ¬ (s.size : Int) ≤ 3 by omega)]
    · simp only [outXz]
      rw [show 4 - s.size = 0 by omega, F.zrs_zero]
      rfl

theorem evXdc (n : Int) : (runF enXdc false Tryz.f84 [vI n, vI 1000, vI 3]).val =
  (fun (q : ByteArray) => (fun (q_1 : Option (AV × Heap)) => Option.bind (unenc encXit [(vI n)]) fun (z : Int) => bif !!(decide ((-1000000000000000 : Int) ≤ z) && decide (z
  ≤ (1000000000000000 : Int))) then Option.bind (unenc encXis [(vI (1000 : Int))]) fun (z : Int) => bif bif bif !(decide ((1 : Int) ≤ z) && decide (z ≤ (1000000000 : Int)))
  then true else decide ((3 : Int) < (0 : Int)) then true else decide ((9 : Int) < (3 : Int)) then q_1 else Option.bind (unenc stXt1 (St.mk [(9, (vI (0 : Int))), (8, (vI (1
  : Int))), (2, (vI (3 : Int))), (1, (vI (1000 : Int))), (0, (vI n))] [])) fun (z : Int × Int × Nat) => bif decide (z.snd.fst = F.p10 z.snd.snd) && decide (z.snd.snd ≤ (3 :
  Nat)) && true then Option.bind (unenc encTur [(vI z.fst), (vI (1000 : Int)), (vI (1000 : Int))]) fun (z_1 : Int × Int × Int) => (fun (q_2 : Nat) => bif decide
  ((-9223372036854775808 : Int) ≤ z_1.fst) && decide (z_1.fst ≤ (9223372036854775807 : Int)) && decide ((1 : Int) ≤ z_1.snd.fst) && decide (z_1.snd.fst ≤
  (9223372036854775807 : Int)) && decide ((1 : Int) ≤ z_1.snd.snd) && decide (z_1.snd.snd ≤ (9223372036854775807 : Int)) then Option.bind (unenc encRou [AV.agg [(vB (decide
  (z_1.fst < (0 : Int)) && decide ((0 : Nat) < q_2))), AV.sl (List.map eI (F.lowT q_2 (Int.natAbs z_1.snd.fst))), AV.sl (List.map eI (F.lowB q_2 (Int.natAbs z_1.snd.fst)))],
  (vI (2 : Int))]) fun (z_2 : Bool × List Int × List Int × Int) => (fun (q_3 : AV) => bif F.nk (200 : Nat) z_2.snd.fst && F.nk (200 : Nat) z_2.snd.snd.fst && decide ((0 :
  Nat) < F.nv z_2.snd.snd.fst) then Option.bind (unenc encDig [q_3]) fun (z_3 : List Int) => bif F.nk (200 : Nat) z_3 then Option.bind (unenc stXz1 (St.mk [(11, (vS (F.itoa
  (↑(F.nv z_3) : Int)))), (10, q_3), (2, (vI (3 : Int))), (0, (vI z.fst))] [])) fun (z : Int × List Int × ByteArray) => (fun (q_4 : ByteArray) => (fun (q_5 : Nat) => (fun
  (q_6 : Option Nat) => bif decide (ByteArray.size z.snd.snd ≤ (1000 : Nat)) && true then Option.bind q_6 fun (z_4 : Nat) => (fun (q_7 : ByteArray) => bif Nat.ble (0 : Nat)
  z_4 && Nat.ble z_4 q_5 then bif Nat.ble (ByteArray.size (ByteArray.extract q_4 (0 : Nat) z_4) + ByteArray.size q) (9223372036854775807 : Nat) then Option.bind q_6 fun (z_5
  : Nat) => bif Nat.ble z_5 q_5 && Nat.ble q_5 q_5 then bif Nat.ble (ByteArray.size q_7 + ByteArray.size (ByteArray.extract q_4 z_5 q_5)) (9223372036854775807 : Nat) then
  bif bif decide (z.fst < (0 : Int)) then decide ((0 : Int) < (↑(List.length (List.map eI z.snd.fst)) : Int)) else false then bif Nat.ble (ByteArray.size (ByteArray.mk
  (Array.mk [(45 : UInt8)])) + ByteArray.size (q_7 ++ ByteArray.extract q_4 z_5 q_5)) (9223372036854775807 : Nat) then some (AV.tup [(vS (ByteArray.mk (Array.mk [(45 :
  UInt8)]) ++ (q_7 ++ ByteArray.extract q_4 z_5 q_5))), (vI (0 : Int))], []) else none else some (AV.tup [(vS (q_7 ++ ByteArray.extract q_4 z_5 q_5)), (vI (0 : Int))], [])
  else none else none else none else none) (ByteArray.extract q_4 (0 : Nat) z_4 ++ q) else none) (idx (IntKind.wrap IntKind.i64 ((↑q_5 : Int) - (3 : Int))))) (ByteArray.size
  q_4)) (F.zrs ((4 : Nat) - ByteArray.size z.snd.snd) ++ z.snd.snd) else none else none) (AV.sl (List.map eI (F.lb (F.rndU z_2.snd.snd.snd z_2.fst (F.nv z_2.snd.fst) (F.nv
  z_2.snd.snd.fst))))) else none) (Int.natAbs z_1.fst * Int.natAbs z_1.snd.snd) else none else q_1) (some (AV.tup [(vS (ByteArray.mk (Array.mk []))), (vI (1 : Int))], [])))
  (ByteArray.mk (Array.mk [(46 : UInt8)])) := (runFR_val).symm.trans (by kernel_rfl)

def encXdc1 (n : Int) : List AV := [vI n, vI 1000, vI 3]

def encXdc (a : Int) : List AV := encXdc1 a

theorem encXdc_inj (a a' : Int) (h : encXdc a = encXdc a') : a = a' := by
  simp only [encXdc, encXdc1] at h
  try simp [strs_inj, ints_inj, ents_inj, eEnt_iff, eLst_iff, eSnds_inj, eStrms_inj] at h
  grind

theorem unXdc (n : Int) : unenc encXdc ([(vI n), (vI (1000 : Int)), (vI (3 : Int))]) = some (n) := unenc_of encXdc_inj (n) rfl

def resXdc1 (n : Int) : AV × Heap := (.tup [vS (F.tmS n), vI 0], [])

def preXdc1 (n : Int) : Bool := decide (0 ≤ n) && decide (n ≤ 3600000)

noncomputable def oXdc : Orc := orc 84 true encXdc (fun a => preXdc1 a) fun a => resXdc1 a

theorem okXdc : OrcOK Tryz.prog noG oXdc := by
  refine mk_ok Tryz.f84 (keep := false) (by kernel_rfl) (by kernel_rfl) enXdc_ok mixed (two_loops (x0 := loopN Tryz.f84 0) (x1 := loopN Tryz.f84 1) (by kernel_rfl) (lpo_ok ?_) (lpo_ok ?_)) (by first | exact fun _ _ => ⟨rfl, rfl⟩ | (intro h; cases h)) ?_
  · rintro ⟨n, p, k⟩ hp
    exact lpXt_ok n p k hp
  · rintro ⟨n, q, s⟩ hp
    exact lpXz_ok n q s hp
  rintro n hpre hok
  show (runF enXdc false _ (encXdc1 _)).val = some (resXdc1 _)
  unfold encXdc1 resXdc1
  rw [evXdc]
  simp only [preXdc1, Bool.and_eq_true, decide_eq_true_eq] at hpre
  obtain ⟨h1, h2⟩ := hpre
  obtain ⟨N, rfl⟩ := Int.eq_ofNat_of_zero_le h1
  have eT : F.lowT ((N : Int).natAbs * Int.natAbs 1000) (Int.natAbs 1000) = F.lb N := by
    show F.lb (N * 1000 / Nat.gcd 1000 (N * 1000)) = _
    rw [Nat.gcd_eq_left (Nat.dvd_mul_left 1000 N), Nat.mul_div_cancel N (by decide)]
  have eB : F.lowB ((N : Int).natAbs * Int.natAbs 1000) (Int.natAbs 1000) = F.lb 1 := by
    show F.lb (1000 / Nat.gcd 1000 (N * 1000)) = _
    rw [Nat.gcd_eq_left (Nat.dvd_mul_left 1000 N)]
  have eR : F.rndU 2 false N 1 = N := by
    unfold F.rndU F.rndUp
    rw [Nat.mod_one, Nat.div_one]
    rfl
  have hn : decide ((N : Int) < 0) = false := decide_eq_false (by omega)
  have n1 : F.nk 200 (F.lb N) = true := nk_le (k := 200) (show N < 10000 ^ 2 by omega) (by decide)
  have n2 : F.nk 200 (F.lb 1) = true := nk_lb1 (by decide)
  have k1 : decide ((1 : Int) ≤ 1000) = true := rfl
  have k2 : decide ((1000 : Int) ≤ 1000000000) = true := rfl
  have k3 : decide ((1000 : Int) ≤ 9223372036854775807) = true := rfl
  have k4 : decide ((3 : Int) < 0) = false := rfl
  have k5 : decide ((9 : Int) < 3) = false := rfl
  have k6 : decide ((1 : Int) = F.p10 0) = true := rfl
  have k7 : decide ((0 : Nat) ≤ 3) = true := rfl
  have k8 : decide ((0 : Nat) < 1) = true := rfl
  have t0 := F.itoa_size (n := (N : Int)) (by omega) (by omega)
  simp only [unXit, unXis, unTur, unRou, unDig, preXit1, preXis1, preTur1, preRou1, preDig1, unstXt, unstXz, unstXt0, prlXt, prlXz, outXt, outXz, etaEnt, etaLst, etaSnd, etaStrm, etaMas, Option.bind_some, List.length_map, unStrs, unInts, unBools, unEnts, unItms, unTrns, cond_true, cond_false, Bool.and_true, Bool.true_and, eT, eB, eR, hn, n1, n2, F.nv_lb, k1, k2, k3, k4, k5, k6, k7, k8, Bool.false_and, decide_eq_true (show -1000000000000000 ≤ (N : Int) by omega), decide_eq_true (show (N : Int) ≤ 1000000000000000 by omega), decide_eq_true (show -9223372036854775808 ≤ (N : Int) by omega), decide_eq_true (show (N : Int) ≤ 9223372036854775807 by omega), decide_eq_true (show (F.itoa (N : Int)).size ≤ 1000 by omega), Bool.not_true, Bool.not_false]
  have hP : F.zrs (4 - (F.itoa (N : Int)).size) ++ F.itoa (N : Int) = F.pad (N : Int) 4 := rfl
  rw [hP]
  obtain ⟨z1, z2, z3⟩ := F.pad4_cut N
  have zz : (F.pad (N : Int) 4).size ≤ 31 := F.pad_size (n := (N : Int)) (by omega) (by omega) (m := 4) (by decide)
  clear hP
  have hi : idx (IntKind.i64.wrap (((F.pad (N : Int) 4).size : Int) - 3)) = some ((F.pad (N : Int) 4).size - 3) := by
    rw [wrap_id (by omega) (by omega), show ((F.pad (N : Int) 4).size : Int) - 3 = (((F.pad (N : Int) 4).size - 3 : Nat) : Int) by omega]
    rfl
  have hq : (N : Int).tdiv 1000 = ((N / 1000 : Nat) : Int) := rfl
  have hx : (N : Int).tmod 1000 = ((N % 1000 : Nat) : Int) := rfl
  have t1 := F.itoa_size (n := ((N / 1000 : Nat) : Int)) (by omega) (by omega)
  have t2 := F.pad_size' (N % 1000) (by omega)
  have e1 : (⟨⟨[46]⟩⟩ : ByteArray).size = 1 := rfl
  have e2 : F.dot = ⟨⟨[46]⟩⟩ := rfl
  unfold F.tmS
  rw [hq, hx, e2]
  simp only [hi, Option.bind_some, z2, z3]
  simp (disch := omega) only [ByteArray.size_append, e1, t2, ble_t, Bool.and_self, cond_true]

end M

theorem bld_und : Tryz.prog.underlying 79 = some (.slice 5) := by kernel_rfl

theorem bld_str : Tryz.prog.underlying 9 = some .string := by kernel_rfl

theorem bld_info : (Tryz.prog.info? 5).map (fun i => (i.zero, i.size, i.bytes)) = some (some (.int .u8 0), 1, 1) := by kernel_rfl

def BufAt (w : World) (v : Value) (own : Option Nat) (xs : List Value) : Prop :=
  (∃ A, v = .slice A 0 0 ∧ xs = [] ∧ own = none) ∨
  (∃ g cap cur, own = some g ∧ v = .slice (some ⟨g, 0, none⟩) xs.length cap ∧ w.heap[g]? = some (.cells cur 5 (0, 0)) ∧ xs.length ≤ cap ∧ cap ≤ 9223372036854775807 ∧ cur.size = cap ∧ cur.toList.take xs.length = xs)

theorem BufAt.kept {w w' : World} {v : Value} {own : Option Nat} {xs : List Value} (h : BufAt w v own xs) (hb : ∀ g, own = some g → w'.heap[g]? = w.heap[g]?) : BufAt w' v own xs := by
  rcases h with h | ⟨g, cap, cur, h1, h2, h3, h4⟩
  · exact .inl h
  · exact .inr ⟨g, cap, cur, h1, h2, by rw [hb g h1]; exact h3, h4⟩

theorem buf_new (w : World) (cs : Array Value) (xs : List Value) (C : Nat) (h1 : cs.size = C) (h2 : xs.length ≤ C) (h3 : C ≤ 9223372036854775807) (h4 : cs.toList.take xs.length = xs) (row : Option Nat) :
    BufAt (w.drew.alloc (.cells cs 5)) (.slice (some ⟨w.heap.size, 0, none⟩) xs.length C) (some w.heap.size) xs ∧ w.grownBy (w.drew.alloc (.cells cs 5)) row := by
  refine ⟨.inr ⟨w.heap.size, C, cs, rfl, rfl, ?_, h2, h3, h1, h4⟩, rfl, rfl, rfl, ?_, fun k hk _ => ?_⟩
  · show (w.heap.push _)[w.heap.size]? = _
    simp
  · show _ ≤ (w.heap.push _).size
    simp
  · show (w.heap.push _)[k]? = _
    rw [Array.getElem?_push, if_neg (by omega)]

theorem strCells_len (s : ByteArray) : (Lib.strCells s).length = s.size := Lib.strCells_length s

theorem run_app_str (w : World) (ty : TypeId) {v : Value} {own : Option Nat} {xs : List Value} (h : BufAt w v own xs) (s : ByteArray) (hlen : xs.length + s.size ≤ 140737488355328) :
    ∃ v' w' own', (Builtin.append_ #[79, 9] ty #[v, .string s]).run Tryz.prog w = .ok v' w' ∧ BufAt w' v' own' (xs ++ Lib.strCells s) ∧ w.grownBy w' own ∧ (∀ g, own' = some g → own = some g ∨ w.heap.size ≤ g) := by
  obtain ⟨i0, hi, hz0, hz1, hz2⟩ := info_parts bld_info
  have hl := strCells_len s
  have hgC : ∀ n old, n ≤ 140737488355328 → n ≤ grownCap w n old 5 ∧ grownCap w n old 5 ≤ 9223372036854775807 := fun n old hn =>
    ⟨grownCap_ge w n old _, by have := grownCap_le_maxLen w n old 5 (by unfold maxLen; omega); unfold maxLen at this; omega⟩
  have h0c : (Value.int IntKind.u8 0).cells.size = 1 := rfl
  rcases h with ⟨A, rfl, rfl, rfl⟩ | ⟨g, cap, cur, rfl, rfl, hg, hnc, hcm, hcs, ht⟩
  · simp only [List.length_nil, Nat.zero_add] at hlen
    by_cases hs : s.size = 0
    · have hn : Lib.strCells s = [] := List.eq_nil_of_length_eq_zero (by rw [hl]; exact hs)
      refine ⟨.slice A 0 0, w, none, ?_, .inl ⟨A, rfl, by rw [hn]; rfl, rfl⟩, ⟨rfl, rfl, rfl, Nat.le_refl _, fun _ _ _ => rfl⟩, fun g hg => by cases hg⟩
      have hf := Lib.run_firstCells_string (P := Tryz.prog) w 1 s
      rw [hs, hn] at hf
      cases A <;> simp [Builtin.append_, run_underlying bld_und, run_underlying bld_str, sizeOf, typeInfo, hi, hz1, Builtin.lenOf, hs, hf, storeCells]
    · obtain ⟨c1, c2⟩ := hgC s.size 0 hlen
      cases A with
      | none =>
        have hr := run_append_nil_string (P := Tryz.prog) w 79 9 ty 5 i0 _ bld_und bld_str hi hz0 s (by omega) (by omega) (by rw [hz2]; omega)
        have e1 : (s.data.map fun b => Value.int .u8 b.toNat) = (Lib.strCells s).toArray := by
          apply Array.ext'
          simp [Lib.strCells]
        rw [e1] at hr
        obtain ⟨k1, k2⟩ := buf_new w ((Lib.strCells s).toArray ++ Builtin.zeroCells (Value.int .u8 0).cells (grownCap w s.size 0 5 - s.size)) (Lib.strCells s) (grownCap w s.size 0 5)
          (by rw [Array.size_append, size_zeroCells, h0c, List.size_toArray, hl]; omega) (by rw [hl]; exact c1) c2 (by rw [Array.toList_append]; exact List.take_left) none
        rw [hl] at k1
        exact ⟨_, _, _, hr, by rw [List.nil_append]; exact k1, k2, fun g hg => .inr (by cases hg; exact Nat.le_refl _)⟩
      | some a =>
        have hr := Lib.run_append_grow_string (P := Tryz.prog) w 79 9 ty 5 i0 _ bld_und bld_str hi hz0 a 0 0 [] (by simp) (fun j v hj => by simp at hj) s (by omega) (by omega) (by rw [hz2]; exact growslice_fits (by omega) (by omega))
        simp only [Nat.zero_add] at hr
        obtain ⟨k1, k2⟩ := buf_new w (([] : List Value).toArray ++ (Lib.strCells s).toArray ++ Builtin.zeroCells (Value.int .u8 0).cells (grownCap w s.size 0 5 - s.size)) (Lib.strCells s) (grownCap w s.size 0 5)
          (by rw [Array.size_append, Array.size_append, size_zeroCells, h0c, List.size_toArray, List.size_toArray, hl]; simp; omega) (by rw [hl]; exact c1) c2 (by rw [Array.toList_append, Array.toList_append]; exact List.take_left) none
        rw [hl] at k1
        exact ⟨_, _, _, hr, by rw [List.nil_append]; exact k1, k2, fun g hg => .inr (by cases hg; exact Nat.le_refl _)⟩
  · by_cases hroom : xs.length + s.size ≤ cap
    · have hr := Lib.run_append_room_string (P := Tryz.prog) w 79 9 ty 5 i0 bld_und bld_str hi hz1 g xs.length cap cur hg s hroom (by omega)
      have hl2 : (xs ++ Lib.strCells s).length = xs.length + s.size := by rw [List.length_append, hl]
      refine ⟨_, _, some g, hr, .inr ⟨g, cap, _, rfl, by rw [hl2], setRow_heap w g cur _ _ _ hg, by rw [hl2]; exact hroom, hcm, ?_, ?_⟩, ⟨rfl, rfl, rfl, by simp, fun k _ hk => setRow_other w g k _ (fun e => hk (by rw [e]))⟩, fun g' hg' => .inl hg'⟩
      · simp only [List.size_toArray, List.length_append, List.length_take, List.length_drop, Array.length_toList, hl]
        omega
      · rw [ht]
        exact List.take_left
    · have holds : ∀ j u, xs[j]? = some u → w.cell? ((⟨g, 0, none⟩ : Addr).add j) = some u := fun j u hu => by
        have hj := (List.getElem?_eq_some_iff.1 hu).1
        have e : (cur.toList.take xs.length)[j]? = some u := by rw [ht]; exact hu
        rw [List.getElem?_take, if_pos hj] at e
        rw [Addr.add_lit, Nat.zero_add]
        simp only [World.cell?, hg]
        simpa using e
      obtain ⟨c1, c2⟩ := hgC (xs.length + s.size) cap hlen
      have hr := Lib.run_append_grow_string (P := Tryz.prog) w 79 9 ty 5 i0 _ bld_und bld_str hi hz0 ⟨g, 0, none⟩ xs.length cap xs (by rw [hz1]; simp) holds s (by omega) (by omega) (by rw [hz2]; exact growslice_fits (by omega) (by omega))
      have hl2 : (xs ++ Lib.strCells s).length = xs.length + s.size := by rw [List.length_append, hl]
      obtain ⟨k1, k2⟩ := buf_new w (xs.toArray ++ (Lib.strCells s).toArray ++ Builtin.zeroCells (Value.int .u8 0).cells (grownCap w (xs.length + s.size) cap 5 - (xs.length + s.size))) (xs ++ Lib.strCells s) (grownCap w (xs.length + s.size) cap 5)
        (by rw [Array.size_append, Array.size_append, size_zeroCells, h0c, List.size_toArray, List.size_toArray, hl]; omega) (by rw [hl2]; exact c1) c2 (by rw [Array.toList_append, Array.toList_append]; exact List.take_left) (some g)
      rw [hl2] at k1
      exact ⟨_, _, _, hr, k1, k2, fun g' hg' => .inr (by cases hg'; exact Nat.le_refl _)⟩

def bldRen : Go.Shelf.Ren := ⟨fun | 240 => 75 | 276 => 95 | n => n, fun | 0 => 0 | 4 => 4 | 9 => 9 | 20 => 20 | 37 => 79 | 70 => 78 | 72 => 81 | 164 => 126 | n => n, fun | n => n⟩

theorem bldLays : Go.Proofs.Lays.n240 Tryz.prog bldRen := {
  mixed := by kernel_rfl
  f240 := Tryz.func75.trans (congrArg some (by kernel_rfl))
  f276 := Tryz.func95.trans (congrArg some (by kernel_rfl))
  t0 := Tryz.underlying0
  a0 := Tryz.isAgg0
  z0 := Tryz.sizeOf0
  v0 := Tryz.zeroValue0
  t4 := Tryz.underlying4
  a4 := Tryz.isAgg4
  z4 := Tryz.sizeOf4
  v4 := Tryz.zeroValue4
  t9 := Tryz.underlying9
  a9 := Tryz.isAgg9
  z9 := Tryz.sizeOf9
  v9 := Tryz.zeroValue9
  t20 := Tryz.underlying20
  a20 := Tryz.isAgg20
  z20 := Tryz.sizeOf20
  v20 := Tryz.zeroValue20
  t70 := Tryz.underlying78
  a70 := Tryz.isAgg78
  z70 := Tryz.sizeOf78
  v70 := Tryz.zeroValue78
  t72 := Tryz.underlying81
  a72 := Tryz.isAgg81
  z72 := Tryz.sizeOf81
  v72 := Tryz.zeroValue81
  t164 := Tryz.underlying126
  a164 := Tryz.isAgg126
  z164 := Tryz.sizeOf126
  v164 := Tryz.zeroValue126 }

theorem bldX : Builder.X72 Tryz.prog bldRen := ⟨by kernel_rfl, by kernel_rfl⟩

structure Stays (w w' : World) (k : Nat → Prop) : Prop where
  os : w'.os = w.os
  tape : w'.tape = w.tape
  output : w'.output = w.output
  size : w.heap.size ≤ w'.heap.size
  block : ∀ b, b < w.heap.size → k b → w'.heap[b]? = w.heap[b]?

theorem bld_check (b : Nat) (p v : Value) (hp : p = .pointer none ∨ p = .pointer (some ⟨b, 0, none⟩)) (w : World) (hbk : w.heap[b]? = some (.cells #[p, v] 81 (0, 0))) :
    Calls Tryz.prog 75 #[.pointer (some ⟨b, 0, none⟩)] w fun e w' => e = .returned (.tuple #[]) ∧ w'.heap[b]? = some (.cells #[.pointer (some ⟨b, 0, none⟩), v] 81 (0, 0)) ∧ w'.heap.size = w.heap.size ∧ Stays w w' (fun k => k ≠ b) := by
  have hc0 : w.cell? ⟨b, 0, none⟩ = some p := by rw [Lib.cell_of_heap hbk]; rfl
  rcases hp with rfl | rfl
  · refine (Any.Builder_copyCheck_fresh bldLays bldX b w hc0 (by simp [World.shape?, hbk]; rfl) (by simp [World.frozen?, hbk])).mono ?_
    rintro e w' ⟨rfl, rfl⟩
    exact ⟨rfl, by simp [World.setCell, Array.getElem?_modify, hbk], by simp [World.setCell], rfl, rfl, rfl, by simp [World.setCell], fun k _ hk => Below.heap_setCell _ _ _ _ (fun e => hk (by simpa using e))⟩
  · refine (Any.Builder_copyCheck_used bldLays bldX b w hc0).mono ?_
    rintro e w' ⟨rfl, rfl⟩
    exact ⟨rfl, hbk, rfl, rfl, rfl, rfl, Nat.le_refl _, fun _ _ _ => rfl⟩

set_option maxHeartbeats 4000000 in
set_option maxRecDepth 100000 in
theorem bld_write (b : Nat) (p v : Value) (own : Option Nat) (xs : List Value) (s : ByteArray) (hp : p = .pointer none ∨ p = .pointer (some ⟨b, 0, none⟩)) (w : World) (hbk : w.heap[b]? = some (.cells #[p, v] 81 (0, 0)))
    (hbuf : BufAt w v own xs) (hne : own ≠ some b) (hlen : xs.length + s.size ≤ 140737488355328) :
    Calls Tryz.prog 50 #[.pointer (some ⟨b, 0, none⟩), .string s] w fun e w' => e = .returned (.tuple #[.int .i64 s.size, .nilIface]) ∧ ∃ v' own', w'.heap[b]? = some (.cells #[.pointer (some ⟨b, 0, none⟩), v'] 81 (0, 0)) ∧
      BufAt w' v' own' (xs ++ Lib.strCells s) ∧ own' ≠ some b ∧ (∀ g, own' = some g → own = some g ∨ w.heap.size ≤ g) ∧ Stays w w' (fun k => k ≠ b ∧ own ≠ some k) := by
  go_enter Tryz.func50, Tryz.ntmps50
  go_wp2_with (go_at_call 75; refine (bld_check b p v hp _ hbk).mono ?_)
  rintro e w1 ⟨rfl, hb1, hsz, hst⟩
  have hlt : b < w.heap.size := (Array.getElem?_eq_some_iff.1 hbk).1
  have hbuf1 : BufAt w1 v own xs := hbuf.kept fun g hg => by
    rcases hbuf with ⟨A, _, _, h⟩ | ⟨g', cap, cur, h1, h2, h3, _⟩
    · rw [h] at hg; cases hg
    · rw [hg] at h1
      cases h1
      exact hst.block g (Array.getElem?_eq_some_iff.1 h3).1 (fun e => hne (by rw [hg, e]))
  obtain ⟨v', w2, own', hr, hb2, hg2, hn2⟩ := run_app_str w1 79 hbuf1 s hlen
  have c0 : w1.cell? ⟨b, 0, none⟩ = some (.pointer (some ⟨b, 0, none⟩)) := by rw [Lib.cell_of_heap hb1]; rfl
  have c1 : w1.cell? ⟨b, 1, none⟩ = some v := by rw [Lib.cell_of_heap hb1]; rfl
  have hB2 : w2.heap[b]? = some (.cells #[.pointer (some ⟨b, 0, none⟩), v] 81 (0, 0)) := by
    rw [hg2.block b (by omega) (fun e => hne e.symm)]; exact hb1
  have d0 : w2.cell? ⟨b, 0, none⟩ = some (.pointer (some ⟨b, 0, none⟩)) := by rw [Lib.cell_of_heap hB2]; rfl
  have d1 : w2.cell? ⟨b, 1, none⟩ = some v := by rw [Lib.cell_of_heap hB2]; rfl
  have f1 : w2.frozen? ⟨b, 1, none⟩ = false := Lib.frozen_of_heap hB2 1
  have hne2 : own' ≠ some b := fun e => by
    rcases hn2 b e with h | h
    · exact hne h
    · omega
  obtain ⟨ao, n', cap, rfl⟩ : ∃ ao n' cap, v' = .slice ao n' cap := by
    rcases hb2 with ⟨A, h, _⟩ | ⟨g, cap, cur, _, h, _⟩
    · exact ⟨_, _, _, h⟩
    · exact ⟨_, _, _, h⟩
  go_wp2_with (at_builtin; refine Lib.wpList_append_run _ rfl _ _ _ _ rfl _ _ rfl rfl _ _ hr ?_)
  go_ret2
  have hS : ∀ k, k ≠ b → (w2.setCell ⟨b, 1, none⟩ (.slice ao n' cap)).heap[k]? = w2.heap[k]? := fun k hk => Below.heap_setCell _ _ _ _ (fun e => hk (by simpa using e))
  have hZ : (w2.setCell ⟨b, 1, none⟩ (.slice ao n' cap)).heap.size = w2.heap.size := by simp [World.setCell]
  refine ⟨rfl, .slice ao n' cap, own', ?_, hb2.kept fun g hg => hS g (fun e => hne2 (by rw [hg, e])), hne2, fun g hg => by have := hn2 g hg; rw [hsz] at this; exact this, ?_, ?_, ?_, ?_, ?_⟩
  · simp [World.setCell, Array.getElem?_modify, hB2]
  · exact hg2.os.trans hst.os
  · exact hg2.tape.trans hst.tape
  · exact hg2.output.trans hst.output
  · rw [hZ]; have := hg2.size; omega
  · rintro k hk ⟨k1, k2⟩
    rw [hS k k1, hg2.block k (by omega) (fun e => k2 e.symm)]
    exact hst.block k hk k1

theorem frz_block (w : World) (g n k : Nat) (h : k ≠ g) : (w.freeze ⟨g, 0, none⟩ n).heap[k]? = w.heap[k]? := by
  unfold World.freeze
  split
  · rfl
  · simp only [Array.getElem?_modify]
    rw [if_neg (fun e => h e.symm)]

theorem frz_stays (w : World) (g n : Nat) : Stays w (w.drew.freeze ⟨g, 0, none⟩ n) (fun k => k ≠ g) := by
  have h : ∀ k, k ≠ g → (w.drew.freeze ⟨g, 0, none⟩ n).heap[k]? = w.drew.heap[k]? := fun k hk => frz_block _ _ _ _ hk
  refine ⟨?_, ?_, ?_, ?_, fun k _ hk => h k hk⟩
  all_goals (unfold World.freeze; split <;> first | rfl | exact Nat.le_refl _ | (rw [Array.size_modify]; exact Nat.le_refl _))

set_option maxHeartbeats 4000000 in
set_option maxRecDepth 100000 in
theorem bld_string (b g cap : Nat) (p : Value) (cur : Array Value) (l : List UInt8) (w : World) (hbk : w.heap[b]? = some (.cells #[p, .slice (some ⟨g, 0, none⟩) l.length cap] 81 (0, 0)))
    (hg : w.heap[g]? = some (.cells cur 5 (0, 0))) (hle : l.length ≤ cap) (hcap : cap ≤ 9223372036854775807) (hcs : cur.size = cap) (ht : cur.toList.take l.length = Lib.byteCells l) (h0 : l ≠ []) :
    Calls Tryz.prog 55 #[.pointer (some ⟨b, 0, none⟩)] w fun e w' => e = .returned (.string ⟨l.toArray⟩) ∧ Stays w w' (fun k => k ≠ g) := by
  have hl0 : l.length ≠ 0 := by simpa using h0
  have c1 : w.drew.cell? ⟨b, 1, none⟩ = some (.slice (some ⟨g, 0, none⟩) l.length cap) := by
    have : w.drew.heap[b]? = some (.cells #[p, .slice (some ⟨g, 0, none⟩) l.length cap] 81 (0, 0)) := hbk
    rw [Lib.cell_of_heap this]; rfl
  have hSD : (Builtin.unsafeSliceData_ #[79] 116 #[.slice (some ⟨g, 0, none⟩) l.length cap]).run Tryz.prog w.drew = .ok (.pointer (some ⟨g, 0, none⟩)) w.drew :=
    Lib.run_unsafeSliceData_row _ _ _ _ _ _ (by omega)
  have hUS : (Builtin.unsafeString_ #[116, 3] 9 #[.pointer (some ⟨g, 0, none⟩), .int .i64 l.length]).run Tryz.prog w.drew = .ok (.string ⟨l.toArray⟩) (w.drew.freeze ⟨g, 0, none⟩ l.length) := by
    refine Lib.run_unsafeString_row w.drew _ _ _ 5 Tryz.underlying116 (by kernel_rfl) g cur.size (by have hg' : w.drew.heap[g]? = some (.cells cur 5 (0, 0)) := hg; simp [World.shape?, hg']) l h0 (by omega) (by omega) ?_
    intro j x hx
    have hj := (List.getElem?_eq_some_iff.1 hx).1
    have e : (cur.toList.take l.length)[j]? = some (.int .u8 x.toNat) := by rw [ht]; simp [Lib.byteCells, hx]
    rw [List.getElem?_take, if_pos hj] at e
    have hg' : w.drew.heap[g]? = some (.cells cur 5 (0, 0)) := hg
    rw [Addr.add_lit, Nat.zero_add]
    simp only [World.cell?, hg']
    simpa using e
  go_enter Tryz.func55, Tryz.ntmps55
  go_wp2
  go_region
  all_goals (go_wp2; go_ret; exact ⟨rfl, frz_stays w g l.length⟩)

set_option maxHeartbeats 4000000 in
set_option maxRecDepth 100000 in
theorem bld_string_nil (b : Nat) (p : Value) (w : World) (hbk : w.heap[b]? = some (.cells #[p, .slice none 0 0] 81 (0, 0))) :
    Calls Tryz.prog 55 #[.pointer (some ⟨b, 0, none⟩)] w fun e w' => e = .returned (.string ⟨#[]⟩) ∧ Stays w w' (fun _ => True) := by
  have hUS : ∀ W : World, (Builtin.unsafeString_ #[116, 3] 9 #[.pointer none, .int .i64 0]).run Tryz.prog W = .ok (.string .empty) W := fun W => Lib.run_unsafeString_none W _ _ _ _
  have c1 : w.drew.cell? ⟨b, 1, none⟩ = some (.slice none 0 0) := by
    have : w.drew.heap[b]? = some (.cells #[p, .slice none 0 0] 81 (0, 0)) := hbk
    rw [Lib.cell_of_heap this]; rfl
  have hSD : (Builtin.unsafeSliceData_ #[79] 116 #[.slice none 0 0]).run Tryz.prog w.drew = .ok (.pointer none) w.drew := rfl
  go_enter Tryz.func55, Tryz.ntmps55
  go_wp2
  go_region
  all_goals (go_wp2; go_ret; exact ⟨rfl, rfl, rfl, rfl, Nat.le_refl _, fun _ _ _ => rfl⟩)

def F.eU (b : UInt8) : M.Row := [.v (.int .u8 b.toNat)]

def F.eUs (s : ByteArray) : List M.Row := s.data.toList.map F.eU

def F.bldS (o : Option ByteArray) : ByteArray := match o with
  | none => ⟨⟨[]⟩⟩
  | some s => s

def F.bldLen (o : Option ByteArray) : Nat := match o with
  | none => 0
  | some s => s.size

theorem F.bldS_some (s : ByteArray) : F.bldS (some s) = s := rfl

theorem F.bldLen_some (s : ByteArray) : F.bldLen (some s) = s.size := rfl

def F.wstB (o : Option ByteArray) (x : ByteArray) : Bool := decide (F.bldLen o + x.size ≤ 140737488355328)

def F.bstB (o : Option ByteArray) : Bool := o.isNone || decide (0 < (F.bldS o).size)

theorem F.wstB_none {x : ByteArray} (h : x.size ≤ 140737488355328) : F.wstB none x = true := decide_eq_true (by show 0 + x.size ≤ _; omega)

theorem F.wstB_some {s x : ByteArray} (h : s.size + x.size ≤ 140737488355328) : F.wstB (some s) x = true := decide_eq_true h

theorem F.bstB_some {s : ByteArray} (h : 0 < s.size) : F.bstB (some s) = true := by
  have : decide (0 < s.size) = true := decide_eq_true h
  exact this

namespace M

theorem eU_inj (a b : UInt8) (h : F.eU a = F.eU b) : a = b := by
  simp only [F.eU, List.cons.injEq, AV.v.injEq, Value.int.injEq, true_and, and_true] at h
  exact UInt8.toNat_inj.1 (by omega)

theorem eUs_inj {a b : ByteArray} : F.eUs a = F.eUs b ↔ a = b := by
  unfold F.eUs
  rw [List.map_inj_right eU_inj]
  exact ⟨fun h => ByteArray.ext (Array.ext' h), fun h => by rw [h]⟩

theorem eUs_len (s : ByteArray) : (F.eUs s).length = s.size := by
  unfold F.eUs
  rw [List.length_map]
  simp

theorem strCells_app (s x : ByteArray) : Lib.strCells (s ++ x) = Lib.strCells s ++ Lib.strCells x := by
  unfold Lib.strCells
  simp

def bldIn (o : Option ByteArray) : Heap := match o with
  | none => [(900, ⟨true, 81, 0, [[.v (.pointer none), .v (.slice none 0 0)]]⟩)]
  | some s => [(901, ⟨false, 5, 1, F.eUs s⟩), (900, ⟨true, 81, 0, [[.ptr 900 0 0, .own 901]]⟩)]

def bldB (X Y : BI) (kY : Nat) : Nat → Option BI := fun k => if k = 900 then some X else if k = kY then some Y else none

theorem bldB_x (X Y : BI) (kY : Nat) : bldB X Y kY 900 = some X := by unfold bldB; rw [if_pos rfl]

theorem bldB_y (X Y : BI) {kY : Nat} (h : kY ≠ 900) : bldB X Y kY kY = some Y := by unfold bldB; rw [if_neg h, if_pos rfl]

theorem bldB_some {X Y : BI} {kY k : Nat} {x : BI} (h : bldB X Y kY k = some x) : (k = 900 ∧ x = X) ∨ (k = kY ∧ k ≠ 900 ∧ x = Y) := by
  unfold bldB at h
  split at h
  · cases h; exact .inl ⟨‹_›, rfl⟩
  · split at h
    · cases h; exact .inr ⟨‹_›, ‹_›, rfl⟩
    · cases h

theorem arr2 {cs : Array Value} {a b : Value} (h : cs.size = 2) (h0 : cs[0]? = some a) (h1 : cs[1]? = some b) : cs = #[a, b] := by
  refine Array.ext (by simpa using h) fun i hi hj => ?_
  have hi2 : i = 0 ∨ i = 1 := by omega
  rcases hi2 with rfl | rfl
  · have := (Array.getElem?_eq_some_iff.1 h0).2
    simpa using this
  · have := (Array.getElem?_eq_some_iff.1 h1).2
    simpa using this

theorem bld_inv {G : Nat → Option GR} {w w' : World} {S : Nat → Prop} {β : Nat → Option BI} {hin hout : Heap} (inv : InvG G (ownFree w β) w S β hin) {X Y : BI} {kY : Nat} (hk : kY ≠ 900) (hX : β 900 = some X) (hXr : X.real = true)
    {P : Nat → Prop} (st : Stays w w' P) (hP : ∀ b, b < w.heap.size → (∀ k x, β k = some x → x.real = true → x.b ≠ b) → P b)
    (hY : Y.real = true → Y.b < w'.heap.size ∧ Y.b ≠ X.b ∧ ((∃ k y, β k = some y ∧ y.real = true ∧ y.b = Y.b) ∨ w.heap.size ≤ Y.b))
    {bX bY : Blk} (hbX : BlkOK w' S (bldB X Y kY) bX X) (hbY : Y.real = true → BlkOK w' S (bldB X Y kY) bY Y) (hbV : Y.real = false → bY.rows = [] ∧ bY.box = false)
    (h900 : mget hout 900 = some bX) (hkY : mget hout kY = some bY) (honly : ∀ k bl, mget hout k = some bl → k = 900 ∨ k = kY) (hxV : X.real = false → bX.rows = [] ∧ bX.box = false) :
    Blw (ownFree w β) w w' ∧ InvG G (ownFree w β) w' S (bldB X Y kY) hout := by
  obtain ⟨x1, x2, x3⟩ := inv.new 900 X hX hXr
  have hSb : ∀ b, S b → w'.heap[b]? = w.heap[b]? := fun b hb => st.block b (inv.lt b hb) (hP b (inv.lt b hb) fun k x hkx hxr e => (inv.new k x hkx hxr).2.2 (e ▸ hb))
  have hBb : ∀ b, ownFree w β b → w'.heap[b]? = w.heap[b]? := fun b hb => st.block b hb.1 (hP b hb.1 fun k x hkx hxr e => hb.2 ⟨k, x, hkx, hxr, e⟩)
  have hYn : Y.real = true → ¬ ownFree w β Y.b ∧ Y.b < w'.heap.size ∧ ¬ S Y.b := fun hr => by
    obtain ⟨y1, y2, y3⟩ := hY hr
    rcases y3 with ⟨k, y, k1, k2, k3⟩ | hge
    · obtain ⟨n1, n2, n3⟩ := inv.new k y k1 k2
      rw [← k3]
      exact ⟨n1, by rw [k3]; exact y1, n3⟩
    · exact ⟨fun h => by have := h.1; omega, y1, fun h => by have := inv.lt _ h; omega⟩
  refine ⟨⟨st.os, st.tape, st.output, st.size, hBb⟩, fun b hb => Nat.lt_of_lt_of_le (inv.base b hb) st.size, fun b hb => Nat.lt_of_lt_of_le (inv.lt b hb) st.size, ?_, ?_, ?_, ?_, fun g r hg => (inv.glob g r hg).mono hSb fun _ h => h⟩
  · intro k k' x x' h1 h2 r1 r2 e
    rcases bldB_some h1 with ⟨rfl, rfl⟩ | ⟨rfl, _, rfl⟩ <;> rcases bldB_some h2 with ⟨rfl, rfl⟩ | ⟨rfl, _, rfl⟩
    · rfl
    · exact absurd e.symm (hY r2).2.1
    · exact absurd e (hY r1).2.1
    · rfl
  · intro k x h1 r1
    rcases bldB_some h1 with ⟨rfl, rfl⟩ | ⟨rfl, _, rfl⟩
    · exact ⟨x1, Nat.lt_of_lt_of_le x2 st.size, x3⟩
    · exact hYn r1
  · intro k x h1
    rcases bldB_some h1 with ⟨rfl, rfl⟩ | ⟨rfl, _, rfl⟩
    · exact ⟨bX, h900, fun _ => hbX, hxV⟩
    · exact ⟨bY, hkY, hbY, hbV⟩
  · intro k bl h1
    rcases honly k bl h1 with rfl | rfl
    · exact ⟨X, bldB_x _ _ _⟩
    · exact ⟨Y, bldB_y _ _ hk⟩

theorem buf_blk {w : World} {v : Value} {own : Option Nat} {s : ByteArray} (h : BufAt w v own (Lib.strCells s)) :
    ∃ Y : BI, (Y.real = true → own = some Y.b ∧ v = .slice (some ⟨Y.b, 0, none⟩) Y.len Y.cap ∧ Y.b < w.heap.size ∧ ∀ S β, BlkOK w S β ⟨false, 5, 1, F.eUs s⟩ Y) ∧ (Y.real = false → F.eUs s = [] ∧ own = none ∧ ∃ A, v = .slice A 0 0) := by
  have hl := strCells_len s
  rcases h with ⟨A, rfl, h1, rfl⟩ | ⟨g, cap, cur, rfl, rfl, hg, hnc, hcm, hcs, ht⟩
  · refine ⟨⟨false, 0, 0, 0, 0⟩, fun h => (by cases h), fun _ => ⟨?_, rfl, A, rfl⟩⟩
    refine List.eq_nil_of_length_eq_zero ?_
    rw [eUs_len, ← hl, h1]; rfl
  · refine ⟨⟨true, g, s.size, cap, 1⟩, fun _ => ⟨rfl, by rw [hl], (Array.getElem?_eq_some_iff.1 hg).1, fun S β => ?_⟩, fun h => (by cases h)⟩
    refine ⟨cur, 5, hg, by simp only [Nat.mul_one]; exact hcs, eUs_len s, by simp only; omega, hcm, fun _ => ⟨rfl, rfl⟩, (fun h => by cases h), fun i row hi => ?_⟩
    simp only [F.eUs, List.getElem?_map, Option.map_eq_some_iff] at hi
    obtain ⟨b, hb, rfl⟩ := hi
    refine ⟨rfl, fun j a hj => ?_⟩
    have hj0 : j = 0 := by
      have := (List.getElem?_eq_some_iff.1 hj).1
      simp only [F.eU, List.length_singleton] at this; omega
    subst hj0
    simp only [F.eU, List.getElem?_cons_zero, Option.some.injEq] at hj
    subst hj
    have hi2 : (Lib.strCells s)[i]? = some (.int .u8 b.toNat) := by
      unfold Lib.strCells
      rw [List.getElem?_map, hb]; rfl
    have hil := (List.getElem?_eq_some_iff.1 hi2).1
    rw [← ht, List.getElem?_take, if_pos hil] at hi2
    refine ⟨.int .u8 b.toNat, by simpa using hi2, ?_⟩
    have hlt := b.toNat_lt
    have hok : okAtom (.int .u8 b.toNat) := by
      show IntKind.u8.min ≤ _ ∧ _ ≤ IntKind.u8.max
      simp only [IntKind.min, IntKind.max, IntKind.signed, IntKind.bits]
      simp
      omega
    simpa using R0.v (w := w) (S := S) hok

theorem blk_buf {w : World} {S : Nat → Prop} {β : Nat → Option BI} {s : ByteArray} {Z : BI} (h : BlkOK w S β ⟨false, 5, 1, F.eUs s⟩ Z) : BufAt w (.slice (some ⟨Z.b, 0, none⟩) Z.len Z.cap) (some Z.b) (Lib.strCells s) := by
  obtain ⟨cs, ty, c1, c2, c3, c4, c5, c6, c7, c8⟩ := h
  obtain ⟨c61, c62⟩ := c6 rfl
  have hl := strCells_len s
  simp only at c61 c62 c3
  rw [eUs_len] at c3
  rw [c61] at c1
  refine .inr ⟨Z.b, Z.cap, cs, rfl, by rw [hl, c3], c1, by omega, c5, by rw [c2, c62]; simp, ?_⟩
  refine List.ext_getElem? fun i => ?_
  rw [List.getElem?_take]
  split
  · rename_i hi
    have hi2 : i < s.data.toList.length := by rw [hl] at hi; simpa using hi
    have hb : s.data.toList[i]? = some s.data.toList[i] := List.getElem?_eq_getElem hi2
    generalize s.data.toList[i] = b at hb
    obtain ⟨_, c9⟩ := c8 i (F.eU b) (by simp only [F.eUs, List.getElem?_map, hb]; rfl)
    obtain ⟨v, hv, hr⟩ := c9 0 (vU b.toNat) rfl
    rw [c62] at hv
    have hr : R0 w S (vU b.toNat) v := by simpa using hr
    cases hr
    unfold Lib.strCells
    rw [List.getElem?_map, hb]
    simpa using hv
  · rename_i hi
    rw [List.getElem?_eq_none (by omega)]

theorem box_blk {w : World} {S : Nat → Prop} {X Y : BI} {kY : Nat} (hk : kY ≠ 900) {v : Value} (hXr : X.real = true) (h : w.heap[X.b]? = some (.cells #[.pointer (some ⟨X.b, 0, none⟩), v] 81 (0, 0))) (hXs : X.size = 2) (hXl : X.len = 1) (hXc : X.cap = 1)
    (hv1 : Y.real = true → v = .slice (some ⟨Y.b, 0, none⟩) Y.len Y.cap) (hv2 : Y.real = false → ∃ A, v = .slice A 0 0) : BlkOK w S (bldB X Y kY) ⟨true, 81, 0, [[.ptr 900 0 0, .own kY]]⟩ X := by
  refine ⟨_, _, h, by rw [hXs, hXc]; rfl, hXl.symm, by omega, by omega, (fun h => by cases h), fun _ => ⟨fun _ => hXc, fun h => absurd rfl h, .inr rfl⟩, fun i row hi => ?_⟩
  have hi0 : i = 0 := by
    have := (List.getElem?_eq_some_iff.1 hi).1
    simp at this; exact this
  subst hi0
  cases hi
  refine ⟨hXs.symm, fun j a hj => ?_⟩
  have hj2 : j < 2 := (List.getElem?_eq_some_iff.1 hj).1
  have hj3 : j = 0 ∨ j = 1 := by omega
  rcases hj3 with rfl | rfl
  · cases hj
    exact ⟨.pointer (some ⟨X.b, 0, none⟩), by rw [Nat.zero_mul]; rfl, X, bldB_x _ _ _, hXr, by simp⟩
  · cases hj
    exact ⟨v, by rw [Nat.zero_mul]; rfl, Y, bldB_y _ _ hk, hv1, hv2⟩

theorem bld_open {G : Nat → Option GR} {w : World} {S : Nat → Prop} {β : Nat → Option BI} {o : Option ByteArray} {u : Value} (inv : InvG G (ownFree w β) w S β (bldIn o)) (h : RV w S β (.ptr 900 0 0) u) :
    ∃ X p v own xs, β 900 = some X ∧ X.real = true ∧ X.size = 2 ∧ X.len = 1 ∧ X.cap = 1 ∧ u = .pointer (some ⟨X.b, 0, none⟩) ∧ (p = .pointer none ∨ p = .pointer (some ⟨X.b, 0, none⟩)) ∧ w.heap[X.b]? = some (.cells #[p, v] 81 (0, 0)) ∧
      BufAt w v own xs ∧ own ≠ some X.b ∧ (match o with | none => xs = [] ∧ own = none | some s => xs = Lib.strCells s) ∧ (∀ g, own = some g → ∃ k y, β k = some y ∧ y.real = true ∧ y.b = g) ∧ X.b < w.heap.size := by
  obtain ⟨X, hX, hXr, rfl⟩ : ∃ x, β 900 = some x ∧ x.real = true ∧ u = .pointer (some ⟨x.b, 0 * x.size + 0, none⟩) := h
  obtain ⟨bl, hb, h3, _⟩ := inv.dom 900 X hX
  obtain ⟨cs, ty, c1, c2, c3, c4, c5, c6, c7, c8⟩ := h3 hXr
  have hT : (81 : Nat) ≠ 0 := by decide
  cases o with
  | none =>
    have hb0 : some (⟨true, 81, 0, [[.v (.pointer none), .v (.slice none 0 0)]]⟩ : Blk) = some bl := hb
    cases hb0
    obtain ⟨d1, _, d2⟩ := c7 rfl
    have d1 := d1 rfl
    have d2 : ty = 81 := d2.resolve_left hT
    obtain ⟨e1, e2⟩ := c8 0 _ rfl
    have e1 : X.size = 2 := e1.symm
    obtain ⟨v0, f0, g0⟩ := e2 0 _ rfl
    obtain ⟨v1, f1, g1⟩ := e2 1 _ rfl
    have g0 : R0 w S (.v (.pointer none)) v0 := g0
    cases g0
    have g1 : R0 w S (.v (.slice none 0 0)) v1 := g1
    cases g1
    rw [Nat.zero_mul] at f0 f1
    have hcs := arr2 (by rw [c2, d1, e1]) f0 f1
    rw [hcs, d2] at c1
    exact ⟨X, _, _, none, [], hX, hXr, e1, c3.symm, d1, by simp, .inl rfl, c1, .inl ⟨none, rfl, rfl, rfl⟩, (by simp), ⟨rfl, rfl⟩, (fun g h => by cases h), (inv.new 900 X hX hXr).2.1⟩
  | some s =>
    have hb0 : some (⟨true, 81, 0, [[.ptr 900 0 0, .own 901]]⟩ : Blk) = some bl := hb
    cases hb0
    obtain ⟨d1, _, d2⟩ := c7 rfl
    have d1 := d1 rfl
    have d2 : ty = 81 := d2.resolve_left hT
    obtain ⟨e1, e2⟩ := c8 0 _ rfl
    have e1 : X.size = 2 := e1.symm
    obtain ⟨v0, f0, g0⟩ := e2 0 _ rfl
    obtain ⟨v1, f1, g1⟩ := e2 1 _ rfl
    obtain ⟨X', hX', _, rfl⟩ : ∃ x, β 900 = some x ∧ x.real = true ∧ v0 = .pointer (some ⟨x.b, 0 * x.size + 0, none⟩) := g0
    rw [hX] at hX'
    cases hX'
    obtain ⟨Z, hZ, z1, z2⟩ : ∃ x, β 901 = some x ∧ (x.real = true → v1 = .slice (some ⟨x.b, 0, none⟩) x.len x.cap) ∧ (x.real = false → ∃ A, v1 = .slice A 0 0) := g1
    rw [Nat.zero_mul] at f0 f1
    have hcs := arr2 (by rw [c2, d1, e1]) f0 f1
    rw [hcs, d2] at c1
    obtain ⟨bl2, hb2, h4, h5⟩ := inv.dom 901 Z hZ
    have hb3 : some (⟨false, 5, 1, F.eUs s⟩ : Blk) = some bl2 := hb2
    cases hb3
    cases hr : Z.real
    · obtain ⟨A, rfl⟩ := z2 hr
      have h6 : F.eUs s = [] := (h5 hr).1
      have h7 : Lib.strCells s = [] := List.eq_nil_of_length_eq_zero (by rw [strCells_len, ← eUs_len, h6]; rfl)
      exact ⟨X, _, _, none, _, hX, hXr, e1, c3.symm, d1, by simp, .inr (by simp), c1, .inl ⟨A, rfl, h7, rfl⟩, (by simp), rfl, (fun g h => by cases h), (inv.new 900 X hX hXr).2.1⟩
    · have hne : Z.b ≠ X.b := fun e => by
        have := inv.inj 901 900 Z X hZ hX hr hXr e
        omega
      rw [z1 hr] at c1
      exact ⟨X, _, _, some Z.b, _, hX, hXr, e1, c3.symm, d1, by simp, .inr (by simp), c1, blk_buf (h4 hr), (by simpa using hne), rfl, (fun g h => ⟨901, Z, hZ, hr, by cases h; rfl⟩), (inv.new 900 X hX hXr).2.1⟩

def encWst (a : Option ByteArray × ByteArray) : List AV × Heap := ([.ptr 900 0 0, vS a.2], bldIn a.1)

theorem encWst_inj (a a' : Option ByteArray × ByteArray) (h : encWst a = encWst a') : a = a' := by
  obtain ⟨o, x⟩ := a
  obtain ⟨o', x'⟩ := a'
  unfold encWst at h
  simp only [Prod.mk.injEq, List.cons.injEq, AV.v.injEq, Value.string.injEq, true_and, and_true] at h
  obtain ⟨rfl, h⟩ := h
  cases o with
  | none => cases o' with
    | none => rfl
    | some s => simp [bldIn] at h
  | some s => cases o' with
    | none => simp [bldIn] at h
    | some s' =>
      simp only [bldIn, List.cons.injEq, Prod.mk.injEq, Blk.mk.injEq, true_and, and_true] at h
      rw [eUs_inj.1 h]

theorem unWst (x : ByteArray) : unenc encWst (([.ptr 900 0 0, (vS x)], [(900, Blk.mk true 81 0 [[AV.v (Value.pointer none), AV.v (Value.slice none (0 : Nat) (0 : Nat))]])])) = some (none, x) := unenc_of encWst_inj (none, x) rfl

theorem unWstU (s : ByteArray) (x : ByteArray) : unenc encWst (([.ptr 900 0 0, (vS x)], [(901, Blk.mk false 5 1 (F.eUs s)), (900, Blk.mk true 81 0 [[.ptr 900 0 0, .own 901]])])) = some (some s, x) := unenc_of encWst_inj (some s, x) rfl

def preWst1 (o : Option ByteArray) (x : ByteArray) : Bool := F.wstB o x

def resWst (a : Option ByteArray × ByteArray) : T (AV × Heap × List Nat) := .ifB a.1.isNone
  (.ret (.tup [vI a.2.size, .v .nilIface], [(900, ⟨true, 81, 0, [[.ptr 900 0 0, .own 0]]⟩), (0, ⟨false, 5, 1, F.eUs a.2⟩)], []))
  (.ret (.tup [vI a.2.size, .v .nilIface], [(901, ⟨false, 5, 1, F.eUs (F.bldS a.1 ++ a.2)⟩), (900, ⟨true, 81, 0, [[.ptr 900 0 0, .own 901]]⟩)], [901]))

noncomputable def oWst : OrcH := orcT 50 encWst (fun a => preWst1 a.1 a.2) resWst

theorem okWst : OrcHOK Tryz.prog noG oWst := by
  refine orcT_ok ⟨Tryz.f50, by kernel_rfl, by kernel_rfl, by kernel_rfl⟩ (fun a r hp hk1 hk2 hr => ?_)
  obtain ⟨o, x⟩ := a
  have hp : decide (F.bldLen o + x.size ≤ 140737488355328) = true := hp
  have hp : F.bldLen o + x.size ≤ 140737488355328 := of_decide_eq_true hp
  have hx : x.size ≤ 9223372036854775807 := okA_v (hk1 (vS x) (by simp [encWst]))
  intro w S β cargs inv hargs
  match cargs, hargs with
  | [u, vx], ⟨h1, h2, _⟩ =>
    have hvx : vx = .string x := (rv_v h2).1
    subst hvx
    obtain ⟨X, p, v, own, xs, hX, hXr, hXs, hXl, hXc, rfl, hp2, hbk, hbuf, hne, ho, hown, hlt⟩ := bld_open (o := o) inv h1
    have hlen : xs.length + x.size ≤ 140737488355328 := by
      cases o with
      | none => rw [ho.1]; simpa [F.bldLen] using hp
      | some s => rw [show xs = Lib.strCells s from ho, strCells_len]; exact hp
    refine (bld_write X.b p v own xs x hp2 w hbk hbuf hne hlen).mono ?_
    rintro e w' ⟨rfl, v', own', k1, k2, k3, k4, k5⟩
    have hP : ∀ b, b < w.heap.size → (∀ k x, β k = some x → x.real = true → x.b ≠ b) → b ≠ X.b ∧ own ≠ some b := fun b _ hb => ⟨fun e => hb 900 X hX hXr e.symm, fun e => by
      obtain ⟨k, y, y1, y2, y3⟩ := hown b e
      exact hb k y y1 y2 y3⟩
    have ret : RV w' S (fun _ => none) (.tup [vI x.size, .v .nilIface]) (.tuple #[.int .i64 x.size, .nilIface]) := by
      refine ⟨[.int .i64 x.size, .nilIface], rfl, ?_, ?_, trivial⟩
      · have hok : okAtom (.int .i64 (x.size : Int)) := by
          show IntKind.i64.min ≤ _ ∧ _ ≤ IntKind.i64.max
          simp only [IntKind.min, IntKind.max, IntKind.signed, IntKind.bits]
          simp
          omega
        exact R0.v (w := w') (S := S) hok
      · exact R0.v (w := w') (S := S) (x := .nilIface) trivial
    cases o with
    | none =>
      have hr : (.tup [vI x.size, .v .nilIface], [(900, ⟨true, 81, 0, [[.ptr 900 0 0, .own 0]]⟩), (0, ⟨false, 5, 1, F.eUs x⟩)], []) = r := Option.some.inj hr
      subst hr
      rw [ho.1, List.nil_append] at k2
      obtain ⟨Y, y1, y2⟩ := buf_blk k2
      obtain ⟨f1, f2⟩ := bld_inv inv (kY := 0) (by omega) hX hXr k5 hP (Y := Y) (fun hr => by
          obtain ⟨z1, z2, z3, z4⟩ := y1 hr
          refine ⟨z3, fun e => k3 (by rw [z1, e]), ?_⟩
          rcases k4 _ z1 with h | h
          · exact .inl (hown _ h)
          · exact .inr h)
        (box_blk (by omega) hXr k1 hXs hXl hXc (fun hr => (y1 hr).2.1) (fun hr => (y2 hr).2.2)) (fun hr => (y1 hr).2.2.2 _ _) (fun hr => ⟨(y2 hr).1, rfl⟩)
        (hout := [(900, ⟨true, 81, 0, [[.ptr 900 0 0, .own 0]]⟩), (0, ⟨false, 5, 1, F.eUs x⟩)]) rfl rfl (fun k bl hk => by
          simp only [mget] at hk
          split at hk
          · rename_i h; exact .inl (beq_true.1 h)
          · split at hk
            · rename_i h; exact .inr (beq_true.1 h)
            · cases hk) (fun h => by rw [hXr] at h; cases h)
      refine ⟨_, S, _, rfl, f1, fun _ h => h, fun _ h => .inl h, f2, fun k y hk _ hy => ?_, ret.mono (fun _ _ => rfl) (fun _ h => h) fun k _ x hx => (by cases hx)⟩
      rcases bldB_some hy with ⟨rfl, rfl⟩ | ⟨rfl, _, rfl⟩
      · exact hX
      · exact absurd hk (by simp [inK])
    | some s =>
      have hr : (.tup [vI x.size, .v .nilIface], [(901, ⟨false, 5, 1, F.eUs (s ++ x)⟩), (900, ⟨true, 81, 0, [[.ptr 900 0 0, .own 901]]⟩)], [901]) = r := Option.some.inj hr
      subst hr
      rw [show xs = Lib.strCells s from ho, ← strCells_app] at k2
      obtain ⟨Y, y1, y2⟩ := buf_blk k2
      obtain ⟨f1, f2⟩ := bld_inv inv (kY := 901) (by omega) hX hXr k5 hP (Y := Y) (fun hr => by
          obtain ⟨z1, z2, z3, z4⟩ := y1 hr
          refine ⟨z3, fun e => k3 (by rw [z1, e]), ?_⟩
          rcases k4 _ z1 with h | h
          · exact .inl (hown _ h)
          · exact .inr h)
        (box_blk (by omega) hXr k1 hXs hXl hXc (fun hr => (y1 hr).2.1) (fun hr => (y2 hr).2.2)) (fun hr => (y1 hr).2.2.2 _ _) (fun hr => ⟨(y2 hr).1, rfl⟩)
        (hout := [(901, ⟨false, 5, 1, F.eUs (s ++ x)⟩), (900, ⟨true, 81, 0, [[.ptr 900 0 0, .own 901]]⟩)]) rfl rfl (fun k bl hk => by
          simp only [mget] at hk
          split at hk
          · rename_i h; exact .inr (beq_true.1 h)
          · split at hk
            · rename_i h; exact .inl (beq_true.1 h)
            · cases hk) (fun h => by rw [hXr] at h; cases h)
      refine ⟨_, S, _, rfl, f1, fun _ h => h, fun _ h => .inl h, f2, fun k y hk hm hy => ?_, ret.mono (fun _ _ => rfl) (fun _ h => h) fun k _ x hx => (by cases hx)⟩
      rcases bldB_some hy with ⟨rfl, rfl⟩ | ⟨rfl, _, rfl⟩
      · exact hX
      · exact absurd (List.mem_singleton.2 rfl) hm

theorem okBstU (s : ByteArray) (hp : decide (0 < s.size) = true) : SpecH Tryz.prog noG 55 [.ptr 900 0 0] [(901, ⟨false, 5, 1, F.eUs s⟩), (900, ⟨true, 81, 0, [[.ptr 900 0 0, .own 901]]⟩)] (vS s) [(901, ⟨false, 5, 1, []⟩), (900, ⟨true, 81, 0, [[.ptr 900 0 0, .unk]]⟩)] [901] := by
  have hp : 0 < s.size := of_decide_eq_true hp
  intro w S β cargs inv hargs
  match cargs, hargs with
  | [u], ⟨h1, _⟩ =>
    obtain ⟨X, p, v, own, xs, hX, hXr, hXs, hXl, hXc, rfl, hp2, hbk, hbuf, hne, ho, hown, hlt⟩ := bld_open (o := some s) inv h1
    have ho : xs = Lib.strCells s := ho
    subst ho
    rcases hbuf with ⟨A, _, h, _⟩ | ⟨g, cap, cur, rfl, rfl, hg, hnc, hcm, hcs, ht⟩
    · have := strCells_len s
      rw [h] at this
      simp at this; omega
    have hl : (Lib.strCells s).length = s.data.toList.length := by rw [strCells_len]; simp
    rw [hl] at hbk hnc ht
    have hgX : g ≠ X.b := fun e => hne (by rw [e])
    refine (bld_string X.b g cap p cur s.data.toList w hbk hg hnc hcm hcs ht (fun e => by
      have : s.data.toList.length = s.size := by simp
      rw [e] at this; simp at this; omega)).mono ?_
    rintro e w' ⟨rfl, st⟩
    have hsz : s.size ≤ 9223372036854775807 := by
      have : s.data.toList.length = s.size := by simp
      omega
    have hb2 : w'.heap[X.b]? = some (.cells #[p, .slice (some ⟨g, 0, none⟩) s.data.toList.length cap] 81 (0, 0)) := by
      rw [st.block X.b hlt (fun e => hgX e.symm)]; exact hbk
    have hpp : p = .pointer (some ⟨X.b, 0, none⟩) ∨ p = .pointer none := hp2.symm
    have hpX : p = .pointer (some ⟨X.b, 0, none⟩) := by
      obtain ⟨bl, hb, h3, _⟩ := inv.dom 900 X hX
      have hb0 : some (⟨true, 81, 0, [[.ptr 900 0 0, .own 901]]⟩ : Blk) = some bl := hb
      cases hb0
      obtain ⟨cs, ty, c1, c2, c3, c4, c5, c6, c7, c8⟩ := h3 hXr
      obtain ⟨e1, e2⟩ := c8 0 _ rfl
      obtain ⟨v0, f0, g0⟩ := e2 0 _ rfl
      obtain ⟨X', hX', _, rfl⟩ : ∃ x, β 900 = some x ∧ x.real = true ∧ v0 = .pointer (some ⟨x.b, 0 * x.size + 0, none⟩) := g0
      rw [hX] at hX'
      cases hX'
      rw [hbk] at c1
      cases c1
      rw [Nat.zero_mul] at f0
      exact (Option.some.inj f0)
    have hbX : BlkOK w' S (bldB X ⟨false, 0, 0, 0, 0⟩ 901) ⟨true, 81, 0, [[.ptr 900 0 0, .unk]]⟩ X := by
      refine ⟨_, _, hb2, by rw [hXs, hXc]; rfl, hXl.symm, by omega, by omega, (fun h => by cases h), fun _ => ⟨fun _ => hXc, fun h => absurd rfl h, .inr rfl⟩, fun i row hi => ?_⟩
      have hi0 : i = 0 := by
        have := (List.getElem?_eq_some_iff.1 hi).1
        simp at this; exact this
      subst hi0
      cases hi
      refine ⟨hXs.symm, fun j a hj => ?_⟩
      have hj2 : j < 2 := (List.getElem?_eq_some_iff.1 hj).1
      have hj3 : j = 0 ∨ j = 1 := by omega
      rcases hj3 with rfl | rfl
      · cases hj
        exact ⟨p, by rw [Nat.zero_mul]; rfl, X, bldB_x _ _ _, hXr, by simp [hpX]⟩
      · cases hj
        exact ⟨.slice (some ⟨g, 0, none⟩) s.data.toList.length cap, by rw [Nat.zero_mul]; rfl, R0.unk (w := w') (S := S) rfl⟩
    obtain ⟨f1, f2⟩ := bld_inv inv (kY := 901) (by omega) hX hXr st (fun b _ hb => fun e => by
        obtain ⟨k, y, y1, y2, y3⟩ := hown g rfl
        exact hb k y y1 y2 (by rw [y3, e])) (Y := ⟨false, 0, 0, 0, 0⟩) (fun h => by cases h) hbX (fun h => by cases h) (bY := ⟨false, 5, 1, []⟩) (fun _ => ⟨rfl, rfl⟩)
        (hout := [(901, ⟨false, 5, 1, []⟩), (900, ⟨true, 81, 0, [[.ptr 900 0 0, .unk]]⟩)]) rfl rfl (fun k bl hk => by
          simp only [mget] at hk
          split at hk
          · rename_i h; exact .inr (beq_true.1 h)
          · split at hk
            · rename_i h; exact .inl (beq_true.1 h)
            · cases hk) (fun h => by rw [hXr] at h; cases h)
    refine ⟨_, S, _, rfl, f1, fun _ h => h, fun _ h => .inl h, f2, fun k y hk hm hy => ?_, rv_mk (show okAtom (.string s) from hsz)⟩
    rcases bldB_some hy with ⟨rfl, rfl⟩ | ⟨rfl, _, rfl⟩
    · exact hX
    · exact absurd (List.mem_singleton.2 rfl) hm

def encBst (o : Option ByteArray) : List AV × Heap := ([.ptr 900 0 0], bldIn o)

theorem encBst_inj (a a' : Option ByteArray) (h : encBst a = encBst a') : a = a' := by
  have := encWst_inj (a, ⟨⟨[]⟩⟩) (a', ⟨⟨[]⟩⟩) (by
    unfold encBst at h
    unfold encWst
    simp only [Prod.mk.injEq, true_and] at h ⊢
    exact h)
  exact (Prod.mk.inj this).1

theorem unBst : unenc encBst (([.ptr 900 0 0], [(900, Blk.mk true 81 0 [[AV.v (Value.pointer none), AV.v (Value.slice none (0 : Nat) (0 : Nat))]])])) = some none := unenc_of encBst_inj none rfl

theorem unBstU (s : ByteArray) : unenc encBst (([.ptr 900 0 0], [(901, Blk.mk false 5 1 (F.eUs s)), (900, Blk.mk true 81 0 [[.ptr 900 0 0, .own 901]])])) = some (some s) := unenc_of encBst_inj (some s) rfl

def preBst1 (o : Option ByteArray) : Bool := F.bstB o

def resBst (o : Option ByteArray) : T (AV × Heap × List Nat) := .ifB o.isNone
  (.ret (vS ⟨⟨[]⟩⟩, [(900, ⟨true, 81, 0, [[.v (.pointer none), .v (.slice none 0 0)]]⟩)], []))
  (.ret (vS (F.bldS o), [(901, ⟨false, 5, 1, []⟩), (900, ⟨true, 81, 0, [[.ptr 900 0 0, .unk]]⟩)], [901]))

noncomputable def oBst : OrcH := orcT 55 encBst preBst1 resBst

theorem okBst : OrcHOK Tryz.prog noG oBst := by
  refine orcT_ok ⟨Tryz.f55, by kernel_rfl, by kernel_rfl, by kernel_rfl⟩ (fun o r hp _ _ hr => ?_)
  cases o with
  | none =>
    have hr : (vS ⟨⟨[]⟩⟩, [(900, ⟨true, 81, 0, [[.v (.pointer none), .v (.slice none 0 0)]]⟩)], []) = r := Option.some.inj hr
    subst hr
    intro w S β cargs inv hargs
    match cargs, hargs with
    | [u], ⟨h1, _⟩ =>
      obtain ⟨X, hX, hXr, rfl⟩ : ∃ x, β 900 = some x ∧ x.real = true ∧ u = .pointer (some ⟨x.b, 0 * x.size + 0, none⟩) := h1
      obtain ⟨bl, hb, h3, _⟩ := inv.dom 900 X hX
      have hb0 : some (⟨true, 81, 0, [[.v (.pointer none), .v (.slice none 0 0)]]⟩ : Blk) = some bl := hb
      cases hb0
      obtain ⟨cs, ty, c1, c2, c3, c4, c5, c6, c7, c8⟩ := h3 hXr
      have hT : (81 : Nat) ≠ 0 := by decide
      obtain ⟨d1, _, d2⟩ := c7 rfl
      have d1 := d1 rfl
      have d2 : ty = 81 := d2.resolve_left hT
      obtain ⟨e1, e2⟩ := c8 0 _ rfl
      have e1 : X.size = 2 := e1.symm
      obtain ⟨v0, f0, g0⟩ := e2 0 _ rfl
      obtain ⟨v1, f1, g1⟩ := e2 1 _ rfl
      have g0 : R0 w S (.v (.pointer none)) v0 := g0
      cases g0
      have g1 : R0 w S (.v (.slice none 0 0)) v1 := g1
      cases g1
      rw [Nat.zero_mul] at f0 f1
      have hcs := arr2 (by rw [c2, d1, e1]) f0 f1
      rw [hcs, d2] at c1
      rw [show (0 * X.size + 0) = 0 by simp]
      refine (bld_string_nil X.b _ w c1).mono ?_
      rintro e w' ⟨rfl, st⟩
      have hO : ∀ b, b < w.heap.size → w'.heap[b]? = w.heap[b]? := fun b hb => st.block b hb trivial
      refine ⟨_, S, β, rfl, ⟨st.os, st.tape, st.output, st.size, fun b hb => hO b hb.1⟩, fun _ h => h, fun _ h => .inl h, ?_, fun _ _ _ _ h => h, R0.v (w := w') (S := S) (x := .string ⟨#[]⟩) (by show (0 : Nat) ≤ _; omega)⟩
      have g : Gr (ownFree w β) w S β w' S β := ⟨⟨st.os, st.tape, st.output, st.size, fun b hb => hO b hb.1⟩, fun b hb => hO b (inv.lt b hb), fun _ h => h, fun _ h => .inl h, fun _ _ h => h, fun _ _ _ h => h⟩
      exact ⟨fun b hb => Nat.lt_of_lt_of_le (inv.base b hb) st.size, fun b hb => Nat.lt_of_lt_of_le (inv.lt b hb) st.size, inv.inj, fun k x hx hr => by
          obtain ⟨n1, n2, n3⟩ := inv.new k x hx hr
          exact ⟨n1, Nat.lt_of_lt_of_le n2 st.size, n3⟩, fun k x hx => by
          obtain ⟨bl, a1, a2, a3⟩ := inv.dom k x hx
          exact ⟨bl, a1, fun hr => (a2 hr).go g (hO _ (inv.new k x hx hr).2.1), a3⟩, inv.cov, fun gl row hg => (inv.glob gl row hg).mono g.keep g.sub⟩
  | some s =>
    have hr : (vS s, [(901, ⟨false, 5, 1, []⟩), (900, ⟨true, 81, 0, [[.ptr 900 0 0, .unk]]⟩)], [901]) = r := Option.some.inj hr
    subst hr
    have hp : decide (0 < s.size) = true := hp
    exact okBstU s hp

end M

namespace M

theorem eUs_app (s x : ByteArray) : F.eUs (s ++ x) = F.eUs s ++ F.eUs x := by
  unfold F.eUs
  simp

def encCkk (s : ByteArray) : List AV × Heap := ([.ptr 900 0 0], bldIn (some s))

theorem encCkk_inj (a a' : ByteArray) (h : encCkk a = encCkk a') : a = a' := Option.some.inj (encBst_inj (some a) (some a') h)

theorem unCkk (s : ByteArray) : unenc encCkk (([.ptr 900 0 0], [(901, Blk.mk false 5 1 (F.eUs s)), (900, Blk.mk true 81 0 [[.ptr 900 0 0, .own 901]])])) = some s := unenc_of encCkk_inj s rfl

def preCkk1 (s : ByteArray) : Bool := true

def resCkk (s : ByteArray) : T (AV × Heap × List Nat) := .ret (.tup [], [(901, ⟨false, 5, 1, F.eUs s⟩), (900, ⟨true, 81, 0, [[.ptr 900 0 0, .own 901]]⟩)], [])

noncomputable def oCkk : OrcH := orcT 75 encCkk preCkk1 resCkk

theorem okCkk : OrcHOK Tryz.prog noG oCkk := by
  refine orcT_ok ⟨Tryz.f75, by kernel_rfl, by kernel_rfl, by kernel_rfl⟩ (fun s r hp _ _ hr => ?_)
  have hr : (.tup [], [(901, ⟨false, 5, 1, F.eUs s⟩), (900, ⟨true, 81, 0, [[.ptr 900 0 0, .own 901]]⟩)], []) = r := Option.some.inj hr
  subst hr
  intro w S β cargs inv hargs
  match cargs, hargs with
  | [u], ⟨h1, _⟩ =>
    obtain ⟨X, p, v, own, xs, hX, hXr, hXs, hXl, hXc, rfl, hp2, hbk, hbuf, hne, ho, hown, hlt⟩ := bld_open (o := some s) inv h1
    have hpX : p = .pointer (some ⟨X.b, 0, none⟩) := by
      obtain ⟨bl, hb, h3, _⟩ := inv.dom 900 X hX
      have hb0 : some (⟨true, 81, 0, [[.ptr 900 0 0, .own 901]]⟩ : Blk) = some bl := hb
      cases hb0
      obtain ⟨cs, ty, c1, c2, c3, c4, c5, c6, c7, c8⟩ := h3 hXr
      obtain ⟨e1, e2⟩ := c8 0 _ rfl
      obtain ⟨v0, f0, g0⟩ := e2 0 _ rfl
      obtain ⟨X', hX', _, rfl⟩ : ∃ x, β 900 = some x ∧ x.real = true ∧ v0 = .pointer (some ⟨x.b, 0 * x.size + 0, none⟩) := g0
      rw [hX] at hX'
      cases hX'
      rw [hbk] at c1
      cases c1
      rw [Nat.zero_mul] at f0
      exact (Option.some.inj f0)
    subst hpX
    have hc0 : w.cell? ⟨X.b, 0, none⟩ = some (.pointer (some ⟨X.b, 0, none⟩)) := by rw [Lib.cell_of_heap hbk]; rfl
    refine (Any.Builder_copyCheck_used bldLays bldX X.b w hc0).mono ?_
    rintro e w' ⟨rfl, rfl⟩
    exact ⟨_, S, β, rfl, ⟨rfl, rfl, rfl, Nat.le_refl _, fun _ _ => rfl⟩, fun _ h => h, fun _ h => .inl h, inv, fun _ _ _ _ h => h, ⟨[], rfl, trivial⟩⟩

noncomputable def enWby : Env := envH ty noG lks [] [oCkk] [901] []

theorem enWby_ok : EnvOK Tryz.prog enWby := by
  refine envH_ok lks_ok ty_ok ?_ ?_
  · simp
  · simp only [List.forall_mem_cons]
    exact ⟨okCkk, by simp⟩

theorem evWby (s : ByteArray) : (runH enWby [901] Tryz.f51 [.ptr 900 0 0, vU 10] [(901, ⟨false, 5, 1, F.eUs s⟩), (900, ⟨true, 81, 0, [[.ptr 900 0 0, .own 901]]⟩)]).val =
  Option.bind (unenc encCkk ([.ptr 900 0 0], [(901, Blk.mk false 5 1 (F.eUs s)), (900, Blk.mk true 81 0 [[.ptr 900 0 0, .own 901]])])) fun (z : ByteArray) => bif Nat.ble
  ((List.length (F.eUs z) + (1 : Nat)) * (1 : Nat)) (140737488355328 : Nat) && true then some (AV.v Value.nilIface, [(901, Blk.mk false 5 1 (F.eUs z ++ [[(vU (10 :
  Int))]])), (900, Blk.mk true 81 0 [[.ptr 900 0 0, .own 901]])], [(901 : Nat)]) else none := (runHR_val).symm.trans (by kernel_rfl)

def encWby1 (s : ByteArray) : List AV × Heap := ([.ptr 900 0 0, vU 10], [(901, ⟨false, 5, 1, F.eUs s⟩), (900, ⟨true, 81, 0, [[.ptr 900 0 0, .own 901]]⟩)])

def encWby (a : ByteArray) : List AV × Heap := encWby1 a

theorem encWby_inj (a a' : ByteArray) (h : encWby a = encWby a') : a = a' := by
  simp only [encWby, encWby1] at h
  try simp [eUs_inj, strs_inj, ints_inj, ents_inj, eEnt_iff, eLst_iff, eSnds_inj, eStrms_inj] at h
  grind

theorem unWby (s : ByteArray) : unenc encWby (([.ptr 900 0 0, (vU (10 : Int))], [(901, Blk.mk false 5 1 (F.eUs s)), (900, Blk.mk true 81 0 [[.ptr 900 0 0, .own 901]])])) = some (s) := unenc_of encWby_inj (s) rfl

def resWby1 (s : ByteArray) : AV × Heap × List Nat := (.v .nilIface, [(901, ⟨false, 5, 1, F.eUs (s ++ ⟨⟨[10]⟩⟩)⟩), (900, ⟨true, 81, 0, [[.ptr 900 0 0, .own 901]]⟩)], [901])

def preWby1 (s : ByteArray) : Bool := decide (s.size ≤ 100000000)

noncomputable def oWby : OrcH := orcH 51 encWby (fun a => preWby1 a) fun a => resWby1 a

theorem okWby : OrcHOK Tryz.prog noG oWby := by
  refine mkH_ok (mv := [901]) Tryz.f51 (by kernel_rfl) (by kernel_rfl) enWby_ok mixed (no_loops (by kernel_rfl)) ?_
  rintro s hpre hok hokh
  show (runH enWby [901] _ (encWby1 _).1 (encWby1 _).2).val = some (resWby1 _)
  unfold encWby1 resWby1
  rw [evWby]
  simp only [preWby1, decide_eq_true_eq] at hpre
  simp only [unCkk, preCkk1, etaEnt, etaLst, etaSnd, etaStrm, etaMas, Option.bind_some, List.length_map, unStrs, unInts, unBools, unEnts, unItms, unTrns, cond_true, cond_false, Bool.and_true, Bool.true_and, unWstU, unBstU, F.bldS_some, F.bldLen_some]
  rw [eUs_app, eUs_len, ble_t (by omega : (s.size + 1) * 1 ≤ 140737488355328)]
  rfl

end M

end Go.Proofs.YtajmdlpanlbnjaaGreatDoor
