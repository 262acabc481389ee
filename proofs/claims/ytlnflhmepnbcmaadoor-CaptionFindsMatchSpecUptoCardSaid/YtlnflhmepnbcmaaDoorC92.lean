/- What is proved here: Find of the program (no statement of the seat). -/
import Derived.Test.YtlnflhmepnbcmaaDoorC91
import Derived.Test.YtlnflhmepnbcmaaDoorC33
import Derived.Test.YtlnflhmepnbcmaaDoorM9
namespace Go.Proofs.YtlnflhmepnbcmaaDoor
open Go Go.RowKit
set_option linter.unusedVariables false
set_option linter.unusedSimpArgs false
set_option maxHeartbeats 1000000

/-- Where p is found in s, from a place on. -/
def F.fdA (i j : Int) (s p : ByteArray) : Nat → Nat → List Fnd
  | 0, _ => []
  | n + 1, a => (bif F.hasP (s.extract a s.size) p then [⟨i, j, (a : Nat)⟩] else []) ++ F.fdA i j s p n (a + 1)

def F.fdL (p : ByteArray) (i : Nat) : Nat → List ByteArray → List Fnd
  | _, [] => []
  | j, s :: ls => F.fdA (i : Nat) (j : Nat) (F.lowS s) p s.size 0 ++ F.fdL p i (j + 1) ls

def F.fdC (p : ByteArray) : Nat → List Cap → List Fnd
  | _, [] => []
  | i, c :: l => F.fdL p i 0 c.lines ++ F.fdC p (i + 1) l

def F.find (l : List Cap) (q : ByteArray) : List Fnd × Int :=
  bif F.chkC l != 0 then ([], F.chkC l) else bif !F.line q then ([], 3) else
    bif decide (1000 < (F.fdC (F.lowS q) 0 l).length) then ([], 2) else (F.fdC (F.lowS q) 0 l, 0)

theorem F.fdA_len (i j : Int) (s p : ByteArray) : ∀ n a, (F.fdA i j s p n a).length ≤ n
  | 0, _ => Nat.le_refl _
  | n + 1, a => by
    have := F.fdA_len i j s p n (a + 1)
    unfold F.fdA
    rw [List.length_append]
    cases F.hasP (s.extract a s.size) p
    · simp only [cond_false, List.length_nil]; omega
    · simp only [cond_true, List.length_singleton]; omega

theorem F.hasP_size {s p : ByteArray} (h : F.hasP s p = true) : p.size ≤ s.size := by
  unfold F.hasP Lib.hasPrefix at h
  have := (List.isPrefixOf_iff_prefix.1 h).length_le
  simpa [F.bs] using this

theorem F.fdA_none {i j : Int} {s p : ByteArray} (hp : 1 ≤ p.size) : ∀ {n a : Nat}, s.size < a + p.size → F.fdA i j s p n a = []
  | 0, _, _ => rfl
  | n + 1, a, h => by
    unfold F.fdA
    have hf : F.hasP (s.extract a s.size) p = false := by
      cases hh : F.hasP (s.extract a s.size) p
      · rfl
      · exfalso
        have := F.hasP_size hh
        rw [ByteArray.size_extract, Nat.min_self] at this
        omega
    rw [hf, cond_false, List.nil_append, F.fdA_none hp (by omega)]

theorem F.line_ok {s : ByteArray} (h : F.line s = true) : 1 ≤ s.size ∧ s.size ≤ 200 := by
  unfold F.line F.clean at h
  simp only [Bool.and_eq_true, decide_eq_true_eq] at h
  omega

theorem F.fdL_len (p : ByteArray) (i : Nat) : ∀ (ls : List ByteArray) (j : Nat), F.allL ls = true → (F.fdL p i j ls).length ≤ ls.length * 200
  | [], _, _ => Nat.le_refl _
  | s :: ls, j, h => by
    unfold F.allL at h
    rw [List.all_cons, Bool.and_eq_true] at h
    have h1 := (F.line_ok h.1).2
    have h2 := F.fdL_len p i ls (j + 1) h.2
    have h3 := F.fdA_len (i : Nat) (j : Nat) (F.lowS s) p s.size 0
    unfold F.fdL
    rw [List.length_append, List.length_cons]
    omega

namespace M

def stFd1 (l : List Cap) (p : ByteArray) (out : List Fnd) (k : Nat) : St := ⟨[(25, vI k), (24, vI l.length), (23, .sl (l.map eCap)), (7, .own 7), (1, vS p)], [(7, ⟨false, 35, 3, out.map eFnd⟩)]⟩

def stFd11 (a : (List Cap) × ByteArray × (List Fnd) × Nat) : St := stFd1 a.1 a.2.1 a.2.2.1 a.2.2.2

theorem stFd1_inj (a a' : (List Cap) × ByteArray × (List Fnd) × Nat) (h : stFd11 a = stFd11 a') : a = a' := by
  simp only [stFd11, stFd1] at h
  try simp [strs_inj, ints_inj, bools_inj, eCaps_inj, eCap_iff, eL_eCaps_inj, eMchs_inj, eMch_iff, eWrds_inj, eWrd_iff, eFnds_inj, eFnd_iff, eRatios_inj, eRatio_iff, eWays_inj, eWay_iff] at h
  grind

theorem unstFd1 (l : List Cap) (p : ByteArray) (out : List Fnd) (k : Nat) : unenc stFd11 (St.mk [(25, (vI (↑k : Int))), (24, (vI (↑(List.length l) : Int))), (23, AV.sl (List.map eCap l)), (7, .own 7), (1, (vS p))] [(7, Blk.mk false 35 3 (List.map eFnd out))]) = some (l, p, out, k) := unenc_of stFd1_inj (l, p, out, k) rfl

theorem unstFd10 (l : List Cap) (p : ByteArray)  : unenc stFd11 (St.mk [(25, (vI (0 : Int))), (24, (vI (↑(List.length l) : Int))), (23, AV.sl (List.map eCap l)), (7, .own 7), (1, (vS p))] [(7, Blk.mk false 35 3 [])]) = some (l, p, [], 0) := unenc_of stFd1_inj (l, p, [], 0) rfl

def outFd1 (l : List Cap) (p : ByteArray) (out : List Fnd) (k : Nat) : T (Ex × St) := .ret (.exit 0, ⟨[(7, .own 7)], [(7, ⟨false, 35, 3, (out ++ F.fdC p k (l.drop k)).map eFnd⟩)]⟩)

noncomputable def prlFd1 (l : List Cap) (p : ByteArray) (out : List Fnd) (k : Nat) : Bool := decide (F.chkC l = 0 ∧ k ≤ l.length ∧ 1 ≤ p.size ∧ p.size ≤ 200 ∧ out.length ≤ k * 3000)

noncomputable def lpFd1 : Nat × (St → T (Ex × St)) := (9, lpo [25, 24, 23, 7, 1] [7] stFd11 (fun a => prlFd1 a.1 a.2.1 a.2.2.1 a.2.2.2) fun a => outFd1 a.1 a.2.1 a.2.2.1 a.2.2.2)

def stFd2 (l : List Cap) (p : ByteArray) (out : List Fnd) (k : Nat) (ls : List ByteArray) (j : Nat) : St := ⟨[(33, vI j), (32, vI ls.length), (31, .sl (ls.map eStr)), (25, vI k), (24, vI l.length), (23, .sl (l.map eCap)), (8, vI k), (7, .own 7), (1, vS p)], [(7, ⟨false, 35, 3, out.map eFnd⟩)]⟩

def stFd21 (a : (List Cap) × ByteArray × (List Fnd) × Nat × (List ByteArray) × Nat) : St := stFd2 a.1 a.2.1 a.2.2.1 a.2.2.2.1 a.2.2.2.2.1 a.2.2.2.2.2

theorem stFd2_inj (a a' : (List Cap) × ByteArray × (List Fnd) × Nat × (List ByteArray) × Nat) (h : stFd21 a = stFd21 a') : a = a' := by
  simp only [stFd21, stFd2] at h
  try simp [strs_inj, ints_inj, bools_inj, eCaps_inj, eCap_iff, eL_eCaps_inj, eMchs_inj, eMch_iff, eWrds_inj, eWrd_iff, eFnds_inj, eFnd_iff, eRatios_inj, eRatio_iff, eWays_inj, eWay_iff] at h
  grind

theorem unstFd2 (l : List Cap) (p : ByteArray) (out : List Fnd) (k : Nat) (ls : List ByteArray) (j : Nat) : unenc stFd21 (St.mk [(33, (vI (↑j : Int))), (32, (vI (↑(List.length ls) : Int))), (31, AV.sl (List.map eStr ls)), (25, (vI (↑k : Int))), (24, (vI (↑(List.length l) : Int))), (23, AV.sl
  (List.map eCap l)), (8, (vI (↑k : Int))), (7, .own 7), (1, (vS p))] [(7, Blk.mk false 35 3 (List.map eFnd out))]) = some (l, p, out, k, ls, j) := unenc_of stFd2_inj (l, p, out, k, ls, j) rfl

theorem unstFd20 (l : List Cap) (p : ByteArray) (out : List Fnd) (k : Nat) (ls : List ByteArray)  : unenc stFd21 (St.mk [(33, (vI (0 : Int))), (32, (vI (↑(List.length ls) : Int))), (31, AV.sl (List.map eStr ls)), (25, (vI (↑k : Int))), (24, (vI (↑(List.length l) : Int))), (23, AV.sl
  (List.map eCap l)), (8, (vI (↑k : Int))), (7, .own 7), (1, (vS p))] [(7, Blk.mk false 35 3 (List.map eFnd out))]) = some (l, p, out, k, ls, 0) := unenc_of stFd2_inj (l, p, out, k, ls, 0) rfl

def outFd2 (l : List Cap) (p : ByteArray) (out : List Fnd) (k : Nat) (ls : List ByteArray) (j : Nat) : T (Ex × St) := .ret (.exit 2, ⟨[(25, vI k), (24, vI l.length), (23, .sl (l.map eCap)), (7, .own 7), (1, vS p)], [(7, ⟨false, 35, 3, (out ++ F.fdL p k j (ls.drop j)).map eFnd⟩)]⟩)

noncomputable def prlFd2 (l : List Cap) (p : ByteArray) (out : List Fnd) (k : Nat) (ls : List ByteArray) (j : Nat) : Bool := decide (ls.length ≤ 15 ∧ j ≤ ls.length ∧ k ≤ 500 ∧ 1 ≤ p.size ∧ p.size ≤ 200 ∧ out.length ≤ k * 3000 + j * 200) && F.allL ls

noncomputable def lpFd2 : Nat × (St → T (Ex × St)) := (12, lpo [33, 32, 31, 25, 24, 23, 8, 7, 1] [7] stFd21 (fun a => prlFd2 a.1 a.2.1 a.2.2.1 a.2.2.2.1 a.2.2.2.2.1 a.2.2.2.2.2) fun a => outFd2 a.1 a.2.1 a.2.2.1 a.2.2.2.1 a.2.2.2.2.1 a.2.2.2.2.2)

def stFd3 (l : List Cap) (p : ByteArray) (out : List Fnd) (k : Nat) (ls : List ByteArray) (j : Nat) (s : ByteArray) (a : Nat) : St := ⟨[(33, vI j), (32, vI ls.length), (31, .sl (ls.map eStr)), (25, vI k), (24, vI l.length), (23, .sl (l.map eCap)), (12, vI a), (11, vS s), (10, vI j), (8, vI k), (7, .own 7), (1, vS p)], [(7, ⟨false, 35, 3, out.map eFnd⟩)]⟩

def stFd31 (a : (List Cap) × ByteArray × (List Fnd) × Nat × (List ByteArray) × Nat × ByteArray × Nat) : St := stFd3 a.1 a.2.1 a.2.2.1 a.2.2.2.1 a.2.2.2.2.1 a.2.2.2.2.2.1 a.2.2.2.2.2.2.1 a.2.2.2.2.2.2.2

theorem stFd3_inj (a a' : (List Cap) × ByteArray × (List Fnd) × Nat × (List ByteArray) × Nat × ByteArray × Nat) (h : stFd31 a = stFd31 a') : a = a' := by
  simp only [stFd31, stFd3] at h
  try simp [strs_inj, ints_inj, bools_inj, eCaps_inj, eCap_iff, eL_eCaps_inj, eMchs_inj, eMch_iff, eWrds_inj, eWrd_iff, eFnds_inj, eFnd_iff, eRatios_inj, eRatio_iff, eWays_inj, eWay_iff] at h
  grind

theorem unstFd3 (l : List Cap) (p : ByteArray) (out : List Fnd) (k : Nat) (ls : List ByteArray) (j : Nat) (s : ByteArray) (a : Nat) : unenc stFd31 (St.mk [(33, (vI (↑j : Int))), (32, (vI (↑(List.length ls) : Int))), (31, AV.sl (List.map eStr ls)), (25, (vI (↑k : Int))), (24, (vI (↑(List.length l) : Int))), (23, AV.sl
  (List.map eCap l)), (12, (vI (↑a : Int))), (11, (vS s)), (10, (vI (↑j : Int))), (8, (vI (↑k : Int))), (7, .own 7), (1, (vS p))] [(7, Blk.mk false 35 3 (List.map eFnd
  out))]) = some (l, p, out, k, ls, j, s, a) := unenc_of stFd3_inj (l, p, out, k, ls, j, s, a) rfl

theorem unstFd30 (l : List Cap) (p : ByteArray) (out : List Fnd) (k : Nat) (ls : List ByteArray) (j : Nat) (s : ByteArray)  : unenc stFd31 (St.mk [(33, (vI (↑j : Int))), (32, (vI (↑(List.length ls) : Int))), (31, AV.sl (List.map eStr ls)), (25, (vI (↑k : Int))), (24, (vI (↑(List.length l) : Int))), (23, AV.sl
  (List.map eCap l)), (12, (vI (0 : Int))), (11, (vS s)), (10, (vI (↑j : Int))), (8, (vI (↑k : Int))), (7, .own 7), (1, (vS p))] [(7, Blk.mk false 35 3 (List.map eFnd out))]) = some (l, p, out, k, ls, j, s, 0) := unenc_of stFd3_inj (l, p, out, k, ls, j, s, 0) rfl

def outFd3 (l : List Cap) (p : ByteArray) (out : List Fnd) (k : Nat) (ls : List ByteArray) (j : Nat) (s : ByteArray) (a : Nat) : T (Ex × St) := .ret (.exit 4, ⟨[(33, vI j), (32, vI ls.length), (31, .sl (ls.map eStr)), (25, vI k), (24, vI l.length), (23, .sl (l.map eCap)), (8, vI k), (7, .own 7), (1, vS p)], [(7, ⟨false, 35, 3, (out ++ F.fdA (k : Nat) (j : Nat) s p (s.size - a) a).map eFnd⟩)]⟩)

noncomputable def prlFd3 (l : List Cap) (p : ByteArray) (out : List Fnd) (k : Nat) (ls : List ByteArray) (j : Nat) (s : ByteArray) (a : Nat) : Bool := decide (s.size ≤ 200 ∧ a ≤ s.size ∧ 1 ≤ p.size ∧ p.size ≤ 200 ∧ k ≤ 500 ∧ j ≤ 15 ∧ out.length ≤ k * 3000 + j * 200 + a)

noncomputable def lpFd3 : Nat × (St → T (Ex × St)) := (16, lpo [33, 32, 31, 25, 24, 23, 12, 11, 10, 8, 7, 1] [7] stFd31 (fun a => prlFd3 a.1 a.2.1 a.2.2.1 a.2.2.2.1 a.2.2.2.2.1 a.2.2.2.2.2.1 a.2.2.2.2.2.2.1 a.2.2.2.2.2.2.2) fun a => outFd3 a.1 a.2.1 a.2.2.1 a.2.2.2.1 a.2.2.2.2.1 a.2.2.2.2.2.1 a.2.2.2.2.2.2.1 a.2.2.2.2.2.2.2)

noncomputable def enFd : Env := envH ty noG lks [oChC, oLin, oLow, oHsP] [] [] [lpFd1, lpFd2, lpFd3]

theorem enFd_ok : EnvOK Tryd.prog enFd := by
  refine envH_ok lks_ok ty_ok ?_ ?_
  · simp only [List.forall_mem_cons]
    exact ⟨okChC, okLin, okLow, okHsP, by simp⟩
  · simp

theorem evFd3L (l : List Cap) (p : ByteArray) (out : List Fnd) (k : Nat) (ls : List ByteArray) (j : Nat) (s : ByteArray) (a : Nat) : ((exec enFd (loopN Tryd.f13 2) (stFd3 l p out k ls j s a)).bind (lessX ([33, 32, 31, 25, 24, 23, 12, 11, 10, 8, 7, 1], [7]) ([33, 32, 31, 25, 24, 23, 8, 7, 1], [7]) ([], []))).val =
  bif decide (IntKind.wrap IntKind.i64 ((↑a : Int) + (↑(ByteArray.size p) : Int)) ≤ (↑(ByteArray.size s) : Int)) then bif Nat.ble a (ByteArray.size s) && Nat.ble
  (ByteArray.size s) (ByteArray.size s) then Option.bind (unenc encHsP [(vS (ByteArray.extract s a (ByteArray.size s))), (vS p)]) fun (z : ByteArray × ByteArray) => bif
  F.hasP z.fst z.snd then bif Nat.ble ((List.length (List.map eFnd out) + (1 : Nat)) * (24 : Nat)) (140737488355328 : Nat) && true then some (Ex.normal, St.mk [(33, (vI (↑j
  : Int))), (32, (vI (↑(List.length ls) : Int))), (31, AV.sl (List.map eStr ls)), (25, (vI (↑k : Int))), (24, (vI (↑(List.length l) : Int))), (23, AV.sl (List.map eCap l)),
  (12, (vI (IntKind.wrap IntKind.i64 ((↑a : Int) + (1 : Int))))), (11, (vS s)), (10, (vI (↑j : Int))), (8, (vI (↑k : Int))), (7, .own 7), (1, (vS p))] [(7, Blk.mk false 35 3
  (List.map eFnd out ++ [[(vI (↑k : Int)), (vI (↑j : Int)), (vI (↑a : Int))]]))]) else none else some (Ex.normal, St.mk [(33, (vI (↑j : Int))), (32, (vI (↑(List.length ls) :
  Int))), (31, AV.sl (List.map eStr ls)), (25, (vI (↑k : Int))), (24, (vI (↑(List.length l) : Int))), (23, AV.sl (List.map eCap l)), (12, (vI (IntKind.wrap IntKind.i64 ((↑a
  : Int) + (1 : Int))))), (11, (vS s)), (10, (vI (↑j : Int))), (8, (vI (↑k : Int))), (7, .own 7), (1, (vS p))] [(7, Blk.mk false 35 3 (List.map eFnd out))]) else none else
  some (Ex.exit (4 : Nat), St.mk [(33, (vI (↑j : Int))), (32, (vI (↑(List.length ls) : Int))), (31, AV.sl (List.map eStr ls)), (25, (vI (↑k : Int))), (24, (vI (↑(List.length
  l) : Int))), (23, AV.sl (List.map eCap l)), (8, (vI (↑k : Int))), (7, .own 7), (1, (vS p))] [(7, Blk.mk false 35 3 (List.map eFnd out))]) := (execR_bind _ _ _).symm.trans (by kernel_rfl)

theorem lpFd3_ok (l : List Cap) (p : ByteArray) (out : List Fnd) (k : Nat) (ls : List ByteArray) (j : Nat) (s : ByteArray) (a : Nat) (hp : prlFd3 l p out k ls j s a = true) : ∀ ex s', (outFd3 l p out k ls j s a).val = some (ex, s') → LoopOK enFd (loopN Tryd.f13 2) (stFd3 l p out k ls j s a) ex s' := by
  simp only [prlFd3, Bool.and_eq_true, decide_eq_true_eq] at hp
  obtain ⟨h1, h2, h3, h4, h5, h6, h7⟩ := hp
  refine loop_gen (st := fun z : List Fnd × Nat => stFd3 l p z.1 k ls j s z.2) (out := fun z => outFd3 l p z.1 k ls j s z.2) (I := fun z => z.2 ≤ s.size ∧ z.1.length ≤ k * 3000 + j * 200 + z.2) (n := ([33, 32, 31, 25, 24, 23, 12, 11, 10, 8, 7, 1], [7])) (e := ([33, 32, 31, 25, 24, 23, 8, 7, 1], [7])) (r := ([], [])) (fun z => s.size - z.2) ?_ (out, a) ⟨h2, h7⟩
  rintro ⟨out, a⟩ ⟨h2, h7⟩
  simp only at h2 h7
  have hw : IntKind.i64.wrap ((a : Int) + (p.size : Int)) = ((a + p.size : Nat) : Int) := by rw [wrap_id (by omega) (by omega)]; omega
  by_cases hlt : a + p.size ≤ s.size
  · right
    have hle : decide (((a + p.size : Nat) : Int) ≤ (s.size : Int)) = true := decide_eq_true (by omega)
    have hb1 : Nat.ble a s.size = true := ble_t h2
    have hb2 : Nat.ble s.size s.size = true := ble_t (Nat.le_refl _)
    have hbl : Nat.ble ((out.length + 1) * 24) 140737488355328 = true := ble_t (by omega)
    have hw1 : IntKind.i64.wrap ((a : Int) + 1) = ((a + 1 : Nat) : Int) := by rw [wrap_id (by omega) (by omega)]; omega
    have e : F.fdA (k : Nat) (j : Nat) s p (s.size - a) a = (bif F.hasP (s.extract a s.size) p then [⟨(k : Nat), (j : Nat), (a : Nat)⟩] else []) ++ F.fdA (k : Nat) (j : Nat) s p (s.size - (a + 1)) (a + 1) := by
      rw [show s.size - a = (s.size - (a + 1)) + 1 by omega]
      rfl
    cases hh : F.hasP (s.extract a s.size) p
    · refine ⟨(out, a + 1), ?_, rfl, ⟨by simp only; omega, by simp only; omega⟩, by simp only; omega, ?_⟩
      · rw [evFd3L]
        simp only [unChC, unLin, unLow, unHsP, preChC1, preLin1, preLow1, preHsP1, unstFd1, unstFd2, unstFd3, unstFd10, unstFd20, unstFd30, prlFd1, prlFd2, prlFd3, outFd1, outFd2, outFd3, etaCap, etaMch, etaWrd, etaFnd, etaRatio, etaWay, Option.bind_some, List.length_map, unStrs, unInts, unBools, unCaps, uneL_eCaps, unMchs, unWrds, unFnds, unRatios, unWays, F.lt, F.le, cond_true, cond_false, Bool.and_true, Bool.true_and, hw, hle, hb1, hb2, hh, hw1, stFd3]
      · simp only [outFd3, e, hh, cond_false, List.nil_append]
    · refine ⟨(out ++ [⟨(k : Nat), (j : Nat), (a : Nat)⟩], a + 1), ?_, rfl, ⟨by simp only; omega, by simp only [List.length_append, List.length_singleton]; omega⟩, by simp only; omega, ?_⟩
      · rw [evFd3L]
        simp only [unChC, unLin, unLow, unHsP, preChC1, preLin1, preLow1, preHsP1, unstFd1, unstFd2, unstFd3, unstFd10, unstFd20, unstFd30, prlFd1, prlFd2, prlFd3, outFd1, outFd2, outFd3, etaCap, etaMch, etaWrd, etaFnd, etaRatio, etaWay, Option.bind_some, List.length_map, unStrs, unInts, unBools, unCaps, uneL_eCaps, unMchs, unWrds, unFnds, unRatios, unWays, F.lt, F.le, cond_true, cond_false, Bool.and_true, Bool.true_and, hw, hle, hb1, hb2, hh, hbl, hw1, stFd3]
        rw [List.map_append]
        rfl
      · simp only [outFd3, e, hh, cond_true, List.append_assoc]
  · left
    have hle : decide (((a + p.size : Nat) : Int) ≤ (s.size : Int)) = false := decide_eq_false (by omega)
    refine ⟨_, ?_, rfl, by simp, rfl⟩
    rw [evFd3L]
    simp only [hw, hle, cond_false, F.fdA_none h3 (show s.size < a + p.size by omega), List.append_nil]

theorem evFd2L (l : List Cap) (p : ByteArray) (out : List Fnd) (k : Nat) (ls : List ByteArray) (j : Nat) : ((exec enFd (loopN Tryd.f13 1) (stFd2 l p out k ls j)).bind (lessX ([33, 32, 31, 25, 24, 23, 8, 7, 1], [7]) ([25, 24, 23, 7, 1], [7]) ([], []))).val =
  bif decide ((↑j : Int) < (↑(List.length ls) : Int)) then Option.bind (unenc (List.map eStr) (List.map eStr ls)) fun (z : List ByteArray) => bif decide (j < List.length z)
  then Option.bind (unenc encLow [(vS (List.getD z j (ByteArray.mk (Array.mk []))))]) fun (z : ByteArray) => Option.bind (unenc stFd31 (St.mk [(33, (vI (↑j : Int))), (32,
  (vI (↑(List.length ls) : Int))), (31, AV.sl (List.map eStr ls)), (25, (vI (↑k : Int))), (24, (vI (↑(List.length l) : Int))), (23, AV.sl (List.map eCap l)), (12, (vI (0 :
  Int))), (11, (vS (F.lowS z))), (10, (vI (↑j : Int))), (8, (vI (↑k : Int))), (7, .own 7), (1, (vS p))] [(7, Blk.mk false 35 3 (List.map eFnd out))])) fun (z : List Cap ×
  ByteArray × List Fnd × Nat × List ByteArray × Nat × ByteArray × Nat) => bif decide (ByteArray.size z.snd.snd.snd.snd.snd.snd.fst ≤ (200 : Nat) ∧
  z.snd.snd.snd.snd.snd.snd.snd ≤ ByteArray.size z.snd.snd.snd.snd.snd.snd.fst ∧ (1 : Nat) ≤ ByteArray.size z.snd.fst ∧ ByteArray.size z.snd.fst ≤ (200 : Nat) ∧
  z.snd.snd.snd.fst ≤ (500 : Nat) ∧ z.snd.snd.snd.snd.snd.fst ≤ (15 : Nat) ∧ List.length z.snd.snd.fst ≤ z.snd.snd.snd.fst * (3000 : Nat) + z.snd.snd.snd.snd.snd.fst * (200
  : Nat) + z.snd.snd.snd.snd.snd.snd.snd) && true then some (Ex.normal, St.mk [(33, (vI (IntKind.wrap IntKind.i64 ((↑z.snd.snd.snd.snd.snd.fst : Int) + (1 : Int))))), (32,
  (vI (↑(List.length z.snd.snd.snd.snd.fst) : Int))), (31, AV.sl (List.map eStr z.snd.snd.snd.snd.fst)), (25, (vI (↑z.snd.snd.snd.fst : Int))), (24, (vI (↑(List.length
  z.fst) : Int))), (23, AV.sl (List.map eCap z.fst)), (8, (vI (↑z.snd.snd.snd.fst : Int))), (7, .own 7), (1, (vS z.snd.fst))] [(7, Blk.mk false 35 3 (List.map eFnd
  (z.snd.snd.fst ++ F.fdA (↑z.snd.snd.snd.fst : Int) (↑z.snd.snd.snd.snd.snd.fst : Int) z.snd.snd.snd.snd.snd.snd.fst z.snd.fst (ByteArray.size z.snd.snd.snd.snd.snd.snd.fst
  - z.snd.snd.snd.snd.snd.snd.snd) z.snd.snd.snd.snd.snd.snd.snd)))]) else none else none else some (Ex.exit (2 : Nat), St.mk [(25, (vI (↑k : Int))), (24, (vI (↑(List.length
  l) : Int))), (23, AV.sl (List.map eCap l)), (7, .own 7), (1, (vS p))] [(7, Blk.mk false 35 3 (List.map eFnd out))]) := (execR_bind _ _ _).symm.trans (by kernel_rfl)

theorem lpFd2_ok (l : List Cap) (p : ByteArray) (out : List Fnd) (k : Nat) (ls : List ByteArray) (j : Nat) (hp : prlFd2 l p out k ls j = true) : ∀ ex s', (outFd2 l p out k ls j).val = some (ex, s') → LoopOK enFd (loopN Tryd.f13 1) (stFd2 l p out k ls j) ex s' := by
  simp only [prlFd2, Bool.and_eq_true, decide_eq_true_eq] at hp
  obtain ⟨⟨h1, h2, h3, h4, h5, h6⟩, h7⟩ := hp
  refine loop_gen (st := fun z : List Fnd × Nat => stFd2 l p z.1 k ls z.2) (out := fun z => outFd2 l p z.1 k ls z.2) (I := fun z => z.2 ≤ ls.length ∧ z.1.length ≤ k * 3000 + z.2 * 200) (n := ([33, 32, 31, 25, 24, 23, 8, 7, 1], [7])) (e := ([25, 24, 23, 7, 1], [7])) (r := ([], [])) (fun z => ls.length - z.2) ?_ (out, j) ⟨h2, h6⟩
  rintro ⟨out, j⟩ ⟨h2, h6⟩
  simp only at h2 h6
  by_cases hlt : j < ls.length
  · right
    have hy : ls[j]? = some ls[j] := List.getElem?_eq_getElem hlt
    generalize ls[j] = y at hy
    have hd := drop_at hy
    have hyl := F.line_ok (List.all_eq_true.1 h7 y (List.mem_of_getElem? hy))
    have hsz := F.lowS_size y
    have hfl := F.fdA_len (k : Nat) (j : Nat) (F.lowS y) p y.size 0
    have q : (F.lowS y).size ≤ 200 ∧ 0 ≤ (F.lowS y).size ∧ 1 ≤ p.size ∧ p.size ≤ 200 ∧ k ≤ 500 ∧ j ≤ 15 ∧ out.length ≤ k * 3000 + j * 200 + 0 := ⟨by omega, Nat.zero_le _, h4, h5, h3, by omega, by rw [Nat.add_zero]; exact h6⟩
    rw [hsz] at q
    refine ⟨(out ++ F.fdA (k : Nat) (j : Nat) (F.lowS y) p y.size 0, j + 1), ?_, rfl, ⟨hlt, by simp only [List.length_append]; omega⟩, by simp only; omega, ?_⟩
    · rw [evFd2L]
      simp only [unChC, unLin, unLow, unHsP, preChC1, preLin1, preLow1, preHsP1, unstFd1, unstFd2, unstFd3, unstFd10, unstFd20, unstFd30, prlFd1, prlFd2, prlFd3, outFd1, outFd2, outFd3, etaCap, etaMch, etaWrd, etaFnd, etaRatio, etaWay, Option.bind_some, List.length_map, unStrs, unInts, unBools, unCaps, uneL_eCaps, unMchs, unWrds, unFnds, unRatios, unWays, F.lt, F.le, cond_true, cond_false, Bool.and_true, Bool.true_and, cast_lt hlt, decide_eq_true hlt, getD_at hy, decide_eq_true q, next_at hlt (by omega : ls.length ≤ 9223372036854775807), hsz, Nat.sub_zero, stFd2]
    · simp only [outFd2, hd, F.fdL, List.append_assoc]
  · left
    have : j = ls.length := by omega
    subst this
    refine ⟨_, ?_, rfl, by simp, rfl⟩
    rw [evFd2L]
    simp [F.fdL]

theorem evFd1L (l : List Cap) (p : ByteArray) (out : List Fnd) (k : Nat) : ((exec enFd (loopN Tryd.f13 0) (stFd1 l p out k)).bind (lessX ([25, 24, 23, 7, 1], [7]) ([7], [7]) ([], []))).val =
  bif decide ((↑k : Int) < (↑(List.length l) : Int)) then Option.bind (unenc (List.map eCap) (List.map eCap l)) fun (z : List Cap) => bif decide (k < List.length z) then
  Option.bind (unenc stFd21 (St.mk [(33, (vI (0 : Int))), (32, (vI (↑(List.length (List.map eStr (List.getD z k (Cap.mk (0 : Int) (0 : Int) [] (0 : Int) false
  false)).lines)) : Int))), (31, AV.sl (List.map eStr (List.getD z k (Cap.mk (0 : Int) (0 : Int) [] (0 : Int) false false)).lines)), (25, (vI (↑k : Int))), (24, (vI
  (↑(List.length l) : Int))), (23, AV.sl (List.map eCap l)), (8, (vI (↑k : Int))), (7, .own 7), (1, (vS p))] [(7, Blk.mk false 35 3 (List.map eFnd out))])) fun (z : List Cap
  × ByteArray × List Fnd × Nat × List ByteArray × Nat) => bif decide (List.length z.snd.snd.snd.snd.fst ≤ (15 : Nat) ∧ z.snd.snd.snd.snd.snd ≤ List.length
  z.snd.snd.snd.snd.fst ∧ z.snd.snd.snd.fst ≤ (500 : Nat) ∧ (1 : Nat) ≤ ByteArray.size z.snd.fst ∧ ByteArray.size z.snd.fst ≤ (200 : Nat) ∧ List.length z.snd.snd.fst ≤
  z.snd.snd.snd.fst * (3000 : Nat) + z.snd.snd.snd.snd.snd * (200 : Nat)) && F.allL z.snd.snd.snd.snd.fst && true then some (Ex.normal, St.mk [(25, (vI (IntKind.wrap
  IntKind.i64 ((↑z.snd.snd.snd.fst : Int) + (1 : Int))))), (24, (vI (↑(List.length z.fst) : Int))), (23, AV.sl (List.map eCap z.fst)), (7, .own 7), (1, (vS z.snd.fst))] [(7,
  Blk.mk false 35 3 (List.map eFnd (z.snd.snd.fst ++ F.fdL z.snd.fst z.snd.snd.snd.fst z.snd.snd.snd.snd.snd (List.drop z.snd.snd.snd.snd.snd z.snd.snd.snd.snd.fst))))])
  else none else none else some (Ex.exit (0 : Nat), St.mk [(7, .own 7)] [(7, Blk.mk false 35 3 (List.map eFnd out))]) := (execR_bind _ _ _).symm.trans (by kernel_rfl)

theorem lpFd1_ok (l : List Cap) (p : ByteArray) (out : List Fnd) (k : Nat) (hp : prlFd1 l p out k = true) : ∀ ex s', (outFd1 l p out k).val = some (ex, s') → LoopOK enFd (loopN Tryd.f13 0) (stFd1 l p out k) ex s' := by
  simp only [prlFd1, Bool.and_eq_true, decide_eq_true_eq] at hp
  obtain ⟨h1, h2, h3, h4, h5⟩ := hp
  have hl := F.chk_len h1
  refine loop_gen (st := fun z : List Fnd × Nat => stFd1 l p z.1 z.2) (out := fun z => outFd1 l p z.1 z.2) (I := fun z => z.2 ≤ l.length ∧ z.1.length ≤ z.2 * 3000) (n := ([25, 24, 23, 7, 1], [7])) (e := ([7], [7])) (r := ([], [])) (fun z => l.length - z.2) ?_ (out, k) ⟨h2, h5⟩
  rintro ⟨out, k⟩ ⟨h2, h5⟩
  simp only at h2 h5
  by_cases hlt : k < l.length
  · right
    have hy : l[k]? = some l[k] := List.getElem?_eq_getElem hlt
    generalize l[k] = y at hy
    have hd := drop_at hy
    obtain ⟨q0, hq0⟩ := F.chk_at h1 (List.mem_of_getElem? hy)
    obtain ⟨-, c1, c2⟩ := F.linesF_ok (F.capF_ok hq0).2.2.2.2.2
    have hfl := F.fdL_len p k y.lines 0 c2
    have q : y.lines.length ≤ 15 ∧ 0 ≤ y.lines.length ∧ k ≤ 500 ∧ 1 ≤ p.size ∧ p.size ≤ 200 ∧ out.length ≤ k * 3000 + 0 * 200 := ⟨c1, Nat.zero_le _, by omega, h3, h4, by rw [Nat.zero_mul, Nat.add_zero]; exact h5⟩
    refine ⟨(out ++ F.fdL p k 0 y.lines, k + 1), ?_, rfl, ⟨hlt, by simp only [List.length_append]; omega⟩, by simp only; omega, ?_⟩
    · rw [evFd1L]
      simp only [unChC, unLin, unLow, unHsP, preChC1, preLin1, preLow1, preHsP1, unstFd1, unstFd2, unstFd3, unstFd10, unstFd20, unstFd30, prlFd1, prlFd2, prlFd3, outFd1, outFd2, outFd3, etaCap, etaMch, etaWrd, etaFnd, etaRatio, etaWay, Option.bind_some, List.length_map, unStrs, unInts, unBools, unCaps, uneL_eCaps, unMchs, unWrds, unFnds, unRatios, unWays, F.lt, F.le, cond_true, cond_false, Bool.and_true, Bool.true_and, cast_lt hlt, decide_eq_true hlt, getD_at hy, decide_eq_true q, c2, List.drop_zero, next_at hlt (by omega : l.length ≤ 9223372036854775807), stFd1]
    · simp only [outFd1, hd, F.fdC, List.append_assoc]
  · left
    have : k = l.length := by omega
    subst this
    refine ⟨_, ?_, rfl, by simp, rfl⟩
    rw [evFd1L]
    simp [F.fdC]

theorem evFd (l : List Cap) (q : ByteArray) : (runF enFd false Tryd.f13 [.sl (l.map eCap), vS q]).val =
  Option.bind (unenc encChC [AV.sl (List.map eCap l)]) fun (z : List Cap) => bif F.smC z then bif F.chkC z != (0 : Int) then some (AV.tup [AV.sl [], (vI (F.chkC z))], [])
  else Option.bind (unenc encLin [(vS q)]) fun (z : ByteArray) => bif F.small z then bif !F.line z then some (AV.tup [AV.sl [], (vI (3 : Int))], []) else Option.bind (unenc
  encLow [(vS q)]) fun (z : ByteArray) => Option.bind (unenc stFd11 (St.mk [(25, (vI (0 : Int))), (24, (vI (↑(List.length (List.map eCap l)) : Int))), (23, AV.sl (List.map
  eCap l)), (7, .own 7), (1, (vS (F.lowS z)))] [(7, Blk.mk false 35 3 [])])) fun (z : List Cap × ByteArray × List Fnd × Nat) => bif decide (F.chkC z.fst = (0 : Int) ∧
  z.snd.snd.snd ≤ List.length z.fst ∧ (1 : Nat) ≤ ByteArray.size z.snd.fst ∧ ByteArray.size z.snd.fst ≤ (200 : Nat) ∧ List.length z.snd.snd.fst ≤ z.snd.snd.snd * (3000 :
  Nat)) && true then bif decide ((1000 : Int) < (↑(List.length (List.map eFnd (z.snd.snd.fst ++ F.fdC z.snd.fst z.snd.snd.snd (List.drop z.snd.snd.snd z.fst)))) : Int)) then
  some (AV.tup [AV.sl [], (vI (2 : Int))], []) else some (AV.tup [AV.sl (List.map eFnd (z.snd.snd.fst ++ F.fdC z.snd.fst z.snd.snd.snd (List.drop z.snd.snd.snd z.fst))), (vI
  (0 : Int))], []) else none else none else none := (runFR_val).symm.trans (by kernel_rfl)

def encFd1 (l : List Cap) (q : ByteArray) : List AV := [.sl (l.map eCap), vS q]

def encFd (a : (List Cap) × ByteArray) : List AV := encFd1 a.1 a.2

theorem encFd_inj (a a' : (List Cap) × ByteArray) (h : encFd a = encFd a') : a = a' := by
  simp only [encFd, encFd1] at h
  try simp [strs_inj, ints_inj, bools_inj, eCaps_inj, eCap_iff, eL_eCaps_inj, eMchs_inj, eMch_iff, eWrds_inj, eWrd_iff, eFnds_inj, eFnd_iff, eRatios_inj, eRatio_iff, eWays_inj, eWay_iff] at h
  grind

theorem unFd (l : List Cap) (q : ByteArray) : unenc encFd ([AV.sl (List.map eCap l), (vS q)]) = some (l, q) := unenc_of encFd_inj (l, q) rfl

def resFd1 (l : List Cap) (q : ByteArray) : AV × Heap := (.tup [.sl ((F.find l q).1.map eFnd), vI (F.find l q).2], [])

def preFd1 (l : List Cap) (q : ByteArray) : Bool := F.smC l && F.small q

noncomputable def oFd : Orc := orc 13 false encFd (fun a => preFd1 a.1 a.2) fun a => resFd1 a.1 a.2

theorem okFd : OrcOK Tryd.prog noG oFd := by
  refine mk_ok Tryd.f13 (keep := false) (by kernel_rfl) (by kernel_rfl) enFd_ok mixed (three_loops (x0 := loopN Tryd.f13 0) (x1 := loopN Tryd.f13 1) (x2 := loopN Tryd.f13 2) (by kernel_rfl) (lpo_ok ?_) (lpo_ok ?_) (lpo_ok ?_)) (by first | exact fun _ _ => ⟨rfl, rfl⟩ | (intro h; cases h)) ?_
  · rintro ⟨l, p, out, k⟩ hp
    exact lpFd1_ok l p out k hp
  · rintro ⟨l, p, out, k, ls, j⟩ hp
    exact lpFd2_ok l p out k ls j hp
  · rintro ⟨l, p, out, k, ls, j, s, a⟩ hp
    exact lpFd3_ok l p out k ls j s a hp
  rintro ⟨l, q⟩ hpre hok
  show (runF enFd false _ (encFd1 _ _)).val = some (resFd1 _ _)
  unfold encFd1 resFd1
  rw [evFd]
  simp only [preFd1, Bool.and_eq_true] at hpre
  obtain ⟨p1, p2⟩ := hpre
  simp only [unChC, unLin, unLow, unHsP, preChC1, preLin1, preLow1, preHsP1, unstFd1, unstFd2, unstFd3, unstFd10, unstFd20, unstFd30, prlFd1, prlFd2, prlFd3, outFd1, outFd2, outFd3, etaCap, etaMch, etaWrd, etaFnd, etaRatio, etaWay, Option.bind_some, List.length_map, unStrs, unInts, unBools, unCaps, uneL_eCaps, unMchs, unWrds, unFnds, unRatios, unWays, F.lt, F.le, cond_true, cond_false, Bool.and_true, Bool.true_and, p1, p2, F.find]
  by_cases h0 : F.chkC l = 0
  case neg =>
    rw [bne1 h0]; rfl
  rw [bne0 h0]
  simp only [cond_false]
  cases hl : F.line q
  · rfl
  · have hq := F.line_ok hl
    have hsz := F.lowS_size q
    have w : F.chkC l = 0 ∧ 0 ≤ l.length ∧ 1 ≤ (F.lowS q).size ∧ (F.lowS q).size ≤ 200 ∧ ([] : List Fnd).length ≤ 0 * 3000 := ⟨h0, Nat.zero_le _, by omega, by omega, Nat.le_refl _⟩
    have e5 : ∀ n : Nat, decide ((1000 : Int) < (n : Int)) = decide (1000 < n) := fun n => cast_gt 1000 n
    simp only [Bool.not_true, cond_false, decide_eq_true w, cond_true, Bool.and_true, List.nil_append, List.drop_zero, unLow, unstFd10, Option.bind_some, e5, List.length_map]
    cases decide (1000 < (F.fdC (F.lowS q) 0 l).length) <;> rfl

end M
end Go.Proofs.YtlnflhmepnbcmaaDoor
