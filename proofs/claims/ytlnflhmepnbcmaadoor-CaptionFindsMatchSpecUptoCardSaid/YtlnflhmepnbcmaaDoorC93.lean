/- What is proved here: Find of the reference; the law of Find. -/
import Derived.Test.YtlnflhmepnbcmaaDoorC92
namespace Go.Proofs.YtlnflhmepnbcmaaDoor
open Go Go.RowKit
set_option linter.unusedVariables false
set_option linter.unusedSimpArgs false
set_option maxHeartbeats 1000000

theorem F.low_extract (s : ByteArray) (a : Nat) : F.lowS (s.extract a s.size) = (F.lowS s).extract a (F.lowS s).size := by
  apply ByteArray.ext
  apply Array.ext'
  rw [Lib.extract_to_end]
  unfold F.lowS
  show (List.map F.lowB (s.extract a s.size).data.toList).toArray.toList = _
  rw [Lib.extract_to_end]
  simp

def F.eqFs (a b : List Fnd) : Bool := decide (a.length = b.length) && (a.zip b).all fun p => M.eqFnd p.1 p.2

theorem F.eqFs_refl (a : List Fnd) : F.eqFs a a = true := by
  unfold F.eqFs
  rw [F.zip_all M.eqFnd M.eqFnd_refl]
  simp

namespace M

def stEqF (xs : List Fnd) (ys : List Fnd) (k : Nat) : St := ⟨[(13, vI k), (12, vI xs.length), (1, .sl (ys.map eFnd)), (0, .sl (xs.map eFnd))], []⟩

def stEqF1 (a : (List Fnd) × (List Fnd) × Nat) : St := stEqF a.1 a.2.1 a.2.2

theorem stEqF_inj (a a' : (List Fnd) × (List Fnd) × Nat) (h : stEqF1 a = stEqF1 a') : a = a' := by
  simp only [stEqF1, stEqF] at h
  try simp [strs_inj, ints_inj, bools_inj, eCaps_inj, eCap_iff, eL_eCaps_inj, eMchs_inj, eMch_iff, eWrds_inj, eWrd_iff, eFnds_inj, eFnd_iff, eRatios_inj, eRatio_iff, eWays_inj, eWay_iff] at h
  grind

theorem unstEqF (xs : List Fnd) (ys : List Fnd) (k : Nat) : unenc stEqF1 (St.mk [(13, (vI (↑k : Int))), (12, (vI (↑(List.length xs) : Int))), (1, AV.sl (List.map eFnd ys)), (0, AV.sl (List.map eFnd xs))] []) = some (xs, ys, k) := unenc_of stEqF_inj (xs, ys, k) rfl

theorem unstEqF0 (xs : List Fnd) (ys : List Fnd)  : unenc stEqF1 (St.mk [(13, (vI (0 : Int))), (12, (vI (↑(List.length xs) : Int))), (1, AV.sl (List.map eFnd ys)), (0, AV.sl (List.map eFnd xs))] []) = some (xs, ys, 0) := unenc_of stEqF_inj (xs, ys, 0) rfl

def outEqF (xs : List Fnd) (ys : List Fnd) (k : Nat) : T (Ex × St) := .ifB (((xs.zip ys).drop k).all fun p => eqFnd p.1 p.2) (.ret (.exit 0, ⟨[], []⟩)) (.ret (.ret, ⟨[(4, vB false)], []⟩))

noncomputable def prlEqF (xs : List Fnd) (ys : List Fnd) (k : Nat) : Bool := decide (xs.length ≤ 9223372036854775807) && decide (k ≤ xs.length) && decide (xs.length = ys.length)

noncomputable def lpEqF : Nat × (St → T (Ex × St)) := (4, lpo [13, 12, 1, 0] [] stEqF1 (fun a => prlEqF a.1 a.2.1 a.2.2) fun a => outEqF a.1 a.2.1 a.2.2)

noncomputable def enEqF : Env := envH ty noG lks [] [] [] [lpEqF]

theorem enEqF_ok : EnvOK Tryd.prog enEqF := by
  refine envH_ok lks_ok ty_ok ?_ ?_
  · simp
  · simp

theorem evEqFL (xs : List Fnd) (ys : List Fnd) (k : Nat) : ((exec enEqF (loopN Tryd.f15 0) (stEqF xs ys k)).bind (lessX ([13, 12, 1, 0], []) ([], []) ([4], []))).val =
  bif decide ((↑k : Int) < (↑(List.length xs) : Int)) then Option.bind (unenc (List.map eFnd) (List.map eFnd xs)) fun (z : List Fnd) => bif decide (k < List.length z) then
  Option.bind (unenc (List.map eFnd) (List.map eFnd ys)) fun (z_1 : List Fnd) => bif decide (k < List.length z_1) then bif !((List.getD z k (Fnd.mk (0 : Int) (0 : Int) (0 :
  Int))).cap == (List.getD z_1 k (Fnd.mk (0 : Int) (0 : Int) (0 : Int))).cap && ((List.getD z k (Fnd.mk (0 : Int) (0 : Int) (0 : Int))).line == (List.getD z_1 k (Fnd.mk (0 :
  Int) (0 : Int) (0 : Int))).line && ((List.getD z k (Fnd.mk (0 : Int) (0 : Int) (0 : Int))).pos == (List.getD z_1 k (Fnd.mk (0 : Int) (0 : Int) (0 : Int))).pos && true)))
  then some (Ex.ret, St.mk [(4, (vB false))] []) else some (Ex.normal, St.mk [(13, (vI (IntKind.wrap IntKind.i64 ((↑k : Int) + (1 : Int))))), (12, (vI (↑(List.length xs) :
  Int))), (1, AV.sl (List.map eFnd ys)), (0, AV.sl (List.map eFnd xs))] []) else none else none else some (Ex.exit (0 : Nat), St.mk [] []) := (execR_bind _ _ _).symm.trans (by kernel_rfl)

theorem lpEqF_ok (xs : List Fnd) (ys : List Fnd) (k : Nat) (hp : prlEqF xs ys k = true) : ∀ ex s', (outEqF xs ys k).val = some (ex, s') → LoopOK enEqF (loopN Tryd.f15 0) (stEqF xs ys k) ex s' := by
  simp only [prlEqF, Bool.and_eq_true, decide_eq_true_eq] at hp
  obtain ⟨⟨h1, h2⟩, h3⟩ := hp
  have hz : (xs.zip ys).length = xs.length := by rw [List.length_zip]; omega
  refine loop_all (xs := xs.zip ys) (st := stEqF xs ys) (p := fun p => eqFnd p.1 p.2) (n := ([13, 12, 1, 0], [])) (e := ([], [])) (r := ([4], [])) ?_ ⟨by simp, rfl⟩ ⟨by simp, rfl⟩ (fun _ => rfl) ?_ k (by omega)
  · rw [hz]; rw [evEqFL]; simp
  · intro k y hy
    rw [List.getElem?_zip_eq_some] at hy
    obtain ⟨ha, hb⟩ := hy
    have hlt := lt_at ha
    have hlt' := lt_at hb
    rw [evEqFL]
    simp only [unstEqF, unstEqF0, prlEqF, outEqF, etaCap, etaMch, etaWrd, etaFnd, etaRatio, etaWay, Option.bind_some, List.length_map, unStrs, unInts, unBools, unCaps, uneL_eCaps, unMchs, unWrds, unFnds, unRatios, unWays, F.lt, F.le, cond_true, cond_false, Bool.and_true, Bool.true_and, cast_lt hlt, decide_eq_true hlt, decide_eq_true hlt', next_at hlt h1, getD_at ha, getD_at hb, stEqF, eqFnd, bne]
    first | (generalize (_ && _) = b0; cases b0 <;> rfl) | (generalize (_ == _) = b0; cases b0 <;> rfl)

theorem evEqF (xs : List Fnd) (ys : List Fnd) : (runF enEqF false Tryd.f15 [.sl (xs.map eFnd), .sl (ys.map eFnd)]).val =
  bif (↑(List.length (List.map eFnd xs)) : Int) != (↑(List.length (List.map eFnd ys)) : Int) then some ((vB false), []) else Option.bind (unenc stEqF1 (St.mk [(13, (vI (0 :
  Int))), (12, (vI (↑(List.length (List.map eFnd xs)) : Int))), (1, AV.sl (List.map eFnd ys)), (0, AV.sl (List.map eFnd xs))] [])) fun (z : List Fnd × List Fnd × Nat) => bif
  decide (List.length z.fst ≤ (9223372036854775807 : Nat)) && decide (z.snd.snd ≤ List.length z.fst) && decide (List.length z.fst = List.length z.snd.fst) && true then bif
  List.all (List.drop z.snd.snd (List.zip z.fst z.snd.fst)) fun (p : Fnd × Fnd) => eqFnd p.fst p.snd then some ((vB true), []) else some ((vB false), []) else none := (runFR_val).symm.trans (by kernel_rfl)

def encEqF1 (xs : List Fnd) (ys : List Fnd) : List AV := [.sl (xs.map eFnd), .sl (ys.map eFnd)]

def encEqF (a : (List Fnd) × (List Fnd)) : List AV := encEqF1 a.1 a.2

theorem encEqF_inj (a a' : (List Fnd) × (List Fnd)) (h : encEqF a = encEqF a') : a = a' := by
  simp only [encEqF, encEqF1] at h
  try simp [strs_inj, ints_inj, bools_inj, eCaps_inj, eCap_iff, eL_eCaps_inj, eMchs_inj, eMch_iff, eWrds_inj, eWrd_iff, eFnds_inj, eFnd_iff, eRatios_inj, eRatio_iff, eWays_inj, eWay_iff] at h
  grind

theorem unEqF (xs : List Fnd) (ys : List Fnd) : unenc encEqF ([AV.sl (List.map eFnd xs), AV.sl (List.map eFnd ys)]) = some (xs, ys) := unenc_of encEqF_inj (xs, ys) rfl

def resEqF1 (xs : List Fnd) (ys : List Fnd) : AV × Heap := (vB (F.eqFs xs ys), [])

def preEqF1 (xs : List Fnd) (ys : List Fnd) : Bool := true

noncomputable def oEqF : Orc := orc 15 true encEqF (fun a => preEqF1 a.1 a.2) fun a => resEqF1 a.1 a.2

theorem okEqF : OrcOK Tryd.prog noG oEqF := by
  refine mk_ok Tryd.f15 (keep := false) (by kernel_rfl) (by kernel_rfl) enEqF_ok mixed (one_loop (x0 := loopN Tryd.f15 0) (by kernel_rfl) (lpo_ok ?_)) (by first | exact fun _ _ => ⟨rfl, rfl⟩ | (intro h; cases h)) ?_
  · rintro ⟨xs, ys, k⟩ hp
    exact lpEqF_ok xs ys k hp
  rintro ⟨xs, ys⟩ hpre hok
  show (runF enEqF false _ (encEqF1 _ _)).val = some (resEqF1 _ _)
  unfold encEqF1 resEqF1
  rw [evEqF]
  have hx : xs.length ≤ 9223372036854775807 := by simpa using (okA_sl (hok _ (List.mem_cons_self ..))).1
  simp only [unstEqF, unstEqF0, prlEqF, outEqF, etaCap, etaMch, etaWrd, etaFnd, etaRatio, etaWay, Option.bind_some, List.length_map, unStrs, unInts, unBools, unCaps, uneL_eCaps, unMchs, unWrds, unFnds, unRatios, unWays, F.lt, F.le, cond_true, cond_false, Bool.and_true, Bool.true_and, hx, List.drop_zero, Nat.zero_le, decide_true, F.len_eq, bne, F.eqFs]
  cases h : decide (xs.length = ys.length)
  · rfl
  · simp only [Bool.not_true, cond_false, cond_true, Bool.true_and]
    cases ((xs.zip ys).all fun p => eqFnd p.1 p.2) <;> rfl

def stRfa (l : List Cap) (q : ByteArray) (out : List Fnd) (k : Nat) : St := ⟨[(23, vI k), (22, vI l.length), (21, .sl (l.map eCap)), (7, .own 7), (1, vS q)], [(7, ⟨false, 35, 3, out.map eFnd⟩)]⟩

def stRfa1 (a : (List Cap) × ByteArray × (List Fnd) × Nat) : St := stRfa a.1 a.2.1 a.2.2.1 a.2.2.2

theorem stRfa_inj (a a' : (List Cap) × ByteArray × (List Fnd) × Nat) (h : stRfa1 a = stRfa1 a') : a = a' := by
  simp only [stRfa1, stRfa] at h
  try simp [strs_inj, ints_inj, bools_inj, eCaps_inj, eCap_iff, eL_eCaps_inj, eMchs_inj, eMch_iff, eWrds_inj, eWrd_iff, eFnds_inj, eFnd_iff, eRatios_inj, eRatio_iff, eWays_inj, eWay_iff] at h
  grind

theorem unstRfa (l : List Cap) (q : ByteArray) (out : List Fnd) (k : Nat) : unenc stRfa1 (St.mk [(23, (vI (↑k : Int))), (22, (vI (↑(List.length l) : Int))), (21, AV.sl (List.map eCap l)), (7, .own 7), (1, (vS q))] [(7, Blk.mk false 35 3 (List.map eFnd out))]) = some (l, q, out, k) := unenc_of stRfa_inj (l, q, out, k) rfl

theorem unstRfa0 (l : List Cap) (q : ByteArray)  : unenc stRfa1 (St.mk [(23, (vI (0 : Int))), (22, (vI (↑(List.length l) : Int))), (21, AV.sl (List.map eCap l)), (7, .own 7), (1, (vS q))] [(7, Blk.mk false 35 3 [])]) = some (l, q, [], 0) := unenc_of stRfa_inj (l, q, [], 0) rfl

def outRfa (l : List Cap) (q : ByteArray) (out : List Fnd) (k : Nat) : T (Ex × St) := .ret (.exit 0, ⟨[(7, .own 7)], [(7, ⟨false, 35, 3, (out ++ F.fdC (F.lowS q) k (l.drop k)).map eFnd⟩)]⟩)

noncomputable def prlRfa (l : List Cap) (q : ByteArray) (out : List Fnd) (k : Nat) : Bool := decide (F.chkC l = 0 ∧ k ≤ l.length ∧ 1 ≤ q.size ∧ q.size ≤ 200 ∧ out.length ≤ k * 3000)

noncomputable def lpRfa : Nat × (St → T (Ex × St)) := (8, lpo [23, 22, 21, 7, 1] [7] stRfa1 (fun a => prlRfa a.1 a.2.1 a.2.2.1 a.2.2.2) fun a => outRfa a.1 a.2.1 a.2.2.1 a.2.2.2)

def stRfb (l : List Cap) (q : ByteArray) (out : List Fnd) (k : Nat) (ls : List ByteArray) (j : Nat) : St := ⟨[(31, vI j), (30, vI ls.length), (29, .sl (ls.map eStr)), (23, vI k), (22, vI l.length), (21, .sl (l.map eCap)), (8, vI k), (7, .own 7), (1, vS q)], [(7, ⟨false, 35, 3, out.map eFnd⟩)]⟩

def stRfb1 (a : (List Cap) × ByteArray × (List Fnd) × Nat × (List ByteArray) × Nat) : St := stRfb a.1 a.2.1 a.2.2.1 a.2.2.2.1 a.2.2.2.2.1 a.2.2.2.2.2

theorem stRfb_inj (a a' : (List Cap) × ByteArray × (List Fnd) × Nat × (List ByteArray) × Nat) (h : stRfb1 a = stRfb1 a') : a = a' := by
  simp only [stRfb1, stRfb] at h
  try simp [strs_inj, ints_inj, bools_inj, eCaps_inj, eCap_iff, eL_eCaps_inj, eMchs_inj, eMch_iff, eWrds_inj, eWrd_iff, eFnds_inj, eFnd_iff, eRatios_inj, eRatio_iff, eWays_inj, eWay_iff] at h
  grind

theorem unstRfb (l : List Cap) (q : ByteArray) (out : List Fnd) (k : Nat) (ls : List ByteArray) (j : Nat) : unenc stRfb1 (St.mk [(31, (vI (↑j : Int))), (30, (vI (↑(List.length ls) : Int))), (29, AV.sl (List.map eStr ls)), (23, (vI (↑k : Int))), (22, (vI (↑(List.length l) : Int))), (21, AV.sl
  (List.map eCap l)), (8, (vI (↑k : Int))), (7, .own 7), (1, (vS q))] [(7, Blk.mk false 35 3 (List.map eFnd out))]) = some (l, q, out, k, ls, j) := unenc_of stRfb_inj (l, q, out, k, ls, j) rfl

theorem unstRfb0 (l : List Cap) (q : ByteArray) (out : List Fnd) (k : Nat) (ls : List ByteArray)  : unenc stRfb1 (St.mk [(31, (vI (0 : Int))), (30, (vI (↑(List.length ls) : Int))), (29, AV.sl (List.map eStr ls)), (23, (vI (↑k : Int))), (22, (vI (↑(List.length l) : Int))), (21, AV.sl
  (List.map eCap l)), (8, (vI (↑k : Int))), (7, .own 7), (1, (vS q))] [(7, Blk.mk false 35 3 (List.map eFnd out))]) = some (l, q, out, k, ls, 0) := unenc_of stRfb_inj (l, q, out, k, ls, 0) rfl

def outRfb (l : List Cap) (q : ByteArray) (out : List Fnd) (k : Nat) (ls : List ByteArray) (j : Nat) : T (Ex × St) := .ret (.exit 2, ⟨[(23, vI k), (22, vI l.length), (21, .sl (l.map eCap)), (7, .own 7), (1, vS q)], [(7, ⟨false, 35, 3, (out ++ F.fdL (F.lowS q) k j (ls.drop j)).map eFnd⟩)]⟩)

noncomputable def prlRfb (l : List Cap) (q : ByteArray) (out : List Fnd) (k : Nat) (ls : List ByteArray) (j : Nat) : Bool := decide (ls.length ≤ 15 ∧ j ≤ ls.length ∧ k ≤ 500 ∧ 1 ≤ q.size ∧ q.size ≤ 200 ∧ out.length ≤ k * 3000 + j * 200) && F.allL ls

noncomputable def lpRfb : Nat × (St → T (Ex × St)) := (11, lpo [31, 30, 29, 23, 22, 21, 8, 7, 1] [7] stRfb1 (fun a => prlRfb a.1 a.2.1 a.2.2.1 a.2.2.2.1 a.2.2.2.2.1 a.2.2.2.2.2) fun a => outRfb a.1 a.2.1 a.2.2.1 a.2.2.2.1 a.2.2.2.2.1 a.2.2.2.2.2)

def stRfc (l : List Cap) (q : ByteArray) (out : List Fnd) (k : Nat) (ls : List ByteArray) (j : Nat) (s : ByteArray) (a : Nat) : St := ⟨[(38, vI a), (37, vI s.size), (31, vI j), (30, vI ls.length), (29, .sl (ls.map eStr)), (23, vI k), (22, vI l.length), (21, .sl (l.map eCap)), (11, vS s), (10, vI j), (8, vI k), (7, .own 7), (1, vS q)], [(7, ⟨false, 35, 3, out.map eFnd⟩)]⟩

def stRfc1 (a : (List Cap) × ByteArray × (List Fnd) × Nat × (List ByteArray) × Nat × ByteArray × Nat) : St := stRfc a.1 a.2.1 a.2.2.1 a.2.2.2.1 a.2.2.2.2.1 a.2.2.2.2.2.1 a.2.2.2.2.2.2.1 a.2.2.2.2.2.2.2

theorem stRfc_inj (a a' : (List Cap) × ByteArray × (List Fnd) × Nat × (List ByteArray) × Nat × ByteArray × Nat) (h : stRfc1 a = stRfc1 a') : a = a' := by
  simp only [stRfc1, stRfc] at h
  try simp [strs_inj, ints_inj, bools_inj, eCaps_inj, eCap_iff, eL_eCaps_inj, eMchs_inj, eMch_iff, eWrds_inj, eWrd_iff, eFnds_inj, eFnd_iff, eRatios_inj, eRatio_iff, eWays_inj, eWay_iff] at h
  grind

theorem unstRfc (l : List Cap) (q : ByteArray) (out : List Fnd) (k : Nat) (ls : List ByteArray) (j : Nat) (s : ByteArray) (a : Nat) : unenc stRfc1 (St.mk [(38, (vI (↑a : Int))), (37, (vI (↑(ByteArray.size s) : Int))), (31, (vI (↑j : Int))), (30, (vI (↑(List.length ls) : Int))), (29, AV.sl (List.map eStr ls)), (23, (vI
  (↑k : Int))), (22, (vI (↑(List.length l) : Int))), (21, AV.sl (List.map eCap l)), (11, (vS s)), (10, (vI (↑j : Int))), (8, (vI (↑k : Int))), (7, .own 7), (1, (vS q))] [(7,
  Blk.mk false 35 3 (List.map eFnd out))]) = some (l, q, out, k, ls, j, s, a) := unenc_of stRfc_inj (l, q, out, k, ls, j, s, a) rfl

theorem unstRfc0 (l : List Cap) (q : ByteArray) (out : List Fnd) (k : Nat) (ls : List ByteArray) (j : Nat) (s : ByteArray)  : unenc stRfc1 (St.mk [(38, (vI (0 : Int))), (37, (vI (↑(ByteArray.size s) : Int))), (31, (vI (↑j : Int))), (30, (vI (↑(List.length ls) : Int))), (29, AV.sl (List.map eStr ls)), (23, (vI
  (↑k : Int))), (22, (vI (↑(List.length l) : Int))), (21, AV.sl (List.map eCap l)), (11, (vS s)), (10, (vI (↑j : Int))), (8, (vI (↑k : Int))), (7, .own 7), (1, (vS q))] [(7,
  Blk.mk false 35 3 (List.map eFnd out))]) = some (l, q, out, k, ls, j, s, 0) := unenc_of stRfc_inj (l, q, out, k, ls, j, s, 0) rfl

def outRfc (l : List Cap) (q : ByteArray) (out : List Fnd) (k : Nat) (ls : List ByteArray) (j : Nat) (s : ByteArray) (a : Nat) : T (Ex × St) := .ret (.exit 4, ⟨[(31, vI j), (30, vI ls.length), (29, .sl (ls.map eStr)), (23, vI k), (22, vI l.length), (21, .sl (l.map eCap)), (8, vI k), (7, .own 7), (1, vS q)], [(7, ⟨false, 35, 3, (out ++ F.fdA (k : Nat) (j : Nat) (F.lowS s) (F.lowS q) (s.size - a) a).map eFnd⟩)]⟩)

noncomputable def prlRfc (l : List Cap) (q : ByteArray) (out : List Fnd) (k : Nat) (ls : List ByteArray) (j : Nat) (s : ByteArray) (a : Nat) : Bool := decide (s.size ≤ 200 ∧ a ≤ s.size ∧ k ≤ 500 ∧ j ≤ 15 ∧ out.length ≤ k * 3000 + j * 200 + a)

noncomputable def lpRfc : Nat × (St → T (Ex × St)) := (14, lpo [38, 37, 31, 30, 29, 23, 22, 21, 11, 10, 8, 7, 1] [7] stRfc1 (fun a => prlRfc a.1 a.2.1 a.2.2.1 a.2.2.2.1 a.2.2.2.2.1 a.2.2.2.2.2.1 a.2.2.2.2.2.2.1 a.2.2.2.2.2.2.2) fun a => outRfc a.1 a.2.1 a.2.2.1 a.2.2.2.1 a.2.2.2.2.1 a.2.2.2.2.2.1 a.2.2.2.2.2.2.1 a.2.2.2.2.2.2.2)

noncomputable def enRFd : Env := envH ty noG lks [oRhC, oRLin, oRLow, oHsP] [] [] [lpRfa, lpRfb, lpRfc]

theorem enRFd_ok : EnvOK Tryd.prog enRFd := by
  refine envH_ok lks_ok ty_ok ?_ ?_
  · simp only [List.forall_mem_cons]
    exact ⟨okRhC, okRLin, okRLow, okHsP, by simp⟩
  · simp

theorem evRfcL (l : List Cap) (q : ByteArray) (out : List Fnd) (k : Nat) (ls : List ByteArray) (j : Nat) (s : ByteArray) (a : Nat) : ((exec enRFd (loopN Tryd.f14 2) (stRfc l q out k ls j s a)).bind (lessX ([38, 37, 31, 30, 29, 23, 22, 21, 11, 10, 8, 7, 1], [7]) ([31, 30, 29, 23, 22, 21, 8, 7, 1], [7]) ([], []))).val =
  bif decide ((↑a : Int) < (↑(ByteArray.size s) : Int)) then bif Nat.ble a (ByteArray.size s) && Nat.ble (ByteArray.size s) (ByteArray.size s) then Option.bind (unenc
  encRLow [(vS (ByteArray.extract s a (ByteArray.size s)))]) fun (z : ByteArray) => Option.bind (unenc encRLow [(vS q)]) fun (z_1 : ByteArray) => Option.bind (unenc encHsP
  [(vS (F.lowS z)), (vS (F.lowS z_1))]) fun (z : ByteArray × ByteArray) => bif F.hasP z.fst z.snd then bif Nat.ble ((List.length (List.map eFnd out) + (1 : Nat)) * (24 :
  Nat)) (140737488355328 : Nat) && true then some (Ex.normal, St.mk [(38, (vI (IntKind.wrap IntKind.i64 ((↑a : Int) + (1 : Int))))), (37, (vI (↑(ByteArray.size s) : Int))),
  (31, (vI (↑j : Int))), (30, (vI (↑(List.length ls) : Int))), (29, AV.sl (List.map eStr ls)), (23, (vI (↑k : Int))), (22, (vI (↑(List.length l) : Int))), (21, AV.sl
  (List.map eCap l)), (11, (vS s)), (10, (vI (↑j : Int))), (8, (vI (↑k : Int))), (7, .own 7), (1, (vS q))] [(7, Blk.mk false 35 3 (List.map eFnd out ++ [[(vI (↑k : Int)),
  (vI (↑j : Int)), (vI (↑a : Int))]]))]) else none else some (Ex.normal, St.mk [(38, (vI (IntKind.wrap IntKind.i64 ((↑a : Int) + (1 : Int))))), (37, (vI (↑(ByteArray.size s)
  : Int))), (31, (vI (↑j : Int))), (30, (vI (↑(List.length ls) : Int))), (29, AV.sl (List.map eStr ls)), (23, (vI (↑k : Int))), (22, (vI (↑(List.length l) : Int))), (21,
  AV.sl (List.map eCap l)), (11, (vS s)), (10, (vI (↑j : Int))), (8, (vI (↑k : Int))), (7, .own 7), (1, (vS q))] [(7, Blk.mk false 35 3 (List.map eFnd out))]) else none else
  some (Ex.exit (4 : Nat), St.mk [(31, (vI (↑j : Int))), (30, (vI (↑(List.length ls) : Int))), (29, AV.sl (List.map eStr ls)), (23, (vI (↑k : Int))), (22, (vI (↑(List.length
  l) : Int))), (21, AV.sl (List.map eCap l)), (8, (vI (↑k : Int))), (7, .own 7), (1, (vS q))] [(7, Blk.mk false 35 3 (List.map eFnd out))]) := (execR_bind _ _ _).symm.trans (by kernel_rfl)

theorem lpRfc_ok (l : List Cap) (q : ByteArray) (out : List Fnd) (k : Nat) (ls : List ByteArray) (j : Nat) (s : ByteArray) (a : Nat) (hp : prlRfc l q out k ls j s a = true) : ∀ ex s', (outRfc l q out k ls j s a).val = some (ex, s') → LoopOK enRFd (loopN Tryd.f14 2) (stRfc l q out k ls j s a) ex s' := by
  simp only [prlRfc, Bool.and_eq_true, decide_eq_true_eq] at hp
  obtain ⟨h1, h2, h5, h6, h7⟩ := hp
  refine loop_gen (st := fun z : List Fnd × Nat => stRfc l q z.1 k ls j s z.2) (out := fun z => outRfc l q z.1 k ls j s z.2) (I := fun z => z.2 ≤ s.size ∧ z.1.length ≤ k * 3000 + j * 200 + z.2) (n := ([38, 37, 31, 30, 29, 23, 22, 21, 11, 10, 8, 7, 1], [7])) (e := ([31, 30, 29, 23, 22, 21, 8, 7, 1], [7])) (r := ([], [])) (fun z => s.size - z.2) ?_ (out, a) ⟨h2, h7⟩
  rintro ⟨out, a⟩ ⟨h2, h7⟩
  simp only at h2 h7
  by_cases hlt : a < s.size
  · right
    have hb1 : Nat.ble a s.size = true := ble_t h2
    have hb2 : Nat.ble s.size s.size = true := ble_t (Nat.le_refl _)
    have hbl : Nat.ble ((out.length + 1) * 24) 140737488355328 = true := ble_t (by omega)
    have e : F.fdA (k : Nat) (j : Nat) (F.lowS s) (F.lowS q) (s.size - a) a = (bif F.hasP (F.lowS (s.extract a s.size)) (F.lowS q) then [⟨(k : Nat), (j : Nat), (a : Nat)⟩] else []) ++ F.fdA (k : Nat) (j : Nat) (F.lowS s) (F.lowS q) (s.size - (a + 1)) (a + 1) := by
      rw [show s.size - a = (s.size - (a + 1)) + 1 by omega, F.low_extract]
      rfl
    cases hh : F.hasP (F.lowS (s.extract a s.size)) (F.lowS q)
    · refine ⟨(out, a + 1), ?_, rfl, ⟨by simp only; omega, by simp only; omega⟩, by simp only; omega, ?_⟩
      · rw [evRfcL]
        simp only [unRhC, unRLin, unRLow, unHsP, preRhC1, preRLin1, preRLow1, preHsP1, unstRfa, unstRfb, unstRfc, unstRfa0, unstRfb0, unstRfc0, prlRfa, prlRfb, prlRfc, outRfa, outRfb, outRfc, etaCap, etaMch, etaWrd, etaFnd, etaRatio, etaWay, Option.bind_some, List.length_map, unStrs, unInts, unBools, unCaps, uneL_eCaps, unMchs, unWrds, unFnds, unRatios, unWays, F.lt, F.le, cond_true, cond_false, Bool.and_true, Bool.true_and, cast_lt hlt, hb1, hb2, hh, next_at hlt (by omega : s.size ≤ 9223372036854775807), stRfc]
      · simp only [outRfc, e, hh, cond_false, List.nil_append]
    · refine ⟨(out ++ [⟨(k : Nat), (j : Nat), (a : Nat)⟩], a + 1), ?_, rfl, ⟨by simp only; omega, by simp only [List.length_append, List.length_singleton]; omega⟩, by simp only; omega, ?_⟩
      · rw [evRfcL]
        simp only [unRhC, unRLin, unRLow, unHsP, preRhC1, preRLin1, preRLow1, preHsP1, unstRfa, unstRfb, unstRfc, unstRfa0, unstRfb0, unstRfc0, prlRfa, prlRfb, prlRfc, outRfa, outRfb, outRfc, etaCap, etaMch, etaWrd, etaFnd, etaRatio, etaWay, Option.bind_some, List.length_map, unStrs, unInts, unBools, unCaps, uneL_eCaps, unMchs, unWrds, unFnds, unRatios, unWays, F.lt, F.le, cond_true, cond_false, Bool.and_true, Bool.true_and, cast_lt hlt, hb1, hb2, hh, hbl, next_at hlt (by omega : s.size ≤ 9223372036854775807), stRfc]
        rw [List.map_append]
        rfl
      · simp only [outRfc, e, hh, cond_true, List.append_assoc]
  · left
    have : a = s.size := by omega
    subst this
    refine ⟨_, ?_, rfl, by simp, rfl⟩
    rw [evRfcL]
    simp only [cast_ge, cond_false, Nat.sub_self, F.fdA, List.append_nil]

theorem evRfbL (l : List Cap) (q : ByteArray) (out : List Fnd) (k : Nat) (ls : List ByteArray) (j : Nat) : ((exec enRFd (loopN Tryd.f14 1) (stRfb l q out k ls j)).bind (lessX ([31, 30, 29, 23, 22, 21, 8, 7, 1], [7]) ([23, 22, 21, 7, 1], [7]) ([], []))).val =
  bif decide ((↑j : Int) < (↑(List.length ls) : Int)) then Option.bind (unenc (List.map eStr) (List.map eStr ls)) fun (z : List ByteArray) => bif decide (j < List.length z)
  then Option.bind (unenc stRfc1 (St.mk [(38, (vI (0 : Int))), (37, (vI (↑(ByteArray.size (List.getD z j (ByteArray.mk (Array.mk [])))) : Int))), (31, (vI (↑j : Int))), (30,
  (vI (↑(List.length ls) : Int))), (29, AV.sl (List.map eStr ls)), (23, (vI (↑k : Int))), (22, (vI (↑(List.length l) : Int))), (21, AV.sl (List.map eCap l)), (11, (vS
  (List.getD z j (ByteArray.mk (Array.mk []))))), (10, (vI (↑j : Int))), (8, (vI (↑k : Int))), (7, .own 7), (1, (vS q))] [(7, Blk.mk false 35 3 (List.map eFnd out))])) fun
  (z : List Cap × ByteArray × List Fnd × Nat × List ByteArray × Nat × ByteArray × Nat) => bif decide (ByteArray.size z.snd.snd.snd.snd.snd.snd.fst ≤ (200 : Nat) ∧
  z.snd.snd.snd.snd.snd.snd.snd ≤ ByteArray.size z.snd.snd.snd.snd.snd.snd.fst ∧ z.snd.snd.snd.fst ≤ (500 : Nat) ∧ z.snd.snd.snd.snd.snd.fst ≤ (15 : Nat) ∧ List.length
  z.snd.snd.fst ≤ z.snd.snd.snd.fst * (3000 : Nat) + z.snd.snd.snd.snd.snd.fst * (200 : Nat) + z.snd.snd.snd.snd.snd.snd.snd) && true then some (Ex.normal, St.mk [(31, (vI
  (IntKind.wrap IntKind.i64 ((↑z.snd.snd.snd.snd.snd.fst : Int) + (1 : Int))))), (30, (vI (↑(List.length z.snd.snd.snd.snd.fst) : Int))), (29, AV.sl (List.map eStr
  z.snd.snd.snd.snd.fst)), (23, (vI (↑z.snd.snd.snd.fst : Int))), (22, (vI (↑(List.length z.fst) : Int))), (21, AV.sl (List.map eCap z.fst)), (8, (vI (↑z.snd.snd.snd.fst :
  Int))), (7, .own 7), (1, (vS z.snd.fst))] [(7, Blk.mk false 35 3 (List.map eFnd (z.snd.snd.fst ++ F.fdA (↑z.snd.snd.snd.fst : Int) (↑z.snd.snd.snd.snd.snd.fst : Int)
  (F.lowS z.snd.snd.snd.snd.snd.snd.fst) (F.lowS z.snd.fst) (ByteArray.size z.snd.snd.snd.snd.snd.snd.fst - z.snd.snd.snd.snd.snd.snd.snd) z.snd.snd.snd.snd.snd.snd.snd)))])
  else none else none else some (Ex.exit (2 : Nat), St.mk [(23, (vI (↑k : Int))), (22, (vI (↑(List.length l) : Int))), (21, AV.sl (List.map eCap l)), (7, .own 7), (1, (vS
  q))] [(7, Blk.mk false 35 3 (List.map eFnd out))]) := (execR_bind _ _ _).symm.trans (by kernel_rfl)

theorem lpRfb_ok (l : List Cap) (q : ByteArray) (out : List Fnd) (k : Nat) (ls : List ByteArray) (j : Nat) (hp : prlRfb l q out k ls j = true) : ∀ ex s', (outRfb l q out k ls j).val = some (ex, s') → LoopOK enRFd (loopN Tryd.f14 1) (stRfb l q out k ls j) ex s' := by
  simp only [prlRfb, Bool.and_eq_true, decide_eq_true_eq] at hp
  obtain ⟨⟨h1, h2, h3, h4, h5, h6⟩, h7⟩ := hp
  refine loop_gen (st := fun z : List Fnd × Nat => stRfb l q z.1 k ls z.2) (out := fun z => outRfb l q z.1 k ls z.2) (I := fun z => z.2 ≤ ls.length ∧ z.1.length ≤ k * 3000 + z.2 * 200) (n := ([31, 30, 29, 23, 22, 21, 8, 7, 1], [7])) (e := ([23, 22, 21, 7, 1], [7])) (r := ([], [])) (fun z => ls.length - z.2) ?_ (out, j) ⟨h2, h6⟩
  rintro ⟨out, j⟩ ⟨h2, h6⟩
  simp only at h2 h6
  by_cases hlt : j < ls.length
  · right
    have hy : ls[j]? = some ls[j] := List.getElem?_eq_getElem hlt
    generalize ls[j] = y at hy
    have hd := drop_at hy
    have hyl := F.line_ok (List.all_eq_true.1 h7 y (List.mem_of_getElem? hy))
    have hfl := F.fdA_len (k : Nat) (j : Nat) (F.lowS y) (F.lowS q) y.size 0
    have w : y.size ≤ 200 ∧ 0 ≤ y.size ∧ k ≤ 500 ∧ j ≤ 15 ∧ out.length ≤ k * 3000 + j * 200 + 0 := ⟨by omega, Nat.zero_le _, h3, by omega, by rw [Nat.add_zero]; exact h6⟩
    refine ⟨(out ++ F.fdA (k : Nat) (j : Nat) (F.lowS y) (F.lowS q) y.size 0, j + 1), ?_, rfl, ⟨hlt, by simp only [List.length_append]; omega⟩, by simp only; omega, ?_⟩
    · rw [evRfbL]
      simp only [unRhC, unRLin, unRLow, unHsP, preRhC1, preRLin1, preRLow1, preHsP1, unstRfa, unstRfb, unstRfc, unstRfa0, unstRfb0, unstRfc0, prlRfa, prlRfb, prlRfc, outRfa, outRfb, outRfc, etaCap, etaMch, etaWrd, etaFnd, etaRatio, etaWay, Option.bind_some, List.length_map, unStrs, unInts, unBools, unCaps, uneL_eCaps, unMchs, unWrds, unFnds, unRatios, unWays, F.lt, F.le, cond_true, cond_false, Bool.and_true, Bool.true_and, cast_lt hlt, decide_eq_true hlt, getD_at hy, decide_eq_true w, next_at hlt (by omega : ls.length ≤ 9223372036854775807), Nat.sub_zero, stRfb]
    · simp only [outRfb, hd, F.fdL, List.append_assoc]
  · left
    have : j = ls.length := by omega
    subst this
    refine ⟨_, ?_, rfl, by simp, rfl⟩
    rw [evRfbL]
    simp [F.fdL]

theorem evRfaL (l : List Cap) (q : ByteArray) (out : List Fnd) (k : Nat) : ((exec enRFd (loopN Tryd.f14 0) (stRfa l q out k)).bind (lessX ([23, 22, 21, 7, 1], [7]) ([7], [7]) ([], []))).val =
  bif decide ((↑k : Int) < (↑(List.length l) : Int)) then Option.bind (unenc (List.map eCap) (List.map eCap l)) fun (z : List Cap) => bif decide (k < List.length z) then
  Option.bind (unenc stRfb1 (St.mk [(31, (vI (0 : Int))), (30, (vI (↑(List.length (List.map eStr (List.getD z k (Cap.mk (0 : Int) (0 : Int) [] (0 : Int) false
  false)).lines)) : Int))), (29, AV.sl (List.map eStr (List.getD z k (Cap.mk (0 : Int) (0 : Int) [] (0 : Int) false false)).lines)), (23, (vI (↑k : Int))), (22, (vI
  (↑(List.length l) : Int))), (21, AV.sl (List.map eCap l)), (8, (vI (↑k : Int))), (7, .own 7), (1, (vS q))] [(7, Blk.mk false 35 3 (List.map eFnd out))])) fun (z : List Cap
  × ByteArray × List Fnd × Nat × List ByteArray × Nat) => bif decide (List.length z.snd.snd.snd.snd.fst ≤ (15 : Nat) ∧ z.snd.snd.snd.snd.snd ≤ List.length
  z.snd.snd.snd.snd.fst ∧ z.snd.snd.snd.fst ≤ (500 : Nat) ∧ (1 : Nat) ≤ ByteArray.size z.snd.fst ∧ ByteArray.size z.snd.fst ≤ (200 : Nat) ∧ List.length z.snd.snd.fst ≤
  z.snd.snd.snd.fst * (3000 : Nat) + z.snd.snd.snd.snd.snd * (200 : Nat)) && F.allL z.snd.snd.snd.snd.fst && true then some (Ex.normal, St.mk [(23, (vI (IntKind.wrap
  IntKind.i64 ((↑z.snd.snd.snd.fst : Int) + (1 : Int))))), (22, (vI (↑(List.length z.fst) : Int))), (21, AV.sl (List.map eCap z.fst)), (7, .own 7), (1, (vS z.snd.fst))] [(7,
  Blk.mk false 35 3 (List.map eFnd (z.snd.snd.fst ++ F.fdL (F.lowS z.snd.fst) z.snd.snd.snd.fst z.snd.snd.snd.snd.snd (List.drop z.snd.snd.snd.snd.snd
  z.snd.snd.snd.snd.fst))))]) else none else none else some (Ex.exit (0 : Nat), St.mk [(7, .own 7)] [(7, Blk.mk false 35 3 (List.map eFnd out))]) := (execR_bind _ _ _).symm.trans (by kernel_rfl)

theorem lpRfa_ok (l : List Cap) (q : ByteArray) (out : List Fnd) (k : Nat) (hp : prlRfa l q out k = true) : ∀ ex s', (outRfa l q out k).val = some (ex, s') → LoopOK enRFd (loopN Tryd.f14 0) (stRfa l q out k) ex s' := by
  simp only [prlRfa, Bool.and_eq_true, decide_eq_true_eq] at hp
  obtain ⟨h1, h2, h3, h4, h5⟩ := hp
  have hl := F.chk_len h1
  refine loop_gen (st := fun z : List Fnd × Nat => stRfa l q z.1 z.2) (out := fun z => outRfa l q z.1 z.2) (I := fun z => z.2 ≤ l.length ∧ z.1.length ≤ z.2 * 3000) (n := ([23, 22, 21, 7, 1], [7])) (e := ([7], [7])) (r := ([], [])) (fun z => l.length - z.2) ?_ (out, k) ⟨h2, h5⟩
  rintro ⟨out, k⟩ ⟨h2, h5⟩
  simp only at h2 h5
  by_cases hlt : k < l.length
  · right
    have hy : l[k]? = some l[k] := List.getElem?_eq_getElem hlt
    generalize l[k] = y at hy
    have hd := drop_at hy
    obtain ⟨q0, hq0⟩ := F.chk_at h1 (List.mem_of_getElem? hy)
    obtain ⟨-, c1, c2⟩ := F.linesF_ok (F.capF_ok hq0).2.2.2.2.2
    have hfl := F.fdL_len (F.lowS q) k y.lines 0 c2
    have w : y.lines.length ≤ 15 ∧ 0 ≤ y.lines.length ∧ k ≤ 500 ∧ 1 ≤ q.size ∧ q.size ≤ 200 ∧ out.length ≤ k * 3000 + 0 * 200 := ⟨c1, Nat.zero_le _, by omega, h3, h4, by rw [Nat.zero_mul, Nat.add_zero]; exact h5⟩
    refine ⟨(out ++ F.fdL (F.lowS q) k 0 y.lines, k + 1), ?_, rfl, ⟨hlt, by simp only [List.length_append]; omega⟩, by simp only; omega, ?_⟩
    · rw [evRfaL]
      simp only [unRhC, unRLin, unRLow, unHsP, preRhC1, preRLin1, preRLow1, preHsP1, unstRfa, unstRfb, unstRfc, unstRfa0, unstRfb0, unstRfc0, prlRfa, prlRfb, prlRfc, outRfa, outRfb, outRfc, etaCap, etaMch, etaWrd, etaFnd, etaRatio, etaWay, Option.bind_some, List.length_map, unStrs, unInts, unBools, unCaps, uneL_eCaps, unMchs, unWrds, unFnds, unRatios, unWays, F.lt, F.le, cond_true, cond_false, Bool.and_true, Bool.true_and, cast_lt hlt, decide_eq_true hlt, getD_at hy, decide_eq_true w, c2, List.drop_zero, next_at hlt (by omega : l.length ≤ 9223372036854775807), stRfa]
    · simp only [outRfa, hd, F.fdC, List.append_assoc]
  · left
    have : k = l.length := by omega
    subst this
    refine ⟨_, ?_, rfl, by simp, rfl⟩
    rw [evRfaL]
    simp [F.fdC]

theorem evRFd (l : List Cap) (q : ByteArray) : (runF enRFd false Tryd.f14 [.sl (l.map eCap), vS q]).val =
  Option.bind (unenc encRhC [AV.sl (List.map eCap l)]) fun (z : List Cap) => bif F.smC z then bif F.chkC z != (0 : Int) then some (AV.tup [AV.sl [], (vI (F.chkC z))], [])
  else Option.bind (unenc encRLin [(vS q)]) fun (z : ByteArray) => bif F.small z then bif !F.line z then some (AV.tup [AV.sl [], (vI (3 : Int))], []) else Option.bind (unenc
  stRfa1 (St.mk [(23, (vI (0 : Int))), (22, (vI (↑(List.length (List.map eCap l)) : Int))), (21, AV.sl (List.map eCap l)), (7, .own 7), (1, (vS q))] [(7, Blk.mk false 35 3
  [])])) fun (z : List Cap × ByteArray × List Fnd × Nat) => bif decide (F.chkC z.fst = (0 : Int) ∧ z.snd.snd.snd ≤ List.length z.fst ∧ (1 : Nat) ≤ ByteArray.size z.snd.fst ∧
  ByteArray.size z.snd.fst ≤ (200 : Nat) ∧ List.length z.snd.snd.fst ≤ z.snd.snd.snd * (3000 : Nat)) && true then bif decide ((1000 : Int) < (↑(List.length (List.map eFnd
  (z.snd.snd.fst ++ F.fdC (F.lowS z.snd.fst) z.snd.snd.snd (List.drop z.snd.snd.snd z.fst)))) : Int)) then some (AV.tup [AV.sl [], (vI (2 : Int))], []) else some (AV.tup
  [AV.sl (List.map eFnd (z.snd.snd.fst ++ F.fdC (F.lowS z.snd.fst) z.snd.snd.snd (List.drop z.snd.snd.snd z.fst))), (vI (0 : Int))], []) else none else none else none := (runFR_val).symm.trans (by kernel_rfl)

def encRFd1 (l : List Cap) (q : ByteArray) : List AV := [.sl (l.map eCap), vS q]

def encRFd (a : (List Cap) × ByteArray) : List AV := encRFd1 a.1 a.2

theorem encRFd_inj (a a' : (List Cap) × ByteArray) (h : encRFd a = encRFd a') : a = a' := by
  simp only [encRFd, encRFd1] at h
  try simp [strs_inj, ints_inj, bools_inj, eCaps_inj, eCap_iff, eL_eCaps_inj, eMchs_inj, eMch_iff, eWrds_inj, eWrd_iff, eFnds_inj, eFnd_iff, eRatios_inj, eRatio_iff, eWays_inj, eWay_iff] at h
  grind

theorem unRFd (l : List Cap) (q : ByteArray) : unenc encRFd ([AV.sl (List.map eCap l), (vS q)]) = some (l, q) := unenc_of encRFd_inj (l, q) rfl

def resRFd1 (l : List Cap) (q : ByteArray) : AV × Heap := (.tup [.sl ((F.find l q).1.map eFnd), vI (F.find l q).2], [])

def preRFd1 (l : List Cap) (q : ByteArray) : Bool := F.smC l && F.small q

noncomputable def oRFd : Orc := orc 14 false encRFd (fun a => preRFd1 a.1 a.2) fun a => resRFd1 a.1 a.2

theorem okRFd : OrcOK Tryd.prog noG oRFd := by
  refine mk_ok Tryd.f14 (keep := false) (by kernel_rfl) (by kernel_rfl) enRFd_ok mixed (three_loops (x0 := loopN Tryd.f14 0) (x1 := loopN Tryd.f14 1) (x2 := loopN Tryd.f14 2) (by kernel_rfl) (lpo_ok ?_) (lpo_ok ?_) (lpo_ok ?_)) (by first | exact fun _ _ => ⟨rfl, rfl⟩ | (intro h; cases h)) ?_
  · rintro ⟨l, q, out, k⟩ hp
    exact lpRfa_ok l q out k hp
  · rintro ⟨l, q, out, k, ls, j⟩ hp
    exact lpRfb_ok l q out k ls j hp
  · rintro ⟨l, q, out, k, ls, j, s, a⟩ hp
    exact lpRfc_ok l q out k ls j s a hp
  rintro ⟨l, q⟩ hpre hok
  show (runF enRFd false _ (encRFd1 _ _)).val = some (resRFd1 _ _)
  unfold encRFd1 resRFd1
  rw [evRFd]
  simp only [preRFd1, Bool.and_eq_true] at hpre
  obtain ⟨p1, p2⟩ := hpre
  simp only [unRhC, unRLin, unRLow, unHsP, preRhC1, preRLin1, preRLow1, preHsP1, unstRfa, unstRfb, unstRfc, unstRfa0, unstRfb0, unstRfc0, prlRfa, prlRfb, prlRfc, outRfa, outRfb, outRfc, etaCap, etaMch, etaWrd, etaFnd, etaRatio, etaWay, Option.bind_some, List.length_map, unStrs, unInts, unBools, unCaps, uneL_eCaps, unMchs, unWrds, unFnds, unRatios, unWays, F.lt, F.le, cond_true, cond_false, Bool.and_true, Bool.true_and, p1, p2, F.find]
  by_cases h0 : F.chkC l = 0
  case neg =>
    rw [bne1 h0]; rfl
  rw [bne0 h0]
  simp only [cond_false]
  cases hl : F.line q
  · rfl
  · have hq := F.line_ok hl
    have w : F.chkC l = 0 ∧ 0 ≤ l.length ∧ 1 ≤ q.size ∧ q.size ≤ 200 ∧ ([] : List Fnd).length ≤ 0 * 3000 := ⟨h0, Nat.zero_le _, by omega, by omega, Nat.le_refl _⟩
    have e5 : ∀ n : Nat, decide ((1000 : Int) < (n : Int)) = decide (1000 < n) := fun n => cast_gt 1000 n
    simp only [Bool.not_true, cond_false, decide_eq_true w, cond_true, Bool.and_true, List.nil_append, List.drop_zero, unstRfa0, Option.bind_some, e5, List.length_map]
    cases decide (1000 < (F.fdC (F.lowS q) 0 l).length) <;> rfl

noncomputable def enLFd : Env := envH ty noG lks [oFd, oRFd, oEqF, oAwk] [] [] []

theorem enLFd_ok : EnvOK Tryd.prog enLFd := by
  refine envH_ok lks_ok ty_ok ?_ ?_
  · simp only [List.forall_mem_cons]
    exact ⟨okFd, okRFd, okEqF, okAwk, by simp⟩
  · simp

theorem evLFd (l : List Cap) (q : ByteArray) : (runF enLFd false Tryd.f4 [.sl (l.map eCap), vS q]).val =
  Option.bind (unenc encFd [AV.sl (List.map eCap l), (vS q)]) fun (z : List Cap × ByteArray) => bif F.smC z.fst && F.small z.snd then Option.bind (unenc encRFd [AV.sl
  (List.map eCap l), (vS q)]) fun (z_1 : List Cap × ByteArray) => bif F.smC z_1.fst && F.small z_1.snd then bif (F.find z.fst z.snd).snd == (F.find z_1.fst z_1.snd).snd then
  Option.bind (unenc encEqF [AV.sl (List.map eFnd (F.find z.fst z.snd).fst), AV.sl (List.map eFnd (F.find z_1.fst z_1.snd).fst)]) fun (z : List Fnd × List Fnd) => bif F.eqFs
  z.fst z.snd then Option.bind (unenc encAwk []) fun (z : Unit) => some ((vB true), []) else some ((vB false), []) else some ((vB false), []) else none else none := (runFR_val).symm.trans (by kernel_rfl)

def encLFd1 (l : List Cap) (q : ByteArray) : List AV := [.sl (l.map eCap), vS q]

def encLFd (a : (List Cap) × ByteArray) : List AV := encLFd1 a.1 a.2

theorem encLFd_inj (a a' : (List Cap) × ByteArray) (h : encLFd a = encLFd a') : a = a' := by
  simp only [encLFd, encLFd1] at h
  try simp [strs_inj, ints_inj, bools_inj, eCaps_inj, eCap_iff, eL_eCaps_inj, eMchs_inj, eMch_iff, eWrds_inj, eWrd_iff, eFnds_inj, eFnd_iff, eRatios_inj, eRatio_iff, eWays_inj, eWay_iff] at h
  grind

theorem unLFd (l : List Cap) (q : ByteArray) : unenc encLFd ([AV.sl (List.map eCap l), (vS q)]) = some (l, q) := unenc_of encLFd_inj (l, q) rfl

def resLFd1 (l : List Cap) (q : ByteArray) : AV × Heap := (vB true, [])

def preLFd1 (l : List Cap) (q : ByteArray) : Bool := F.smC l && F.small q

noncomputable def oLFd : Orc := orc 4 false encLFd (fun a => preLFd1 a.1 a.2) fun a => resLFd1 a.1 a.2

theorem okLFd : OrcOK Tryd.prog noG oLFd := by
  refine mk_ok Tryd.f4 (keep := false) (by kernel_rfl) (by kernel_rfl) enLFd_ok mixed (no_loops (by kernel_rfl)) (by first | exact fun _ _ => ⟨rfl, rfl⟩ | (intro h; cases h)) ?_
  rintro ⟨l, q⟩ hpre hok
  show (runF enLFd false _ (encLFd1 _ _)).val = some (resLFd1 _ _)
  unfold encLFd1 resLFd1
  rw [evLFd]
  simp only [preLFd1] at hpre
  simp only [unFd, unRFd, unEqF, unAwk, preFd1, preRFd1, preEqF1, preAwk1, etaCap, etaMch, etaWrd, etaFnd, etaRatio, etaWay, Option.bind_some, List.length_map, unStrs, unInts, unBools, unCaps, uneL_eCaps, unMchs, unWrds, unFnds, unRatios, unWays, F.lt, F.le, cond_true, cond_false, Bool.and_true, Bool.true_and, hpre, F.eqFs_refl, bne_self_eq_false, beq_self_eq_true, bne, Bool.not_true, Bool.not_false]

end M
end Go.Proofs.YtlnflhmepnbcmaaDoor
