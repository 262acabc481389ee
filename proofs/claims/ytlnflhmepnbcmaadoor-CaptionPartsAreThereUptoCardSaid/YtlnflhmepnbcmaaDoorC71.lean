/- What is proved here: captions that are sorted by insertion (no statement of the seat). -/
import Derived.Test.YtlnflhmepnbcmaaDoorC70
import Derived.Test.YtlnflhmepnbcmaaDoorC67
namespace Go.Proofs.YtlnflhmepnbcmaaDoor
open Go Go.RowKit
set_option linter.unusedVariables false
set_option linter.unusedSimpArgs false

namespace K
variable {α : Type} {lt : α → α → Bool}

/-- The place before which an element comes, from behind. -/
def backTo (lt : α → α → Bool) (c : α) (xs : List α) : Nat → Nat
  | 0 => 0
  | j + 1 => match xs[j]? with
    | some y => bif lt c y then backTo lt c xs j else j + 1
    | none => j + 1

theorem backTo_le (c : α) (xs : List α) : ∀ j, backTo lt c xs j ≤ j
  | 0 => Nat.le_refl _
  | j + 1 => by
    unfold backTo
    have := backTo_le c xs j
    split
    · cases lt c _ <;> simp <;> omega
    · exact Nat.le_refl _

theorem backTo_spec (c : α) (xs : List α) : ∀ j, j ≤ xs.length → (∀ q y, backTo lt c xs j ≤ q → q < j → xs[q]? = some y → lt c y = true) ∧ (backTo lt c xs j = 0 ∨ ∃ k y, backTo lt c xs j = k + 1 ∧ xs[k]? = some y ∧ lt c y = false)
  | 0, _ => ⟨fun q y _ h => by omega, .inl rfl⟩
  | j + 1, hj => by
    have hy : xs[j]? = some xs[j] := List.getElem?_eq_getElem (by omega)
    obtain ⟨h1, h2⟩ := backTo_spec c xs j (by omega)
    unfold backTo
    rw [hy]
    generalize xs[j] = y at hy
    simp only
    cases hc : lt c y
    · simp only [cond_false]
      exact ⟨fun q z h3 h4 => by omega, .inr ⟨j, y, rfl, hy, hc⟩⟩
    · simp only [cond_true]
      refine ⟨fun q z h3 h4 hz => ?_, h2⟩
      by_cases hq : q = j
      · subst hq
        rw [hy] at hz
        cases hz
        exact hc
      · exact h1 q z h3 (by omega) hz

theorem insAt_ins (h : SW lt) {c : α} {xs : List α} (hs : Srt lt xs) : F.insAt (backTo lt c xs xs.length) c xs = ins lt c xs := by
  obtain ⟨h1, h2⟩ := backTo_spec (lt := lt) c xs xs.length (Nat.le_refl _)
  have hle := backTo_le (lt := lt) c xs xs.length
  generalize backTo lt c xs xs.length = j at h1 h2 hle
  have e : xs = xs.take j ++ xs.drop j := (List.take_append_drop j xs).symm
  have hd : ∀ d ∈ xs.drop j, lt c d = true := fun d hd => by
    obtain ⟨q, hq⟩ := List.getElem?_of_mem hd
    rw [List.getElem?_drop] at hq
    exact h1 (j + q) d (by omega) (List.getElem?_eq_some_iff.1 hq).1 hq
  have ha : ∀ a ∈ xs.take j, lt c a = false := fun a ha => by
    obtain ⟨q, hq⟩ := List.getElem?_of_mem ha
    rw [List.getElem?_take] at hq
    split at hq
    · rename_i hqj
      rcases h2 with h2 | ⟨k, y, h2, h3, h4⟩
      · omega
      · by_cases hk : q = k
        · subst hk; rw [h3] at hq; cases hq; exact h4
        · refine h.tr a y c ?_ h4
          have := List.pairwise_iff_getElem.1 hs q k (by omega) (List.getElem?_eq_some_iff.1 h3).1 (by omega)
          rw [(List.getElem?_eq_some_iff.1 h3).2, (List.getElem?_eq_some_iff.1 hq).2] at this
          exact this
    · cases hq
  have hr := ins_app h (c := c) (A := xs.take j) (B := xs.drop j) (e ▸ hs) ha
  rw [← e] at hr
  rw [hr, ins_head hd]
  rfl

end K

open Classical in
/-- What is sorted of a list so far. -/
noncomputable def F.isSrt (l : List Cap) (k : Nat) (out : List Cap) : Bool := decide (out = K.srt F.ltC (l.take k))

namespace M

def stSo1 (l : List Cap) (out : List Cap) (k : Nat) : St := ⟨[(9, vI k), (8, vI l.length), (7, .sl (l.map eCap)), (3, .own 3)], [(3, ⟨false, 67, 6, out.map eCap⟩)]⟩

def stSo11 (a : (List Cap) × (List Cap) × Nat) : St := stSo1 a.1 a.2.1 a.2.2

theorem stSo1_inj (a a' : (List Cap) × (List Cap) × Nat) (h : stSo11 a = stSo11 a') : a = a' := by
  simp only [stSo11, stSo1] at h
  try simp [strs_inj, ints_inj, bools_inj, eCaps_inj, eCap_iff, eL_eCaps_inj, eMchs_inj, eMch_iff, eWrds_inj, eWrd_iff, eFnds_inj, eFnd_iff, eRatios_inj, eRatio_iff, eWays_inj, eWay_iff] at h
  grind

theorem unstSo1 (l : List Cap) (out : List Cap) (k : Nat) : unenc stSo11 (St.mk [(9, (vI (↑k : Int))), (8, (vI (↑(List.length l) : Int))), (7, AV.sl (List.map eCap l)), (3, .own 3)] [(3, Blk.mk false 67 6 (List.map eCap out))]) = some (l, out, k) := unenc_of stSo1_inj (l, out, k) rfl

theorem unstSo10 (l : List Cap)  : unenc stSo11 (St.mk [(9, (vI (0 : Int))), (8, (vI (↑(List.length l) : Int))), (7, AV.sl (List.map eCap l)), (3, .own 3)] [(3, Blk.mk false 67 6 [])]) = some (l, [], 0) := unenc_of stSo1_inj (l, [], 0) rfl

def outSo1 (l : List Cap) (out : List Cap) (k : Nat) : T (Ex × St) := .ret (.exit 0, ⟨[(3, .own 3)], [(3, ⟨false, 67, 6, (K.srt F.ltC l).map eCap⟩)]⟩)

noncomputable def prlSo1 (l : List Cap) (out : List Cap) (k : Nat) : Bool := decide (k ≤ l.length ∧ l.length ≤ 100000) && F.isSrt l k out

noncomputable def lpSo1 : Nat × (St → T (Ex × St)) := (3, lpo [9, 8, 7, 3] [3] stSo11 (fun a => prlSo1 a.1 a.2.1 a.2.2) fun a => outSo1 a.1 a.2.1 a.2.2)

def stSo2 (l : List Cap) (out : List Cap) (k : Nat) (c : Cap) (j : Nat) : St := ⟨[(9, vI k), (8, vI l.length), (7, .sl (l.map eCap)), (6, vI j), (5, .ptr 5 0 0), (3, .own 3)], [(5, ⟨true, 0, 0, [eCap c]⟩), (3, ⟨false, 67, 6, out.map eCap⟩)]⟩

def stSo21 (a : (List Cap) × (List Cap) × Nat × Cap × Nat) : St := stSo2 a.1 a.2.1 a.2.2.1 a.2.2.2.1 a.2.2.2.2

theorem stSo2_inj (a a' : (List Cap) × (List Cap) × Nat × Cap × Nat) (h : stSo21 a = stSo21 a') : a = a' := by
  simp only [stSo21, stSo2] at h
  try simp [strs_inj, ints_inj, bools_inj, eCaps_inj, eCap_iff, eL_eCaps_inj, eMchs_inj, eMch_iff, eWrds_inj, eWrd_iff, eFnds_inj, eFnd_iff, eRatios_inj, eRatio_iff, eWays_inj, eWay_iff] at h
  grind

theorem unstSo2 (l : List Cap) (out : List Cap) (k : Nat) (c : Cap) (j : Nat) : unenc stSo21 (St.mk [(9, (vI (↑k : Int))), (8, (vI (↑(List.length l) : Int))), (7, AV.sl (List.map eCap l)), (6, (vI (↑j : Int))), (5, .ptr 5 0 0), (3, .own 3)] [(5, Blk.mk true 0 0
  [[(vI c.fr), (vI c.to), AV.sl (List.map eStr c.lines), (vI c.row), (vB c.bef), (vB c.aft)]]), (3, Blk.mk false 67 6 (List.map eCap out))]) = some (l, out, k, c, j) := unenc_of stSo2_inj (l, out, k, c, j) rfl

theorem unstSo20 (l : List Cap) (out : List Cap) (k : Nat) (c : Cap)  : unenc stSo21 (St.mk [(9, (vI (↑k : Int))), (8, (vI (↑(List.length l) : Int))), (7, AV.sl (List.map eCap l)), (6, (vI (↑(List.length out) : Int))), (5, .ptr 5 0 0), (3, .own 3)] [(5,
  Blk.mk true 0 0 [[(vI c.fr), (vI c.to), AV.sl (List.map eStr c.lines), (vI c.row), (vB c.bef), (vB c.aft)]]), (3, Blk.mk false 67 6 (List.map eCap out))]) = some (l, out, k, c, out.length) := unenc_of stSo2_inj (l, out, k, c, out.length) rfl

def outSo2 (l : List Cap) (out : List Cap) (k : Nat) (c : Cap) (j : Nat) : T (Ex × St) := .ret (.exit 2, ⟨[(9, vI k), (8, vI l.length), (7, .sl (l.map eCap)), (6, vI (K.backTo F.ltC c out j)), (5, .ptr 5 0 0), (3, .own 3)], [(5, ⟨true, 0, 0, [eCap c]⟩), (3, ⟨false, 67, 6, out.map eCap⟩)]⟩)

noncomputable def prlSo2 (l : List Cap) (out : List Cap) (k : Nat) (c : Cap) (j : Nat) : Bool := decide (j ≤ out.length ∧ out.length ≤ 100000)

noncomputable def lpSo2 : Nat × (St → T (Ex × St)) := (6, lpo [9, 8, 7, 6, 5, 3] [5, 3] stSo21 (fun a => prlSo2 a.1 a.2.1 a.2.2.1 a.2.2.2.1 a.2.2.2.2) fun a => outSo2 a.1 a.2.1 a.2.2.1 a.2.2.2.1 a.2.2.2.2)

noncomputable def enSo : Env := envH ty noG lks [oRBef] [oInsO] [3] [lpSo1, lpSo2]

theorem enSo_ok : EnvOK Tryd.prog enSo := by
  refine envH_ok lks_ok ty_ok ?_ ?_
  · simp only [List.forall_mem_cons]
    exact ⟨okRBef, by simp⟩
  · simp only [List.forall_mem_cons]
    exact ⟨okInsO, by simp⟩

theorem evSo2L (l : List Cap) (out : List Cap) (k : Nat) (c : Cap) (j : Nat) : ((exec enSo (loopN Tryd.f56 1) (stSo2 l out k c j)).bind (lessX ([9, 8, 7, 6, 5, 3], [5, 3]) ([9, 8, 7, 6, 5, 3], [5, 3]) ([], []))).val =
  bif decide ((0 : Int) < (↑j : Int)) then Option.bind (idx (IntKind.wrap IntKind.i64 ((↑j : Int) - (1 : Int)))) fun (z : Nat) => bif decide (z < List.length (Blk.mk false
  67 6 (List.map eCap out)).rows) then Option.bind (unenc (List.map eCap) (List.map eCap out)) fun (z_1 : List Cap) => bif decide (z < List.length z_1) then Option.bind
  (unenc encRBef [AV.agg [(vI c.fr), (vI c.to), AV.sl (List.map eStr c.lines), (vI c.row), (vB c.bef), (vB c.aft)], AV.agg [(vI (List.getD z_1 z (Cap.mk (0 : Int) (0 : Int)
  [] (0 : Int) false false)).fr), (vI (List.getD z_1 z (Cap.mk (0 : Int) (0 : Int) [] (0 : Int) false false)).to), AV.sl (List.map eStr (List.getD z_1 z (Cap.mk (0 : Int) (0
  : Int) [] (0 : Int) false false)).lines), (vI (List.getD z_1 z (Cap.mk (0 : Int) (0 : Int) [] (0 : Int) false false)).row), (vB (List.getD z_1 z (Cap.mk (0 : Int) (0 :
  Int) [] (0 : Int) false false)).bef), (vB (List.getD z_1 z (Cap.mk (0 : Int) (0 : Int) [] (0 : Int) false false)).aft)]]) fun (z : Cap × Cap) => bif F.before z.fst z.snd
  then some (Ex.normal, St.mk [(9, (vI (↑k : Int))), (8, (vI (↑(List.length l) : Int))), (7, AV.sl (List.map eCap l)), (6, (vI (IntKind.wrap IntKind.i64 ((↑j : Int) - (1 :
  Int))))), (5, .ptr 5 0 0), (3, .own 3)] [(5, Blk.mk true 0 0 [[(vI c.fr), (vI c.to), AV.sl (List.map eStr c.lines), (vI c.row), (vB c.bef), (vB c.aft)]]), (3, Blk.mk false
  67 6 (List.map eCap out))]) else some (Ex.exit (2 : Nat), St.mk [(9, (vI (↑k : Int))), (8, (vI (↑(List.length l) : Int))), (7, AV.sl (List.map eCap l)), (6, (vI (↑j :
  Int))), (5, .ptr 5 0 0), (3, .own 3)] [(5, Blk.mk true 0 0 [[(vI c.fr), (vI c.to), AV.sl (List.map eStr c.lines), (vI c.row), (vB c.bef), (vB c.aft)]]), (3, Blk.mk false
  67 6 (List.map eCap out))]) else none else none else some (Ex.exit (2 : Nat), St.mk [(9, (vI (↑k : Int))), (8, (vI (↑(List.length l) : Int))), (7, AV.sl (List.map eCap
  l)), (6, (vI (↑j : Int))), (5, .ptr 5 0 0), (3, .own 3)] [(5, Blk.mk true 0 0 [[(vI c.fr), (vI c.to), AV.sl (List.map eStr c.lines), (vI c.row), (vB c.bef), (vB c.aft)]]),
  (3, Blk.mk false 67 6 (List.map eCap out))]) := (execR_bind _ _ _).symm.trans (by kernel_rfl)

theorem lpSo2_ok (l : List Cap) (out : List Cap) (k : Nat) (c : Cap) (j : Nat) (hp : prlSo2 l out k c j = true) : ∀ ex s', (outSo2 l out k c j).val = some (ex, s') → LoopOK enSo (loopN Tryd.f56 1) (stSo2 l out k c j) ex s' := by
  simp only [prlSo2, Bool.and_eq_true, decide_eq_true_eq] at hp
  obtain ⟨h1, h2⟩ := hp
  refine loop_gen (st := fun j => stSo2 l out k c j) (out := fun j => outSo2 l out k c j) (I := fun j => j ≤ out.length) (n := ([9, 8, 7, 6, 5, 3], [5, 3])) (e := ([9, 8, 7, 6, 5, 3], [5, 3])) (r := ([], [])) (fun j => j) ?_ j h1
  rintro j h1
  cases j with
  | zero =>
    left
    refine ⟨_, ?_, rfl, by simp, rfl⟩
    rw [evSo2L]
    have : decide ((0 : Int) < ((0 : Nat) : Int)) = false := rfl
    simp only [this, cond_false, K.backTo]
    rfl
  | succ j =>
    have hy : out[j]? = some out[j] := List.getElem?_eq_getElem (by omega)
    generalize out[j] = y at hy
    have hw : IntKind.i64.wrap (((j + 1 : Nat) : Int) - 1) = ((j : Nat) : Int) := by rw [wrap_id (by omega) (by omega)]; omega
    have h0 : decide ((0 : Int) < ((j + 1 : Nat) : Int)) = true := decide_eq_true (by omega)
    cases hc : F.before c y
    · left
      refine ⟨_, ?_, rfl, by simp, rfl⟩
      rw [evSo2L]
      simp only [unRBef, unInsO, unRBefw, unInsOw, preRBef1, preInsO1, unstSo1, unstSo2, unstSo10, unstSo20, prlSo1, prlSo2, outSo1, outSo2, etaCap, etaMch, etaWrd, etaFnd, etaRatio, etaWay, Option.bind_some, List.length_map, unStrs, unInts, unBools, unCaps, uneL_eCaps, unMchs, unWrds, unFnds, unRatios, unWays, F.lt, F.le, cond_true, cond_false, Bool.and_true, Bool.true_and, h0, hw, idx_nat, decide_eq_true (lt_at hy), getD_at hy, hc, K.backTo, hy, F.ltC_eq]
      rfl
    · right
      refine ⟨j, ?_, rfl, by omega, by omega, ?_⟩
      · rw [evSo2L]
        simp only [unRBef, unInsO, unRBefw, unInsOw, preRBef1, preInsO1, unstSo1, unstSo2, unstSo10, unstSo20, prlSo1, prlSo2, outSo1, outSo2, etaCap, etaMch, etaWrd, etaFnd, etaRatio, etaWay, Option.bind_some, List.length_map, unStrs, unInts, unBools, unCaps, uneL_eCaps, unMchs, unWrds, unFnds, unRatios, unWays, F.lt, F.le, cond_true, cond_false, Bool.and_true, Bool.true_and, h0, hw, idx_nat, decide_eq_true (lt_at hy), getD_at hy, hc, stSo2]
        rfl
      · simp only [outSo2, K.backTo, hy, F.ltC_eq, hc, cond_true]

theorem evSo1L (l : List Cap) (out : List Cap) (k : Nat) : ((exec enSo (loopN Tryd.f56 0) (stSo1 l out k)).bind (lessX ([9, 8, 7, 3], [3]) ([3], [3]) ([], []))).val =
  bif decide ((↑k : Int) < (↑(List.length l) : Int)) then Option.bind (unenc (List.map eCap) (List.map eCap l)) fun (z : List Cap) => bif decide (k < List.length z) then
  Option.bind (unenc stSo21 (St.mk [(9, (vI (↑k : Int))), (8, (vI (↑(List.length l) : Int))), (7, AV.sl (List.map eCap l)), (6, (vI (↑(List.length (List.map eCap out)) :
  Int))), (5, .ptr 5 0 0), (3, .own 3)] [(5, Blk.mk true 0 0 [[(vI (List.getD z k (Cap.mk (0 : Int) (0 : Int) [] (0 : Int) false false)).fr), (vI (List.getD z k (Cap.mk (0 :
  Int) (0 : Int) [] (0 : Int) false false)).to), AV.sl (List.map eStr (List.getD z k (Cap.mk (0 : Int) (0 : Int) [] (0 : Int) false false)).lines), (vI (List.getD z k
  (Cap.mk (0 : Int) (0 : Int) [] (0 : Int) false false)).row), (vB (List.getD z k (Cap.mk (0 : Int) (0 : Int) [] (0 : Int) false false)).bef), (vB (List.getD z k (Cap.mk (0
  : Int) (0 : Int) [] (0 : Int) false false)).aft)]]), (3, Blk.mk false 67 6 (List.map eCap out))])) fun (z : List Cap × List Cap × Nat × Cap × Nat) => bif decide
  (z.snd.snd.snd.snd ≤ List.length z.snd.fst ∧ List.length z.snd.fst ≤ (100000 : Nat)) && true then Option.bind (unenc encInsO ([.own 900, (vI (↑(K.backTo F.ltC
  z.snd.snd.snd.fst z.snd.fst z.snd.snd.snd.snd) : Int)), .own 901], [(901, Blk.mk false 67 6 [[(vI z.snd.snd.snd.fst.fr), (vI z.snd.snd.snd.fst.to), AV.sl (List.map eStr
  z.snd.snd.snd.fst.lines), (vI z.snd.snd.snd.fst.row), (vB z.snd.snd.snd.fst.bef), (vB z.snd.snd.snd.fst.aft)]]), (900, Blk.mk false 67 6 (List.map eCap z.snd.fst))])) fun
  (z_1 : List Cap × Nat × Cap) => bif decide (z_1.snd.fst ≤ List.length z_1.fst ∧ List.length z_1.fst ≤ (100000 : Nat)) then some (Ex.normal, St.mk [(9, (vI (IntKind.wrap
  IntKind.i64 ((↑z.snd.snd.fst : Int) + (1 : Int))))), (8, (vI (↑(List.length z.fst) : Int))), (7, AV.sl (List.map eCap z.fst)), (3, AV.own (List.getD [(3 : Nat), (31 :
  Nat)] (0 : Nat) (0 : Nat)))] [(List.getD [(3 : Nat), (31 : Nat)] (0 : Nat) (0 : Nat), Blk.mk false 67 6 (List.map eCap (F.insAt z_1.snd.fst z_1.snd.snd z_1.fst)))]) else
  none else none else none else some (Ex.exit (0 : Nat), St.mk [(3, .own 3)] [(3, Blk.mk false 67 6 (List.map eCap out))]) := (execR_bind _ _ _).symm.trans (by kernel_rfl)

theorem lpSo1_ok (l : List Cap) (out : List Cap) (k : Nat) (hp : prlSo1 l out k = true) : ∀ ex s', (outSo1 l out k).val = some (ex, s') → LoopOK enSo (loopN Tryd.f56 0) (stSo1 l out k) ex s' := by
  simp only [prlSo1, Bool.and_eq_true, decide_eq_true_eq] at hp
  simp only [F.isSrt, decide_eq_true_eq] at hp
  obtain ⟨⟨h1, h2⟩, h3⟩ := hp
  refine loop_gen (st := fun s : List Cap × Nat => stSo1 l s.1 s.2) (out := fun s => outSo1 l s.1 s.2) (I := fun s => s.2 ≤ l.length ∧ s.1 = K.srt F.ltC (l.take s.2)) (n := ([9, 8, 7, 3], [3])) (e := ([3], [3])) (r := ([], [])) (fun s => l.length - s.2) ?_ (out, k) ⟨h1, h3⟩
  rintro ⟨out, k⟩ ⟨hk, ho⟩
  simp only at hk ho
  have hol : out.length = k := by rw [ho, K.srt_len F.swC, List.length_take]; omega
  by_cases hlt : k < l.length
  · right
    have hy : l[k]? = some l[k] := List.getElem?_eq_getElem hlt
    generalize l[k] = y at hy
    have hs : K.srt F.ltC (l.take (k + 1)) = K.ins F.ltC y out := by
      rw [List.take_add_one, hy, Option.toList_some, K.srt_snoc, ← ho]
    have hi : F.insAt (K.backTo F.ltC y out out.length) y out = K.ins F.ltC y out := K.insAt_ins F.swC (by rw [ho]; exact (K.srt_stb F.swC _).ord)
    refine ⟨(K.ins F.ltC y out, k + 1), ?_, rfl, ⟨hlt, hs.symm⟩, by simp only; omega, rfl⟩
    rw [evSo1L]
    have q1 : out.length ≤ out.length ∧ out.length ≤ 100000 := ⟨Nat.le_refl _, by omega⟩
    have q2 : K.backTo F.ltC y out out.length ≤ out.length ∧ out.length ≤ 100000 := ⟨K.backTo_le .., by omega⟩
    simp only [unRBef, unInsO, unRBefw, unInsOw, preRBef1, preInsO1, unstSo1, unstSo2, unstSo10, unstSo20, prlSo1, prlSo2, outSo1, outSo2, etaCap, etaMch, etaWrd, etaFnd, etaRatio, etaWay, Option.bind_some, List.length_map, unStrs, unInts, unBools, unCaps, uneL_eCaps, unMchs, unWrds, unFnds, unRatios, unWays, F.lt, F.le, cond_true, cond_false, Bool.and_true, Bool.true_and, cast_lt hlt, decide_eq_true hlt, getD_at hy, decide_eq_true q1, decide_eq_true q2, next_at hlt (by omega : l.length ≤ 9223372036854775807), hi, stSo1]
    rfl
  · left
    have : k = l.length := by omega
    subst this
    refine ⟨_, ?_, rfl, by simp, rfl⟩
    rw [evSo1L]
    rw [List.take_length] at ho
    subst ho
    simp

theorem evSo (l : List Cap) : (runF enSo false Tryd.f56 [.sl (l.map eCap)]).val =
  Option.bind (unenc stSo11 (St.mk [(9, (vI (0 : Int))), (8, (vI (↑(List.length (List.map eCap l)) : Int))), (7, AV.sl (List.map eCap l)), (3, .own 3)] [(3, Blk.mk false 67
  6 [])])) fun (z : List Cap × List Cap × Nat) => bif decide (z.snd.snd ≤ List.length z.fst ∧ List.length z.fst ≤ (100000 : Nat)) && F.isSrt z.fst z.snd.snd z.snd.fst &&
  true then some (AV.sl (List.map eCap (K.srt F.ltC z.fst)), []) else none := (runFR_val).symm.trans (by kernel_rfl)

def encSo1 (l : List Cap) : List AV := [.sl (l.map eCap)]

def encSo (a : (List Cap)) : List AV := encSo1 a

theorem encSo_inj (a a' : (List Cap)) (h : encSo a = encSo a') : a = a' := by
  simp only [encSo, encSo1] at h
  try simp [strs_inj, ints_inj, bools_inj, eCaps_inj, eCap_iff, eL_eCaps_inj, eMchs_inj, eMch_iff, eWrds_inj, eWrd_iff, eFnds_inj, eFnd_iff, eRatios_inj, eRatio_iff, eWays_inj, eWay_iff] at h
  grind

theorem unSo (l : List Cap) : unenc encSo ([AV.sl (List.map eCap l)]) = some (l) := unenc_of encSo_inj (l) rfl

def resSo1 (l : List Cap) : AV × Heap := (.sl ((K.srt F.ltC l).map eCap), [])

def preSo1 (l : List Cap) : Bool := decide (l.length ≤ 100000)

noncomputable def oSo : Orc := orc 56 false encSo (fun a => preSo1 a) fun a => resSo1 a

theorem okSo : OrcOK Tryd.prog noG oSo := by
  refine mk_ok Tryd.f56 (keep := false) (by kernel_rfl) (by kernel_rfl) enSo_ok mixed (two_loops (x0 := loopN Tryd.f56 0) (x1 := loopN Tryd.f56 1) (by kernel_rfl) (lpo_ok ?_) (lpo_ok ?_)) (by first | exact fun _ _ => ⟨rfl, rfl⟩ | (intro h; cases h)) ?_
  · rintro ⟨l, out, k⟩ hp
    exact lpSo1_ok l out k hp
  · rintro ⟨l, out, k, c, j⟩ hp
    exact lpSo2_ok l out k c j hp
  rintro l hpre hok
  show (runF enSo false _ (encSo1 _)).val = some (resSo1 _)
  unfold encSo1 resSo1
  rw [evSo]
  simp only [preSo1, decide_eq_true_eq] at hpre
  have q1 : F.isSrt l 0 [] = true := by simp [F.isSrt, K.srt]
  have q2 : 0 ≤ l.length ∧ l.length ≤ 100000 := ⟨Nat.zero_le _, hpre⟩
  simp only [unRBef, unInsO, unRBefw, unInsOw, preRBef1, preInsO1, unstSo1, unstSo2, unstSo10, unstSo20, prlSo1, prlSo2, outSo1, outSo2, etaCap, etaMch, etaWrd, etaFnd, etaRatio, etaWay, Option.bind_some, List.length_map, unStrs, unInts, unBools, unCaps, uneL_eCaps, unMchs, unWrds, unFnds, unRatios, unWays, F.lt, F.le, cond_true, cond_false, Bool.and_true, Bool.true_and, decide_eq_true q2, q1]

end M
end Go.Proofs.YtlnflhmepnbcmaaDoor
