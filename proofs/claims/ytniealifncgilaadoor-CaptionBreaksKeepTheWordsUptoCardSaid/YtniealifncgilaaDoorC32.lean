/- What is proved here: the law that lines keep the words. -/
import Derived.Test.YtniealifncgilaaDoorC31
namespace Go.Proofs.YtniealifncgilaaDoor
open Go Go.RowKit
set_option linter.unusedVariables false
set_option linter.unusedSimpArgs false

/-- No line is too wide, or too long for the machine. -/
def F.fitL (w : Int) (xs : List ByteArray) : Bool := xs.all fun x => F.le (F.runes x) w && F.small x

theorem F.join_mem {xs : List ByteArray} : ∀ x ∈ xs, x.size ≤ (F.jl xs).length := by
  induction xs with
  | nil => intro x h; cases h
  | cons y l ih =>
    intro x h
    by_cases hl : l = []
    · subst hl
      rcases List.mem_cons.1 h with rfl | h
      · simp only [F.jl, List.map_cons, List.map_nil, Lib.join_one]; rw [Lib.size_eq]; exact Nat.le_refl _
      · cases h
    · rw [F.jl_cons hl, List.length_append, List.length_cons]
      rcases List.mem_cons.1 h with rfl | h
      · rw [Lib.size_eq]; omega
      · have := ih x h; omega

namespace M

noncomputable def enRCs : Env := envH ty noG lks [oRCh] [] [] []

theorem enRCs_ok : EnvOK Tryd.prog enRCs := by
  refine envH_ok lks_ok ty_ok ?_ ?_
  · simp only [List.forall_mem_cons]
    exact ⟨okRCh, by simp⟩
  · simp

theorem evRCs (s : ByteArray) : (runF enRCs false Tryd.f18 [vS s]).val =
  Option.bind (unenc encRCh [(vS s)]) fun (z : ByteArray) => bif decide (ByteArray.size z ≤ (4294967280 : Nat)) then some ((vI (F.runes z)), []) else none := (runFR_val).symm.trans (by kernel_rfl)

def encRCs1 (s : ByteArray) : List AV := [vS s]

def encRCs (a : ByteArray) : List AV := encRCs1 a

theorem encRCs_inj (a a' : ByteArray) (h : encRCs a = encRCs a') : a = a' := by
  simp only [encRCs, encRCs1] at h
  try simp [strs_inj, ints_inj, bools_inj, eCaps_inj, eCap_iff, eL_eCaps_inj, eMchs_inj, eMch_iff, eWrds_inj, eWrd_iff, eFnds_inj, eFnd_iff, eRatios_inj, eRatio_iff, eWays_inj, eWay_iff] at h
  grind

theorem unRCs (s : ByteArray) : unenc encRCs ([(vS s)]) = some (s) := unenc_of encRCs_inj (s) rfl

def resRCs1 (s : ByteArray) : AV × Heap := (vI (F.runes s), [])

def preRCs1 (s : ByteArray) : Bool := F.small s

noncomputable def oRCs : Orc := orc 18 true encRCs (fun a => preRCs1 a) fun a => resRCs1 a

theorem okRCs : OrcOK Tryd.prog noG oRCs := by
  refine mk_ok Tryd.f18 (keep := false) (by kernel_rfl) (by kernel_rfl) enRCs_ok mixed (no_loops (by kernel_rfl)) (by first | exact fun _ _ => ⟨rfl, rfl⟩ | (intro h; cases h)) ?_
  rintro s hpre hok
  show (runF enRCs false _ (encRCs1 _)).val = some (resRCs1 _)
  unfold encRCs1 resRCs1
  rw [evRCs]
  simp only [preRCs1] at hpre
  have hpre : decide (s.size ≤ 4294967280) = true := hpre
  simp only [unRCh, preRCh1, etaCap, etaMch, etaWrd, etaFnd, etaRatio, etaWay, Option.bind_some, List.length_map, unStrs, unInts, unBools, unCaps, uneL_eCaps, unMchs, unWrds, unFnds, unRatios, unWays, F.lt, F.le, cond_true, cond_false, Bool.and_true, Bool.true_and, hpre]

def stLKw (s : ByteArray) (w : Int) (xs : List ByteArray) (k : Nat) : St := ⟨[(42, vI k), (41, vI xs.length), (40, .sl (xs.map eStr)), (7, .sl (xs.map eStr)), (1, vI w), (0, vS s)], []⟩

def stLKw1 (a : ByteArray × Int × (List ByteArray) × Nat) : St := stLKw a.1 a.2.1 a.2.2.1 a.2.2.2

theorem stLKw_inj (a a' : ByteArray × Int × (List ByteArray) × Nat) (h : stLKw1 a = stLKw1 a') : a = a' := by
  simp only [stLKw1, stLKw] at h
  try simp [strs_inj, ints_inj, bools_inj, eCaps_inj, eCap_iff, eL_eCaps_inj, eMchs_inj, eMch_iff, eWrds_inj, eWrd_iff, eFnds_inj, eFnd_iff, eRatios_inj, eRatio_iff, eWays_inj, eWay_iff] at h
  grind

theorem unstLKw (s : ByteArray) (w : Int) (xs : List ByteArray) (k : Nat) : unenc stLKw1 (St.mk [(42, (vI (↑k : Int))), (41, (vI (↑(List.length xs) : Int))), (40, AV.sl (List.map eStr xs)), (7, AV.sl (List.map eStr xs)), (1, (vI w)), (0, (vS s))] []) = some (s, w, xs, k) := unenc_of stLKw_inj (s, w, xs, k) rfl

theorem unstLKw0 (s : ByteArray) (w : Int) (xs : List ByteArray)  : unenc stLKw1 (St.mk [(42, (vI (0 : Int))), (41, (vI (↑(List.length xs) : Int))), (40, AV.sl (List.map eStr xs)), (7, AV.sl (List.map eStr xs)), (1, (vI w)), (0, (vS s))] []) = some (s, w, xs, 0) := unenc_of stLKw_inj (s, w, xs, 0) rfl

def outLKw (s : ByteArray) (w : Int) (xs : List ByteArray) (k : Nat) : T (Ex × St) := .ret (.exit 0, ⟨[(7, .sl (xs.map eStr)), (1, vI w), (0, vS s)], []⟩)

noncomputable def prlLKw (s : ByteArray) (w : Int) (xs : List ByteArray) (k : Nat) : Bool := decide (xs.length ≤ 15) && decide (k ≤ xs.length) && F.fitL w xs

noncomputable def lpLKw : Nat × (St → T (Ex × St)) := (7, lpo [42, 41, 40, 7, 1, 0] [] stLKw1 (fun a => prlLKw a.1 a.2.1 a.2.2.1 a.2.2.2) fun a => outLKw a.1 a.2.1 a.2.2.1 a.2.2.2)

noncomputable def enLKw : Env := envH ty noG lks [oBrk, oAwk, oJoi, oRCs] [] [] [lpLKw]

theorem enLKw_ok : EnvOK Tryd.prog enLKw := by
  refine envH_ok lks_ok ty_ok ?_ ?_
  · simp only [List.forall_mem_cons]
    exact ⟨okBrk, okAwk, okJoi, okRCs, by simp⟩
  · simp

theorem evLKwL (s : ByteArray) (w : Int) (xs : List ByteArray) (k : Nat) : ((exec enLKw (loopN Tryd.f4 0) (stLKw s w xs k)).bind (lessX ([42, 41, 40, 7, 1, 0], []) ([7, 1, 0], []) ([6], []))).val =
  bif decide ((↑k : Int) < (↑(List.length xs) : Int)) then Option.bind (unenc (List.map eStr) (List.map eStr xs)) fun (z : List ByteArray) => bif decide (k < List.length z)
  then Option.bind (unenc encRCs [(vS (List.getD z k (ByteArray.mk (Array.mk []))))]) fun (z : ByteArray) => bif F.small z then bif decide (w < F.runes z) then some (Ex.ret,
  St.mk [(6, (vB false))] []) else some (Ex.normal, St.mk [(42, (vI (IntKind.wrap IntKind.i64 ((↑k : Int) + (1 : Int))))), (41, (vI (↑(List.length xs) : Int))), (40, AV.sl
  (List.map eStr xs)), (7, AV.sl (List.map eStr xs)), (1, (vI w)), (0, (vS s))] []) else none else none else some (Ex.exit (0 : Nat), St.mk [(7, AV.sl (List.map eStr xs)),
  (1, (vI w)), (0, (vS s))] []) := (execR_bind _ _ _).symm.trans (by kernel_rfl)

theorem lpLKw_ok (s : ByteArray) (w : Int) (xs : List ByteArray) (k : Nat) (hp : prlLKw s w xs k = true) : ∀ ex s', (outLKw s w xs k).val = some (ex, s') → LoopOK enLKw (loopN Tryd.f4 0) (stLKw s w xs k) ex s' := by
  simp only [prlLKw, Bool.and_eq_true, decide_eq_true_eq] at hp
  obtain ⟨⟨h1, h2⟩, h3⟩ := hp
  intro ex s' hh
  refine loop_fold (xs := xs) (st := fun (_ : Unit) k => stLKw s w xs k) (f := fun a _ => a) (fin := fun _ => (.exit 0, ⟨[(7, .sl (xs.map eStr)), (1, vI w), (0, vS s)], []⟩)) (I := fun _ _ => True) (n := ([42, 41, 40, 7, 1, 0], [])) (e := ([7, 1, 0], [])) (r := ([6], [])) ?_ (fun _ => ⟨by simp, rfl⟩) (fun _ _ => rfl) ?_ () k h2 trivial ex s' hh
  · intro a _
    rw [evLKwL]
    simp
  · intro a k y hy _
    have hlt := lt_at hy
    have hm := List.all_eq_true.1 h3 y (List.mem_of_getElem? hy)
    rw [Bool.and_eq_true] at hm
    obtain ⟨m1, m2⟩ := hm
    have m1 := of_decide_eq_true m1
    refine ⟨?_, trivial⟩
    rw [evLKwL]
    simp only [unBrk, unAwk, unJoi, unRCs, preBrk1, preAwk1, preJoi1, preRCs1, unstLKw, unstLKw0, prlLKw, outLKw, etaCap, etaMch, etaWrd, etaFnd, etaRatio, etaWay, Option.bind_some, List.length_map, unStrs, unInts, unBools, unCaps, uneL_eCaps, unMchs, unWrds, unFnds, unRatios, unWays, F.lt, F.le, cond_true, cond_false, Bool.and_true, Bool.true_and, cast_lt hlt, decide_eq_true hlt, next_at hlt (by omega : xs.length ≤ 9223372036854775807), getD_at hy, stLKw, m2, decide_eq_false (show ¬ w < F.runes y by omega)]

theorem evLKw (s : ByteArray) (w : Int) (r : Int) : (runF enLKw false Tryd.f4 [vS s, vI w, vI r]).val =
  Option.bind (unenc encBrk [(vS s), (vI w), (vI r)]) fun (z : ByteArray × Int × Int) => bif F.small z.fst then bif (F.brk z.fst z.snd.fst z.snd.snd).snd != (0 : Int) then
  bif (↑(List.length (List.map eStr (F.brk z.fst z.snd.fst z.snd.snd).fst)) : Int) == (0 : Int) then Option.bind (unenc encAwk []) fun (z : Unit) => some ((vB true), [])
  else some ((vB false), []) else Option.bind (unenc encJoi [AV.sl (List.map eStr (F.brk z.fst z.snd.fst z.snd.snd).fst), (vS (ByteArray.mk (Array.mk [(32 : UInt8)])))]) fun
  (z_1 : List ByteArray × ByteArray) => bif decide (ByteArray.size (F.join z_1.fst z_1.snd) ≤ (140737488355328 : Nat)) && decide (List.length z_1.fst ≤ (140737488355328 :
  Nat)) then bif !bif !ByteArray.toList (F.join z_1.fst z_1.snd) == ByteArray.toList s then true else decide (r < (↑(List.length (List.map eStr (F.brk z.fst z.snd.fst
  z.snd.snd).fst)) : Int)) then Option.bind (unenc encAwk []) fun (z_2 : Unit) => Option.bind (unenc stLKw1 (St.mk [(42, (vI (0 : Int))), (41, (vI (↑(List.length (List.map
  eStr (F.brk z.fst z.snd.fst z.snd.snd).fst)) : Int))), (40, AV.sl (List.map eStr (F.brk z.fst z.snd.fst z.snd.snd).fst)), (7, AV.sl (List.map eStr (F.brk z.fst z.snd.fst
  z.snd.snd).fst)), (1, (vI w)), (0, (vS s))] [])) fun (z : ByteArray × Int × List ByteArray × Nat) => bif decide (List.length z.snd.snd.fst ≤ (15 : Nat)) && decide
  (z.snd.snd.snd ≤ List.length z.snd.snd.fst) && F.fitL z.snd.fst z.snd.snd.fst && true then bif (↑(List.length (List.map eStr z.snd.snd.fst)) : Int) == (1 : Int) then some
  ((vB true), []) else Option.bind (unenc encBrk [(vS z.fst), (vI z.snd.fst), (vI (IntKind.wrap IntKind.i64 ((↑(List.length (List.map eStr z.snd.snd.fst)) : Int) - (1 :
  Int))))]) fun (z : ByteArray × Int × Int) => bif F.small z.fst then some ((vB ((F.brk z.fst z.snd.fst z.snd.snd).snd == (17 : Int))), []) else none else none else some
  ((vB false), []) else none else none := (runFR_val).symm.trans (by kernel_rfl)

def encLKw1 (s : ByteArray) (w : Int) (r : Int) : List AV := [vS s, vI w, vI r]

def encLKw (a : ByteArray × Int × Int) : List AV := encLKw1 a.1 a.2.1 a.2.2

theorem encLKw_inj (a a' : ByteArray × Int × Int) (h : encLKw a = encLKw a') : a = a' := by
  simp only [encLKw, encLKw1] at h
  try simp [strs_inj, ints_inj, bools_inj, eCaps_inj, eCap_iff, eL_eCaps_inj, eMchs_inj, eMch_iff, eWrds_inj, eWrd_iff, eFnds_inj, eFnd_iff, eRatios_inj, eRatio_iff, eWays_inj, eWay_iff] at h
  grind

theorem unLKw (s : ByteArray) (w : Int) (r : Int) : unenc encLKw ([(vS s), (vI w), (vI r)]) = some (s, w, r) := unenc_of encLKw_inj (s, w, r) rfl

def resLKw1 (s : ByteArray) (w : Int) (r : Int) : AV × Heap := (vB true, [])

def preLKw1 (s : ByteArray) (w : Int) (r : Int) : Bool := F.small s

noncomputable def oLKw : Orc := orc 4 false encLKw (fun a => preLKw1 a.1 a.2.1 a.2.2) fun a => resLKw1 a.1 a.2.1 a.2.2

theorem okLKw : OrcOK Tryd.prog noG oLKw := by
  refine mk_ok Tryd.f4 (keep := false) (by kernel_rfl) (by kernel_rfl) enLKw_ok mixed (one_loop (x0 := loopN Tryd.f4 0) (by kernel_rfl) (lpo_ok ?_)) (by first | exact fun _ _ => ⟨rfl, rfl⟩ | (intro h; cases h)) ?_
  · rintro ⟨s, w, xs, k⟩ hp
    exact lpLKw_ok s w xs k hp
  rintro ⟨s, w, r⟩ hpre hok
  show (runF enLKw false _ (encLKw1 _ _ _)).val = some (resLKw1 _ _ _)
  unfold encLKw1 resLKw1
  rw [evLKw]
  simp only [preLKw1] at hpre
  simp only [unBrk, unAwk, unJoi, unRCs, preBrk1, preAwk1, preJoi1, preRCs1, unstLKw, unstLKw0, prlLKw, outLKw, etaCap, etaMch, etaWrd, etaFnd, etaRatio, etaWay, Option.bind_some, List.length_map, unStrs, unInts, unBools, unCaps, uneL_eCaps, unMchs, unWrds, unFnds, unRatios, unWays, F.lt, F.le, cond_true, cond_false, Bool.and_true, Bool.true_and, hpre, bne]
  by_cases h0 : (F.brk s w r).2 = 0
  case neg =>
    have e1 : ((F.brk s w r).2 == 0) = false := by simpa using h0
    simp only [e1, F.brk_no h0, List.length_nil, Bool.not_false, cond_true, Int.natCast_zero, beq_self_eq_true]
  have e1 : ((F.brk s w r).2 == 0) = true := by simpa using h0
  obtain ⟨b1, b2, b3, b4, b5, b6, b7⟩ := F.brk_yes h0
  have esp : (⟨⟨[32]⟩⟩ : ByteArray) = F.sp := rfl
  have hlen : (F.brk s w r).1.length ≤ 15 := by omega
  have hjl : (F.jl (F.brk s w r).1).length = s.size := by rw [← F.join_jl, b1, Lib.size_eq]
  have hfit : F.fitL w (F.brk s w r).1 = true := List.all_eq_true.2 fun x hx => by
    rw [Bool.and_eq_true]
    refine ⟨decide_eq_true (b5 x hx), decide_eq_true ?_⟩
    have := F.join_mem x hx
    omega
  have w1 : IntKind.i64.wrap (((F.brk s w r).1.length : Int) - 1) = ((F.brk s w r).1.length : Int) - 1 := wrap_id (by omega) (by omega)
  simp only [e1, Bool.not_true, cond_false, esp, b1, decide_eq_true (show s.size ≤ 140737488355328 by omega), decide_eq_true (show (F.brk s w r).1.length ≤ 140737488355328 by omega), Bool.and_self, cond_true, decide_eq_false (show ¬ r < ((F.brk s w r).1.length : Int) by omega), beq_self_eq_true, Bool.not_false, decide_eq_true hlen, Nat.zero_le, decide_true, hfit, w1]
  by_cases hone : ((F.brk s w r).1.length : Int) = 1
  · have e2 : (((F.brk s w r).1.length : Int) == 1) = true := by simpa using hone
    simp only [e2, cond_true]
  · have e2 : (((F.brk s w r).1.length : Int) == 1) = false := by simpa using hone
    simp only [e2, cond_false, b6 _ (show 1 ≤ ((F.brk s w r).1.length : Int) - 1 by omega) (by omega)]
    rfl

end M
end Go.Proofs.YtniealifncgilaaDoor
