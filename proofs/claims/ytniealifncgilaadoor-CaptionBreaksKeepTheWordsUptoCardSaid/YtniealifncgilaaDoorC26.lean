/- What is proved here: the first fault; captions that are alike in their lines, or in their times (no statement of the seat). -/
import Derived.Test.YtniealifncgilaaDoorC25
namespace Go.Proofs.YtniealifncgilaaDoor
open Go Go.RowKit
set_option linter.unusedVariables false
set_option linter.unusedSimpArgs false

def F.tmP (x y : Cap) : Bool := (x.fr == y.fr) && (x.to == y.to)

def F.lnP (x y : Cap) : Bool := F.sameSL x.lines y.lines

/-- All are alike: in their lines, or in their times. -/
def F.eqcP (z : Bool) (p : Cap × Cap) : Bool := bif z then F.lnP p.1 p.2 else F.tmP p.1 p.2

def F.eqcs (z : Bool) (l : List (Cap × Cap)) : Bool := l.all (F.eqcP z)

def F.eqcL (z : Bool) (a b : List Cap) : Bool := decide (a.length = b.length) && F.eqcs z (a.zip b)

def F.frIs (v : Int) (c : Cap) : Bool := c.fr == v

namespace M

def stFst (l : List Int) (k : Nat) : St := ⟨[(7, vI k), (6, vI l.length), (5, .sl (l.map eI))], []⟩

def stFst1 (a : (List Int) × Nat) : St := stFst a.1 a.2

theorem stFst_inj (a a' : (List Int) × Nat) (h : stFst1 a = stFst1 a') : a = a' := by
  simp only [stFst1, stFst] at h
  try simp [strs_inj, ints_inj, bools_inj, eCaps_inj, eCap_iff, eL_eCaps_inj, eMchs_inj, eMch_iff, eWrds_inj, eWrd_iff, eFnds_inj, eFnd_iff, eRatios_inj, eRatio_iff, eWays_inj, eWay_iff] at h
  grind

theorem unstFst (l : List Int) (k : Nat) : unenc stFst1 (St.mk [(7, (vI (↑k : Int))), (6, (vI (↑(List.length l) : Int))), (5, AV.sl (List.map eI l))] []) = some (l, k) := unenc_of stFst_inj (l, k) rfl

theorem unstFst0 (l : List Int)  : unenc stFst1 (St.mk [(7, (vI (0 : Int))), (6, (vI (↑(List.length l) : Int))), (5, AV.sl (List.map eI l))] []) = some (l, 0) := unenc_of stFst_inj (l, 0) rfl

def outFst (l : List Int) (k : Nat) : T (Ex × St) := .ifB (decide (M.ffI id (l.drop k) = 0)) (.ret (.exit 0, ⟨[], []⟩)) (.ret (.ret, ⟨[(2, vI (M.ffI id (l.drop k)))], []⟩))

noncomputable def prlFst (l : List Int) (k : Nat) : Bool := decide (l.length ≤ 9223372036854775807) && decide (k ≤ l.length)

noncomputable def lpFst : Nat × (St → T (Ex × St)) := (2, lpo [7, 6, 5] [] stFst1 (fun a => prlFst a.1 a.2) fun a => outFst a.1 a.2)

noncomputable def enFst : Env := envH ty noG lks [] [] [] [lpFst]

theorem enFst_ok : EnvOK Tryd.prog enFst := by
  refine envH_ok lks_ok ty_ok ?_ ?_
  · simp
  · simp

theorem evFstL (l : List Int) (k : Nat) : ((exec enFst (loopN Tryd.f74 0) (stFst l k)).bind (lessX ([7, 6, 5], []) ([], []) ([2], []))).val =
  bif decide ((↑k : Int) < (↑(List.length l) : Int)) then Option.bind (unenc (List.map eI) (List.map eI l)) fun (z : List Int) => bif decide (k < List.length z) then bif
  List.getD z k (0 : Int) != (0 : Int) then some (Ex.ret, St.mk [(2, (vI (List.getD z k (0 : Int))))] []) else some (Ex.normal, St.mk [(7, (vI (IntKind.wrap IntKind.i64 ((↑k
  : Int) + (1 : Int))))), (6, (vI (↑(List.length l) : Int))), (5, AV.sl (List.map eI l))] []) else none else some (Ex.exit (0 : Nat), St.mk [] []) := (execR_bind _ _ _).symm.trans (by kernel_rfl)

theorem lpFst_ok (l : List Int) (k : Nat) (hp : prlFst l k = true) : ∀ ex s', (outFst l k).val = some (ex, s') → LoopOK enFst (loopN Tryd.f74 0) (stFst l k) ex s' := by
  simp only [prlFst, Bool.and_eq_true, decide_eq_true_eq] at hp
  refine loop_code (xs := l) (st := stFst l) (g := id) (o := fun c => (.ret, ⟨[(2, vI c)], []⟩)) (n := ([7, 6, 5], [])) (e := ([], [])) (r := ([2], [])) ?_ ⟨by simp, rfl⟩ (fun _ => ⟨by simp, rfl⟩) (fun _ => rfl) ?_ k hp.2
  · rw [evFstL]; simp
  · intro k y hy
    have hlt := lt_at hy
    rw [evFstL]
    simp only [unstFst, unstFst0, prlFst, outFst, etaCap, etaMch, etaWrd, etaFnd, etaRatio, etaWay, Option.bind_some, List.length_map, unStrs, unInts, unBools, unCaps, uneL_eCaps, unMchs, unWrds, unFnds, unRatios, unWays, F.lt, F.le, cond_true, cond_false, Bool.and_true, Bool.true_and, cast_lt hlt, decide_eq_true hlt, next_at hlt hp.1, getD_at hy, stFst]
    by_cases h : y = 0
    · subst h; rfl
    · have hb : (y != 0) = true := by simp [h]
      simp only [hb, cond_true, id, h, if_false]

theorem evFst (l : List Int) : (runF enFst false Tryd.f74 [.sl (l.map eI)]).val =
  Option.bind (unenc stFst1 (St.mk [(7, (vI (0 : Int))), (6, (vI (↑(List.length (List.map eI l)) : Int))), (5, AV.sl (List.map eI l))] [])) fun (z : List Int × Nat) => bif
  decide (List.length z.fst ≤ (9223372036854775807 : Nat)) && decide (z.snd ≤ List.length z.fst) && true then bif decide (ffI id (List.drop z.snd z.fst) = (0 : Int)) then
  some ((vI (0 : Int)), []) else some ((vI (ffI id (List.drop z.snd z.fst))), []) else none := (runFR_val).symm.trans (by kernel_rfl)

def encFst1 (l : List Int) : List AV := [.sl (l.map eI)]

def encFst (a : (List Int)) : List AV := encFst1 a

theorem encFst_inj (a a' : (List Int)) (h : encFst a = encFst a') : a = a' := by
  simp only [encFst, encFst1] at h
  try simp [strs_inj, ints_inj, bools_inj, eCaps_inj, eCap_iff, eL_eCaps_inj, eMchs_inj, eMch_iff, eWrds_inj, eWrd_iff, eFnds_inj, eFnd_iff, eRatios_inj, eRatio_iff, eWays_inj, eWay_iff] at h
  grind

theorem unFst (l : List Int) : unenc encFst ([AV.sl (List.map eI l)]) = some (l) := unenc_of encFst_inj (l) rfl

def resFst1 (l : List Int) : AV × Heap := (vI (M.ffI id l), [])

def preFst1 (l : List Int) : Bool := true

noncomputable def oFst : Orc := orc 74 true encFst (fun a => preFst1 a) fun a => resFst1 a

theorem okFst : OrcOK Tryd.prog noG oFst := by
  refine mk_ok Tryd.f74 (keep := false) (by kernel_rfl) (by kernel_rfl) enFst_ok mixed (one_loop (x0 := loopN Tryd.f74 0) (by kernel_rfl) (lpo_ok ?_)) (by first | exact fun _ _ => ⟨rfl, rfl⟩ | (intro h; cases h)) ?_
  · rintro ⟨l, k⟩ hp
    exact lpFst_ok l k hp
  rintro l hpre hok
  show (runF enFst false _ (encFst1 _)).val = some (resFst1 _)
  unfold encFst1 resFst1
  rw [evFst]
  have hx : l.length ≤ 9223372036854775807 := by simpa using (okA_sl (hok _ (List.mem_cons_self ..))).1
  simp only [unstFst, unstFst0, prlFst, outFst, etaCap, etaMch, etaWrd, etaFnd, etaRatio, etaWay, Option.bind_some, List.length_map, unStrs, unInts, unBools, unCaps, uneL_eCaps, unMchs, unWrds, unFnds, unRatios, unWays, F.lt, F.le, cond_true, cond_false, Bool.and_true, Bool.true_and, hx, List.drop_zero, Nat.zero_le, decide_true]
  by_cases h : M.ffI id l = 0 <;> simp [h]

theorem fst_two (a b : Int) : unenc encFst [.sl [[vI a], [vI b]]] = some [a, b] := unenc_of encFst_inj [a, b] rfl

theorem ff_two (a b : Int) : M.ffI id [a, b] = (bif a != 0 then a else b) := by
  simp only [M.ffI, id]
  by_cases h : a = 0
  · rw [bne0 h]; simp [h]
    exact fun e => e.symm
  · rw [bne1 h]; simp [h]

noncomputable def enDr1 : Env := envH ty noG lks [oEqS] [] [] []

theorem enDr1_ok : EnvOK Tryd.prog enDr1 := by
  refine envH_ok lks_ok ty_ok ?_ ?_
  · simp only [List.forall_mem_cons]
    exact ⟨okEqS, by simp⟩
  · simp

theorem evDr1 (x : Cap) (y : Cap) : (runF enDr1 false Tryd.f76 [.agg (eCap x), .agg (eCap y)]).val =
  Option.bind (unenc encEqS [AV.sl (List.map eStr x.lines), AV.sl (List.map eStr y.lines)]) fun (z : List ByteArray × List ByteArray) => some ((vB (F.sameSL z.fst z.snd)),
  []) := (runFR_val).symm.trans (by kernel_rfl)

def encDr11 (x : Cap) (y : Cap) : List AV := [.agg (eCap x), .agg (eCap y)]

def encDr1 (a : Cap × Cap) : List AV := encDr11 a.1 a.2

theorem encDr1_inj (a a' : Cap × Cap) (h : encDr1 a = encDr1 a') : a = a' := by
  simp only [encDr1, encDr11] at h
  try simp [strs_inj, ints_inj, bools_inj, eCaps_inj, eCap_iff, eL_eCaps_inj, eMchs_inj, eMch_iff, eWrds_inj, eWrd_iff, eFnds_inj, eFnd_iff, eRatios_inj, eRatio_iff, eWays_inj, eWay_iff] at h
  grind

theorem unDr1 (x : Cap) (y : Cap) : unenc encDr1 ([AV.agg [(vI x.fr), (vI x.to), AV.sl (List.map eStr x.lines), (vI x.row), (vB x.bef), (vB x.aft)], AV.agg [(vI y.fr), (vI y.to), AV.sl (List.map eStr y.lines), (vI y.row),
  (vB y.bef), (vB y.aft)]]) = some (x, y) := unenc_of encDr1_inj (x, y) rfl

theorem unDr1w (x_fr : Int) (x_to : Int) (x_lines : List ByteArray) (x_row : Int) (x_bef : Bool) (x_aft : Bool) (y_fr : Int) (y_to : Int) (y_lines : List ByteArray) (y_row : Int) (y_bef : Bool) (y_aft : Bool) : unenc encDr1 ([AV.agg [(vI x_fr), (vI x_to), AV.sl (List.map eStr x_lines), (vI x_row), (vB x_bef), (vB x_aft)], AV.agg [(vI y_fr), (vI y_to), AV.sl (List.map eStr y_lines), (vI y_row),
  (vB y_bef), (vB y_aft)]]) = some ((Cap.mk x_fr x_to x_lines x_row x_bef x_aft), (Cap.mk y_fr y_to y_lines y_row y_bef y_aft)) := unenc_of encDr1_inj ((Cap.mk x_fr x_to x_lines x_row x_bef x_aft), (Cap.mk y_fr y_to y_lines y_row y_bef y_aft)) rfl

def resDr11 (x : Cap) (y : Cap) : AV × Heap := (vB (F.lnP x y), [])

def preDr11 (x : Cap) (y : Cap) : Bool := true

noncomputable def oDr1 : Orc := orc 76 true encDr1 (fun a => preDr11 a.1 a.2) fun a => resDr11 a.1 a.2

theorem okDr1 : OrcOK Tryd.prog noG oDr1 := by
  refine mk_ok Tryd.f76 (keep := false) (by kernel_rfl) (by kernel_rfl) enDr1_ok mixed (no_loops (by kernel_rfl)) (by first | exact fun _ _ => ⟨rfl, rfl⟩ | (intro h; cases h)) ?_
  rintro ⟨x, y⟩ hpre hok
  show (runF enDr1 false _ (encDr11 _ _)).val = some (resDr11 _ _)
  unfold encDr11 resDr11
  rw [evDr1]
  simp only [unEqS, preEqS1, etaCap, etaMch, etaWrd, etaFnd, etaRatio, etaWay, Option.bind_some, List.length_map, unStrs, unInts, unBools, unCaps, uneL_eCaps, unMchs, unWrds, unFnds, unRatios, unWays, F.lt, F.le, cond_true, cond_false, Bool.and_true, Bool.true_and, F.lnP]

theorem evDr3 (x : Cap) (y : Cap) : (runF en0 false Tryd.f79 [.agg (eCap x), .agg (eCap y)]).val =
  some ((vB (bif x.fr == y.fr then x.to == y.to else false)), []) := (runFR_val).symm.trans (by kernel_rfl)

def encDr31 (x : Cap) (y : Cap) : List AV := [.agg (eCap x), .agg (eCap y)]

def encDr3 (a : Cap × Cap) : List AV := encDr31 a.1 a.2

theorem encDr3_inj (a a' : Cap × Cap) (h : encDr3 a = encDr3 a') : a = a' := by
  simp only [encDr3, encDr31] at h
  try simp [strs_inj, ints_inj, bools_inj, eCaps_inj, eCap_iff, eL_eCaps_inj, eMchs_inj, eMch_iff, eWrds_inj, eWrd_iff, eFnds_inj, eFnd_iff, eRatios_inj, eRatio_iff, eWays_inj, eWay_iff] at h
  grind

theorem unDr3 (x : Cap) (y : Cap) : unenc encDr3 ([AV.agg [(vI x.fr), (vI x.to), AV.sl (List.map eStr x.lines), (vI x.row), (vB x.bef), (vB x.aft)], AV.agg [(vI y.fr), (vI y.to), AV.sl (List.map eStr y.lines), (vI y.row),
  (vB y.bef), (vB y.aft)]]) = some (x, y) := unenc_of encDr3_inj (x, y) rfl

theorem unDr3w (x_fr : Int) (x_to : Int) (x_lines : List ByteArray) (x_row : Int) (x_bef : Bool) (x_aft : Bool) (y_fr : Int) (y_to : Int) (y_lines : List ByteArray) (y_row : Int) (y_bef : Bool) (y_aft : Bool) : unenc encDr3 ([AV.agg [(vI x_fr), (vI x_to), AV.sl (List.map eStr x_lines), (vI x_row), (vB x_bef), (vB x_aft)], AV.agg [(vI y_fr), (vI y_to), AV.sl (List.map eStr y_lines), (vI y_row),
  (vB y_bef), (vB y_aft)]]) = some ((Cap.mk x_fr x_to x_lines x_row x_bef x_aft), (Cap.mk y_fr y_to y_lines y_row y_bef y_aft)) := unenc_of encDr3_inj ((Cap.mk x_fr x_to x_lines x_row x_bef x_aft), (Cap.mk y_fr y_to y_lines y_row y_bef y_aft)) rfl

def resDr31 (x : Cap) (y : Cap) : AV × Heap := (vB (F.tmP x y), [])

def preDr31 (x : Cap) (y : Cap) : Bool := true

noncomputable def oDr3 : Orc := orc 79 true encDr3 (fun a => preDr31 a.1 a.2) fun a => resDr31 a.1 a.2

theorem okDr3 : OrcOK Tryd.prog noG oDr3 := by
  refine mk_ok Tryd.f79 (keep := false) (by kernel_rfl) (by kernel_rfl) en0_ok mixed (no_loops (by kernel_rfl)) (by first | exact fun _ _ => ⟨rfl, rfl⟩ | (intro h; cases h)) ?_
  rintro ⟨x, y⟩ hpre hok
  show (runF en0 false _ (encDr31 _ _)).val = some (resDr31 _ _)
  unfold encDr31 resDr31
  rw [evDr3]
  unfold F.tmP
  cases (x.fr == y.fr) <;> cases (x.to == y.to) <;> rfl

theorem evDr2 (c : Cap) (v : Int) : (runF en0 false Tryd.f78 [.agg (eCap c), .pel [vI v] 0]).val =
  some ((vB (c.fr == v)), []) := (runFR_val).symm.trans (by kernel_rfl)

def encDr21 (c : Cap) (v : Int) : List AV := [.agg (eCap c), .pel [vI v] 0]

def encDr2 (a : Cap × Int) : List AV := encDr21 a.1 a.2

theorem encDr2_inj (a a' : Cap × Int) (h : encDr2 a = encDr2 a') : a = a' := by
  simp only [encDr2, encDr21] at h
  try simp [strs_inj, ints_inj, bools_inj, eCaps_inj, eCap_iff, eL_eCaps_inj, eMchs_inj, eMch_iff, eWrds_inj, eWrd_iff, eFnds_inj, eFnd_iff, eRatios_inj, eRatio_iff, eWays_inj, eWay_iff] at h
  grind

theorem unDr2 (c : Cap) (v : Int) : unenc encDr2 ([AV.agg [(vI c.fr), (vI c.to), AV.sl (List.map eStr c.lines), (vI c.row), (vB c.bef), (vB c.aft)], AV.pel [(vI v)] (0 : Nat)]) = some (c, v) := unenc_of encDr2_inj (c, v) rfl

theorem unDr2w (c_fr : Int) (c_to : Int) (c_lines : List ByteArray) (c_row : Int) (c_bef : Bool) (c_aft : Bool) (v : Int) : unenc encDr2 ([AV.agg [(vI c_fr), (vI c_to), AV.sl (List.map eStr c_lines), (vI c_row), (vB c_bef), (vB c_aft)], AV.pel [(vI v)] (0 : Nat)]) = some ((Cap.mk c_fr c_to c_lines c_row c_bef c_aft), v) := unenc_of encDr2_inj ((Cap.mk c_fr c_to c_lines c_row c_bef c_aft), v) rfl

def resDr21 (c : Cap) (v : Int) : AV × Heap := (vB (F.frIs v c), [])

def preDr21 (c : Cap) (v : Int) : Bool := true

noncomputable def oDr2 : Orc := orc 78 true encDr2 (fun a => preDr21 a.1 a.2) fun a => resDr21 a.1 a.2

theorem okDr2 : OrcOK Tryd.prog noG oDr2 := by
  refine mk_ok Tryd.f78 (keep := false) (by kernel_rfl) (by kernel_rfl) en0_ok mixed (no_loops (by kernel_rfl)) (by first | exact fun _ _ => ⟨rfl, rfl⟩ | (intro h; cases h)) ?_
  rintro ⟨c, v⟩ hpre hok
  show (runF en0 false _ (encDr21 _ _)).val = some (resDr21 _ _)
  unfold encDr21 resDr21
  rw [evDr2]
  rfl

def stIxl (l : List Cap) (v : Int) (k : Nat) : St := ⟨[(8, vI k), (7, vI l.length), (1, .fn 78 [.pel [vI v] 0]), (0, .sl (l.map eCap))], []⟩

def stIxl1 (a : (List Cap) × Int × Nat) : St := stIxl a.1 a.2.1 a.2.2

theorem stIxl_inj (a a' : (List Cap) × Int × Nat) (h : stIxl1 a = stIxl1 a') : a = a' := by
  simp only [stIxl1, stIxl] at h
  try simp [strs_inj, ints_inj, bools_inj, eCaps_inj, eCap_iff, eL_eCaps_inj, eMchs_inj, eMch_iff, eWrds_inj, eWrd_iff, eFnds_inj, eFnd_iff, eRatios_inj, eRatio_iff, eWays_inj, eWay_iff] at h
  grind

theorem unstIxl (l : List Cap) (v : Int) (k : Nat) : unenc stIxl1 (St.mk [(8, (vI (↑k : Int))), (7, (vI (↑(List.length l) : Int))), (1, AV.fn (78 : FuncId) [AV.pel [(vI v)] (0 : Nat)]), (0, AV.sl (List.map eCap l))] []) = some (l, v, k) := unenc_of stIxl_inj (l, v, k) rfl

theorem unstIxl0 (l : List Cap) (v : Int)  : unenc stIxl1 (St.mk [(8, (vI (0 : Int))), (7, (vI (↑(List.length l) : Int))), (1, AV.fn (78 : FuncId) [AV.pel [(vI v)] (0 : Nat)]), (0, AV.sl (List.map eCap l))] []) = some (l, v, 0) := unenc_of stIxl_inj (l, v, 0) rfl

def outIxl (l : List Cap) (v : Int) (k : Nat) : T (Ex × St) := .ifB (F.found (F.findI ((fun c => F.frIs v c)) k (l.drop k))) (.ret (.ret, ⟨[(4, vI ((F.got (F.findI ((fun c => F.frIs v c)) k (l.drop k)) 0 : Nat) : Int))], []⟩)) (.ret (.exit 0, ⟨[], []⟩))

noncomputable def prlIxl (l : List Cap) (v : Int) (k : Nat) : Bool := decide (l.length ≤ 9223372036854775807) && decide (k ≤ l.length)

noncomputable def lpIxl : Nat × (St → T (Ex × St)) := (2, lpo [8, 7, 1, 0] [] stIxl1 (fun a => prlIxl a.1 a.2.1 a.2.2) fun a => outIxl a.1 a.2.1 a.2.2)

noncomputable def enIxl : Env := envH ty noG lks [oDr2] [] [] [lpIxl]

theorem enIxl_ok : EnvOK Tryd.prog enIxl := by
  refine envH_ok lks_ok ty_ok ?_ ?_
  · simp only [List.forall_mem_cons]
    exact ⟨okDr2, by simp⟩
  · simp

theorem evIxlL (l : List Cap) (v : Int) (k : Nat) : ((exec enIxl (loopN Tryd.f77 0) (stIxl l v k)).bind (lessX ([8, 7, 1, 0], []) ([], []) ([4], []))).val =
  bif decide ((↑k : Int) < (↑(List.length l) : Int)) then Option.bind (unenc (List.map eCap) (List.map eCap l)) fun (z : List Cap) => bif decide (k < List.length z) then
  Option.bind (unenc encDr2 [AV.agg [(vI (List.getD z k (Cap.mk (0 : Int) (0 : Int) [] (0 : Int) false false)).fr), (vI (List.getD z k (Cap.mk (0 : Int) (0 : Int) [] (0 :
  Int) false false)).to), AV.sl (List.map eStr (List.getD z k (Cap.mk (0 : Int) (0 : Int) [] (0 : Int) false false)).lines), (vI (List.getD z k (Cap.mk (0 : Int) (0 : Int)
  [] (0 : Int) false false)).row), (vB (List.getD z k (Cap.mk (0 : Int) (0 : Int) [] (0 : Int) false false)).bef), (vB (List.getD z k (Cap.mk (0 : Int) (0 : Int) [] (0 :
  Int) false false)).aft)], AV.pel [(vI v)] (0 : Nat)]) fun (z : Cap × Int) => bif F.frIs z.snd z.fst then some (Ex.ret, St.mk [(4, (vI (↑k : Int)))] []) else some
  (Ex.normal, St.mk [(8, (vI (IntKind.wrap IntKind.i64 ((↑k : Int) + (1 : Int))))), (7, (vI (↑(List.length l) : Int))), (1, AV.fn (78 : FuncId) [AV.pel [(vI v)] (0 : Nat)]),
  (0, AV.sl (List.map eCap l))] []) else none else some (Ex.exit (0 : Nat), St.mk [] []) := (execR_bind _ _ _).symm.trans (by kernel_rfl)

theorem lpIxl_ok (l : List Cap) (v : Int) (k : Nat) (hp : prlIxl l v k = true) : ∀ ex s', (outIxl l v k).val = some (ex, s') → LoopOK enIxl (loopN Tryd.f77 0) (stIxl l v k) ex s' := by
  simp only [prlIxl, Bool.and_eq_true, decide_eq_true_eq] at hp
  refine loop_gen (st := stIxl l v) (out := outIxl l v) (I := fun k => k ≤ l.length) (n := ([8, 7, 1, 0], [])) (e := ([], [])) (r := ([4], [])) (fun k => l.length - k) ?_ k hp.2
  intro k hk
  by_cases hlt : k < l.length
  · have hy : l[k]? = some l[k] := List.getElem?_eq_getElem hlt
    generalize l[k] = y at hy
    have hd := drop_at hy
    cases hc : ((fun c => F.frIs v c)) y
    · right
      refine ⟨k + 1, ?_, rfl, hlt, by omega, ?_⟩
      · rw [evIxlL]
        simp only [unDr2, unDr2w, preDr21, unstIxl, unstIxl0, prlIxl, outIxl, etaCap, etaMch, etaWrd, etaFnd, etaRatio, etaWay, Option.bind_some, List.length_map, unStrs, unInts, unBools, unCaps, uneL_eCaps, unMchs, unWrds, unFnds, unRatios, unWays, F.lt, F.le, cond_true, cond_false, Bool.and_true, Bool.true_and, cast_lt hlt, decide_eq_true hlt, next_at hlt hp.1, getD_at hy, hc, stIxl]
        try rfl
      · simp only [outIxl, hd, F.findI, hc, cond_false]
    · left
      refine ⟨(.ret, ⟨[(4, vI k)], []⟩), ?_, ?_, by simp, rfl⟩
      · rw [evIxlL]
        simp only [unDr2, unDr2w, preDr21, unstIxl, unstIxl0, prlIxl, outIxl, etaCap, etaMch, etaWrd, etaFnd, etaRatio, etaWay, Option.bind_some, List.length_map, unStrs, unInts, unBools, unCaps, uneL_eCaps, unMchs, unWrds, unFnds, unRatios, unWays, F.lt, F.le, cond_true, cond_false, Bool.and_true, Bool.true_and, cast_lt hlt, decide_eq_true hlt, next_at hlt hp.1, getD_at hy, hc, stIxl]
      · simp only [outIxl, hd, F.findI, hc, cond_true, F.found, F.got]
        rfl
  · have : k = l.length := by omega
    subst this
    left
    refine ⟨(.exit 0, ⟨[], []⟩), ?_, ?_, by simp, rfl⟩
    · rw [evIxlL]; simp
    · simp [outIxl, F.findI, F.found, T.val]

theorem evIxl (l : List Cap) (v : Int) : (runF enIxl false Tryd.f77 [.sl (l.map eCap), .fn 78 [.pel [vI v] 0]]).val =
  Option.bind (unenc stIxl1 (St.mk [(8, (vI (0 : Int))), (7, (vI (↑(List.length (List.map eCap l)) : Int))), (1, AV.fn (78 : FuncId) [AV.pel [(vI v)] (0 : Nat)]), (0, AV.sl
  (List.map eCap l))] [])) fun (z : List Cap × Int × Nat) => bif decide (List.length z.fst ≤ (9223372036854775807 : Nat)) && decide (z.snd.snd ≤ List.length z.fst) && true
  then bif F.found (F.findI (fun (c : Cap) => F.frIs z.snd.fst c) z.snd.snd (List.drop z.snd.snd z.fst)) then some ((vI (↑(F.got (F.findI (fun (c : Cap) => F.frIs z.snd.fst
  c) z.snd.snd (List.drop z.snd.snd z.fst)) (0 : Nat)) : Int)), []) else some ((vI (-1 : Int)), []) else none := (runFR_val).symm.trans (by kernel_rfl)

def encIxl1 (l : List Cap) (v : Int) : List AV := [.sl (l.map eCap), .fn 78 [.pel [vI v] 0]]

def encIxl (a : (List Cap) × Int) : List AV := encIxl1 a.1 a.2

theorem encIxl_inj (a a' : (List Cap) × Int) (h : encIxl a = encIxl a') : a = a' := by
  simp only [encIxl, encIxl1] at h
  try simp [strs_inj, ints_inj, bools_inj, eCaps_inj, eCap_iff, eL_eCaps_inj, eMchs_inj, eMch_iff, eWrds_inj, eWrd_iff, eFnds_inj, eFnd_iff, eRatios_inj, eRatio_iff, eWays_inj, eWay_iff] at h
  grind

theorem unIxl (l : List Cap) (v : Int) : unenc encIxl ([AV.sl (List.map eCap l), AV.fn (78 : FuncId) [AV.pel [(vI v)] (0 : Nat)]]) = some (l, v) := unenc_of encIxl_inj (l, v) rfl

def resIxl1 (l : List Cap) (v : Int) : AV × Heap := (vI (F.idxI (F.findI ((fun c => F.frIs v c)) 0 l)), [])

def preIxl1 (l : List Cap) (v : Int) : Bool := true

noncomputable def oIxl : Orc := orc 77 true encIxl (fun a => preIxl1 a.1 a.2) fun a => resIxl1 a.1 a.2

theorem okIxl : OrcOK Tryd.prog noG oIxl := by
  refine mk_ok Tryd.f77 (keep := false) (by kernel_rfl) (by kernel_rfl) enIxl_ok mixed (one_loop (x0 := loopN Tryd.f77 0) (by kernel_rfl) (lpo_ok ?_)) (by first | exact fun _ _ => ⟨rfl, rfl⟩ | (intro h; cases h)) ?_
  · rintro ⟨l, v, k⟩ hp
    exact lpIxl_ok l v k hp
  rintro ⟨l, v⟩ hpre hok
  show (runF enIxl false _ (encIxl1 _ _)).val = some (resIxl1 _ _)
  unfold encIxl1 resIxl1
  rw [evIxl]
  have hx : l.length ≤ 9223372036854775807 := by simpa using (okA_sl (hok _ (List.mem_cons_self ..))).1
  simp only [unDr2, unDr2w, preDr21, unstIxl, unstIxl0, prlIxl, outIxl, etaCap, etaMch, etaWrd, etaFnd, etaRatio, etaWay, Option.bind_some, List.length_map, unStrs, unInts, unBools, unCaps, uneL_eCaps, unMchs, unWrds, unFnds, unRatios, unWays, F.lt, F.le, cond_true, cond_false, Bool.and_true, Bool.true_and, hx, List.drop_zero, Nat.zero_le, decide_true, F.idxI]
  cases F.found (F.findI ((fun c => F.frIs v c)) 0 l) <;> rfl


def stEqF (z : Bool) (a : List Cap) (b : List Cap) (k : Nat) : St := ⟨[(17, vI k), (16, vI a.length), (15, .sl (a.map eCap)), (2, .fn (bif z then 76 else 79) []), (1, .sl (b.map eCap))], []⟩

def stEqF1 (a : Bool × (List Cap) × (List Cap) × Nat) : St := stEqF a.1 a.2.1 a.2.2.1 a.2.2.2

theorem stEqF_inj (a a' : Bool × (List Cap) × (List Cap) × Nat) (h : stEqF1 a = stEqF1 a') : a = a' := by
  simp only [stEqF1, stEqF] at h
  (obtain ⟨z, a, b, k⟩ := a; obtain ⟨z', a', b', k'⟩ := a'; cases z <;> cases z' <;> simp at h <;> (try simp [strs_inj, ints_inj, bools_inj, eCaps_inj, eCap_iff, eL_eCaps_inj, eMchs_inj, eMch_iff, eWrds_inj, eWrd_iff, eFnds_inj, eFnd_iff, eRatios_inj, eRatio_iff, eWays_inj, eWay_iff] at h) <;> grind)

theorem unstEqF0 (a : List Cap) (b : List Cap)  : unenc stEqF1 (St.mk [(17, (vI (0 : Int))), (16, (vI (↑(List.length a) : Int))), (15, AV.sl (List.map eCap a)), (2, AV.fn (bif true then (76 : FuncId) else (79 : FuncId)) []), (1, AV.sl
  (List.map eCap b))] []) = some (true, a, b, 0) := unenc_of stEqF_inj (true, a, b, 0) rfl

theorem unstEqF1 (a : List Cap) (b : List Cap)  : unenc stEqF1 (St.mk [(17, (vI (0 : Int))), (16, (vI (↑(List.length a) : Int))), (15, AV.sl (List.map eCap a)), (2, AV.fn (bif false then (76 : FuncId) else (79 : FuncId)) []), (1, AV.sl
  (List.map eCap b))] []) = some (false, a, b, 0) := unenc_of stEqF_inj (false, a, b, 0) rfl

def outEqF (z : Bool) (a : List Cap) (b : List Cap) (k : Nat) : T (Ex × St) := .ifB (F.eqcs z ((a.zip b).drop k)) (.ret (.exit 0, ⟨[], []⟩)) (.ret (.ret, ⟨[(6, vB false)], []⟩))

noncomputable def prlEqF (z : Bool) (a : List Cap) (b : List Cap) (k : Nat) : Bool := decide (a.length ≤ 9223372036854775807) && decide (k ≤ a.length) && decide (a.length = b.length)

noncomputable def lpEqF : Nat × (St → T (Ex × St)) := (4, lpo [17, 16, 15, 2, 1] [] stEqF1 (fun a => prlEqF a.1 a.2.1 a.2.2.1 a.2.2.2) fun a => outEqF a.1 a.2.1 a.2.2.1 a.2.2.2)

noncomputable def enEqF : Env := envH ty noG lks [oDr1, oDr3] [] [] [lpEqF]

theorem enEqF_ok : EnvOK Tryd.prog enEqF := by
  refine envH_ok lks_ok ty_ok ?_ ?_
  · simp only [List.forall_mem_cons]
    exact ⟨okDr1, okDr3, by simp⟩
  · simp

theorem evEqFt (a : List Cap) (b : List Cap) (k : Nat) : ((exec enEqF (loopN Tryd.f75 0) (stEqF true a b k)).bind (lessX ([17, 16, 15, 2, 1], []) ([], []) ([6], []))).val =
  bif decide ((↑k : Int) < (↑(List.length a) : Int)) then Option.bind (unenc (List.map eCap) (List.map eCap a)) fun (z : List Cap) => bif decide (k < List.length z) then
  Option.bind (unenc (List.map eCap) (List.map eCap b)) fun (z_1 : List Cap) => bif decide (k < List.length z_1) then Option.bind (unenc encDr1 [AV.agg [(vI (List.getD z k
  (Cap.mk (0 : Int) (0 : Int) [] (0 : Int) false false)).fr), (vI (List.getD z k (Cap.mk (0 : Int) (0 : Int) [] (0 : Int) false false)).to), AV.sl (List.map eStr (List.getD
  z k (Cap.mk (0 : Int) (0 : Int) [] (0 : Int) false false)).lines), (vI (List.getD z k (Cap.mk (0 : Int) (0 : Int) [] (0 : Int) false false)).row), (vB (List.getD z k
  (Cap.mk (0 : Int) (0 : Int) [] (0 : Int) false false)).bef), (vB (List.getD z k (Cap.mk (0 : Int) (0 : Int) [] (0 : Int) false false)).aft)], AV.agg [(vI (List.getD z_1 k
  (Cap.mk (0 : Int) (0 : Int) [] (0 : Int) false false)).fr), (vI (List.getD z_1 k (Cap.mk (0 : Int) (0 : Int) [] (0 : Int) false false)).to), AV.sl (List.map eStr
  (List.getD z_1 k (Cap.mk (0 : Int) (0 : Int) [] (0 : Int) false false)).lines), (vI (List.getD z_1 k (Cap.mk (0 : Int) (0 : Int) [] (0 : Int) false false)).row), (vB
  (List.getD z_1 k (Cap.mk (0 : Int) (0 : Int) [] (0 : Int) false false)).bef), (vB (List.getD z_1 k (Cap.mk (0 : Int) (0 : Int) [] (0 : Int) false false)).aft)]]) fun (z :
  Cap × Cap) => bif !F.lnP z.fst z.snd then some (Ex.ret, St.mk [(6, (vB false))] []) else some (Ex.normal, St.mk [(17, (vI (IntKind.wrap IntKind.i64 ((↑k : Int) + (1 :
  Int))))), (16, (vI (↑(List.length a) : Int))), (15, AV.sl (List.map eCap a)), (2, AV.fn (bif true then (76 : FuncId) else (79 : FuncId)) []), (1, AV.sl (List.map eCap b))]
  []) else none else none else some (Ex.exit (0 : Nat), St.mk [] []) := (execR_bind _ _ _).symm.trans (by kernel_rfl)

theorem evEqFf (a : List Cap) (b : List Cap) (k : Nat) : ((exec enEqF (loopN Tryd.f75 0) (stEqF false a b k)).bind (lessX ([17, 16, 15, 2, 1], []) ([], []) ([6], []))).val =
  bif decide ((↑k : Int) < (↑(List.length a) : Int)) then Option.bind (unenc (List.map eCap) (List.map eCap a)) fun (z : List Cap) => bif decide (k < List.length z) then
  Option.bind (unenc (List.map eCap) (List.map eCap b)) fun (z_1 : List Cap) => bif decide (k < List.length z_1) then Option.bind (unenc encDr3 [AV.agg [(vI (List.getD z k
  (Cap.mk (0 : Int) (0 : Int) [] (0 : Int) false false)).fr), (vI (List.getD z k (Cap.mk (0 : Int) (0 : Int) [] (0 : Int) false false)).to), AV.sl (List.map eStr (List.getD
  z k (Cap.mk (0 : Int) (0 : Int) [] (0 : Int) false false)).lines), (vI (List.getD z k (Cap.mk (0 : Int) (0 : Int) [] (0 : Int) false false)).row), (vB (List.getD z k
  (Cap.mk (0 : Int) (0 : Int) [] (0 : Int) false false)).bef), (vB (List.getD z k (Cap.mk (0 : Int) (0 : Int) [] (0 : Int) false false)).aft)], AV.agg [(vI (List.getD z_1 k
  (Cap.mk (0 : Int) (0 : Int) [] (0 : Int) false false)).fr), (vI (List.getD z_1 k (Cap.mk (0 : Int) (0 : Int) [] (0 : Int) false false)).to), AV.sl (List.map eStr
  (List.getD z_1 k (Cap.mk (0 : Int) (0 : Int) [] (0 : Int) false false)).lines), (vI (List.getD z_1 k (Cap.mk (0 : Int) (0 : Int) [] (0 : Int) false false)).row), (vB
  (List.getD z_1 k (Cap.mk (0 : Int) (0 : Int) [] (0 : Int) false false)).bef), (vB (List.getD z_1 k (Cap.mk (0 : Int) (0 : Int) [] (0 : Int) false false)).aft)]]) fun (z :
  Cap × Cap) => bif !F.tmP z.fst z.snd then some (Ex.ret, St.mk [(6, (vB false))] []) else some (Ex.normal, St.mk [(17, (vI (IntKind.wrap IntKind.i64 ((↑k : Int) + (1 :
  Int))))), (16, (vI (↑(List.length a) : Int))), (15, AV.sl (List.map eCap a)), (2, AV.fn (bif false then (76 : FuncId) else (79 : FuncId)) []), (1, AV.sl (List.map eCap
  b))] []) else none else none else some (Ex.exit (0 : Nat), St.mk [] []) := (execR_bind _ _ _).symm.trans (by kernel_rfl)

theorem lpEqF_ok (z : Bool) (a : List Cap) (b : List Cap) (k : Nat) (hp : prlEqF z a b k = true) : ∀ ex s', (outEqF z a b k).val = some (ex, s') → LoopOK enEqF (loopN Tryd.f75 0) (stEqF z a b k) ex s' := by
  simp only [prlEqF, Bool.and_eq_true, decide_eq_true_eq] at hp
  obtain ⟨⟨h1, h2⟩, h3⟩ := hp
  have hz : (a.zip b).length = a.length := by rw [List.length_zip]; omega
  refine loop_all (xs := a.zip b) (st := stEqF z a b) (p := F.eqcP z) (n := ([17, 16, 15, 2, 1], [])) (e := ([], [])) (r := ([6], [])) ?_ ⟨by simp, rfl⟩ ⟨by simp, rfl⟩ (fun _ => by cases z <;> rfl) ?_ k (by omega)
  · rw [hz]
    cases z
    · rw [evEqFf]; simp
    · rw [evEqFt]; simp
  · intro k y hy
    obtain ⟨ha, hb⟩ := F.zip_at hy
    have hlt := lt_at ha
    have hlt' := lt_at hb
    cases z
    · rw [evEqFf]
      simp only [unDr2, unDr2w, preDr21, unstIxl, unstIxl0, prlIxl, outIxl, etaCap, etaMch, etaWrd, etaFnd, etaRatio, etaWay, Option.bind_some, List.length_map, unStrs, unInts, unBools, unCaps, uneL_eCaps, unMchs, unWrds, unFnds, unRatios, unWays, F.lt, F.le, cond_true, cond_false, Bool.and_true, Bool.true_and, cast_lt hlt, decide_eq_true hlt, decide_eq_true hlt', next_at hlt h1, getD_at ha, getD_at hb, stEqF, unDr1, unDr3, unDr1w, unDr3w, etaCap, F.eqcP, List.length_map, unCaps, Option.bind_some, cond_true, cond_false]
      cases F.tmP y.1 y.2 <;> rfl
    · rw [evEqFt]
      simp only [unDr2, unDr2w, preDr21, unstIxl, unstIxl0, prlIxl, outIxl, etaCap, etaMch, etaWrd, etaFnd, etaRatio, etaWay, Option.bind_some, List.length_map, unStrs, unInts, unBools, unCaps, uneL_eCaps, unMchs, unWrds, unFnds, unRatios, unWays, F.lt, F.le, cond_true, cond_false, Bool.and_true, Bool.true_and, cast_lt hlt, decide_eq_true hlt, decide_eq_true hlt', next_at hlt h1, getD_at ha, getD_at hb, stEqF, unDr1, unDr3, unDr1w, unDr3w, etaCap, F.eqcP, List.length_map, unCaps, Option.bind_some, cond_true, cond_false]
      cases F.lnP y.1 y.2 <;> rfl

theorem evEqFT (a : List Cap) (b : List Cap) : (runF enEqF false Tryd.f75 [.sl (a.map eCap), .sl (b.map eCap), .fn 76 []]).val =
  bif (↑(List.length (List.map eCap a)) : Int) != (↑(List.length (List.map eCap b)) : Int) then some ((vB false), []) else Option.bind (unenc stEqF1 (St.mk [(17, (vI (0 :
  Int))), (16, (vI (↑(List.length (List.map eCap a)) : Int))), (15, AV.sl (List.map eCap a)), (2, AV.fn (76 : FuncId) []), (1, AV.sl (List.map eCap b))] [])) fun (z : Bool ×
  List Cap × List Cap × Nat) => bif decide (List.length z.snd.fst ≤ (9223372036854775807 : Nat)) && decide (z.snd.snd.snd ≤ List.length z.snd.fst) && decide (List.length
  z.snd.fst = List.length z.snd.snd.fst) && true then bif F.eqcs z.fst (List.drop z.snd.snd.snd (List.zip z.snd.fst z.snd.snd.fst)) then some ((vB true), []) else some ((vB
  false), []) else none := (runFR_val).symm.trans (by kernel_rfl)

theorem evEqFF (a : List Cap) (b : List Cap) : (runF enEqF false Tryd.f75 [.sl (a.map eCap), .sl (b.map eCap), .fn 79 []]).val =
  bif (↑(List.length (List.map eCap a)) : Int) != (↑(List.length (List.map eCap b)) : Int) then some ((vB false), []) else Option.bind (unenc stEqF1 (St.mk [(17, (vI (0 :
  Int))), (16, (vI (↑(List.length (List.map eCap a)) : Int))), (15, AV.sl (List.map eCap a)), (2, AV.fn (79 : FuncId) []), (1, AV.sl (List.map eCap b))] [])) fun (z : Bool ×
  List Cap × List Cap × Nat) => bif decide (List.length z.snd.fst ≤ (9223372036854775807 : Nat)) && decide (z.snd.snd.snd ≤ List.length z.snd.fst) && decide (List.length
  z.snd.fst = List.length z.snd.snd.fst) && true then bif F.eqcs z.fst (List.drop z.snd.snd.snd (List.zip z.snd.fst z.snd.snd.fst)) then some ((vB true), []) else some ((vB
  false), []) else none := (runFR_val).symm.trans (by kernel_rfl)

def encEqF1 (z : Bool) (a : List Cap) (b : List Cap) : List AV := [.sl (a.map eCap), .sl (b.map eCap), .fn (bif z then 76 else 79) []]

def encEqF (a : Bool × List Cap × List Cap) : List AV := encEqF1 a.1 a.2.1 a.2.2

theorem encEqF_inj (a a' : Bool × List Cap × List Cap) (h : encEqF a = encEqF a') : a = a' := by
  obtain ⟨z, a, b⟩ := a; obtain ⟨z', a', b'⟩ := a'
  simp only [encEqF, encEqF1] at h
  cases z <;> cases z' <;> simp at h <;> (try simp [eCaps_inj] at h) <;> grind

theorem unEqFt (a : List Cap) (b : List Cap) : unenc encEqF [.sl (a.map eCap), .sl (b.map eCap), .fn 76 []] = some (true, a, b) := unenc_of encEqF_inj (true, a, b) rfl

theorem unEqFf (a : List Cap) (b : List Cap) : unenc encEqF [.sl (a.map eCap), .sl (b.map eCap), .fn 79 []] = some (false, a, b) := unenc_of encEqF_inj (false, a, b) rfl

def preEqF1 (z : Bool) (a : List Cap) (b : List Cap) : Bool := true

def resEqF1 (z : Bool) (a : List Cap) (b : List Cap) : AV × Heap := (vB (F.eqcL z a b), [])

noncomputable def oEqF : Orc := orc 75 true encEqF (fun a => preEqF1 a.1 a.2.1 a.2.2) fun a => resEqF1 a.1 a.2.1 a.2.2

theorem okEqF : OrcOK Tryd.prog noG oEqF := by
  refine mk_ok Tryd.f75 (keep := false) (by kernel_rfl) (by kernel_rfl) enEqF_ok mixed (one_loop (x0 := loopN Tryd.f75 0) (by kernel_rfl) (lpo_ok ?_)) (by first | exact fun _ _ => ⟨rfl, rfl⟩ | (intro h; cases h)) ?_
  · rintro ⟨z, a, b, k⟩ hp
    exact lpEqF_ok z a b k hp
  rintro ⟨z, a, b⟩ hpre hok
  have hx := caps_len (hok _ (List.mem_cons_self ..))
  cases z
  · show (runF enEqF false _ [.sl (a.map eCap), .sl (b.map eCap), .fn 79 []]).val = some (resEqF1 false a b)
    rw [evEqFF]
    have u := unstEqF1 a b
    simp only [cond_false] at u
    simp only [List.length_map, u, Option.bind_some, prlEqF, outEqF, hx, List.drop_zero, Nat.zero_le, decide_true, F.len_eq, bne, resEqF1, F.eqcL, Bool.true_and, Bool.and_true]
    cases decide (a.length = b.length) <;> cases F.eqcs false (a.zip b) <;> rfl
  · show (runF enEqF false _ [.sl (a.map eCap), .sl (b.map eCap), .fn 76 []]).val = some (resEqF1 true a b)
    rw [evEqFT]
    have u := unstEqF0 a b
    simp only [cond_true] at u
    simp only [List.length_map, u, Option.bind_some, prlEqF, outEqF, hx, List.drop_zero, Nat.zero_le, decide_true, F.len_eq, bne, resEqF1, F.eqcL, Bool.true_and, Bool.and_true]
    cases decide (a.length = b.length) <;> cases F.eqcs true (a.zip b) <;> rfl

end M
end Go.Proofs.YtniealifncgilaaDoor
