/- What is proved here: whether a caption's rows are taken, of both (no statement of the seat). -/
import Derived.Test.YtniealifncgilaaDoorC20
import Derived.Test.YtniealifncgilaaDoorC19
import Derived.Test.YtniealifncgilaaDoorM9
namespace Go.Proofs.YtniealifncgilaaDoor
open Go Go.RowKit
set_option linter.unusedVariables false
set_option linter.unusedSimpArgs false

def F.meet (a b : Cap) : Bool := F.lt (max a.fr b.fr) (min a.to b.to)

/-- A caption from a row on meets one that has its row. -/
def F.takes (c : Cap) (row : Int) (p : Int × Cap) : Bool :=
  F.lt 0 p.1 && F.meet p.2 c && F.lt (max p.1 row) (min (p.1 + (p.2.lines.length : Int)) (row + (c.lines.length : Int)))

def F.taken (l : List Cap) (first : List Int) (c : Cap) (row : Int) : Bool := (first.zip l).any (F.takes c row)

def F.rowB (r : Int) : Bool := F.le 0 r && F.le r 100

/-- A caption as it has to be to have rows. -/
def F.capR (c : Cap) : Bool := F.lt c.fr c.to && decide (1 ≤ c.lines.length) && decide (c.lines.length ≤ 15) && F.rowB c.row

def F.capsR (l : List Cap) : Bool := l.all F.capR

def F.rowsB (l : List Int) : Bool := l.all F.rowB

theorem F.rowB_iff {r : Int} : F.rowB r = true ↔ 0 ≤ r ∧ r ≤ 100 := by simp [F.rowB, F.le]

theorem F.capR_iff {c : Cap} : F.capR c = true ↔ ((c.fr < c.to ∧ 1 ≤ c.lines.length) ∧ c.lines.length ≤ 15) ∧ (0 ≤ c.row ∧ c.row ≤ 100) := by simp [F.capR, F.lt, F.rowB_iff]

theorem F.capsR_at {l : List Cap} {k : Nat} {y : Cap} (h : F.capsR l = true) (hy : l[k]? = some y) : F.capR y = true := List.all_eq_true.1 h y (List.mem_of_getElem? hy)

theorem F.rowsB_at {l : List Int} {k : Nat} {y : Int} (h : F.rowsB l = true) (hy : l[k]? = some y) : F.rowB y = true := List.all_eq_true.1 h y (List.mem_of_getElem? hy)

theorem F.chk_capsR {l : List Cap} (h : F.chkC l = 0) : F.capsR l = true := by
  refine List.all_eq_true.2 fun c hc => ?_
  obtain ⟨q, hq⟩ := F.chk_at h hc
  obtain ⟨_, _, h3, _, h5, h6⟩ := F.capF_ok hq
  obtain ⟨g1, g2, _⟩ := F.linesF_ok h6
  have h3 := of_decide_eq_false h3
  have : 1 ≤ c.lines.length := by
    cases hl : c.lines with
    | nil => exact absurd hl g1
    | cons a b => simp
  have h5 : 0 ≤ c.row ∧ c.row ≤ 100 := by
    unfold F.out at h5
    simp at h5
    omega
  exact F.capR_iff.2 ⟨⟨⟨by omega, this⟩, g2⟩, h5⟩

/-- What the reference asks of one of the captions before. -/
theorem F.takes_ref {c d : Cap} {row f : Int} (hc : F.capR c = true) (hd : F.capR d = true) (hf : F.rowB f = true) :
    F.takes c row (f, d) = (!((f == 0) || decide (d.to ≤ c.fr) || decide (c.to ≤ d.fr)) && (decide (row < f + (d.lines.length : Int)) && decide (f < row + (c.lines.length : Int)))) := by
  have hc := F.capR_iff.1 hc
  have hd := F.capR_iff.1 hd
  have hf := F.rowB_iff.1 hf
  unfold F.takes F.meet F.lt
  rw [Bool.eq_iff_iff]
  simp only [Bool.and_eq_true, decide_eq_true_eq, Bool.not_eq_true', Bool.or_eq_false_iff, beq_eq_false_iff_ne, decide_eq_false_iff_not]
  omega

theorem F.any_drop {α : Type} {p : α → Bool} {l : List α} {k : Nat} {y : α} (h : l[k]? = some y) : (l.drop k).any p = (p y || (l.drop (k + 1)).any p) := by
  rw [M.drop_at h, List.any_cons]

theorem F.zip_len {α β : Type} {a : List α} {b : List β} (h : a.length ≤ b.length) : (a.zip b).length = a.length := by rw [List.length_zip]; omega

namespace M

/-- Rounds over a list that stop at the first that is so. -/
theorem loop_any {E : Env} {x : Code} {γ : Type} {n e r : List Nat × List Nat} {xs : List γ} {st : Nat → St} {p : γ → Bool} {o fin : Ex × St}
    (hfin : ((exec E x (st xs.length)).bind (lessX n e r)).val = some fin) (hf1 : fin.1 ≠ .normal ∧ closedB fin.2 = true) (ho : o.1 ≠ .normal ∧ closedB o.2 = true) (hs : ∀ k, closedB (st k) = true)
    (hgo : ∀ k y, xs[k]? = some y → ((exec E x (st k)).bind (lessX n e r)).val = bif p y then some o else some (.normal, st (k + 1))) :
    ∀ k, k ≤ xs.length → ∀ ex s', (T.ifB ((xs.drop k).any p) (.ret o) (.ret fin)).val = some (ex, s') → LoopOK E x (st k) ex s' := by
  intro k hk ex s' h
  refine loop_all (xs := xs) (st := st) (p := fun y => !p y) (o := o) (fin := fin) hfin hf1 ho hs (fun k y hy => ?_) k hk ex s' ?_
  · rw [hgo k y hy]; cases p y <;> rfl
  · rw [← h]
    have : (xs.drop k).all (fun y => !p y) = !(xs.drop k).any p := by rw [List.not_any_eq_all_not]
    rw [this]
    cases (xs.drop k).any p <;> rfl

theorem evMeet (a : Cap) (b : Cap) : (runF en0 false Tryd.f90 [.agg (eCap a), .agg (eCap b)]).val =
  some ((vB (decide (max a.fr b.fr < min a.to b.to))), []) := (runFR_val).symm.trans (by kernel_rfl)

def encMeet1 (a : Cap) (b : Cap) : List AV := [.agg (eCap a), .agg (eCap b)]

def encMeet (a : Cap × Cap) : List AV := encMeet1 a.1 a.2

theorem encMeet_inj (a a' : Cap × Cap) (h : encMeet a = encMeet a') : a = a' := by
  simp only [encMeet, encMeet1] at h
  try simp [strs_inj, ints_inj, bools_inj, eCaps_inj, eCap_iff, eL_eCaps_inj, eMchs_inj, eMch_iff, eWrds_inj, eWrd_iff, eFnds_inj, eFnd_iff, eRatios_inj, eRatio_iff, eWays_inj, eWay_iff] at h
  grind

theorem unMeet (a : Cap) (b : Cap) : unenc encMeet ([AV.agg [(vI a.fr), (vI a.to), AV.sl (List.map eStr a.lines), (vI a.row), (vB a.bef), (vB a.aft)], AV.agg [(vI b.fr), (vI b.to), AV.sl (List.map eStr b.lines), (vI b.row),
  (vB b.bef), (vB b.aft)]]) = some (a, b) := unenc_of encMeet_inj (a, b) rfl

theorem unMeetw (a_fr : Int) (a_to : Int) (a_lines : List ByteArray) (a_row : Int) (a_bef : Bool) (a_aft : Bool) (b_fr : Int) (b_to : Int) (b_lines : List ByteArray) (b_row : Int) (b_bef : Bool) (b_aft : Bool) : unenc encMeet ([AV.agg [(vI a_fr), (vI a_to), AV.sl (List.map eStr a_lines), (vI a_row), (vB a_bef), (vB a_aft)], AV.agg [(vI b_fr), (vI b_to), AV.sl (List.map eStr b_lines), (vI b_row),
  (vB b_bef), (vB b_aft)]]) = some ((Cap.mk a_fr a_to a_lines a_row a_bef a_aft), (Cap.mk b_fr b_to b_lines b_row b_bef b_aft)) := unenc_of encMeet_inj ((Cap.mk a_fr a_to a_lines a_row a_bef a_aft), (Cap.mk b_fr b_to b_lines b_row b_bef b_aft)) rfl

def resMeet1 (a : Cap) (b : Cap) : AV × Heap := (vB (F.meet a b), [])

def preMeet1 (a : Cap) (b : Cap) : Bool := true

noncomputable def oMeet : Orc := orc 90 true encMeet (fun a => preMeet1 a.1 a.2) fun a => resMeet1 a.1 a.2

theorem okMeet : OrcOK Tryd.prog noG oMeet := by
  refine mk_ok Tryd.f90 (keep := false) (by kernel_rfl) (by kernel_rfl) en0_ok mixed (no_loops (by kernel_rfl)) (by first | exact fun _ _ => ⟨rfl, rfl⟩ | (intro h; cases h)) ?_
  rintro ⟨a, b⟩ hpre hok
  show (runF en0 false _ (encMeet1 _ _)).val = some (resMeet1 _ _)
  unfold encMeet1 resMeet1
  rw [evMeet]
  rfl

def stTk (l : List Cap) (first : List Int) (i : Nat) (r : Int) (k : Nat) : St := ⟨[(14, vI k), (13, vI first.length), (12, .sl (first.map eI)), (2, vI r), (1, vI i), (0, .pel [.sl (l.map eCap), .sl (first.map eI)] 0)], []⟩

def stTk1 (a : (List Cap) × (List Int) × Nat × Int × Nat) : St := stTk a.1 a.2.1 a.2.2.1 a.2.2.2.1 a.2.2.2.2

theorem stTk_inj (a a' : (List Cap) × (List Int) × Nat × Int × Nat) (h : stTk1 a = stTk1 a') : a = a' := by
  simp only [stTk1, stTk] at h
  try simp [strs_inj, ints_inj, bools_inj, eCaps_inj, eCap_iff, eL_eCaps_inj, eMchs_inj, eMch_iff, eWrds_inj, eWrd_iff, eFnds_inj, eFnd_iff, eRatios_inj, eRatio_iff, eWays_inj, eWay_iff] at h
  grind

theorem unstTk (l : List Cap) (first : List Int) (i : Nat) (r : Int) (k : Nat) : unenc stTk1 (St.mk [(14, (vI (↑k : Int))), (13, (vI (↑(List.length first) : Int))), (12, AV.sl (List.map eI first)), (2, (vI r)), (1, (vI (↑i : Int))), (0, AV.pel [AV.sl (List.map eCap
  l), AV.sl (List.map eI first)] (0 : Nat))] []) = some (l, first, i, r, k) := unenc_of stTk_inj (l, first, i, r, k) rfl

theorem unstTk0 (l : List Cap) (first : List Int) (i : Nat) (r : Int)  : unenc stTk1 (St.mk [(14, (vI (0 : Int))), (13, (vI (↑(List.length first) : Int))), (12, AV.sl (List.map eI first)), (2, (vI r)), (1, (vI (↑i : Int))), (0, AV.pel [AV.sl (List.map eCap
  l), AV.sl (List.map eI first)] (0 : Nat))] []) = some (l, first, i, r, 0) := unenc_of stTk_inj (l, first, i, r, 0) rfl

def outTk (l : List Cap) (first : List Int) (i : Nat) (r : Int) (k : Nat) : T (Ex × St) := .ifB (((first.zip l).drop k).any (F.takes (l.getD i default) r)) (.ret (.ret, ⟨[(6, vB true)], []⟩)) (.ret (.exit 0, ⟨[], []⟩))

noncomputable def prlTk (l : List Cap) (first : List Int) (i : Nat) (r : Int) (k : Nat) : Bool := F.capsR l && F.rowsB first && F.rowB r && decide (first.length ≤ l.length) && decide (l.length ≤ 500) && decide (i < l.length) && decide (k ≤ first.length)

noncomputable def lpTk : Nat × (St → T (Ex × St)) := (2, lpo [14, 13, 12, 2, 1, 0] [] stTk1 (fun a => prlTk a.1 a.2.1 a.2.2.1 a.2.2.2.1 a.2.2.2.2) fun a => outTk a.1 a.2.1 a.2.2.1 a.2.2.2.1 a.2.2.2.2)

noncomputable def enTk : Env := envH ty noG lks [oMeet] [] [] [lpTk]

theorem enTk_ok : EnvOK Tryd.prog enTk := by
  refine envH_ok lks_ok ty_ok ?_ ?_
  · simp only [List.forall_mem_cons]
    exact ⟨okMeet, by simp⟩
  · simp

theorem evTkL (l : List Cap) (first : List Int) (i : Nat) (r : Int) (k : Nat) : ((exec enTk (loopN Tryd.f62 0) (stTk l first i r k)).bind (lessX ([14, 13, 12, 2, 1, 0], []) ([], []) ([6], []))).val =
  bif decide ((↑k : Int) < (↑(List.length first) : Int)) then Option.bind (unenc (List.map eI) (List.map eI first)) fun (z : List Int) => bif decide (k < List.length z) then
  bif decide ((0 : Int) < List.getD z k (0 : Int)) then Option.bind (unenc (List.map eCap) (List.map eCap l)) fun (z_1 : List Cap) => bif decide (k < List.length z_1) then
  Option.bind (unenc (List.map eCap) (List.map eCap l)) fun (z_2 : List Cap) => bif decide (i < List.length z_2) then Option.bind (unenc encMeet [AV.agg [(vI (List.getD z_1
  k (Cap.mk (0 : Int) (0 : Int) [] (0 : Int) false false)).fr), (vI (List.getD z_1 k (Cap.mk (0 : Int) (0 : Int) [] (0 : Int) false false)).to), AV.sl (List.map eStr
  (List.getD z_1 k (Cap.mk (0 : Int) (0 : Int) [] (0 : Int) false false)).lines), (vI (List.getD z_1 k (Cap.mk (0 : Int) (0 : Int) [] (0 : Int) false false)).row), (vB
  (List.getD z_1 k (Cap.mk (0 : Int) (0 : Int) [] (0 : Int) false false)).bef), (vB (List.getD z_1 k (Cap.mk (0 : Int) (0 : Int) [] (0 : Int) false false)).aft)], AV.agg
  [(vI (List.getD z_2 i (Cap.mk (0 : Int) (0 : Int) [] (0 : Int) false false)).fr), (vI (List.getD z_2 i (Cap.mk (0 : Int) (0 : Int) [] (0 : Int) false false)).to), AV.sl
  (List.map eStr (List.getD z_2 i (Cap.mk (0 : Int) (0 : Int) [] (0 : Int) false false)).lines), (vI (List.getD z_2 i (Cap.mk (0 : Int) (0 : Int) [] (0 : Int) false
  false)).row), (vB (List.getD z_2 i (Cap.mk (0 : Int) (0 : Int) [] (0 : Int) false false)).bef), (vB (List.getD z_2 i (Cap.mk (0 : Int) (0 : Int) [] (0 : Int) false
  false)).aft)]]) fun (z_3 : Cap × Cap) => bif F.meet z_3.fst z_3.snd then Option.bind (unenc (List.map eCap) (List.map eCap l)) fun (z_4 : List Cap) => bif decide (k <
  List.length z_4) then Option.bind (unenc (List.map eCap) (List.map eCap l)) fun (z_5 : List Cap) => bif decide (i < List.length z_5) then bif decide (max (List.getD z k (0
  : Int)) r < min (IntKind.wrap IntKind.i64 (List.getD z k (0 : Int) + (↑(List.length (List.map eStr (List.getD z_4 k (Cap.mk (0 : Int) (0 : Int) [] (0 : Int) false
  false)).lines)) : Int))) (IntKind.wrap IntKind.i64 (r + (↑(List.length (List.map eStr (List.getD z_5 i (Cap.mk (0 : Int) (0 : Int) [] (0 : Int) false false)).lines)) :
  Int)))) then some (Ex.ret, St.mk [(6, (vB true))] []) else some (Ex.normal, St.mk [(14, (vI (IntKind.wrap IntKind.i64 ((↑k : Int) + (1 : Int))))), (13, (vI (↑(List.length
  first) : Int))), (12, AV.sl (List.map eI first)), (2, (vI r)), (1, (vI (↑i : Int))), (0, AV.pel [AV.sl (List.map eCap l), AV.sl (List.map eI first)] (0 : Nat))] []) else
  none else none else some (Ex.normal, St.mk [(14, (vI (IntKind.wrap IntKind.i64 ((↑k : Int) + (1 : Int))))), (13, (vI (↑(List.length first) : Int))), (12, AV.sl (List.map
  eI first)), (2, (vI r)), (1, (vI (↑i : Int))), (0, AV.pel [AV.sl (List.map eCap l), AV.sl (List.map eI first)] (0 : Nat))] []) else none else none else some (Ex.normal,
  St.mk [(14, (vI (IntKind.wrap IntKind.i64 ((↑k : Int) + (1 : Int))))), (13, (vI (↑(List.length first) : Int))), (12, AV.sl (List.map eI first)), (2, (vI r)), (1, (vI (↑i :
  Int))), (0, AV.pel [AV.sl (List.map eCap l), AV.sl (List.map eI first)] (0 : Nat))] []) else none else some (Ex.exit (0 : Nat), St.mk [] []) := (execR_bind _ _ _).symm.trans (by kernel_rfl)

theorem lpTk_ok (l : List Cap) (first : List Int) (i : Nat) (r : Int) (k : Nat) (hp : prlTk l first i r k = true) : ∀ ex s', (outTk l first i r k).val = some (ex, s') → LoopOK enTk (loopN Tryd.f62 0) (stTk l first i r k) ex s' := by
  simp only [prlTk, Bool.and_eq_true, decide_eq_true_eq] at hp
  obtain ⟨⟨⟨⟨⟨⟨h1, h2⟩, h3⟩, h4⟩, h5⟩, h6⟩, h7⟩ := hp
  have hc : l[i]? = some (l.getD i default) := by simp [List.getD, List.getElem?_eq_getElem h6]
  generalize hcd : l.getD i default = c at hc
  have hcr := F.capR_iff.1 (F.capsR_at h1 hc)
  have hr := F.rowB_iff.1 h3
  have hz := F.zip_len h4
  have hlt6 : decide (i < l.length) = true := decide_eq_true h6
  simp only [outTk, hcd]
  refine loop_any (xs := first.zip l) (st := stTk l first i r) (p := F.takes c r) (n := ([14, 13, 12, 2, 1, 0], [])) (e := ([], [])) (r := ([6], [])) ?_ ⟨by simp, rfl⟩ ⟨by simp, rfl⟩ (fun _ => rfl) ?_ k (by omega)
  · rw [hz]; rw [evTkL]; simp
  · rintro k ⟨f, d⟩ hy
    obtain ⟨ha, hb⟩ := F.zip_at hy
    simp only at ha hb
    have hlt := lt_at ha
    have hlt' := lt_at hb
    have hdr := F.capR_iff.1 (F.capsR_at h1 hb)
    have hfr := F.rowB_iff.1 (F.rowsB_at h2 ha)
    have w1 : IntKind.i64.wrap (f + (d.lines.length : Int)) = f + (d.lines.length : Int) := wrap_id (by omega) (by omega)
    have w2 : IntKind.i64.wrap (r + (c.lines.length : Int)) = r + (c.lines.length : Int) := wrap_id (by omega) (by omega)
    rw [evTkL]
    simp only [unMeet, unMeetw, preMeet1, unstTk, unstTk0, prlTk, outTk, etaCap, etaMch, etaWrd, etaFnd, etaRatio, etaWay, Option.bind_some, List.length_map, unStrs, unInts, unBools, unCaps, uneL_eCaps, unMchs, unWrds, unFnds, unRatios, unWays, F.lt, F.le, cond_true, cond_false, Bool.and_true, Bool.true_and, cast_lt hlt, decide_eq_true hlt, decide_eq_true hlt', hlt6, idx_nat, next_at hlt (by omega : first.length ≤ 9223372036854775807), getD_at ha, getD_at hb, getD_at hc, stTk, w1, w2, F.takes]
    cases decide (0 < f) <;> cases F.meet d c <;> cases decide (max f r < min (f + (d.lines.length : Int)) (r + (c.lines.length : Int))) <;> rfl

theorem evTk (l : List Cap) (first : List Int) (i : Nat) (r : Int) : (runF enTk false Tryd.f62 [.pel [.sl (l.map eCap), .sl (first.map eI)] 0, vI i, vI r]).val =
  Option.bind (unenc stTk1 (St.mk [(14, (vI (0 : Int))), (13, (vI (↑(List.length (List.map eI first)) : Int))), (12, AV.sl (List.map eI first)), (2, (vI r)), (1, (vI (↑i :
  Int))), (0, AV.pel [AV.sl (List.map eCap l), AV.sl (List.map eI first)] (0 : Nat))] [])) fun (z : List Cap × List Int × Nat × Int × Nat) => bif F.capsR z.fst && F.rowsB
  z.snd.fst && F.rowB z.snd.snd.snd.fst && decide (List.length z.snd.fst ≤ List.length z.fst) && decide (List.length z.fst ≤ (500 : Nat)) && decide (z.snd.snd.fst <
  List.length z.fst) && decide (z.snd.snd.snd.snd ≤ List.length z.snd.fst) && true then bif List.any (List.drop z.snd.snd.snd.snd (List.zip z.snd.fst z.fst)) (F.takes
  (List.getD z.fst z.snd.snd.fst default) z.snd.snd.snd.fst) then some ((vB true), []) else some ((vB false), []) else none := (runFR_val).symm.trans (by kernel_rfl)

def encTk1 (l : List Cap) (first : List Int) (i : Nat) (r : Int) : List AV := [.pel [.sl (l.map eCap), .sl (first.map eI)] 0, vI i, vI r]

def encTk (a : (List Cap) × (List Int) × Nat × Int) : List AV := encTk1 a.1 a.2.1 a.2.2.1 a.2.2.2

theorem encTk_inj (a a' : (List Cap) × (List Int) × Nat × Int) (h : encTk a = encTk a') : a = a' := by
  simp only [encTk, encTk1] at h
  try simp [strs_inj, ints_inj, bools_inj, eCaps_inj, eCap_iff, eL_eCaps_inj, eMchs_inj, eMch_iff, eWrds_inj, eWrd_iff, eFnds_inj, eFnd_iff, eRatios_inj, eRatio_iff, eWays_inj, eWay_iff] at h
  grind

theorem unTk (l : List Cap) (first : List Int) (i : Nat) (r : Int) : unenc encTk ([AV.pel [AV.sl (List.map eCap l), AV.sl (List.map eI first)] (0 : Nat), (vI (↑i : Int)), (vI r)]) = some (l, first, i, r) := unenc_of encTk_inj (l, first, i, r) rfl

def resTk1 (l : List Cap) (first : List Int) (i : Nat) (r : Int) : AV × Heap := (vB (F.taken l first (l.getD i default) r), [])

def preTk1 (l : List Cap) (first : List Int) (i : Nat) (r : Int) : Bool := F.capsR l && F.rowsB first && F.rowB r && decide (first.length ≤ l.length) && decide (l.length ≤ 500) && decide (i < l.length)

noncomputable def oTk : Orc := orc 62 true encTk (fun a => preTk1 a.1 a.2.1 a.2.2.1 a.2.2.2) fun a => resTk1 a.1 a.2.1 a.2.2.1 a.2.2.2

theorem okTk : OrcOK Tryd.prog noG oTk := by
  refine mk_ok Tryd.f62 (keep := false) (by kernel_rfl) (by kernel_rfl) enTk_ok mixed (one_loop (x0 := loopN Tryd.f62 0) (by kernel_rfl) (lpo_ok ?_)) (by first | exact fun _ _ => ⟨rfl, rfl⟩ | (intro h; cases h)) ?_
  · rintro ⟨l, first, i, r, k⟩ hp
    exact lpTk_ok l first i r k hp
  rintro ⟨l, first, i, r⟩ hpre hok
  show (runF enTk false _ (encTk1 _ _ _ _)).val = some (resTk1 _ _ _ _)
  unfold encTk1 resTk1
  rw [evTk]
  simp only [preTk1] at hpre
  simp only [unMeet, unMeetw, preMeet1, unstTk, unstTk0, prlTk, outTk, etaCap, etaMch, etaWrd, etaFnd, etaRatio, etaWay, Option.bind_some, List.length_map, unStrs, unInts, unBools, unCaps, uneL_eCaps, unMchs, unWrds, unFnds, unRatios, unWays, F.lt, F.le, cond_true, cond_false, Bool.and_true, Bool.true_and, hpre, List.drop_zero, Nat.zero_le, decide_true]
  unfold F.taken
  cases (first.zip l).any (F.takes (l.getD i default) r) <;> rfl

def stMe (l : List Cap) (xs : List Int) (i : Nat) (r : Int) (k : Nat) : St := ⟨[(11, vI k), (10, vI i), (3, vI r), (2, vI i), (1, .sl (xs.map eI)), (0, .sl (l.map eCap))], []⟩

def stMe1 (a : (List Cap) × (List Int) × Nat × Int × Nat) : St := stMe a.1 a.2.1 a.2.2.1 a.2.2.2.1 a.2.2.2.2

theorem stMe_inj (a a' : (List Cap) × (List Int) × Nat × Int × Nat) (h : stMe1 a = stMe1 a') : a = a' := by
  simp only [stMe1, stMe] at h
  try simp [strs_inj, ints_inj, bools_inj, eCaps_inj, eCap_iff, eL_eCaps_inj, eMchs_inj, eMch_iff, eWrds_inj, eWrd_iff, eFnds_inj, eFnd_iff, eRatios_inj, eRatio_iff, eWays_inj, eWay_iff] at h
  grind

theorem unstMe (l : List Cap) (xs : List Int) (i : Nat) (r : Int) (k : Nat) : unenc stMe1 (St.mk [(11, (vI (↑k : Int))), (10, (vI (↑i : Int))), (3, (vI r)), (2, (vI (↑i : Int))), (1, AV.sl (List.map eI xs)), (0, AV.sl (List.map eCap l))] []) = some (l, xs, i, r, k) := unenc_of stMe_inj (l, xs, i, r, k) rfl

theorem unstMe0 (l : List Cap) (xs : List Int) (i : Nat) (r : Int)  : unenc stMe1 (St.mk [(11, (vI (0 : Int))), (10, (vI (↑i : Int))), (3, (vI r)), (2, (vI (↑i : Int))), (1, AV.sl (List.map eI xs)), (0, AV.sl (List.map eCap l))] []) = some (l, xs, i, r, 0) := unenc_of stMe_inj (l, xs, i, r, 0) rfl

def outMe (l : List Cap) (xs : List Int) (i : Nat) (r : Int) (k : Nat) : T (Ex × St) := .ifB ((((xs.take i).zip l).drop k).any (F.takes (l.getD i default) r)) (.ret (.ret, ⟨[(8, vB true)], []⟩)) (.ret (.exit 0, ⟨[], []⟩))

noncomputable def prlMe (l : List Cap) (xs : List Int) (i : Nat) (r : Int) (k : Nat) : Bool := F.capsR l && F.rowsB (xs.take i) && F.rowB r && decide (xs.length = l.length) && decide (l.length ≤ 500) && decide (i < l.length) && decide (k ≤ i)

noncomputable def lpMe : Nat × (St → T (Ex × St)) := (2, lpo [11, 10, 3, 2, 1, 0] [] stMe1 (fun a => prlMe a.1 a.2.1 a.2.2.1 a.2.2.2.1 a.2.2.2.2) fun a => outMe a.1 a.2.1 a.2.2.1 a.2.2.2.1 a.2.2.2.2)

noncomputable def enMe : Env := envH ty noG lks [] [] [] [lpMe]

theorem enMe_ok : EnvOK Tryd.prog enMe := by
  refine envH_ok lks_ok ty_ok ?_ ?_
  · simp
  · simp

theorem evMeL (l : List Cap) (xs : List Int) (i : Nat) (r : Int) (k : Nat) : ((exec enMe (loopN Tryd.f63 0) (stMe l xs i r k)).bind (lessX ([11, 10, 3, 2, 1, 0], []) ([], []) ([8], []))).val =
  bif decide ((↑k : Int) < (↑i : Int)) then Option.bind (unenc (List.map eI) (List.map eI xs)) fun (z : List Int) => bif decide (k < List.length z) then bif !List.getD z k
  (0 : Int) == (0 : Int) then Option.bind (unenc (List.map eCap) (List.map eCap l)) fun (z : List Cap) => bif decide (k < List.length z) then Option.bind (unenc (List.map
  eCap) (List.map eCap l)) fun (z_1 : List Cap) => bif decide (i < List.length z_1) then bif !decide ((List.getD z k (Cap.mk (0 : Int) (0 : Int) [] (0 : Int) false
  false)).to ≤ (List.getD z_1 i (Cap.mk (0 : Int) (0 : Int) [] (0 : Int) false false)).fr) then Option.bind (unenc (List.map eCap) (List.map eCap l)) fun (z : List Cap) =>
  bif decide (i < List.length z) then Option.bind (unenc (List.map eCap) (List.map eCap l)) fun (z_2 : List Cap) => bif decide (k < List.length z_2) then bif decide
  ((List.getD z i (Cap.mk (0 : Int) (0 : Int) [] (0 : Int) false false)).to ≤ (List.getD z_2 k (Cap.mk (0 : Int) (0 : Int) [] (0 : Int) false false)).fr) then some
  (Ex.normal, St.mk [(11, (vI (IntKind.wrap IntKind.i64 ((↑k : Int) + (1 : Int))))), (10, (vI (↑i : Int))), (3, (vI r)), (2, (vI (↑i : Int))), (1, AV.sl (List.map eI xs)),
  (0, AV.sl (List.map eCap l))] []) else Option.bind (unenc (List.map eI) (List.map eI xs)) fun (z : List Int) => bif decide (k < List.length z) then Option.bind (unenc
  (List.map eCap) (List.map eCap l)) fun (z_3 : List Cap) => bif decide (k < List.length z_3) then bif decide (r < IntKind.wrap IntKind.i64 (List.getD z k (0 : Int) +
  (↑(List.length (List.map eStr (List.getD z_3 k (Cap.mk (0 : Int) (0 : Int) [] (0 : Int) false false)).lines)) : Int))) then Option.bind (unenc (List.map eI) (List.map eI
  xs)) fun (z : List Int) => bif decide (k < List.length z) then Option.bind (unenc (List.map eCap) (List.map eCap l)) fun (z_4 : List Cap) => bif decide (i < List.length
  z_4) then bif decide (List.getD z k (0 : Int) < IntKind.wrap IntKind.i64 (r + (↑(List.length (List.map eStr (List.getD z_4 i (Cap.mk (0 : Int) (0 : Int) [] (0 : Int) false
  false)).lines)) : Int))) then some (Ex.ret, St.mk [(8, (vB true))] []) else some (Ex.normal, St.mk [(11, (vI (IntKind.wrap IntKind.i64 ((↑k : Int) + (1 : Int))))), (10,
  (vI (↑i : Int))), (3, (vI r)), (2, (vI (↑i : Int))), (1, AV.sl (List.map eI xs)), (0, AV.sl (List.map eCap l))] []) else none else none else some (Ex.normal, St.mk [(11,
  (vI (IntKind.wrap IntKind.i64 ((↑k : Int) + (1 : Int))))), (10, (vI (↑i : Int))), (3, (vI r)), (2, (vI (↑i : Int))), (1, AV.sl (List.map eI xs)), (0, AV.sl (List.map eCap
  l))] []) else none else none else none else none else some (Ex.normal, St.mk [(11, (vI (IntKind.wrap IntKind.i64 ((↑k : Int) + (1 : Int))))), (10, (vI (↑i : Int))), (3,
  (vI r)), (2, (vI (↑i : Int))), (1, AV.sl (List.map eI xs)), (0, AV.sl (List.map eCap l))] []) else none else none else some (Ex.normal, St.mk [(11, (vI (IntKind.wrap
  IntKind.i64 ((↑k : Int) + (1 : Int))))), (10, (vI (↑i : Int))), (3, (vI r)), (2, (vI (↑i : Int))), (1, AV.sl (List.map eI xs)), (0, AV.sl (List.map eCap l))] []) else none
  else some (Ex.exit (0 : Nat), St.mk [] []) := (execR_bind _ _ _).symm.trans (by kernel_rfl)

theorem lpMe_ok (l : List Cap) (xs : List Int) (i : Nat) (r : Int) (k : Nat) (hp : prlMe l xs i r k = true) : ∀ ex s', (outMe l xs i r k).val = some (ex, s') → LoopOK enMe (loopN Tryd.f63 0) (stMe l xs i r k) ex s' := by
  simp only [prlMe, Bool.and_eq_true, decide_eq_true_eq] at hp
  obtain ⟨⟨⟨⟨⟨⟨h1, h2⟩, h3⟩, h4⟩, h5⟩, h6⟩, h7⟩ := hp
  have hc : l[i]? = some (l.getD i default) := by simp [List.getD, List.getElem?_eq_getElem h6]
  generalize hcd : l.getD i default = c at hc
  have hcR := F.capsR_at h1 hc
  have hcr := F.capR_iff.1 hcR
  have hr := F.rowB_iff.1 h3
  have ht : (xs.take i).length = i := by rw [List.length_take]; omega
  have hz : ((xs.take i).zip l).length = i := by rw [F.zip_len (by omega), ht]
  have hlt6 : decide (i < l.length) = true := decide_eq_true h6
  simp only [outMe, hcd]
  refine loop_any (xs := (xs.take i).zip l) (st := stMe l xs i r) (p := F.takes c r) (n := ([11, 10, 3, 2, 1, 0], [])) (e := ([], [])) (r := ([8], [])) ?_ ⟨by simp, rfl⟩ ⟨by simp, rfl⟩ (fun _ => rfl) ?_ k (by omega)
  · rw [hz]; rw [evMeL]; simp
  · rintro k ⟨f, d⟩ hy
    obtain ⟨ha, hb⟩ := F.zip_at hy
    simp only at ha hb
    have hlt := lt_at ha
    rw [ht] at hlt
    have hlt' := lt_at hb
    have hx : xs[k]? = some f := by rw [List.getElem?_take_of_lt hlt] at ha; exact ha
    have hltx := lt_at hx
    have hdR := F.capsR_at h1 hb
    have hdr := F.capR_iff.1 hdR
    have hfR := F.rowsB_at h2 ha
    have hfr := F.rowB_iff.1 hfR
    have w1 : IntKind.i64.wrap (f + (d.lines.length : Int)) = f + (d.lines.length : Int) := wrap_id (by omega) (by omega)
    have w2 : IntKind.i64.wrap (r + (c.lines.length : Int)) = r + (c.lines.length : Int) := wrap_id (by omega) (by omega)
    rw [evMeL]
    simp only [unstMe, unstMe0, prlMe, outMe, etaCap, etaMch, etaWrd, etaFnd, etaRatio, etaWay, Option.bind_some, List.length_map, unStrs, unInts, unBools, unCaps, uneL_eCaps, unMchs, unWrds, unFnds, unRatios, unWays, F.lt, F.le, cond_true, cond_false, Bool.and_true, Bool.true_and, cast_lt hlt, decide_eq_true hltx, decide_eq_true hlt', hlt6, idx_nat, next_at hlt (by omega : i ≤ 9223372036854775807), getD_at hx, getD_at hb, getD_at hc, stMe, w1, w2, F.takes_ref hcR hdR hfR]
    cases (f == 0) <;> cases decide (d.to ≤ c.fr) <;> cases decide (c.to ≤ d.fr) <;> cases decide (r < f + (d.lines.length : Int)) <;> cases decide (f < r + (c.lines.length : Int)) <;> rfl

theorem evMe (l : List Cap) (xs : List Int) (i : Nat) (r : Int) : (runF enMe false Tryd.f63 [.sl (l.map eCap), .sl (xs.map eI), vI i, vI r]).val =
  Option.bind (unenc stMe1 (St.mk [(11, (vI (0 : Int))), (10, (vI (↑i : Int))), (3, (vI r)), (2, (vI (↑i : Int))), (1, AV.sl (List.map eI xs)), (0, AV.sl (List.map eCap l))]
  [])) fun (z : List Cap × List Int × Nat × Int × Nat) => bif F.capsR z.fst && F.rowsB (List.take z.snd.snd.fst z.snd.fst) && F.rowB z.snd.snd.snd.fst && decide (List.length
  z.snd.fst = List.length z.fst) && decide (List.length z.fst ≤ (500 : Nat)) && decide (z.snd.snd.fst < List.length z.fst) && decide (z.snd.snd.snd.snd ≤ z.snd.snd.fst) &&
  true then bif List.any (List.drop z.snd.snd.snd.snd (List.zip (List.take z.snd.snd.fst z.snd.fst) z.fst)) (F.takes (List.getD z.fst z.snd.snd.fst default)
  z.snd.snd.snd.fst) then some ((vB true), []) else some ((vB false), []) else none := (runFR_val).symm.trans (by kernel_rfl)

def encMe1 (l : List Cap) (xs : List Int) (i : Nat) (r : Int) : List AV := [.sl (l.map eCap), .sl (xs.map eI), vI i, vI r]

def encMe (a : (List Cap) × (List Int) × Nat × Int) : List AV := encMe1 a.1 a.2.1 a.2.2.1 a.2.2.2

theorem encMe_inj (a a' : (List Cap) × (List Int) × Nat × Int) (h : encMe a = encMe a') : a = a' := by
  simp only [encMe, encMe1] at h
  try simp [strs_inj, ints_inj, bools_inj, eCaps_inj, eCap_iff, eL_eCaps_inj, eMchs_inj, eMch_iff, eWrds_inj, eWrd_iff, eFnds_inj, eFnd_iff, eRatios_inj, eRatio_iff, eWays_inj, eWay_iff] at h
  grind

theorem unMe (l : List Cap) (xs : List Int) (i : Nat) (r : Int) : unenc encMe ([AV.sl (List.map eCap l), AV.sl (List.map eI xs), (vI (↑i : Int)), (vI r)]) = some (l, xs, i, r) := unenc_of encMe_inj (l, xs, i, r) rfl

def resMe1 (l : List Cap) (xs : List Int) (i : Nat) (r : Int) : AV × Heap := (vB (F.taken l (xs.take i) (l.getD i default) r), [])

def preMe1 (l : List Cap) (xs : List Int) (i : Nat) (r : Int) : Bool := F.capsR l && F.rowsB (xs.take i) && F.rowB r && decide (xs.length = l.length) && decide (l.length ≤ 500) && decide (i < l.length)

noncomputable def oMe : Orc := orc 63 true encMe (fun a => preMe1 a.1 a.2.1 a.2.2.1 a.2.2.2) fun a => resMe1 a.1 a.2.1 a.2.2.1 a.2.2.2

theorem okMe : OrcOK Tryd.prog noG oMe := by
  refine mk_ok Tryd.f63 (keep := false) (by kernel_rfl) (by kernel_rfl) enMe_ok mixed (one_loop (x0 := loopN Tryd.f63 0) (by kernel_rfl) (lpo_ok ?_)) (by first | exact fun _ _ => ⟨rfl, rfl⟩ | (intro h; cases h)) ?_
  · rintro ⟨l, xs, i, r, k⟩ hp
    exact lpMe_ok l xs i r k hp
  rintro ⟨l, xs, i, r⟩ hpre hok
  show (runF enMe false _ (encMe1 _ _ _ _)).val = some (resMe1 _ _ _ _)
  unfold encMe1 resMe1
  rw [evMe]
  simp only [preMe1] at hpre
  simp only [unstMe, unstMe0, prlMe, outMe, etaCap, etaMch, etaWrd, etaFnd, etaRatio, etaWay, Option.bind_some, List.length_map, unStrs, unInts, unBools, unCaps, uneL_eCaps, unMchs, unWrds, unFnds, unRatios, unWays, F.lt, F.le, cond_true, cond_false, Bool.and_true, Bool.true_and, hpre, List.drop_zero, Nat.zero_le, decide_true]
  unfold F.taken
  cases ((xs.take i).zip l).any (F.takes (l.getD i default) r) <;> rfl

end M
end Go.Proofs.YtniealifncgilaaDoor
