/- What is proved here: the laws of Place and Apart. -/
import Derived.Test.YtniealifncgilaaDoorC24
namespace Go.Proofs.YtniealifncgilaaDoor
open Go Go.RowKit
set_option linter.unusedVariables false
set_option linter.unusedSimpArgs false

/-- What is to be so of one caption that is well placed. -/
def F.dnP (l : List Cap) (w : Int) (xs : List Int) (i : Nat) (c : Cap) (x : Int) : Bool :=
  !(F.lt x 1) && !(F.lt w (x + (c.lines.length : Int) - 1)) && ((c.row == 0) || (x == c.row)) && !(F.taken l (xs.take i) c x)

open Classical in
noncomputable def F.dnA (l : List Cap) (w : Int) (xs : List Int) : Bool :=
  decide (xs.length = l.length ∧ ∀ (i : Nat) (c : Cap) (x : Int), l[i]? = some c → xs[i]? = some x → F.dnP l w xs i c x = true)

/-- So far all are well placed, if none is told. -/
def F.PlQ (l : List Cap) (w : Int) (a : List Int × Int) (k : Nat) : Prop :=
  a.2 = 0 → ∀ (i : Nat) (c : Cap) (x : Int), i < k → l[i]? = some c → a.1[i]? = some x → F.dnP l w a.1 i c x = true

theorem F.PlQ.step {l : List Cap} {w : Int} {a : List Int × Int} {k : Nat} {c : Cap} (hI : F.PlI l a k) (h : F.PlQ l w a k) (hc : F.capR c = true) (hw : F.wOK w = true) (hy : l[k]? = some c) : F.PlQ l w (F.plS l w a c) (k + 1) := by
  intro h0 i d x hi hd hx
  have hlo := hI.lo
  have hlen := hI.len
  have hb : F.badR l a.1 c w (F.pick l a.1 c w) = false ∧ a.2 = 0 := by
    unfold F.plS at h0
    cases hb : F.badR l a.1 c w (F.pick l a.1 c w) <;> rw [hb] at h0 <;> simp only [cond_true, cond_false] at h0
    · exact ⟨rfl, h0⟩
    · omega
  by_cases hik : i < k
  · have e1 : (F.plS l w a c).1[i]? = a.1[i]? := by unfold F.plS; simp only; rw [List.getElem?_append_left (by omega)]
    have e2 : (F.plS l w a c).1.take i = a.1.take i := by unfold F.plS; simp only; rw [List.take_append_of_le_length (by omega)]
    rw [e1] at hx
    have := h hb.2 i d x hik hd hx
    unfold F.dnP at this ⊢
    rw [e2]; exact this
  · have : i = k := by omega
    subst this
    rw [hy] at hd
    cases hd
    have e1 : (F.plS l w a c).1[i]? = some (F.pick l a.1 c w) := by
      unfold F.plS; simp only
      rw [List.getElem?_append_right (by omega)]
      simp [hlen]
    have e2 : (F.plS l w a c).1.take i = a.1 := by
      unfold F.plS; simp only
      rw [List.take_append_of_le_length (by omega), ← hlen, List.take_length]
    rw [e1] at hx
    cases hx
    have hpb := F.rowB_iff.1 (F.pick_bd (l := l) (first := a.1) hc hw)
    have hb := hb.1
    unfold F.badR at hb
    simp only [Bool.or_eq_false_iff, beq_eq_false_iff_ne] at hb
    obtain ⟨⟨b1, b2⟩, b3⟩ := hb
    have g1 : F.lt (F.pick l a.1 c w) 1 = false := decide_eq_false (by omega)
    have g2 : ((c.row == 0) || (F.pick l a.1 c w == c.row)) = true := by
      cases hr : c.row == 0
      · have : F.pick l a.1 c w = c.row := by unfold F.pick; rw [hr]; rfl
        simp [this]
      · rfl
    unfold F.dnP
    rw [e2, g1, b2, g2, b3]
    rfl

theorem F.pl_all {l : List Cap} {w : Int} (hc : F.capsR l = true) (hw : F.wOK w = true) : ∀ (n k : Nat) (a : List Int × Int), l.length - k = n → k ≤ l.length → F.PlI l a k → F.PlQ l w a k →
    F.PlI l ((l.drop k).foldl (F.plS l w) a) l.length ∧ F.PlQ l w ((l.drop k).foldl (F.plS l w) a) l.length := by
  intro n
  induction n with
  | zero =>
    intro k a hn hk h1 h2
    have : k = l.length := by omega
    subst this
    rw [List.drop_length]
    exact ⟨h1, h2⟩
  | succ n ih =>
    intro k a hn hk h1 h2
    have hlt : k < l.length := by omega
    have hy : l[k]? = some l[k] := List.getElem?_eq_getElem hlt
    have hcR := F.capsR_at hc hy
    rw [M.drop_at hy, List.foldl_cons]
    exact ih (k + 1) _ (by omega) hlt (h1.step hcR hw) (h2.step h1 hcR hw hy)

theorem F.place_no {l : List Cap} {w : Int} (h : (F.place l w).2.2 ≠ 0) : (F.place l w).1 = [] := by
  unfold F.place at h ⊢
  cases h0 : F.chkC l != 0
  · rw [h0] at h
    cases h1 : F.out w 1 15
    · rw [h1] at h; exact absurd rfl h
    · rfl
  · rfl

theorem F.place_yes {l : List Cap} {w : Int} (h : (F.place l w).2.2 = 0) :
    F.PlI l ((F.place l w).1, (F.place l w).2.1) l.length ∧ F.PlQ l w ((F.place l w).1, (F.place l w).2.1) l.length ∧ F.capsR l = true ∧ l.length ≤ 500 ∧ F.wOK w = true := by
  unfold F.place at h ⊢
  cases h0 : F.chkC l != 0
  · rw [h0] at h
    have h0 : F.chkC l = 0 := by simpa using h0
    have c1 := F.chk_capsR h0
    cases h1 : F.out w 1 15
    · have c3 : F.wOK w = true := by
        unfold F.out at h1
        simp [F.wOK, F.le] at h1 ⊢
        omega
      have := F.pl_all c1 c3 _ 0 ([], 0) rfl (Nat.zero_le _) ⟨rfl, rfl, by simp, by simp⟩ (fun _ i c x hi => by omega)
      rw [List.drop_zero] at this
      exact ⟨this.1, this.2, c1, F.chk_len h0, c3⟩
    · rw [h1] at h; cases h
  · rw [h0] at h
    have h : F.chkC l = 0 := h
    rw [h] at h0; cases h0

namespace M

noncomputable def enLPl : Env := envH ty noG lks [oPl, oRPl, oEqI, oAp, oRAp, oSa, oAwk] [] [] []

theorem enLPl_ok : EnvOK Tryd.prog enLPl := by
  refine envH_ok lks_ok ty_ok ?_ ?_
  · simp only [List.forall_mem_cons]
    exact ⟨okPl, okRPl, okEqI, okAp, okRAp, okSa, okAwk, by simp⟩
  · simp

theorem evLPl (l : List Cap) (w : Int) (g : Int) : (runF enLPl false Tryd.f9 [.sl (l.map eCap), vI w, vI g]).val =
  Option.bind (unenc encPl [AV.sl (List.map eCap l), (vI w)]) fun (z : List Cap × Int) => bif F.smC z.fst then Option.bind (unenc encRPl [AV.sl (List.map eCap l), (vI w)])
  fun (z_1 : List Cap × Int) => bif F.smC z_1.fst then bif !bif (F.place z.fst z.snd).snd.snd != (F.place z_1.fst z_1.snd).snd.snd then true else (F.place z.fst
  z.snd).snd.fst != (F.place z_1.fst z_1.snd).snd.fst then Option.bind (unenc encEqI [AV.sl (List.map eI (F.place z.fst z.snd).fst), AV.sl (List.map eI (F.place z_1.fst
  z_1.snd).fst)]) fun (z : List Int × List Int) => bif !F.sameIL z.fst z.snd then some ((vB false), []) else Option.bind (unenc encAp [AV.sl (List.map eCap l), (vI g)]) fun
  (z : List Cap × Int) => bif F.smC z.fst then Option.bind (unenc encRAp [AV.sl (List.map eCap l), (vI g)]) fun (z_2 : List Cap × Int) => bif F.smC z_2.fst then bif (F.apart
  z.fst z.snd).snd == (F.apart z_2.fst z_2.snd).snd then Option.bind (unenc encSa [AV.sl (List.map eCap (F.apart z.fst z.snd).fst), AV.sl (List.map eCap (F.apart z_2.fst
  z_2.snd).fst)]) fun (z : List Cap × List Cap) => bif F.sameCL z.fst z.snd then Option.bind (unenc encAwk []) fun (z : Unit) => some ((vB true), []) else some ((vB false),
  []) else some ((vB false), []) else none else none else some ((vB false), []) else none else none := (runFR_val).symm.trans (by kernel_rfl)

def encLPl1 (l : List Cap) (w : Int) (g : Int) : List AV := [.sl (l.map eCap), vI w, vI g]

def encLPl (a : (List Cap) × Int × Int) : List AV := encLPl1 a.1 a.2.1 a.2.2

theorem encLPl_inj (a a' : (List Cap) × Int × Int) (h : encLPl a = encLPl a') : a = a' := by
  simp only [encLPl, encLPl1] at h
  try simp [strs_inj, ints_inj, bools_inj, eCaps_inj, eCap_iff, eL_eCaps_inj, eMchs_inj, eMch_iff, eWrds_inj, eWrd_iff, eFnds_inj, eFnd_iff, eRatios_inj, eRatio_iff, eWays_inj, eWay_iff] at h
  grind

theorem unLPl (l : List Cap) (w : Int) (g : Int) : unenc encLPl ([AV.sl (List.map eCap l), (vI w), (vI g)]) = some (l, w, g) := unenc_of encLPl_inj (l, w, g) rfl

def resLPl1 (l : List Cap) (w : Int) (g : Int) : AV × Heap := (vB true, [])

def preLPl1 (l : List Cap) (w : Int) (g : Int) : Bool := F.smC l

noncomputable def oLPl : Orc := orc 9 false encLPl (fun a => preLPl1 a.1 a.2.1 a.2.2) fun a => resLPl1 a.1 a.2.1 a.2.2

theorem okLPl : OrcOK Tryd.prog noG oLPl := by
  refine mk_ok Tryd.f9 (keep := false) (by kernel_rfl) (by kernel_rfl) enLPl_ok mixed (no_loops (by kernel_rfl)) (by first | exact fun _ _ => ⟨rfl, rfl⟩ | (intro h; cases h)) ?_
  rintro ⟨l, w, g⟩ hpre hok
  show (runF enLPl false _ (encLPl1 _ _ _)).val = some (resLPl1 _ _ _)
  unfold encLPl1 resLPl1
  rw [evLPl]
  simp only [preLPl1] at hpre
  simp only [unPl, unRPl, unEqI, unAp, unRAp, unSa, unAwk, prePl1, preRPl1, preEqI1, preAp1, preRAp1, preSa1, preAwk1, etaCap, etaMch, etaWrd, etaFnd, etaRatio, etaWay, Option.bind_some, List.length_map, unStrs, unInts, unBools, unCaps, uneL_eCaps, unMchs, unWrds, unFnds, unRatios, unWays, F.lt, F.le, cond_true, cond_false, Bool.and_true, Bool.true_and, hpre, F.sameIL_refl, F.sameCL_refl, bne_self_eq_false, beq_self_eq_true, bne, Bool.not_true, Bool.not_false]

noncomputable def enMts : Env := envH ty noG lks [oMe] [] [] []

theorem enMts_ok : EnvOK Tryd.prog enMts := by
  refine envH_ok lks_ok ty_ok ?_ ?_
  · simp only [List.forall_mem_cons]
    exact ⟨okMe, by simp⟩
  · simp

theorem evMts (l : List Cap) (xs : List Int) (i : Nat) : (runF enMts false Tryd.f23 [.sl (l.map eCap), .sl (xs.map eI), vI i]).val =
  Option.bind (unenc (List.map eI) (List.map eI xs)) fun (z : List Int) => bif decide (i < List.length z) then Option.bind (unenc encMe [AV.sl (List.map eCap l), AV.sl
  (List.map eI xs), (vI (↑i : Int)), (vI (List.getD z i (0 : Int)))]) fun (z : List Cap × List Int × Nat × Int) => bif F.capsR z.fst && F.rowsB (List.take z.snd.snd.fst
  z.snd.fst) && F.rowB z.snd.snd.snd && decide (List.length z.snd.fst = List.length z.fst) && decide (List.length z.fst ≤ (500 : Nat)) && decide (z.snd.snd.fst < List.length
  z.fst) then some ((vB (F.taken z.fst (List.take z.snd.snd.fst z.snd.fst) (List.getD z.fst z.snd.snd.fst (Cap.mk (0 : Int) (0 : Int) [] (0 : Int) false false))
  z.snd.snd.snd)), []) else none else none := (runFR_val).symm.trans (by kernel_rfl)

def encMts1 (l : List Cap) (xs : List Int) (i : Nat) : List AV := [.sl (l.map eCap), .sl (xs.map eI), vI i]

def encMts (a : (List Cap) × (List Int) × Nat) : List AV := encMts1 a.1 a.2.1 a.2.2

theorem encMts_inj (a a' : (List Cap) × (List Int) × Nat) (h : encMts a = encMts a') : a = a' := by
  simp only [encMts, encMts1] at h
  try simp [strs_inj, ints_inj, bools_inj, eCaps_inj, eCap_iff, eL_eCaps_inj, eMchs_inj, eMch_iff, eWrds_inj, eWrd_iff, eFnds_inj, eFnd_iff, eRatios_inj, eRatio_iff, eWays_inj, eWay_iff] at h
  grind

theorem unMts (l : List Cap) (xs : List Int) (i : Nat) : unenc encMts ([AV.sl (List.map eCap l), AV.sl (List.map eI xs), (vI (↑i : Int))]) = some (l, xs, i) := unenc_of encMts_inj (l, xs, i) rfl

def resMts1 (l : List Cap) (xs : List Int) (i : Nat) : AV × Heap := (vB (F.taken l (xs.take i) (l.getD i default) (xs.getD i 0)), [])

def preMts1 (l : List Cap) (xs : List Int) (i : Nat) : Bool := F.capsR l && F.rowsB xs && decide (xs.length = l.length) && decide (l.length ≤ 500) && decide (i < l.length)

noncomputable def oMts : Orc := orc 23 true encMts (fun a => preMts1 a.1 a.2.1 a.2.2) fun a => resMts1 a.1 a.2.1 a.2.2

theorem okMts : OrcOK Tryd.prog noG oMts := by
  refine mk_ok Tryd.f23 (keep := false) (by kernel_rfl) (by kernel_rfl) enMts_ok mixed (no_loops (by kernel_rfl)) (by first | exact fun _ _ => ⟨rfl, rfl⟩ | (intro h; cases h)) ?_
  rintro ⟨l, xs, i⟩ hpre hok
  show (runF enMts false _ (encMts1 _ _ _)).val = some (resMts1 _ _ _)
  unfold encMts1 resMts1
  rw [evMts]
  simp only [preMts1, Bool.and_eq_true, decide_eq_true_eq] at hpre
  obtain ⟨⟨⟨⟨h1, h2⟩, h3⟩, h4⟩, h5⟩ := hpre
  have hy : xs[i]? = some xs[i] := List.getElem?_eq_getElem (by omega)
  have h6 := F.rowsB_at h2 hy
  have h7 : F.rowsB (xs.take i) = true := List.all_eq_true.2 fun x hx => List.all_eq_true.1 h2 x (List.mem_of_mem_take hx)
  have h8 : decide (i < xs.length) = true := decide_eq_true (by omega)
  have hg : xs.getD i 0 = xs[i] := getD_at hy
  simp only [unMe, preMe1, etaCap, etaMch, etaWrd, etaFnd, etaRatio, etaWay, Option.bind_some, List.length_map, unStrs, unInts, unBools, unCaps, uneL_eCaps, unMchs, unWrds, unFnds, unRatios, unWays, F.lt, F.le, cond_true, cond_false, Bool.and_true, Bool.true_and, hg, h1, h6, h7, h8, decide_eq_true h3, decide_eq_true h4, decide_eq_true h5, idx_nat, Bool.and_self]
  rfl

def stLDn (l : List Cap) (w : Int) (xs : List Int) (k : Nat) : St := ⟨[(47, vI k), (46, vI l.length), (5, .sl (xs.map eI)), (1, vI w), (0, .sl (l.map eCap))], []⟩

def stLDn1 (a : (List Cap) × Int × (List Int) × Nat) : St := stLDn a.1 a.2.1 a.2.2.1 a.2.2.2

theorem stLDn_inj (a a' : (List Cap) × Int × (List Int) × Nat) (h : stLDn1 a = stLDn1 a') : a = a' := by
  simp only [stLDn1, stLDn] at h
  try simp [strs_inj, ints_inj, bools_inj, eCaps_inj, eCap_iff, eL_eCaps_inj, eMchs_inj, eMch_iff, eWrds_inj, eWrd_iff, eFnds_inj, eFnd_iff, eRatios_inj, eRatio_iff, eWays_inj, eWay_iff] at h
  grind

theorem unstLDn (l : List Cap) (w : Int) (xs : List Int) (k : Nat) : unenc stLDn1 (St.mk [(47, (vI (↑k : Int))), (46, (vI (↑(List.length l) : Int))), (5, AV.sl (List.map eI xs)), (1, (vI w)), (0, AV.sl (List.map eCap l))] []) = some (l, w, xs, k) := unenc_of stLDn_inj (l, w, xs, k) rfl

theorem unstLDn0 (l : List Cap) (w : Int) (xs : List Int)  : unenc stLDn1 (St.mk [(47, (vI (0 : Int))), (46, (vI (↑(List.length l) : Int))), (5, AV.sl (List.map eI xs)), (1, (vI w)), (0, AV.sl (List.map eCap l))] []) = some (l, w, xs, 0) := unenc_of stLDn_inj (l, w, xs, 0) rfl

def outLDn (l : List Cap) (w : Int) (xs : List Int) (k : Nat) : T (Ex × St) := .ret (.exit 0, ⟨[], []⟩)

noncomputable def prlLDn (l : List Cap) (w : Int) (xs : List Int) (k : Nat) : Bool := F.capsR l && F.rowsB xs && F.wOK w && decide (l.length ≤ 500) && F.dnA l w xs && decide (k ≤ l.length)

noncomputable def lpLDn : Nat × (St → T (Ex × St)) := (9, lpo [47, 46, 5, 1, 0] [] stLDn1 (fun a => prlLDn a.1 a.2.1 a.2.2.1 a.2.2.2) fun a => outLDn a.1 a.2.1 a.2.2.1 a.2.2.2)

noncomputable def enLDn : Env := envH ty noG lks [oPl, oAwk, oMts] [] [] [lpLDn]

theorem enLDn_ok : EnvOK Tryd.prog enLDn := by
  refine envH_ok lks_ok ty_ok ?_ ?_
  · simp only [List.forall_mem_cons]
    exact ⟨okPl, okAwk, okMts, by simp⟩
  · simp

theorem evLDnL (l : List Cap) (w : Int) (xs : List Int) (k : Nat) : ((exec enLDn (loopN Tryd.f6 0) (stLDn l w xs k)).bind (lessX ([47, 46, 5, 1, 0], []) ([], []) ([4], []))).val =
  bif decide ((↑k : Int) < (↑(List.length l) : Int)) then Option.bind (unenc (List.map eI) (List.map eI xs)) fun (z : List Int) => bif decide (k < List.length z) then bif
  !decide (List.getD z k (0 : Int) < (1 : Int)) then Option.bind (unenc (List.map eI) (List.map eI xs)) fun (z : List Int) => bif decide (k < List.length z) then Option.bind
  (unenc (List.map eCap) (List.map eCap l)) fun (z_1 : List Cap) => bif decide (k < List.length z_1) then bif !decide (w < IntKind.wrap IntKind.i64 (IntKind.wrap IntKind.i64
  (List.getD z k (0 : Int) + (↑(List.length (List.map eStr (List.getD z_1 k (Cap.mk (0 : Int) (0 : Int) [] (0 : Int) false false)).lines)) : Int)) - (1 : Int))) then
  Option.bind (unenc (List.map eCap) (List.map eCap l)) fun (z : List Cap) => bif decide (k < List.length z) then bif (List.getD z k (Cap.mk (0 : Int) (0 : Int) [] (0 : Int)
  false false)).row != (0 : Int) then Option.bind (unenc (List.map eI) (List.map eI xs)) fun (z : List Int) => bif decide (k < List.length z) then Option.bind (unenc
  (List.map eCap) (List.map eCap l)) fun (z_2 : List Cap) => bif decide (k < List.length z_2) then bif !List.getD z k (0 : Int) != (List.getD z_2 k (Cap.mk (0 : Int) (0 :
  Int) [] (0 : Int) false false)).row then Option.bind (unenc encMts [AV.sl (List.map eCap l), AV.sl (List.map eI xs), (vI (↑k : Int))]) fun (z : List Cap × List Int × Nat)
  => bif F.capsR z.fst && F.rowsB z.snd.fst && decide (List.length z.snd.fst = List.length z.fst) && decide (List.length z.fst ≤ (500 : Nat)) && decide (z.snd.snd <
  List.length z.fst) then bif F.taken z.fst (List.take z.snd.snd z.snd.fst) (List.getD z.fst z.snd.snd (Cap.mk (0 : Int) (0 : Int) [] (0 : Int) false false)) (List.getD
  z.snd.fst z.snd.snd (0 : Int)) then some (Ex.ret, St.mk [(4, (vB false))] []) else some (Ex.normal, St.mk [(47, (vI (IntKind.wrap IntKind.i64 ((↑k : Int) + (1 : Int))))),
  (46, (vI (↑(List.length l) : Int))), (5, AV.sl (List.map eI xs)), (1, (vI w)), (0, AV.sl (List.map eCap l))] []) else none else some (Ex.ret, St.mk [(4, (vB false))] [])
  else none else none else bif (List.getD z k (Cap.mk (0 : Int) (0 : Int) [] (0 : Int) false false)).row != (0 : Int) then none else bif (List.getD z k (Cap.mk (0 : Int) (0
  : Int) [] (0 : Int) false false)).row != (0 : Int) then Option.bind (unenc (List.map eCap) (List.map eCap l)) fun (z : List Cap) => bif decide (k < List.length z) then
  none else none else bif (List.getD z k (Cap.mk (0 : Int) (0 : Int) [] (0 : Int) false false)).row != (0 : Int) then none else bif (List.getD z k (Cap.mk (0 : Int) (0 :
  Int) [] (0 : Int) false false)).row != (0 : Int) then none else bif (List.getD z k (Cap.mk (0 : Int) (0 : Int) [] (0 : Int) false false)).row != (0 : Int) then none else
  Option.bind (unenc encMts [AV.sl (List.map eCap l), AV.sl (List.map eI xs), (vI (↑k : Int))]) fun (z : List Cap × List Int × Nat) => bif F.capsR z.fst && F.rowsB z.snd.fst
  && decide (List.length z.snd.fst = List.length z.fst) && decide (List.length z.fst ≤ (500 : Nat)) && decide (z.snd.snd < List.length z.fst) then bif F.taken z.fst
  (List.take z.snd.snd z.snd.fst) (List.getD z.fst z.snd.snd (Cap.mk (0 : Int) (0 : Int) [] (0 : Int) false false)) (List.getD z.snd.fst z.snd.snd (0 : Int)) then some
  (Ex.ret, St.mk [(4, (vB false))] []) else some (Ex.normal, St.mk [(47, (vI (IntKind.wrap IntKind.i64 ((↑k : Int) + (1 : Int))))), (46, (vI (↑(List.length l) : Int))), (5,
  AV.sl (List.map eI xs)), (1, (vI w)), (0, AV.sl (List.map eCap l))] []) else none else none else some (Ex.ret, St.mk [(4, (vB false))] []) else none else none else some
  (Ex.ret, St.mk [(4, (vB false))] []) else none else some (Ex.exit (0 : Nat), St.mk [] []) := (execR_bind _ _ _).symm.trans (by kernel_rfl)

theorem lpLDn_ok (l : List Cap) (w : Int) (xs : List Int) (k : Nat) (hp : prlLDn l w xs k = true) : ∀ ex s', (outLDn l w xs k).val = some (ex, s') → LoopOK enLDn (loopN Tryd.f6 0) (stLDn l w xs k) ex s' := by
  simp only [prlLDn, Bool.and_eq_true, decide_eq_true_eq] at hp
  obtain ⟨⟨⟨⟨⟨h1, h2⟩, h3⟩, h4⟩, h5⟩, h6⟩ := hp
  have h5 : xs.length = l.length ∧ ∀ (i : Nat) (c : Cap) (x : Int), l[i]? = some c → xs[i]? = some x → F.dnP l w xs i c x = true := by simpa [F.dnA] using h5
  have hw : 1 ≤ w ∧ w ≤ 15 := by simpa [F.wOK, F.le] using h3
  intro ex s' hh
  refine loop_fold (xs := l) (st := fun (_ : Unit) k => stLDn l w xs k) (f := fun a _ => a) (fin := fun _ => (.exit 0, ⟨[], []⟩)) (I := fun _ _ => True) (n := ([47, 46, 5, 1, 0], [])) (e := ([], [])) (r := ([4], [])) ?_ (fun _ => ⟨by simp, rfl⟩) (fun _ _ => rfl) ?_ () k h6 trivial ex s' hh
  · intro a _
    rw [evLDnL]
    simp
  · intro a k c hy _
    have hlt := lt_at hy
    have hlx : k < xs.length := by omega
    have hx : xs[k]? = some xs[k] := List.getElem?_eq_getElem hlx
    generalize xs[k] = x at hx
    have hs := h5.2 k c x hy hx
    simp only [F.dnP, Bool.and_eq_true, Bool.not_eq_true'] at hs
    obtain ⟨⟨⟨s1, s2⟩, s3⟩, s4⟩ := hs
    have s1 : decide (x < 1) = false := s1
    have s2 : decide (w < x + (c.lines.length : Int) - 1) = false := s2
    have hgd : l.getD k ⟨0, 0, [], 0, false, false⟩ = c := getD_at hy
    have hcr := F.capR_iff.1 (F.capsR_at h1 hy)
    have hxr := F.rowB_iff.1 (F.rowsB_at h2 hx)
    have w1 : IntKind.i64.wrap (x + (c.lines.length : Int)) = x + (c.lines.length : Int) := wrap_id (by omega) (by omega)
    have w2 : IntKind.i64.wrap (x + (c.lines.length : Int) - 1) = x + (c.lines.length : Int) - 1 := wrap_id (by omega) (by omega)
    refine ⟨?_, trivial⟩
    rw [evLDnL]
    simp only [unPl, unAwk, unMts, prePl1, preAwk1, preMts1, unstLDn, unstLDn0, prlLDn, outLDn, etaCap, etaMch, etaWrd, etaFnd, etaRatio, etaWay, Option.bind_some, List.length_map, unStrs, unInts, unBools, unCaps, uneL_eCaps, unMchs, unWrds, unFnds, unRatios, unWays, F.lt, F.le, cond_true, cond_false, Bool.and_true, Bool.true_and, cast_lt hlt, decide_eq_true hlt, decide_eq_true hlx, idx_nat, next_at hlt (by omega : l.length ≤ 9223372036854775807), hgd, getD_at hx, stLDn, s1, s2, s4, w1, w2, h1, h2, decide_eq_true h5.1, decide_eq_true h4, Bool.and_self, bne]
    cases hc : c.row == 0
    · rw [hc, Bool.false_or] at s3
      rw [s3]
      rfl
    · rfl

theorem evLDn (l : List Cap) (w : Int) : (runF enLDn false Tryd.f6 [.sl (l.map eCap), vI w]).val =
  Option.bind (unenc encPl [AV.sl (List.map eCap l), (vI w)]) fun (z : List Cap × Int) => bif F.smC z.fst then bif (F.place z.fst z.snd).snd.snd != (0 : Int) then bif
  (↑(List.length (List.map eI (F.place z.fst z.snd).fst)) : Int) == (0 : Int) then Option.bind (unenc encAwk []) fun (z : Unit) => some ((vB true), []) else some ((vB
  false), []) else bif !bif bif decide ((F.place z.fst z.snd).snd.fst < (0 : Int)) then true else decide ((↑(List.length (List.map eCap l)) : Int) < (F.place z.fst
  z.snd).snd.fst) then true else (↑(List.length (List.map eI (F.place z.fst z.snd).fst)) : Int) != (↑(List.length (List.map eCap l)) : Int) then Option.bind (unenc encAwk
  []) fun (z_1 : Unit) => bif decide ((0 : Int) < (F.place z.fst z.snd).snd.fst) then some ((vB true), []) else Option.bind (unenc stLDn1 (St.mk [(47, (vI (0 : Int))), (46,
  (vI (↑(List.length (List.map eCap l)) : Int))), (5, AV.sl (List.map eI (F.place z.fst z.snd).fst)), (1, (vI w)), (0, AV.sl (List.map eCap l))] [])) fun (z : List Cap × Int
  × List Int × Nat) => bif F.capsR z.fst && F.rowsB z.snd.snd.fst && F.wOK z.snd.fst && decide (List.length z.fst ≤ (500 : Nat)) && F.dnA z.fst z.snd.fst z.snd.snd.fst &&
  decide (z.snd.snd.snd ≤ List.length z.fst) && true then some ((vB true), []) else none else some ((vB false), []) else none := (runFR_val).symm.trans (by kernel_rfl)

def encLDn1 (l : List Cap) (w : Int) : List AV := [.sl (l.map eCap), vI w]

def encLDn (a : (List Cap) × Int) : List AV := encLDn1 a.1 a.2

theorem encLDn_inj (a a' : (List Cap) × Int) (h : encLDn a = encLDn a') : a = a' := by
  simp only [encLDn, encLDn1] at h
  try simp [strs_inj, ints_inj, bools_inj, eCaps_inj, eCap_iff, eL_eCaps_inj, eMchs_inj, eMch_iff, eWrds_inj, eWrd_iff, eFnds_inj, eFnd_iff, eRatios_inj, eRatio_iff, eWays_inj, eWay_iff] at h
  grind

theorem unLDn (l : List Cap) (w : Int) : unenc encLDn ([AV.sl (List.map eCap l), (vI w)]) = some (l, w) := unenc_of encLDn_inj (l, w) rfl

def resLDn1 (l : List Cap) (w : Int) : AV × Heap := (vB true, [])

def preLDn1 (l : List Cap) (w : Int) : Bool := F.smC l

noncomputable def oLDn : Orc := orc 6 false encLDn (fun a => preLDn1 a.1 a.2) fun a => resLDn1 a.1 a.2

theorem okLDn : OrcOK Tryd.prog noG oLDn := by
  refine mk_ok Tryd.f6 (keep := false) (by kernel_rfl) (by kernel_rfl) enLDn_ok mixed (one_loop (x0 := loopN Tryd.f6 0) (by kernel_rfl) (lpo_ok ?_)) (by first | exact fun _ _ => ⟨rfl, rfl⟩ | (intro h; cases h)) ?_
  · rintro ⟨l, w, xs, k⟩ hp
    exact lpLDn_ok l w xs k hp
  rintro ⟨l, w⟩ hpre hok
  show (runF enLDn false _ (encLDn1 _ _)).val = some (resLDn1 _ _)
  unfold encLDn1 resLDn1
  rw [evLDn]
  simp only [preLDn1] at hpre
  simp only [unPl, unAwk, unMts, prePl1, preAwk1, preMts1, unstLDn, unstLDn0, prlLDn, outLDn, etaCap, etaMch, etaWrd, etaFnd, etaRatio, etaWay, Option.bind_some, List.length_map, unStrs, unInts, unBools, unCaps, uneL_eCaps, unMchs, unWrds, unFnds, unRatios, unWays, F.lt, F.le, cond_true, cond_false, Bool.and_true, Bool.true_and, hpre, bne]
  by_cases h0 : (F.place l w).2.2 = 0
  · obtain ⟨⟨c1, c2, c3, c4⟩, c5, c6, c7, c8⟩ := F.place_yes h0
    simp only at c1 c2 c3 c4
    have e1 : (((F.place l w).1.length : Nat) : Int) = ((l.length : Nat) : Int) := by omega
    simp only [h0, e1, beq_self_eq_true, Bool.not_true, cond_false, decide_eq_false (show ¬ ((F.place l w).2.1 < 0) by omega), decide_eq_false (show ¬ ((l.length : Int) < (F.place l w).2.1) by omega), Bool.not_false, cond_true]
    by_cases hb : (F.place l w).2.1 = 0
    · have c9 : F.dnA l w (F.place l w).1 = true := by
        simp only [F.dnA, decide_eq_true_eq]
        exact ⟨c1, fun i c x h1 h2 => c5 hb i c x (lt_at h1) h1 h2⟩
      simp only [hb, decide_false, Int.lt_irrefl, cond_false, c2, c6, c8, c9, decide_eq_true c7, Nat.zero_le, decide_true, Bool.and_self, cond_true]
    · simp only [decide_eq_true (show 0 < (F.place l w).2.1 by omega), cond_true]
  · have c1 := F.place_no h0
    have e1 : ((F.place l w).2.2 == 0) = false := by simpa using h0
    simp only [e1, c1, List.length_nil, Bool.not_false, cond_true, Int.natCast_zero, beq_self_eq_true]

end M
end Go.Proofs.YtniealifncgilaaDoor
