/- What is proved here: Roll of the program (no statement of the seat). -/
import Derived.Test.YtdmccifaggmmkaaDoorC43
namespace Go.Proofs.YtdmccifaggmmkaaDoor
open Go Go.RowKit
set_option linter.unusedVariables false
set_option linter.unusedSimpArgs false

theorem F.rollP_sm {w r h : Int} : ∀ (l : List Wrd) (p : Option Wrd) (ls : List ByteArray) (k : Nat), F.lnsB k ls → (∀ c ∈ l, c.text.size ≤ 200) → k + l.length ≤ 1000 → F.smC (F.rollP w r h p ls l) = true
  | [], _, _, _, _, _, _ => rfl
  | c :: l, p, ls, k, hB, hl, hk => by
    have hB2 := F.lnsB_next (hold := h) (width := w) (p := p) hB (hl c (List.mem_cons_self ..))
    have hk : k + (l.length + 1) ≤ 1000 := hk
    have ih := F.rollP_sm (w := w) (r := r) (h := h) l (some c) (F.rollS h w p ls c) (k + 1) hB2 (fun x hx => hl x (List.mem_cons_of_mem _ hx)) (by omega)
    rw [F.rollP]
    cases F.sameT c l.head?
    · simp only [cond_false]
      refine Bool.and_eq_true_iff.2 ⟨?_, ih⟩
      refine List.all_eq_true.2 fun s hs => decide_eq_true ?_
      have := hB2.2 s (List.mem_of_mem_drop hs)
      omega
    · exact ih

namespace M

theorem evRl (l : List Wrd) (w : Int) (r : Int) (h : Int) : (runF enRl false Tryd.f7 [.sl (l.map eWrd), vI w, vI r, vI h]).val =
  Option.bind (unenc encOut [(vI w), (vI (1 : Int)), (vI (200 : Int))]) fun (z : Int × Int × Int) => bif !F.out z.fst z.snd.fst z.snd.snd then Option.bind (unenc encOut [(vI
  r), (vI (1 : Int)), (vI (15 : Int))]) fun (z : Int × Int × Int) => bif !F.out z.fst z.snd.fst z.snd.snd then Option.bind (unenc encOut [(vI h), (vI (1 : Int)), (vI
  (359999999 : Int))]) fun (z : Int × Int × Int) => bif F.out z.fst z.snd.fst z.snd.snd then some (AV.tup [AV.sl [], (vI (1 : Int))], []) else Option.bind (unenc encWdF
  [AV.sl (List.map eWrd l), (vI w)]) fun (z : List Wrd × Int) => bif F.smW z.fst then bif F.wordsF z.fst z.snd != (0 : Int) then some (AV.tup [AV.sl [], (vI (F.wordsF z.fst
  z.snd))], []) else Option.bind (unenc stRl1 (St.mk [(35, (vI (0 : Int))), (34, (vI (↑(List.length (List.map eWrd l)) : Int))), (33, AV.sl (List.map eWrd l)), (12, .own
  12), (11, .own 11), (3, (vI h)), (2, (vI r)), (1, (vI w)), (0, AV.sl (List.map eWrd l))] [(12, Blk.mk false 9 1 []), (11, Blk.mk false 32 6 [])])) fun (z : List Wrd × Int
  × Int × Int × List ByteArray × List Cap × Nat) => bif decide (List.length z.fst ≤ (500 : Nat)) && F.wrdsOK z.fst && !F.rollB z.snd.fst z.snd.snd.fst z.snd.snd.snd.fst &&
  decide (z.snd.snd.snd.snd.snd.snd ≤ List.length z.fst) && decide (List.length z.snd.snd.snd.snd.snd.fst ≤ z.snd.snd.snd.snd.snd.snd) && F.lnsBb z.snd.snd.snd.snd.snd.snd
  z.snd.snd.snd.snd.fst && true then Option.bind (unenc encCkd [AV.sl (List.map eCap (z.snd.snd.snd.snd.snd.fst ++ F.rollP z.snd.fst z.snd.snd.fst z.snd.snd.snd.fst (F.prev
  z.fst z.snd.snd.snd.snd.snd.snd) z.snd.snd.snd.snd.fst (List.drop z.snd.snd.snd.snd.snd.snd z.fst)))]) fun (z : List Cap) => bif F.smC z then some (AV.tup [AV.sl (List.map
  eCap (F.fin z).fst), (vI (F.fin z).snd)], []) else none else none else none else some (AV.tup [AV.sl [], (vI (1 : Int))], []) else some (AV.tup [AV.sl [], (vI (1 : Int))],
  []) := (runFR_val).symm.trans (by kernel_rfl)

def encRl1 (l : List Wrd) (w : Int) (r : Int) (h : Int) : List AV := [.sl (l.map eWrd), vI w, vI r, vI h]

def encRl (a : (List Wrd) × Int × Int × Int) : List AV := encRl1 a.1 a.2.1 a.2.2.1 a.2.2.2

theorem encRl_inj (a a' : (List Wrd) × Int × Int × Int) (h : encRl a = encRl a') : a = a' := by
  simp only [encRl, encRl1] at h
  try simp [strs_inj, ints_inj, bools_inj, eCaps_inj, eCap_iff, eL_eCaps_inj, eMchs_inj, eMch_iff, eWrds_inj, eWrd_iff, eFnds_inj, eFnd_iff, eRatios_inj, eRatio_iff, eWays_inj, eWay_iff] at h
  grind

theorem unRl (l : List Wrd) (w : Int) (r : Int) (h : Int) : unenc encRl ([AV.sl (List.map eWrd l), (vI w), (vI r), (vI h)]) = some (l, w, r, h) := unenc_of encRl_inj (l, w, r, h) rfl

def resRl1 (l : List Wrd) (w : Int) (r : Int) (h : Int) : AV × Heap := (.tup [.sl ((F.roll l w r h).1.map eCap), vI (F.roll l w r h).2], [])

def preRl1 (l : List Wrd) (w : Int) (r : Int) (h : Int) : Bool := F.smW l

noncomputable def oRl : Orc := orc 7 false encRl (fun a => preRl1 a.1 a.2.1 a.2.2.1 a.2.2.2) fun a => resRl1 a.1 a.2.1 a.2.2.1 a.2.2.2

theorem okRl : OrcOK Tryd.prog noG oRl := by
  refine mk_ok Tryd.f7 (keep := false) (by kernel_rfl) (by kernel_rfl) enRl_ok mixed (one_loop (x0 := loopN Tryd.f7 0) (by kernel_rfl) (lpo_ok ?_)) (by first | exact fun _ _ => ⟨rfl, rfl⟩ | (intro h; cases h)) ?_
  · rintro ⟨l, w, r, h, ls, out, k⟩ hp
    exact lpRl_ok l w r h ls out k hp
  rintro ⟨l, w, r, h⟩ hpre hok
  show (runF enRl false _ (encRl1 _ _ _ _)).val = some (resRl1 _ _ _ _)
  unfold encRl1 resRl1
  rw [evRl]
  simp only [preRl1] at hpre
  simp only [unOut, unWdF, unRun, unClF, unCkd, preOut1, preWdF1, preRun1, preClF1, preCkd1, unstRl, unstRl0, prlRl, outRl, etaCap, etaMch, etaWrd, etaFnd, etaRatio, etaWay, Option.bind_some, List.length_map, unStrs, unInts, unBools, unCaps, uneL_eCaps, unMchs, unWrds, unFnds, unRatios, unWays, F.lt, F.le, cond_true, cond_false, Bool.and_true, Bool.true_and, hpre, F.roll, F.rollB]
  cases h1 : F.out w 1 200
  case true => rfl
  cases h2 : F.out r 1 15
  case true => rfl
  cases h3 : F.out h 1 359999999
  case true => rfl
  by_cases h0 : F.wordsF l w = 0
  case neg =>
    rw [bne1 h0]; rfl
  rw [bne0 h0]
  obtain ⟨c1, c2⟩ := F.words_ok h0
  have c3 : F.rollB w r h = false := by unfold F.rollB; rw [h1, h2, h3]; rfl
  have c4 : F.lnsBb 0 [] = true := F.lnsBb_iff.2 ⟨Nat.le_refl _, fun s hs => by cases hs⟩
  have c5 : F.smC (F.rollP w r h none [] l) = true := F.rollP_sm l none [] 0 (F.lnsBb_iff.1 c4) (fun c hc => (F.wrdOK_iff.1 (List.all_eq_true.1 c2 c hc)).2) (by omega)
  have hp0 : F.prev l 0 = none := rfl
  simp only [Bool.or_self, cond_false, unstRl0, Option.bind_some, prlRl, outRl, decide_eq_true c1, c2, c3, c4, Nat.zero_le, decide_true, List.length_nil, Bool.not_false, Bool.and_self, cond_true, hp0, List.drop_zero, List.nil_append, c5]

end M
end Go.Proofs.YtdmccifaggmmkaaDoor
