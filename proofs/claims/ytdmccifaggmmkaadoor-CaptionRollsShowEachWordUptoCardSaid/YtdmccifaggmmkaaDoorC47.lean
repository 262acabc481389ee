/- What is proved here: Roll of the reference: its first word, and its contract (no statement of the seat). -/
import Derived.Test.YtdmccifaggmmkaaDoorC46
import Derived.Test.YtdmccifaggmmkaaDoorC44
namespace Go.Proofs.YtdmccifaggmmkaaDoor
open Go Go.RowKit
set_option linter.unusedVariables false
set_option linter.unusedSimpArgs false

namespace M

theorem lpRRl_ok (l : List Wrd) (w : Int) (r : Int) (h : Int) (hp : prlRRl l w r h = true) : ∀ ex s', (outRRl l w r h).val = some (ex, s') → LoopOK enRRl (loopN Tryd.f8 0) (stRRl l w r h) ex s' := by
  simp only [prlRRl, Bool.and_eq_true, decide_eq_true_eq, Bool.not_eq_true'] at hp
  obtain ⟨⟨h1, h2⟩, h3⟩ := hp
  have hR := F.roll_bd h3
  intro ex s' hh
  cases hl : l with
  | nil =>
    subst hl
    have e : some (ex, s') = some ((.exit 0, ⟨[(11, .own 11)], [(11, ⟨false, 32, 6, []⟩)]⟩) : Ex × St) := hh.symm
    simp only [Option.some.injEq, Prod.mk.injEq] at e
    obtain ⟨rfl, rfl⟩ := e
    refine .out (n := ([40, 39, 38, 12, 11, 3, 2, 1, 0], [11])) (e := ([11], [11])) (r := ([], [])) ?_ (by simp) rfl
    rw [evRRN]
    rfl
  | cons y l' =>
    rw [← hl]
    have hy : l[0]? = some y := by rw [hl]; rfl
    have hlt := lt_at hy
    have hyo := F.wrdOK_iff.1 (F.wrds_at h2 hy)
    have hyt := hyo.2
    have hgd : l.getD 0 ⟨0, ⟨⟨[]⟩⟩⟩ = y := getD_at hy
    have c0 : decide ((0 : Int) < (l.length : Int)) = true := decide_eq_true (by omega)
    have hls2 : F.rollS h w none [] y = [y.text] := rfl
    have hB2 : F.lnsB 1 [y.text] := hls2 ▸ F.lnsB_next (k := 0) (hold := h) (width := w) (p := none) (ls := []) ⟨Nat.le_refl _, fun s hs => by cases hs⟩ hyt
    have hA : F.rollA h r [] [y.text] y = [F.rollC h r [y.text] y none] := rfl
    have wT : IntKind.i64.wrap (y.time + h) = y.time + h := wrap_id (by omega) (by omega)
    have wN : IntKind.i64.wrap ((0 : Int) + 1) = ((1 : Nat) : Int) := rfl
    have uE : unenc encClF [.sl []] = some [] := unClF []
    have gt0 : decide (([] : List ByteArray).length ≤ 1000) = true := rfl
    have b1 : Nat.ble ((([] : List ByteArray).length + 1) * 16) 140737488355328 = true := rfl
    obtain ⟨q1, q2, q3, q4, q5⟩ := tail_facts (r := r) (ls := [y.text]) hR.2.1 (by simp)
    have hgo := lpRRk_ok l w r h h1 h2 h3 [y.text] [F.rollC h r [y.text] y none] 1 (by omega) ⟨Nat.le_refl _, Nat.le_refl _⟩ hB2 (by simp) ex s' (by
      rw [← hh]
      have e1 : F.rollR w r h (F.prev l 1) [y.text] [F.rollC h r [y.text] y none] (l.drop 1) = F.rollR w r h none [] [] l := by rw [hl]; rfl
      rw [e1]; rfl)
    refine .go (n := ([40, 39, 38, 12, 11, 3, 2, 1, 0], [11])) (e := ([11], [11])) (r := ([], [])) ?_ rfl hgo
    rw [evRRN]
    simp only [preClF1, Option.bind_some, List.length_map, unWrds, cond_true, cond_false, Bool.and_true, Bool.true_and, Bool.and_self, c0, decide_eq_true hlt, hgd, wT, wN, uE, gt0, b1, appStrs', q1, q2, q3, q4, q5, Nat.zero_add, List.nil_append, F.rollC, F.toN, stRRk]
    try rfl

theorem evRRl (l : List Wrd) (w : Int) (r : Int) (h : Int) : (runF enRRl false Tryd.f8 [.sl (l.map eWrd), vI w, vI r, vI h]).val =
  Option.bind (unenc encWithin [(vI w), (vI (1 : Int)), (vI (200 : Int))]) fun (z : Int × Int × Int) => bif !!F.within z.fst z.snd.fst z.snd.snd then Option.bind (unenc
  encWithin [(vI r), (vI (1 : Int)), (vI (15 : Int))]) fun (z : Int × Int × Int) => bif !!F.within z.fst z.snd.fst z.snd.snd then Option.bind (unenc encWithin [(vI h), (vI
  (1 : Int)), (vI (359999999 : Int))]) fun (z : Int × Int × Int) => bif !F.within z.fst z.snd.fst z.snd.snd then some (AV.tup [AV.sl [], (vI (1 : Int))], []) else
  Option.bind (unenc encRWd [AV.sl (List.map eWrd l), (vI w)]) fun (z : List Wrd × Int) => bif F.smW z.fst then bif F.wordsF z.fst z.snd != (0 : Int) then some (AV.tup
  [AV.sl [], (vI (F.wordsF z.fst z.snd))], []) else Option.bind (unenc stRRl1 (St.mk [(40, (vI (0 : Int))), (39, (vI (↑(List.length (List.map eWrd l)) : Int))), (38, AV.sl
  (List.map eWrd l)), (12, .own 12), (11, .own 11), (3, (vI h)), (2, (vI r)), (1, (vI w)), (0, AV.sl (List.map eWrd l))] [(12, Blk.mk false 9 1 []), (11, Blk.mk false 32 6
  [])])) fun (z : List Wrd × Int × Int × Int) => bif decide (List.length z.fst ≤ (500 : Nat)) && F.wrdsOK z.fst && !F.rollB z.snd.fst z.snd.snd.fst z.snd.snd.snd && true
  then Option.bind (unenc encRhC [AV.sl (List.map eCap (F.rollR z.snd.fst z.snd.snd.fst z.snd.snd.snd none [] [] z.fst))]) fun (z_1 : List Cap) => bif F.smC z_1 then bif
  F.chkC z_1 != (0 : Int) then some (AV.tup [AV.sl [], (vI (F.chkC z_1))], []) else some (AV.tup [AV.sl (List.map eCap (F.rollR z.snd.fst z.snd.snd.fst z.snd.snd.snd none []
  [] z.fst)), (vI (0 : Int))], []) else none else none else none else some (AV.tup [AV.sl [], (vI (1 : Int))], []) else some (AV.tup [AV.sl [], (vI (1 : Int))], []) := (runFR_val).symm.trans (by kernel_rfl)

def encRRl1 (l : List Wrd) (w : Int) (r : Int) (h : Int) : List AV := [.sl (l.map eWrd), vI w, vI r, vI h]

def encRRl (a : (List Wrd) × Int × Int × Int) : List AV := encRRl1 a.1 a.2.1 a.2.2.1 a.2.2.2

theorem encRRl_inj (a a' : (List Wrd) × Int × Int × Int) (h : encRRl a = encRRl a') : a = a' := by
  simp only [encRRl, encRRl1] at h
  try simp [strs_inj, ints_inj, bools_inj, eCaps_inj, eCap_iff, eL_eCaps_inj, eMchs_inj, eMch_iff, eWrds_inj, eWrd_iff, eFnds_inj, eFnd_iff, eRatios_inj, eRatio_iff, eWays_inj, eWay_iff] at h
  grind

theorem unRRl (l : List Wrd) (w : Int) (r : Int) (h : Int) : unenc encRRl ([AV.sl (List.map eWrd l), (vI w), (vI r), (vI h)]) = some (l, w, r, h) := unenc_of encRRl_inj (l, w, r, h) rfl

def resRRl1 (l : List Wrd) (w : Int) (r : Int) (h : Int) : AV × Heap := (.tup [.sl ((F.roll l w r h).1.map eCap), vI (F.roll l w r h).2], [])

def preRRl1 (l : List Wrd) (w : Int) (r : Int) (h : Int) : Bool := F.smW l

noncomputable def oRRl : Orc := orc 8 false encRRl (fun a => preRRl1 a.1 a.2.1 a.2.2.1 a.2.2.2) fun a => resRRl1 a.1 a.2.1 a.2.2.1 a.2.2.2

theorem okRRl : OrcOK Tryd.prog noG oRRl := by
  refine mk_ok Tryd.f8 (keep := false) (by kernel_rfl) (by kernel_rfl) enRRl_ok mixed (one_loop (x0 := loopN Tryd.f8 0) (by kernel_rfl) (lpo_ok ?_)) (by first | exact fun _ _ => ⟨rfl, rfl⟩ | (intro h; cases h)) ?_
  · rintro ⟨l, w, r, h⟩ hp
    exact lpRRl_ok l w r h hp
  rintro ⟨l, w, r, h⟩ hpre hok
  show (runF enRRl false _ (encRRl1 _ _ _ _)).val = some (resRRl1 _ _ _ _)
  unfold encRRl1 resRRl1
  rw [evRRl]
  simp only [preRRl1] at hpre
  have hw : ∀ x a b : Int, F.within x a b = !F.out x a b := fun n l h => by
    unfold F.within F.out
    by_cases h1 : l ≤ n <;> by_cases h2 : n ≤ h <;> simp [h1, h2] <;> omega
  simp only [unWithin, unRWd, unRCh, unClF, unRhC, preWithin1, preRWd1, preRCh1, preClF1, preRhC1, unstRRl, prlRRl, outRRl, etaCap, etaMch, etaWrd, etaFnd, etaRatio, etaWay, Option.bind_some, List.length_map, unStrs, unInts, unBools, unCaps, uneL_eCaps, unMchs, unWrds, unFnds, unRatios, unWays, F.lt, F.le, cond_true, cond_false, Bool.and_true, Bool.true_and, hpre, F.roll, F.rollB, hw, Bool.not_not]
  cases h1 : F.out w 1 200
  case true => rfl
  cases h2 : F.out r 1 15
  case true => rfl
  cases h3 : F.out h 1 359999999
  case true => rfl
  by_cases h0 : F.wordsF l w = 0
  case neg =>
    rw [bne1 h0]; rfl
  rw [bne0 h0]
  obtain ⟨c1, c2⟩ := F.words_ok h0
  have c3 : F.rollB w r h = false := by unfold F.rollB; rw [h1, h2, h3]; rfl
  have c4 : F.lnsBb 0 [] = true := F.lnsBb_iff.2 ⟨Nat.le_refl _, fun s hs => by cases hs⟩
  have c5 : F.smC (F.rollP w r h none [] l) = true := F.rollP_sm l none [] 0 (F.lnsBb_iff.1 c4) (fun c hc => (F.wrdOK_iff.1 (List.all_eq_true.1 c2 c hc)).2) (by omega)
  simp only [Bool.or_self, cond_false, unstRRl, Option.bind_some, prlRRl, outRRl, decide_eq_true c1, c2, c3, F.rollR_all, Bool.not_false, Bool.and_self, cond_true, c5]
  unfold F.fin
  cases F.chkC (F.rollP w r h none [] l) != 0 <;> rfl

end M
end Go.Proofs.YtdmccifaggmmkaaDoor
