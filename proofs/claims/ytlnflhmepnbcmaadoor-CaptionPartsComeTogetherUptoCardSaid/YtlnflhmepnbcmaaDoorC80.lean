/- What is proved here: the law that captions are themselves again after Split and Join. -/
import Derived.Test.YtlnflhmepnbcmaaDoorC79
import Derived.Test.YtlnflhmepnbcmaaDoorC73
namespace Go.Proofs.YtlnflhmepnbcmaaDoor
open Go Go.RowKit
set_option linter.unusedVariables false
set_option linter.unusedSimpArgs false
set_option maxHeartbeats 1000000

namespace Jn

theorem noTime_iff {n : Int} : F.noTime n = false ↔ 0 ≤ n ∧ n ≤ 359999999 := by
  unfold F.noTime F.out
  simp

theorem bnd_chk : ∀ {bs : List Int} {p : Option Int}, F.chkP F.bndF p bs = 0 → bs.Pairwise (· < ·) ∧ (∀ t ∈ bs, F.noTime t = false) ∧ ∀ q, p = some q → ∀ t ∈ bs, q < t
  | [], _, _ => ⟨List.Pairwise.nil, fun _ h => absurd h List.not_mem_nil, fun _ _ _ h => absurd h List.not_mem_nil⟩
  | t :: bs, p, h => by
    rw [F.chkP] at h
    by_cases h1 : F.bndF p t = 0
    · rw [M.bne0 h1, cond_false] at h
      obtain ⟨i1, i2, i3⟩ := bnd_chk h
      have hn : F.noTime t = false := by
        unfold F.bndF at h1
        cases hh : F.noTime t
        · rfl
        · rw [hh] at h1; cases h1
      have hl : F.leP p t = false := by
        unfold F.bndF at h1
        rw [hn, cond_false] at h1
        cases hh : F.leP p t
        · rfl
        · rw [hh] at h1; cases h1
      refine ⟨List.Pairwise.cons (fun x hx => i3 t rfl x hx) i1, fun x hx => ?_, fun q hq x hx => ?_⟩
      · rcases List.mem_cons.1 hx with rfl | hx
        · exact hn
        · exact i2 x hx
      · subst hq
        have : q < t := by simpa [F.leP, F.le] using hl
        rcases List.mem_cons.1 hx with rfl | hx
        · exact this
        · exact Int.lt_trans this (i3 t rfl x hx)
    · rw [M.bne1 h1, cond_true] at h; exact absurd h h1

theorem bnds_spec {bs : List Int} (h : F.bnds bs = 0) : bs.Pairwise (· < ·) ∧ ∀ t ∈ bs, F.noTime t = false := by
  obtain ⟨h1, h2⟩ := F.bnds_ok h
  unfold F.bnds at h
  rw [decide_eq_false (by omega), cond_false, decide_eq_false (by omega), cond_false] at h
  obtain ⟨i1, i2, -⟩ := bnd_chk h
  exact ⟨i1, i2⟩

theorem split_mem {l : List Cap} : ∀ {bs : List Int} {p : List Cap}, p ∈ F.splitB l bs → ∃ a ∈ bs, ∃ b ∈ bs, p = K.srt F.ltC (l.filterMap (F.cutC a b))
  | [], p, h => absurd h List.not_mem_nil
  | [_], p, h => absurd h List.not_mem_nil
  | a :: b :: r, p, h => by
    rw [F.splitB] at h
    rcases List.mem_cons.1 h with rfl | h
    · exact ⟨a, by simp, b, by simp, rfl⟩
    · obtain ⟨a', h1, b', h2, h3⟩ := split_mem h
      exact ⟨a', List.mem_cons_of_mem _ h1, b', List.mem_cons_of_mem _ h2, h3⟩

theorem split_len {l : List Cap} : ∀ {bs : List Int}, bs ≠ [] → (F.splitB l bs).length + 1 = bs.length
  | [], h => absurd rfl h
  | [_], _ => rfl
  | a :: b :: r, _ => by
    have := split_len (l := l) (bs := b :: r) (by simp)
    rw [F.splitB, List.length_cons, this]
    rfl

/-- What a part is. -/
theorem part_of {l : List Cap} {a b : Int} {q : Cap} (h : q ∈ K.srt F.ltC (l.filterMap (F.cutC a b))) : ∃ c ∈ l, F.le (min c.to b) (max c.fr a) = false ∧ q = cut a b c := by
  have h := (K.srt_stb F.swC _).perm.mem_iff.1 h
  rw [List.mem_filterMap] at h
  obtain ⟨c, hc, hq⟩ := h
  unfold F.cutC at hq
  cases hh : F.le (min c.to b) (max c.fr a)
  · rw [hh, cond_false] at hq
    exact ⟨c, hc, hh, (Option.some.inj hq).symm⟩
  · rw [hh] at hq; cases hq

theorem part_chk {l : List Cap} {a b : Int} (hc : F.chkC l = 0) (ha : F.noTime a = false) (hb : F.noTime b = false) : F.chkC (K.srt F.ltC (l.filterMap (F.cutC a b))) = 0 := by
  have h1 := F.chk_len hc
  have h2 := F.filterMap_len (F.cutC a b) l
  unfold F.chkC
  rw [K.srt_len F.swC, decide_eq_false (by omega), cond_false]
  refine chk_of_srt (K.srt_stb F.swC _).ord (fun q hq => ?_) (fun _ h => by cases h)
  obtain ⟨c, hcl, hle, rfl⟩ := part_of hq
  obtain ⟨q0, hq0⟩ := F.chk_at hc hcl
  obtain ⟨k1, k2, k3, -, k5, k6⟩ := F.capF_ok hq0
  rw [noTime_iff] at k1 k2 ha hb
  have n1 : F.noTime (max c.fr a) = false := noTime_iff.2 (by omega)
  have n2 : F.noTime (min c.to b) = false := noTime_iff.2 (by omega)
  have hb0 : F.befP none (cut a b c) = false := rfl
  unfold F.capF
  rw [hb0]
  simp only [cut]
  rw [n1, n2, hle, k5, k6]
  rfl

theorem part_seg {l : List Cap} {a b : Int} (hn : ∀ c ∈ l, c.bef = false ∧ c.aft = false) : M.ffI (F.prtF a b) (K.srt F.ltC (l.filterMap (F.cutC a b))) = 0 := by
  have key : ∀ xs : List Cap, (∀ q ∈ xs, F.prtF a b q = 0) → M.ffI (F.prtF a b) xs = 0 := by
    intro xs
    induction xs with
    | nil => intro _; rfl
    | cons x xs ih =>
      intro h
      unfold M.ffI
      rw [if_pos (h x (by simp))]
      exact ih fun q hq => h q (by simp [hq])
  refine key _ fun q hq => ?_
  obtain ⟨c, hcl, hle, rfl⟩ := part_of hq
  obtain ⟨n1, n2⟩ := hn c hcl
  unfold F.prtF cut F.lt
  simp only [n1, n2, Bool.false_or]
  have e1 : decide (max c.fr a < a) = false := decide_eq_false (by omega)
  have e2 : decide (b < min c.to b) = false := decide_eq_false (by omega)
  rw [e1, e2]
  simp only [Bool.false_or, cond_false]
  have e3 : (decide (c.fr < max c.fr a) && (max c.fr a != a)) = false := by
    by_cases h : c.fr < max c.fr a
    · have : max c.fr a = a := by omega
      rw [this]; simp
    · rw [decide_eq_false h]; rfl
  have e4 : (decide (min c.to b < c.to) && (min c.to b != b)) = false := by
    by_cases h : min c.to b < c.to
    · have : min c.to b = b := by omega
      rw [this]; simp
    · rw [decide_eq_false h]; rfl
  rw [e3, e4]
  rfl

theorem segF_zero {l : List Cap} (hn : ∀ c ∈ l, c.bef = false ∧ c.aft = false) : ∀ bs : List Int, F.segF (F.splitB l bs) bs = 0
  | [] => rfl
  | [_] => rfl
  | a :: b :: r => by
    rw [F.splitB, F.segF, M.bne0 (part_seg hn), cond_false]
    exact segF_zero hn (b :: r)

theorem ffI_zero {γ : Type} {g : γ → Int} : ∀ {l : List γ}, (∀ y ∈ l, g y = 0) → M.ffI g l = 0
  | [], _ => rfl
  | x :: l, h => by
    unfold M.ffI
    rw [if_pos (h x (by simp))]
    exact ffI_zero fun y hy => h y (by simp [hy])

theorem prts_zero {l : List Cap} {bs : List Int} (hc : F.chkC l = 0) (hb : F.bnds bs = 0) (hn : ∀ c ∈ l, c.bef = false ∧ c.aft = false) : F.prtsF (F.splitB l bs) bs = 0 := by
  obtain ⟨b1, b2⟩ := F.bnds_ok hb
  obtain ⟨-, ht⟩ := bnds_spec hb
  have h1 : M.ffI F.chkC (F.splitB l bs) = 0 := ffI_zero fun p hp => by
    obtain ⟨a, ha, b, hb', rfl⟩ := split_mem hp
    exact part_chk hc (ht a ha) (ht b hb')
  have h2 := split_len (l := l) (bs := bs) (by intro e; rw [e] at b1; simp at b1)
  have e2 : ((F.splitB l bs).length + 1 != bs.length) = false := by simp [h2]
  unfold F.prtsF
  rw [M.bne0 h1, cond_false, M.bne0 hb, cond_false, e2, cond_false, segF_zero hn]

theorem split_sm {l : List Cap} (h : F.smC l = true) (bs : List Int) : F.smLL (F.splitB l bs) = true := by
  refine List.all_eq_true.2 fun p hp => List.all_eq_true.2 fun q hq => ?_
  obtain ⟨a, _, b, _, rfl⟩ := split_mem hp
  obtain ⟨c, hcl, -, rfl⟩ := part_of hq
  exact List.all_eq_true.1 h c hcl

theorem together {l : List Cap} {bs : List Int} (hc : F.chkC l = 0) (hb : F.bnds bs = 0) (h : F.apR (bs.getD 0 0) (bs.getD (bs.length - 1) 0) [] l = true) : F.joinL (F.splitB l bs) bs = (l, 0) := by
  obtain ⟨ok, h1, h2⟩ := ok_of hc h
  obtain ⟨b1, b2⟩ := F.bnds_ok hb
  have hp := bnds_spec hb
  have g1 : bs.head? = some (bs.getD 0 0) := by
    cases bs with
    | nil => simp at b1
    | cons b r => rfl
  have g2 : bs.getLast? = some (bs.getD (bs.length - 1) 0) := by
    rw [List.getLast?_eq_getElem?]
    have : bs[bs.length - 1]? = some bs[bs.length - 1] := List.getElem?_eq_getElem (by omega)
    rw [this, M.getD_at this]
  obtain ⟨a1, a2⟩ := all ok hp.1 g1 g2 h1 h2 (srt_chk hc)
  have hl := F.chk_len hc
  unfold F.joinL
  rw [M.bne0 (prts_zero hc hb ok.nb), cond_false, a1, decide_eq_false (by omega), cond_false, a2]

end Jn

namespace M

noncomputable def enLPt : Env := envH ty noG lks [oSp, oAa, oJ, oSa, oAwk] [] [] []

theorem enLPt_ok : EnvOK Tryd.prog enLPt := by
  refine envH_ok lks_ok ty_ok ?_ ?_
  · simp only [List.forall_mem_cons]
    exact ⟨okSp, okAa, okJ, okSa, okAwk, by simp⟩
  · simp

theorem evLPt (l : List Cap) (bs : List Int) : (runF enLPt false Tryd.f6 [.sl (l.map eCap), .sl (bs.map eI)]).val =
  Option.bind (unenc encSp [AV.sl (List.map eCap l), AV.sl (List.map eI bs)]) fun (z : List Cap × List Int) => bif F.smC z.fst then bif (F.cutL z.fst z.snd).snd != (0 : Int)
  then bif (↑(List.length (List.map eL_eCap (F.cutL z.fst z.snd).fst)) : Int) == (0 : Int) then Option.bind (unenc encAwk []) fun (z : Unit) => some ((vB true), []) else
  some ((vB false), []) else Option.bind (unenc encAa [AV.sl (List.map eCap l), AV.sl (List.map eI bs)]) fun (z_1 : List Cap × List Int) => bif decide (List.length z_1.fst ≤
  (100000 : Nat) ∧ (1 : Nat) ≤ List.length z_1.snd ∧ List.length z_1.snd ≤ (100000 : Nat)) then bif !F.apR (List.getD z_1.snd (0 : Nat) (0 : Int)) (List.getD z_1.snd
  (List.length z_1.snd - (1 : Nat)) (0 : Int)) [] z_1.fst then Option.bind (unenc encAwk []) fun (z : Unit) => some ((vB true), []) else Option.bind (unenc encJ [AV.sl
  (List.map eL_eCap (F.cutL z.fst z.snd).fst), AV.sl (List.map eI bs)]) fun (z : List (List Cap) × List Int) => bif F.smLL z.fst then bif (F.joinL z.fst z.snd).snd == (0 :
  Int) then Option.bind (unenc encSa [AV.sl (List.map eCap (F.joinL z.fst z.snd).fst), AV.sl (List.map eCap l)]) fun (z : List Cap × List Cap) => bif F.sameCL z.fst z.snd
  then Option.bind (unenc encAwk []) fun (z : Unit) => some ((vB true), []) else some ((vB false), []) else some ((vB false), []) else none else none else none := (runFR_val).symm.trans (by kernel_rfl)

def encLPt1 (l : List Cap) (bs : List Int) : List AV := [.sl (l.map eCap), .sl (bs.map eI)]

def encLPt (a : (List Cap) × (List Int)) : List AV := encLPt1 a.1 a.2

theorem encLPt_inj (a a' : (List Cap) × (List Int)) (h : encLPt a = encLPt a') : a = a' := by
  simp only [encLPt, encLPt1] at h
  try simp [strs_inj, ints_inj, bools_inj, eCaps_inj, eCap_iff, eL_eCaps_inj, eMchs_inj, eMch_iff, eWrds_inj, eWrd_iff, eFnds_inj, eFnd_iff, eRatios_inj, eRatio_iff, eWays_inj, eWay_iff] at h
  grind

theorem unLPt (l : List Cap) (bs : List Int) : unenc encLPt ([AV.sl (List.map eCap l), AV.sl (List.map eI bs)]) = some (l, bs) := unenc_of encLPt_inj (l, bs) rfl

def resLPt1 (l : List Cap) (bs : List Int) : AV × Heap := (vB true, [])

def preLPt1 (l : List Cap) (bs : List Int) : Bool := F.smC l

noncomputable def oLPt : Orc := orc 6 false encLPt (fun a => preLPt1 a.1 a.2) fun a => resLPt1 a.1 a.2

theorem okLPt : OrcOK Tryd.prog noG oLPt := by
  refine mk_ok Tryd.f6 (keep := false) (by kernel_rfl) (by kernel_rfl) enLPt_ok mixed (no_loops (by kernel_rfl)) (by first | exact fun _ _ => ⟨rfl, rfl⟩ | (intro h; cases h)) ?_
  rintro ⟨l, bs⟩ hpre hok
  show (runF enLPt false _ (encLPt1 _ _)).val = some (resLPt1 _ _)
  unfold encLPt1 resLPt1
  rw [evLPt]
  simp only [preLPt1] at hpre
  simp only [unSp, unAa, unJ, unSa, unAwk, preSp1, preAa1, preJ1, preSa1, preAwk1, etaCap, etaMch, etaWrd, etaFnd, etaRatio, etaWay, Option.bind_some, List.length_map, unStrs, unInts, unBools, unCaps, uneL_eCaps, unMchs, unWrds, unFnds, unRatios, unWays, F.lt, F.le, cond_true, cond_false, Bool.and_true, Bool.true_and, hpre]
  by_cases h0 : F.chkC l = 0
  case neg =>
    have e : F.cutL l bs = ([], F.chkC l) := by unfold F.cutL; rw [bne1 h0]; rfl
    simp only [e, bne1 h0, cond_true]
    rfl
  by_cases hb : F.bnds bs = 0
  case neg =>
    have e : F.cutL l bs = ([], F.bnds bs) := by unfold F.cutL; rw [bne0 h0, bne1 hb]; rfl
    simp only [e, bne1 hb, cond_true]
    rfl
  have e : F.cutL l bs = (F.splitB l bs, 0) := by unfold F.cutL; rw [bne0 h0, bne0 hb]; rfl
  obtain ⟨b1, b2⟩ := F.bnds_ok hb
  have hl := F.chk_len h0
  have q : l.length ≤ 100000 ∧ 1 ≤ bs.length ∧ bs.length ≤ 100000 := ⟨by omega, by omega, by omega⟩
  have z : ((0 : Int) != 0) = false := rfl
  simp only [e, z, cond_false, decide_eq_true q, cond_true]
  cases hA : F.apR (bs.getD 0 0) (bs.getD (bs.length - 1) 0) [] l
  · rfl
  · have hj := Jn.together h0 hb hA
    simp only [Jn.split_sm hpre, hj, cond_true, cond_false, Bool.not_true, uneL_eCaps, unJ, unSa, Option.bind_some, beq_self_eq_true, F.sameCL_refl, preJ1]

end M
end Go.Proofs.YtlnflhmepnbcmaaDoor
