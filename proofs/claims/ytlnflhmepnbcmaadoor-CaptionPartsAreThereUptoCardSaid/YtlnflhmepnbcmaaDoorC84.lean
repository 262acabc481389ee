/- What is proved here: the law that in each segment the same captions are there. -/
import Derived.Test.YtlnflhmepnbcmaaDoorC83
namespace Go.Proofs.YtlnflhmepnbcmaaDoor
open Go Go.RowKit
set_option linter.unusedVariables false
set_option linter.unusedSimpArgs false
set_option maxHeartbeats 1000000

def F.seekB (t : Int) : Nat → List Int → Nat
  | k, b :: r => bif F.le b t then F.seekB t (k + 1) r else k
  | k, [] => k

namespace Jn

theorem seek_spec {bs : List Int} {t : Int} (hl : t < bs.getD (bs.length - 1) 0) : ∀ (r : List Int) (k : Nat) (a : Int), bs.drop (k + 1) = r → bs[k]? = some a → a ≤ t →
    ∃ a' b', bs[F.seekB t k r]? = some a' ∧ bs[F.seekB t k r + 1]? = some b' ∧ a' ≤ t ∧ t < b'
  | [], k, a, hr, ha, h => by
    have h1 := (List.getElem?_eq_some_iff.1 ha).1
    have h2 : bs.length ≤ k + 1 := by
      have := congrArg List.length hr
      rw [List.length_drop] at this
      simp at this
      omega
    have e : bs.length - 1 = k := by omega
    rw [e, M.getD_at ha] at hl
    omega
  | b :: r, k, a, hr, ha, h => by
    have hb : bs[k + 1]? = some b := by
      have := congrArg (fun l : List Int => l[0]?) hr
      simpa using this
    unfold F.seekB
    by_cases hc : b ≤ t
    · rw [show F.le b t = true from decide_eq_true hc, cond_true]
      refine seek_spec hl r (k + 1) b ?_ hb hc
      have := M.drop_at hb
      rw [hr] at this
      exact (List.cons.inj this).2.symm
    · rw [show F.le b t = false from decide_eq_false hc, cond_false]
      exact ⟨a, b, ha, hb, h, by omega⟩

theorem below_range {x n : Int} (h : 0 < n) : 0 ≤ F.below x n ∧ F.below x n < n := by
  have h1 : (x.tmod n).natAbs < n.natAbs := by rw [Int.natAbs_tmod]; exact Nat.mod_lt _ (by omega)
  unfold F.below
  by_cases h2 : x.tmod n < 0
  · rw [decide_eq_true h2, cond_true]; omega
  · rw [decide_eq_false h2, cond_false]; omega

theorem split_get {l : List Cap} : ∀ {bs : List Int} {k : Nat} {a b : Int}, bs[k]? = some a → bs[k + 1]? = some b → (F.splitB l bs)[k]? = some (K.srt F.ltC (l.filterMap (F.cutC a b)))
  | [], k, a, b, h, _ => by simp at h
  | [x], 0, a, b, _, h => by simp at h
  | [x], k + 1, a, b, h, _ => by simp at h
  | x :: y :: r, 0, a, b, h1, h2 => by
    simp at h1 h2
    subst h1 h2
    rfl
  | x :: y :: r, k + 1, a, b, h1, h2 => by
    rw [F.splitB, List.getElem?_cons_succ]
    exact split_get (bs := y :: r) (by simpa using h1) (by simpa using h2)

theorem some_act {l : List Cap} {t : Int} : ∀ (s p : List Cap), l = p ++ s → (F.actF t p.length s).filterMap (F.atL l) = s.filter (F.isOn t)
  | [], p, _ => rfl
  | c :: s, p, h => by
    have ih := some_act (l := l) (t := t) s (p ++ [c]) (by rw [h]; simp)
    rw [List.length_append, List.length_singleton] at ih
    have hc : l[p.length]? = some c := by rw [h]; simp
    have hl : p.length < l.length := (List.getElem?_eq_some_iff.1 hc).1
    rw [F.actF, List.filter_cons]
    cases ho : F.isOn t c
    · rw [cond_false, ih]; rfl
    · have e : F.atL l ((p.length : Nat) : Int) = some c := by
        unfold F.atL
        rw [decide_eq_true (show (0 : Int) ≤ ((p.length : Nat) : Int) by omega), decide_eq_true (show ((p.length : Nat) : Int) < (l.length : Int) by omega)]
        exact hc
      rw [cond_true, List.filterMap_cons, e, ih]
      rfl

def kv (c : Cap) : Int × List (List UInt8) := (c.row, c.lines.map ByteArray.toList)

theorem sameSs_eq : ∀ {a b : List ByteArray}, a.length = b.length → F.sameSs (a.zip b) = true → a.map ByteArray.toList = b.map ByteArray.toList
  | [], [], _, _ => rfl
  | x :: a, y :: b, h, hs => by
    unfold F.sameSs at hs
    rw [List.zip_cons_cons, List.all_cons, Bool.and_eq_true] at hs
    have ih := sameSs_eq (a := a) (b := b) (by simpa using h) hs.2
    have hx : x.toList = y.toList := by
      have := hs.1
      unfold F.seq at this
      exact eq_of_beq this
    rw [List.map_cons, List.map_cons, ih, hx]
  | [], _ :: _, h, _ => by cases h
  | _ :: _, [], h, _ => by cases h

theorem key_kv {x y : Cap} (h : key x y = true) : kv x = kv y := by
  unfold key F.sameSL at h
  rw [Bool.and_eq_true, Bool.and_eq_true, decide_eq_true_eq, beq_iff_eq] at h
  unfold kv
  rw [h.1, sameSs_eq h.2.1 h.2.2]

theorem sameSs_of : ∀ {a b : List ByteArray}, a.map ByteArray.toList = b.map ByteArray.toList → F.sameSs (a.zip b) = true
  | [], [], _ => rfl
  | [], _ :: _, h => by cases h
  | _ :: _, [], h => by cases h
  | x :: a, y :: b, h => by
    simp only [List.map_cons, List.cons.injEq] at h
    have ih := sameSs_of (a := a) (b := b) h.2
    unfold F.sameSs at ih ⊢
    rw [List.zip_cons_cons, List.all_cons, ih, Bool.and_true]
    unfold F.seq
    rw [h.1]
    exact beq_self_eq_true _

theorem kv_key {x y : Cap} (h : kv x = kv y) : key x y = true := by
  unfold kv at h
  rw [Prod.mk.injEq] at h
  have hl : x.lines.length = y.lines.length := by
    have := congrArg List.length h.2
    simpa using this
  unfold key F.sameSL
  rw [h.1, beq_self_eq_true, decide_eq_true hl, sameSs_of h.2]
  rfl

theorem findI_ex {α : Type} {p : α → Bool} : ∀ {l : List α} {k : Nat}, (∃ x ∈ l, p x = true) → ∃ i x, F.findI p k l = some (k + i) ∧ l[i]? = some x ∧ p x = true
  | [], _, h => by obtain ⟨x, hx, _⟩ := h; exact absurd hx List.not_mem_nil
  | y :: l, k, h => by
    unfold F.findI
    cases hy : p y
    · obtain ⟨x, hx, hp⟩ := h
      rcases List.mem_cons.1 hx with rfl | hx
      · rw [hy] at hp; cases hp
      · obtain ⟨i, z, h1, h2, h3⟩ := findI_ex (l := l) (k := k + 1) ⟨x, hx, hp⟩
        refine ⟨i + 1, z, ?_, h2, h3⟩
        rw [cond_false, h1]
        congr 1
        omega
    · exact ⟨0, y, rfl, rfl, hy⟩

theorem er_perm {α : Type} : ∀ {l : List α} {i : Nat} {x : α}, l[i]? = some x → (x :: l.eraseIdx i).Perm l
  | y :: l, 0, x, h => by
    cases h
    exact List.Perm.refl _
  | y :: l, i + 1, x, h => (List.Perm.swap y x (l.eraseIdx i)).trans ((er_perm (l := l) (i := i) h).cons y)

theorem slE_perm : ∀ {a b : List Cap}, (b.map kv).Perm (a.map kv) → F.slE a b = some []
  | [], b, h => by
    have : b = [] := by simpa using h.length_eq
    rw [this]; rfl
  | c :: a, b, h => by
    have hm : kv c ∈ b.map kv := h.mem_iff.2 (by simp)
    obtain ⟨x, hx, hxk⟩ := List.mem_map.1 hm
    obtain ⟨i, z, h1, h2, h3⟩ := findI_ex (p := fun x => key x c) (k := 0) ⟨x, hx, kv_key hxk⟩
    rw [Nat.zero_add] at h1
    rw [F.slE, h1]
    refine slE_perm ?_
    have hp := (er_perm h2).map kv
    rw [List.map_cons, key_kv h3] at hp
    rw [List.map_cons] at h
    exact (List.perm_cons _).1 (hp.trans h)

theorem on_cut {a b t : Int} {c : Cap} (h1 : a ≤ t) (h2 : t < b) : F.isOn t (cut a b c) = F.isOn t c := by
  unfold F.isOn F.le F.lt cut
  simp only
  congr 1
  · by_cases h : c.fr ≤ t
    · rw [decide_eq_true h, decide_eq_true (by omega)]
    · rw [decide_eq_false h, decide_eq_false (by omega)]
  · by_cases h : t < c.to
    · rw [decide_eq_true h, decide_eq_true (by omega)]
    · rw [decide_eq_false h, decide_eq_false (by omega)]

theorem on_act {a b t : Int} {c : Cap} (h1 : a ≤ t) (h2 : t < b) (h : F.isOn t c = true) : act a b c = true := by
  unfold F.isOn F.le F.lt at h
  rw [Bool.and_eq_true, decide_eq_true_eq, decide_eq_true_eq] at h
  unfold act F.le
  rw [Bool.not_eq_true', decide_eq_false_iff_not]
  omega

theorem there {l : List Cap} {a b t : Int} (h1 : a ≤ t) (h2 : t < b) : F.slR (l.filter (F.isOn t)) ((K.srt F.ltC (l.filterMap (F.cutC a b))).filter (F.isOn t)) = true := by
  have hp := ((K.srt_stb F.swC (l.filterMap (F.cutC a b))).perm.filter (F.isOn t)).map kv
  have e : (l.filterMap (F.cutC a b)).filter (F.isOn t) = (l.filter (F.isOn t)).map (cut a b) := by
    rw [cut_eq, List.filter_map, List.filter_filter]
    congr 1
    refine List.filter_congr fun c _ => ?_
    show (F.isOn t (cut a b c) && act a b c) = F.isOn t c
    rw [on_cut h1 h2]
    cases ho : F.isOn t c
    · rfl
    · rw [on_act h1 h2 ho]; rfl
  rw [e, List.map_map] at hp
  have e2 : (l.filter (F.isOn t)).map (kv ∘ cut a b) = (l.filter (F.isOn t)).map kv := List.map_congr_left fun c _ => rfl
  rw [e2] at hp
  unfold F.slR
  rw [slE_perm hp]
  rfl

end Jn

namespace M

def stLk (l : List Cap) (ps : List (List Cap)) (bs : List Int) (t : Int) (k : Nat) : St := ⟨[(10, vI k), (9, vI t), (7, .sl (ps.map eL_eCap)), (1, .sl (bs.map eI)), (0, .sl (l.map eCap))], []⟩

def stLk1 (a : (List Cap) × (List (List Cap)) × (List Int) × Int × Nat) : St := stLk a.1 a.2.1 a.2.2.1 a.2.2.2.1 a.2.2.2.2

theorem stLk_inj (a a' : (List Cap) × (List (List Cap)) × (List Int) × Int × Nat) (h : stLk1 a = stLk1 a') : a = a' := by
  simp only [stLk1, stLk] at h
  try simp [strs_inj, ints_inj, bools_inj, eCaps_inj, eCap_iff, eL_eCaps_inj, eMchs_inj, eMch_iff, eWrds_inj, eWrd_iff, eFnds_inj, eFnd_iff, eRatios_inj, eRatio_iff, eWays_inj, eWay_iff] at h
  grind

theorem unstLk (l : List Cap) (ps : List (List Cap)) (bs : List Int) (t : Int) (k : Nat) : unenc stLk1 (St.mk [(10, (vI (↑k : Int))), (9, (vI t)), (7, AV.sl (List.map eL_eCap ps)), (1, AV.sl (List.map eI bs)), (0, AV.sl (List.map eCap l))] []) = some (l, ps, bs, t, k) := unenc_of stLk_inj (l, ps, bs, t, k) rfl

theorem unstLk0 (l : List Cap) (ps : List (List Cap)) (bs : List Int) (t : Int)  : unenc stLk1 (St.mk [(10, (vI (0 : Int))), (9, (vI t)), (7, AV.sl (List.map eL_eCap ps)), (1, AV.sl (List.map eI bs)), (0, AV.sl (List.map eCap l))] []) = some (l, ps, bs, t, 0) := unenc_of stLk_inj (l, ps, bs, t, 0) rfl

def outLk (l : List Cap) (ps : List (List Cap)) (bs : List Int) (t : Int) (k : Nat) : T (Ex × St) := .ret (.exit 0, ⟨[(10, vI (F.seekB t k (bs.drop (k + 1)) : Nat)), (9, vI t), (7, .sl (ps.map eL_eCap)), (1, .sl (bs.map eI)), (0, .sl (l.map eCap))], []⟩)

noncomputable def prlLk (l : List Cap) (ps : List (List Cap)) (bs : List Int) (t : Int) (k : Nat) : Bool := decide (k + 1 < bs.length ∧ bs.length ≤ 200 ∧ t < bs.getD (bs.length - 1) 0)

noncomputable def lpLk : Nat × (St → T (Ex × St)) := (8, lpo [10, 9, 7, 1, 0] [] stLk1 (fun a => prlLk a.1 a.2.1 a.2.2.1 a.2.2.2.1 a.2.2.2.2) fun a => outLk a.1 a.2.1 a.2.2.1 a.2.2.2.1 a.2.2.2.2)

noncomputable def enLTh : Env := envH ty noG lks [oSp, oAwk, oBlw, oAc, oSm, oSL] [] [] [lpLk]

theorem enLTh_ok : EnvOK Tryd.prog enLTh := by
  refine envH_ok lks_ok ty_ok ?_ ?_
  · simp only [List.forall_mem_cons]
    exact ⟨okSp, okAwk, okBlw, okAc, okSm, okSL, by simp⟩
  · simp

theorem evLkL (l : List Cap) (ps : List (List Cap)) (bs : List Int) (t : Int) (k : Nat) : ((exec enLTh (loopN Tryd.f5 0) (stLk l ps bs t k)).bind (lessX ([10, 9, 7, 1, 0], []) ([10, 9, 7, 1, 0], []) ([], []))).val =
  Option.bind (idx (IntKind.wrap IntKind.i64 ((↑k : Int) + (1 : Int)))) fun (z : Nat) => Option.bind (unenc (List.map eI) (List.map eI bs)) fun (z_1 : List Int) => bif
  decide (z < List.length z_1) then bif decide (List.getD z_1 z (0 : Int) ≤ t) then some (Ex.normal, St.mk [(10, (vI (IntKind.wrap IntKind.i64 ((↑k : Int) + (1 : Int))))),
  (9, (vI t)), (7, AV.sl (List.map eL_eCap ps)), (1, AV.sl (List.map eI bs)), (0, AV.sl (List.map eCap l))] []) else some (Ex.exit (0 : Nat), St.mk [(10, (vI (↑k : Int))),
  (9, (vI t)), (7, AV.sl (List.map eL_eCap ps)), (1, AV.sl (List.map eI bs)), (0, AV.sl (List.map eCap l))] []) else none := (execR_bind _ _ _).symm.trans (by kernel_rfl)

theorem lpLk_ok (l : List Cap) (ps : List (List Cap)) (bs : List Int) (t : Int) (k : Nat) (hp : prlLk l ps bs t k = true) : ∀ ex s', (outLk l ps bs t k).val = some (ex, s') → LoopOK enLTh (loopN Tryd.f5 0) (stLk l ps bs t k) ex s' := by
  simp only [prlLk, Bool.and_eq_true, decide_eq_true_eq] at hp
  obtain ⟨h1, h2, h3⟩ := hp
  refine loop_gen (st := stLk l ps bs t) (out := outLk l ps bs t) (I := fun k => k + 1 < bs.length) (n := ([10, 9, 7, 1, 0], [])) (e := ([10, 9, 7, 1, 0], [])) (r := ([], [])) (fun k => bs.length - k) ?_ k h1
  intro k h1
  obtain ⟨b, hb⟩ := at_lt h1
  have hd := drop_at hb
  have hw := w_add1 (a := k) (by omega)
  by_cases hc : b ≤ t
  · right
    have hk : k + 1 + 1 < bs.length := by
      rcases Nat.lt_or_ge (k + 1 + 1) bs.length with h | h
      · exact h
      · have e : bs.length - 1 = k + 1 := by omega
        rw [e, getD_at hb] at h3
        omega
    refine ⟨k + 1, ?_, rfl, hk, by omega, ?_⟩
    · rw [evLkL]
      simp only [unSp, unAwk, unBlw, unAc, unSm, unSL, preSp1, preAwk1, preBlw1, preAc1, preSm1, preSL1, unstLk, unstLk0, prlLk, outLk, etaCap, etaMch, etaWrd, etaFnd, etaRatio, etaWay, Option.bind_some, List.length_map, unStrs, unInts, unBools, unCaps, uneL_eCaps, unMchs, unWrds, unFnds, unRatios, unWays, F.lt, F.le, cond_true, cond_false, Bool.and_true, Bool.true_and, hw, idx_nat, decide_eq_true (lt_at hb), getD_at hb, decide_eq_true hc, stLk]
    · simp only [outLk, hd, F.seekB, F.le, decide_eq_true hc, cond_true]
  · left
    refine ⟨_, ?_, rfl, by simp, rfl⟩
    rw [evLkL]
    simp only [hd, F.seekB, F.le, decide_eq_false hc, cond_false]
    simp only [unSp, unAwk, unBlw, unAc, unSm, unSL, preSp1, preAwk1, preBlw1, preAc1, preSm1, preSL1, unstLk, unstLk0, prlLk, outLk, etaCap, etaMch, etaWrd, etaFnd, etaRatio, etaWay, Option.bind_some, List.length_map, unStrs, unInts, unBools, unCaps, uneL_eCaps, unMchs, unWrds, unFnds, unRatios, unWays, F.lt, F.le, cond_true, cond_false, Bool.and_true, Bool.true_and, hw, idx_nat, decide_eq_true (lt_at hb), getD_at hb, decide_eq_false hc]

theorem evLTh (l : List Cap) (bs : List Int) (pick : Int) : (runF enLTh false Tryd.f5 [.sl (l.map eCap), .sl (bs.map eI), vI pick]).val =
  Option.bind (unenc encSp [AV.sl (List.map eCap l), AV.sl (List.map eI bs)]) fun (z : List Cap × List Int) => bif F.smC z.fst then bif (F.cutL z.fst z.snd).snd != (0 : Int)
  then bif (↑(List.length (List.map eL_eCap (F.cutL z.fst z.snd).fst)) : Int) == (0 : Int) then Option.bind (unenc encAwk []) fun (z : Unit) => some ((vB true), []) else
  some ((vB false), []) else Option.bind (unenc encAwk []) fun (z_1 : Unit) => bif (↑(List.length (List.map eL_eCap (F.cutL z.fst z.snd).fst)) : Int) != IntKind.wrap
  IntKind.i64 ((↑(List.length (List.map eI bs)) : Int) - (1 : Int)) then some ((vB false), []) else Option.bind (unenc (List.map eI) (List.map eI bs)) fun (z_2 : List Int)
  => bif decide ((0 : Nat) < List.length z_2) then Option.bind (idx (IntKind.wrap IntKind.i64 ((↑(List.length (List.map eI bs)) : Int) - (1 : Int)))) fun (z_3 : Nat) =>
  Option.bind (unenc (List.map eI) (List.map eI bs)) fun (z_4 : List Int) => bif decide (z_3 < List.length z_4) then Option.bind (unenc (List.map eI) (List.map eI bs)) fun
  (z_5 : List Int) => bif decide ((0 : Nat) < List.length z_5) then Option.bind (unenc encBlw [(vI pick), (vI (IntKind.wrap IntKind.i64 (List.getD z_4 z_3 (0 : Int) -
  List.getD z_5 (0 : Nat) (0 : Int))))]) fun (z_6 : Int × Int) => bif decide ((0 : Int) < z_6.snd ∧ z_6.snd ≤ (1000000000 : Int)) then Option.bind (unenc stLk1 (St.mk [(10,
  (vI (0 : Int))), (9, (vI (IntKind.wrap IntKind.i64 (List.getD z_2 (0 : Nat) (0 : Int) + F.below z_6.fst z_6.snd)))), (7, AV.sl (List.map eL_eCap (F.cutL z.fst
  z.snd).fst)), (1, AV.sl (List.map eI bs)), (0, AV.sl (List.map eCap l))] [])) fun (z : List Cap × List (List Cap) × List Int × Int × Nat) => bif decide (z.snd.snd.snd.snd
  + (1 : Nat) < List.length z.snd.snd.fst ∧ List.length z.snd.snd.fst ≤ (200 : Nat) ∧ z.snd.snd.snd.fst < List.getD z.snd.snd.fst (List.length z.snd.snd.fst - (1 : Nat)) (0
  : Int)) && true then Option.bind (unenc encAc [AV.sl (List.map eCap z.fst), (vI z.snd.snd.snd.fst)]) fun (z_7 : List Cap × Int) => bif F.smC z_7.fst then Option.bind
  (unenc (List.map eL_eCap) (List.map eL_eCap z.snd.fst)) fun (z_8 : List (List Cap)) => bif decide (F.seekB z.snd.snd.snd.fst z.snd.snd.snd.snd (List.drop
  (z.snd.snd.snd.snd + (1 : Nat)) z.snd.snd.fst) < List.length z_8) then Option.bind (unenc encAc [AV.sl (List.map eCap (List.getD z_8 (F.seekB z.snd.snd.snd.fst
  z.snd.snd.snd.snd (List.drop (z.snd.snd.snd.snd + (1 : Nat)) z.snd.snd.fst)) [])), (vI z.snd.snd.snd.fst)]) fun (z_9 : List Cap × Int) => bif F.smC z_9.fst then bif bif
  (F.active z_7.fst z_7.snd).snd == (0 : Int) then (F.active z_9.fst z_9.snd).snd == (0 : Int) else false then Option.bind (unenc encSm [AV.sl (List.map eCap z.fst), AV.sl
  (List.map eI (F.active z_7.fst z_7.snd).fst)]) fun (z_10 : List Cap × List Int) => bif decide (List.length z_10.fst ≤ (100000 : Nat) ∧ List.length z_10.snd ≤ (100000 :
  Nat)) then Option.bind (unenc (List.map eL_eCap) (List.map eL_eCap z.snd.fst)) fun (z_11 : List (List Cap)) => bif decide (F.seekB z.snd.snd.snd.fst z.snd.snd.snd.snd
  (List.drop (z.snd.snd.snd.snd + (1 : Nat)) z.snd.snd.fst) < List.length z_11) then Option.bind (unenc encSm [AV.sl (List.map eCap (List.getD z_11 (F.seekB
  z.snd.snd.snd.fst z.snd.snd.snd.snd (List.drop (z.snd.snd.snd.snd + (1 : Nat)) z.snd.snd.fst)) [])), AV.sl (List.map eI (F.active z_9.fst z_9.snd).fst)]) fun (z : List Cap
  × List Int) => bif decide (List.length z.fst ≤ (100000 : Nat) ∧ List.length z.snd ≤ (100000 : Nat)) then Option.bind (unenc encSL [AV.sl (List.map eCap (F.some z_10.fst
  z_10.snd)), AV.sl (List.map eCap (F.some z.fst z.snd))]) fun (z : List Cap × List Cap) => bif decide (List.length z.fst ≤ (500 : Nat) ∧ List.length z.snd ≤ (500 : Nat))
  then bif F.slR z.fst z.snd then Option.bind (unenc encAwk []) fun (z : Unit) => some ((vB true), []) else some ((vB false), []) else none else none else none else none
  else some ((vB false), []) else none else none else none else none else none else none else none else none else none := (runFR_val).symm.trans (by kernel_rfl)

def encLTh1 (l : List Cap) (bs : List Int) (pick : Int) : List AV := [.sl (l.map eCap), .sl (bs.map eI), vI pick]

def encLTh (a : (List Cap) × (List Int) × Int) : List AV := encLTh1 a.1 a.2.1 a.2.2

theorem encLTh_inj (a a' : (List Cap) × (List Int) × Int) (h : encLTh a = encLTh a') : a = a' := by
  simp only [encLTh, encLTh1] at h
  try simp [strs_inj, ints_inj, bools_inj, eCaps_inj, eCap_iff, eL_eCaps_inj, eMchs_inj, eMch_iff, eWrds_inj, eWrd_iff, eFnds_inj, eFnd_iff, eRatios_inj, eRatio_iff, eWays_inj, eWay_iff] at h
  grind

theorem unLTh (l : List Cap) (bs : List Int) (pick : Int) : unenc encLTh ([AV.sl (List.map eCap l), AV.sl (List.map eI bs), (vI pick)]) = some (l, bs, pick) := unenc_of encLTh_inj (l, bs, pick) rfl

def resLTh1 (l : List Cap) (bs : List Int) (pick : Int) : AV × Heap := (vB true, [])

def preLTh1 (l : List Cap) (bs : List Int) (pick : Int) : Bool := F.smC l

noncomputable def oLTh : Orc := orc 5 false encLTh (fun a => preLTh1 a.1 a.2.1 a.2.2) fun a => resLTh1 a.1 a.2.1 a.2.2

theorem okLTh : OrcOK Tryd.prog noG oLTh := by
  refine mk_ok Tryd.f5 (keep := false) (by kernel_rfl) (by kernel_rfl) enLTh_ok mixed (one_loop (x0 := loopN Tryd.f5 0) (by kernel_rfl) (lpo_ok ?_)) (by first | exact fun _ _ => ⟨rfl, rfl⟩ | (intro h; cases h)) ?_
  · rintro ⟨l, ps, bs, t, k⟩ hp
    exact lpLk_ok l ps bs t k hp
  rintro ⟨l, bs, pick⟩ hpre hok
  show (runF enLTh false _ (encLTh1 _ _ _)).val = some (resLTh1 _ _ _)
  unfold encLTh1 resLTh1
  rw [evLTh]
  simp only [preLTh1] at hpre
  simp only [unSp, unAwk, unBlw, unAc, unSm, unSL, preSp1, preAwk1, preBlw1, preAc1, preSm1, preSL1, unstLk, unstLk0, prlLk, outLk, etaCap, etaMch, etaWrd, etaFnd, etaRatio, etaWay, Option.bind_some, List.length_map, unStrs, unInts, unBools, unCaps, uneL_eCaps, unMchs, unWrds, unFnds, unRatios, unWays, F.lt, F.le, cond_true, cond_false, Bool.and_true, Bool.true_and, hpre]
  by_cases h0 : F.chkC l = 0
  case neg =>
    have e : F.cutL l bs = ([], F.chkC l) := by unfold F.cutL; rw [bne1 h0]; rfl
    simp only [e, bne1 h0, cond_true]
    rfl
  by_cases hb : F.bnds bs = 0
  case neg =>
    have e : F.cutL l bs = ([], F.bnds bs) := by unfold F.cutL; rw [bne0 h0, bne1 hb]; rfl
    simp only [e, bne1 hb, cond_true]
    rfl
  have e : F.cutL l bs = (F.splitB l bs, 0) := by unfold F.cutL; rw [bne0 h0, bne0 hb]; rfl
  obtain ⟨b1, b2⟩ := F.bnds_ok hb
  obtain ⟨q1, q2⟩ := Jn.bnds_spec hb
  have hl := F.chk_len h0
  have z : ((0 : Int) != 0) = false := rfl
  have hsl := Jn.split_len (l := l) (bs := bs) (by intro e; rw [e] at b1; simp at b1)
  obtain ⟨a, ha⟩ := at_lt (show 0 < bs.length by omega)
  obtain ⟨b, hbb⟩ := at_lt (show bs.length - 1 < bs.length by omega)
  have hab : a < b := by
    have h1 := List.getElem?_eq_some_iff.1 ha
    have h2 := List.getElem?_eq_some_iff.1 hbb
    have := List.pairwise_iff_getElem.1 q1 0 (bs.length - 1) h1.1 h2.1 (by omega)
    rw [h1.2, h2.2] at this
    exact this
  have ta := Jn.noTime_iff.1 (q2 a (List.mem_of_getElem? ha))
  have tb := Jn.noTime_iff.1 (q2 b (List.mem_of_getElem? hbb))
  have hw1 := w_sub1 (a := bs.length) (by omega) (by omega)
  have hw2 : IntKind.i64.wrap (b - a) = b - a := wrap_id (by omega) (by omega)
  obtain ⟨r1, r2⟩ := Jn.below_range (x := pick) (show 0 < b - a by omega)
  have hw3 : IntKind.i64.wrap (a + F.below pick (b - a)) = a + F.below pick (b - a) := wrap_id (by omega) (by omega)
  have hlen : (((F.splitB l bs).length : Int) != ((bs.length - 1 : Nat) : Int)) = false := by
    rw [show (F.splitB l bs).length = bs.length - 1 by omega]
    simp
  generalize ht : a + F.below pick (b - a) = t at hw3
  have p1 : a ≤ t := by omega
  have p2 : t < b := by omega
  have hgl : bs.getD (bs.length - 1) 0 = b := getD_at hbb
  have hq : 0 + 1 < bs.length ∧ bs.length ≤ 200 ∧ t < bs.getD (bs.length - 1) 0 := ⟨by omega, b2, by rw [hgl]; exact p2⟩
  obtain ⟨a', b', s1, s2, s3, s4⟩ := Jn.seek_spec hq.2.2 (bs.drop (0 + 1)) 0 a rfl ha p1
  have hg := Jn.split_get (l := l) s1 s2
  have hnt : F.noTime t = false := Jn.noTime_iff.2 (by omega)
  have hpc := Jn.part_chk h0 (q2 a' (List.mem_of_getElem? s1)) (q2 b' (List.mem_of_getElem? s2))
  have hpl := F.chk_len hpc
  have hA1 : F.active l t = (F.actF t 0 l, 0) := by unfold F.active; rw [bne0 h0, hnt]; rfl
  have hA2 : F.active (K.srt F.ltC (l.filterMap (F.cutC a' b'))) t = (F.actF t 0 (K.srt F.ltC (l.filterMap (F.cutC a' b'))), 0) := by unfold F.active; rw [bne0 hpc, hnt]; rfl
  have hsm := Jn.split_sm hpre bs
  have hps : F.smC (K.srt F.ltC (l.filterMap (F.cutC a' b'))) = true := List.all_eq_true.1 hsm _ (List.mem_of_getElem? hg)
  have hth := Jn.there (l := l) s3 s4
  have hm1 : F.some l (F.actF t 0 l) = l.filter (F.isOn t) := Jn.some_act l [] rfl
  have hm2 : F.some (K.srt F.ltC (l.filterMap (F.cutC a' b'))) (F.actF t 0 (K.srt F.ltC (l.filterMap (F.cutC a' b')))) = (K.srt F.ltC (l.filterMap (F.cutC a' b'))).filter (F.isOn t) := Jn.some_act _ [] rfl
  have hal := F.actF_len t 0 l
  have hal2 := F.actF_len t 0 (K.srt F.ltC (l.filterMap (F.cutC a' b')))
  generalize hk : F.seekB t 0 (bs.drop (0 + 1)) = k at s1 s2 hg
  generalize K.srt F.ltC (l.filterMap (F.cutC a' b')) = p at hg hpc hpl hA2 hps hth hm2 hal2
  have w0 : 0 < b - a ∧ b - a ≤ 1000000000 := ⟨by omega, by omega⟩
  have w1 : l.length ≤ 100000 ∧ (F.actF t 0 l).length ≤ 100000 := ⟨by omega, by omega⟩
  have w2 : p.length ≤ 100000 ∧ (F.actF t 0 p).length ≤ 100000 := ⟨by omega, by omega⟩
  have w3 : (l.filter (F.isOn t)).length ≤ 500 ∧ (p.filter (F.isOn t)).length ≤ 500 := ⟨Nat.le_trans (List.length_filter_le ..) hl, Nat.le_trans (List.length_filter_le ..) hpl⟩
  simp only [unSp, unAwk, unBlw, unAc, unSm, unSL, preSp1, preAwk1, preBlw1, preAc1, preSm1, preSL1, unstLk, unstLk0, prlLk, outLk, etaCap, etaMch, etaWrd, etaFnd, etaRatio, etaWay, Option.bind_some, List.length_map, unStrs, unInts, unBools, unCaps, uneL_eCaps, unMchs, unWrds, unFnds, unRatios, unWays, F.lt, F.le, cond_true, cond_false, Bool.and_true, Bool.true_and, e, z, hw1, hlen, decide_eq_true (lt_at ha), decide_eq_true (lt_at hbb), idx_nat, getD_at ha, getD_at hbb, hw2, decide_eq_true w0, ht, hw3, decide_eq_true (show 0 + 1 < bs.length ∧ bs.length ≤ 200 ∧ t < b from ⟨hq.1, hq.2.1, p2⟩), hk, hpre, decide_eq_true (lt_at hg), getD_at hg, hps, hA1, hA2, beq_self_eq_true, decide_eq_true w1, decide_eq_true w2, hm1, hm2, decide_eq_true w3, hth]

end M
end Go.Proofs.YtlnflhmepnbcmaaDoor
