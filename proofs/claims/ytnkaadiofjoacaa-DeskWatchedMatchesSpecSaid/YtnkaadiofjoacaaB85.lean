/- What is proved here: the reference's report is the program's (no statement of the seat). -/
import Derived.Test.YtnkaadiofjoacaaB84
namespace Go.Proofs.Ytnkaadiofjoacaa
open Go Go.RowKit
set_option linter.unusedVariables false
set_option linter.unusedSimpArgs false
set_option maxHeartbeats 1000000

namespace F

/-- A span and another one have a time in common. -/
def ov (w x : Span) : Bool := decide (x.fr < w.to) && decide (w.fr < x.to)

theorem addSpan_ov {l : List Span} {s w : Span} (hw : w.fr < w.to) (hl : ∀ x ∈ l, x.fr < x.to) (hs : s.fr < s.to) : (addSpan l s).any (ov w) = (l.any (ov w) || ov w s) ∧ ∀ x ∈ addSpan l s, x.fr < x.to := by
  rcases List.eq_nil_or_concat l with rfl | ⟨i, x, rfl⟩
  · refine ⟨by simp [addSpan, lt], fun y hy => ?_⟩
    simp [addSpan, lt] at hy
    subst hy; exact hs
  · rw [List.concat_eq_append] at hl ⊢
    have hx := hl x (by simp)
    have hg : (i ++ [x]).getD ((i ++ [x]).length - 1) ⟨0, 0⟩ = x := by simp [List.getD]
    have hlt : lt 0 ((i ++ [x]).length : Nat) = true := by simp [lt]
    unfold addSpan
    rw [hlt, hg, set_last]
    cases he : (x.to == s.fr)
    · simp only [Bool.and_false, cond_false]
      refine ⟨by simp [Bool.or_assoc], fun y hy => ?_⟩
      simp only [List.mem_append, List.mem_singleton] at hy
      rcases hy with hy | rfl
      · exact hl y (by simpa using hy)
      · exact hs
    · have he : x.to = s.fr := by simpa using he
      simp only [Bool.and_self, cond_true]
      refine ⟨?_, fun y hy => ?_⟩
      · simp only [List.any_append, List.any_cons, List.any_nil, Bool.or_false, Bool.or_assoc]
        congr 1
        rw [Bool.eq_iff_iff]
        simp [ov]
        omega
      · simp only [List.mem_append, List.mem_singleton] at hy
        rcases hy with hy | rfl
        · exact hl y (by simp [hy])
        · simp only; omega

theorem meets_ov {w : Span} {s : Stay} (hw : w.fr < w.to) (hs : s.sp.fr < s.sp.to) : meets w s = ov w s.sp := by
  rw [Bool.eq_iff_iff]
  simp only [meets, ov, Bool.and_eq_true, decide_eq_true_eq]
  omega

theorem there_ov {w : Span} (hw : w.fr < w.to) (x : ByteArray) : ∀ (ss : List Stay) (acc : List Span), (∀ s ∈ ss, s.sp.fr < s.sp.to) → (∀ s ∈ acc, s.fr < s.to) →
    (thereA x acc ss).any (ov w) = (acc.any (ov w) || (ofT x ss).any (meets w))
  | [], acc, _, _ => by simp [thereA, ofT]
  | s :: ss, acc, h1, h2 => by
    show (thereA x (thereS x acc s) ss).any (ov w) = _
    have hs := h1 s (by simp)
    have hss : ∀ s ∈ ss, s.sp.fr < s.sp.to := fun y hy => h1 y (by simp [hy])
    unfold thereS ofT
    rw [List.filter_cons]
    cases hx : (s.beat.session.toList == x.toList)
    · simp only [cond_false]
      exact there_ov hw x ss acc hss h2
    · simp only [cond_true, if_true, List.any_cons]
      obtain ⟨e1, e2⟩ := addSpan_ov (w := w) hw h2 hs
      rw [there_ov hw x ss _ hss e2, e1, meets_ov hw hs, Bool.or_assoc]
      rfl

theorem stays_lt {q : Int} {l : List Beat} : ∀ s ∈ stays q l, s.sp.fr < s.sp.to := by
  intro s hs
  obtain ⟨pre, r, _, h2, _, h4⟩ := stays_mem q hs
  rw [h2]
  exact h4

theorem rth_any {l : List Beat} {q : Int} {w : Span} {x : ByteArray} (hw : w.fr < w.to) (hs : l.Pairwise bef) : (rthA q x [] l).any (ov w) = (stays q (ofA x [] l)).any (meets w) := by
  rw [← there_eq, stays_own hs]
  show (thereA x [] (stays q l)).any (ov w) = _
  rw [there_ov hw x _ _ stays_lt (by simp)]
  rfl

theorem rthA_len (q : Int) (x : ByteArray) : ∀ (l : List Beat) (acc : List Span), (rthA q x acc l).length ≤ acc.length + l.length
  | [], acc => Nat.le_refl _
  | b :: l, acc => by
    have h1 := rthA_len q x l (rthS q x acc b l)
    have h2 : (rthS q x acc b l).length ≤ acc.length + 1 := by
      unfold rthS
      cases !(b.session.toList == x.toList) || le (lastsB q b l) b.time
      · simp only [cond_false]; exact addSpan_len _ _
      · simp only [cond_true]; omega
    have e : rthA q x acc (b :: l) = rthA q x (rthS q x acc b l) l := rfl
    rw [e, List.length_cons]
    omega

/-! The sessions, one after the other. -/

def dsT (p : ByteArray) : List ByteArray → List ByteArray
  | [] => []
  | y :: r => bif y.toList == p.toList then dsT y r else y :: dsT y r

def ds : List ByteArray → List ByteArray
  | [] => []
  | x :: r => x :: dsT x r

def sess (l : List Beat) : List ByteArray := ds (l.map (·.session))

def repRS (q : Int) (w : Span) (l : List Beat) (a : RA) (x : ByteArray) : RA :=
  bif (rthA q x [] l).any (ov w) then
    (a.1 + 1, (bif decide ((rfM q (ofA x [] l)).1.wait < 0) then a.2.1 + 1 else a.2.1), (bif decide ((rfM q (ofA x [] l)).1.wait < 0) then a.2.2.1 else a.2.2.1 ++ [(rfM q (ofA x [] l)).1.wait]),
      a.2.2.2.1 + (rfM q (ofA x [] l)).1.played, a.2.2.2.2.1 + (rfM q (ofA x [] l)).1.stalled, a.2.2.2.2.2 + (rfM q (ofA x [] l)).2)
  else a

theorem repRS_eq {l : List Beat} {q : Int} {w : Span} {x : ByteArray} (hw : w.fr < w.to) (hc : checkB l = 0) (hq1 : 1 ≤ q) (hq2 : q ≤ 1000000) (h0 : ofA x [] l ≠ []) (a : RA) :
    repRS q w l a x = repS q w a (ofA x [] l) := by
  unfold repRS repS
  obtain ⟨e1, e2, e3, e4⟩ := rfM_eq hc hq1 hq2 h0
  rw [rth_any hw (checkB_sorted hc).1, e1, e2, e3, e4]

theorem ds_run {x : ByteArray} : ∀ (own : List ByteArray) (rest : List ByteArray), (∀ y ∈ own, y = x) → (∀ y, rest.head? = some y → y ≠ x) → dsT x (own ++ rest) = ds rest
  | [], [], _, _ => rfl
  | [], y :: r, _, h => by
    have : (y.toList == x.toList) = false := by
      cases hq : (y.toList == x.toList)
      · rfl
      · exact absurd (seq_iff.1 hq) (h y rfl)
    show dsT x (y :: r) = y :: dsT y r
    rw [dsT, this, cond_false]
  | z :: own, rest, h1, h2 => by
    have hz : z = x := h1 z (List.mem_cons_self ..)
    subst hz
    show dsT z (z :: (own ++ rest)) = ds rest
    rw [dsT, beq_self_eq_true, cond_true]
    exact ds_run own rest (fun y hy => h1 y (List.mem_cons_of_mem _ hy)) h2

theorem sess_cons {b : Beat} {r : List Beat} (h : (b :: r).Pairwise bef) :
    sess (b :: r) = b.session :: sess ((b :: r).drop (ofA b.session [] (b :: r)).length) := by
  obtain ⟨o1, o2⟩ := own_run (x := b.session) h fun y hy => by
    rcases List.mem_cons.1 hy with rfl | hy
    · exact .inl rfl
    · rcases (List.pairwise_cons.1 h).1 y hy with h | h
      · exact .inr h
      · exact .inl h.1.symm
  have hpos := ofA_pos b r
  obtain ⟨own', ho⟩ : ∃ own', ofA b.session [] (b :: r) = b :: own' := ⟨ofA b.session [] r, by rw [ofA_cons, beq_self_eq_true, cond_true]⟩
  have hsplit : b :: r = ofA b.session [] (b :: r) ++ (b :: r).drop (ofA b.session [] (b :: r)).length := by
    conv => rhs; lhs; rw [o1]
    rw [List.take_append_drop]
  generalize hR : (b :: r).drop (ofA b.session [] (b :: r)).length = rest at hsplit o2
  have hown : ∀ y ∈ ofA b.session [] (b :: r), y.session = b.session := fun y hy => (ofA_mem hy).2
  rw [ho] at hsplit hown
  have hr : r = own' ++ rest := by simpa using hsplit
  show b.session :: dsT b.session (r.map (·.session)) = b.session :: ds (rest.map (·.session))
  rw [hr, List.map_append, ds_run]
  · intro y hy
    obtain ⟨z, hz, rfl⟩ := List.mem_map.1 hy
    exact hown z (List.mem_cons_of_mem _ hz)
  · intro y hy
    cases rest with
    | nil => cases hy
    | cons z rest =>
      simp only [List.map_cons, List.head?_cons, Option.some.injEq] at hy
      rw [← hy]
      exact o2 z (List.mem_cons_self ..)

theorem rep_fold {l : List Beat} {q : Int} {w : Span} (hw : w.fr < w.to) (hc : checkB l = 0) (hq1 : 1 ≤ q) (hq2 : q ≤ 1000000) : ∀ (n i : Nat) (a : RA), l.length - i ≤ n → i ≤ l.length → RunAt l i →
    (sess (l.drop i)).foldl (repRS q w l) a = repL q w (l.drop i) a := by
  intro n
  induction n with
  | zero =>
    intro i a hn hi _
    have : i = l.length := by omega
    subst this
    rw [List.drop_length, repL_nil]
    rfl
  | succ n ih =>
    intro i a hn hi hr
    by_cases hlt : i < l.length
    · have hd : l.drop i = l[i] :: l.drop (i + 1) := List.drop_eq_getElem_cons hlt
      generalize l[i] = y at hd
      have hs := (checkB_sorted hc).1
      obtain ⟨e1, e2, e3⟩ := run_own hs hr hd
      have h0 := ofA_pos y (l.drop (i + 1))
      have hne : ofA y.session [] l ≠ [] := by
        rw [e1]; intro e; rw [e] at h0; cases h0
      have hp : (y :: l.drop (i + 1)).Pairwise bef := by rw [← hd]; exact hs.sublist (List.drop_sublist ..)
      have e4 : (y :: l.drop (i + 1)).drop (ofA y.session [] (y :: l.drop (i + 1))).length = l.drop (i + (ofA y.session [] (y :: l.drop (i + 1))).length) := by rw [← hd, List.drop_drop]
      rw [hd, repL_cons, sess_cons hp, List.foldl_cons, repRS_eq hw hc hq1 hq2 hne, e1, e4]
      exact ih _ _ (by omega) e2 e3
    · have : i = l.length := by omega
      subst this
      rw [List.drop_length, repL_nil]
      rfl

/-- The least number that so many thousandths are not greater than, by looking at each. -/
def thou (l : List Int) (m i : Nat) : List Int → Int
  | [] => 0
  | n :: r => bif decide (l.length * m ≤ 1000 * (i + 1)) then n else thou l m (i + 1) r

theorem thou_eq (l : List Int) (m : Nat) (hm : m ≤ 1000) (h1 : 1 ≤ m) : ∀ (n i : Nat), l.length - i ≤ n → (i = 0 ∨ 1000 * i < l.length * m) → i ≤ l.length → thou l m i (l.drop i) = least l m := by
  have hp1 : l.length * 1 ≤ l.length * m := Nat.mul_le_mul_left _ h1
  have hp2 : l.length * m ≤ l.length * 1000 := Nat.mul_le_mul_left _ hm
  intro n
  induction n with
  | zero =>
    intro i hn h2 hi
    have : i = l.length := by omega
    subst this
    have h0 : l.length = 0 := by rcases h2 with h2 | h2 <;> omega
    rw [List.drop_length, thou]
    simp only [least, h0, beq_self_eq_true, cond_true]
  | succ n ih =>
    intro i hn h2 hi
    by_cases hlt : i < l.length
    · have hd : l.drop i = l[i] :: l.drop (i + 1) := List.drop_eq_getElem_cons hlt
      have hg : l.getD i 0 = l[i] := by simp [List.getD, hlt]
      generalize l[i] = y at hd hg
      rw [hd, thou]
      by_cases hc : l.length * m ≤ 1000 * (i + 1)
      · rw [decide_eq_true hc, cond_true]
        have e0 : (l.length == 0) = false := beq_eq_false_iff_ne.2 (by omega)
        have e1 : (l.length * m + 999) / 1000 - 1 = i := by rcases h2 with h2 | h2 <;> omega
        rw [least, e0, cond_false, e1, hg]
      · rw [decide_eq_false hc, cond_false]
        exact ih (i + 1) (by omega) (.inr (by omega)) hlt
    · have : i = l.length := by omega
      subst this
      have h0 : l.length = 0 := by rcases h2 with h2 | h2 <;> omega
      rw [List.drop_length, thou]
      simp only [least, h0, beq_self_eq_true, cond_true]

end F
end Go.Proofs.Ytnkaadiofjoacaa
