/- What is proved here: levels, peaks and sessions counted, on plain data (no statement of the seat). -/
import Derived.Test.YtnkaadiofjoacaaB90
import Derived.Test.YtnkaadiofjoacaaB86
import Derived.Test.YtnkaadiofjoacaaB9
namespace Go.Proofs.Ytnkaadiofjoacaa
open Go Go.RowKit
set_option linter.unusedVariables false
set_option linter.unusedSimpArgs false

namespace F

/-- What levels say for a time. -/
def levS (t : Int) (n : Int) (x : Level) : Int := bif le x.time t then x.many else n

def levAt (L : List Level) (t : Int) : Int := L.foldl (levS t) 0

def peakS (w : Span) (a x : Level) : Level := bif le x.time w.fr then ⟨a.time, x.many⟩ else bif lt x.time w.to && lt a.many x.many then x else a

def peakA (w : Span) (L : List Level) : Level := L.foldl (peakS w) ⟨w.fr, 0⟩

theorem snoc_ind {α : Type} {P : List α → Prop} (h0 : P []) (h1 : ∀ l x, P l → P (l ++ [x])) : ∀ l, P l := by
  intro l
  rw [← List.reverse_reverse l]
  generalize l.reverse = r
  induction r with
  | nil => exact h0
  | cons x r ih => rw [List.reverse_cons]; exact h1 _ _ ih

theorem le_t {a b : Int} (h : a ≤ b) : le a b = true := decide_eq_true h
theorem le_f {a b : Int} (h : ¬ a ≤ b) : le a b = false := decide_eq_false h
theorem lt_t {a b : Int} (h : a < b) : lt a b = true := decide_eq_true h
theorem lt_f {a b : Int} (h : ¬ a < b) : lt a b = false := decide_eq_false h

theorem peak_ok (w : Span) (t : Int) (ht1 : w.fr ≤ t) (ht2 : t < w.to) : ∀ L : List Level, L.Pairwise (fun a b => a.time < b.time) →
    w.fr ≤ (peakA w L).time ∧ ((peakA w L).time = w.fr ∨ ∃ y ∈ L, y.time = (peakA w L).time) ∧ levAt L t ≤ (peakA w L).many ∧ levAt L (peakA w L).time = (peakA w L).many ∧
      (levAt L t < (peakA w L).many ∨ (peakA w L).time ≤ t) := by
  refine snoc_ind (fun _ => ⟨Int.le_refl _, .inl rfl, Int.le_refl _, rfl, .inr ht1⟩) fun L x ih hp => ?_
  obtain ⟨hp1, _, hp2⟩ := List.pairwise_append.1 hp
  have hp2 : ∀ y ∈ L, y.time < x.time := fun y hy => hp2 y hy x (List.mem_singleton_self x)
  obtain ⟨i1, i2, i3, i4, i5⟩ := ih hp1
  have e1 : peakA w (L ++ [x]) = peakS w (peakA w L) x := by rw [peakA, List.foldl_append]; rfl
  have e2 : ∀ s, levAt (L ++ [x]) s = levS s (levAt L s) x := fun s => by rw [levAt, List.foldl_append]; rfl
  rw [e1, e2]
  generalize peakA w L = a at *
  have hax : ¬ x.time ≤ w.fr → a.time < x.time := fun h => by
    rcases i2 with i2 | ⟨y, hy, i2⟩
    · omega
    · have := hp2 y hy; omega
  by_cases h1 : x.time ≤ w.fr
  · have ea : a.time = w.fr := by
      rcases i2 with i2 | ⟨y, hy, i2⟩
      · exact i2
      · have := hp2 y hy; omega
    unfold peakS
    rw [le_t h1, cond_true, e2]
    unfold levS
    simp only
    rw [le_t (by omega : x.time ≤ t), le_t (by omega : x.time ≤ a.time)]
    simp only [cond_true]
    exact ⟨i1, .inl ea, Int.le_refl _, trivial, .inr (by omega)⟩
  · have hlt := hax h1
    unfold peakS
    rw [le_f h1, cond_false]
    by_cases h2 : x.time < w.to ∧ a.many < x.many
    · rw [lt_t h2.1, lt_t h2.2, Bool.and_self, cond_true, e2]
      unfold levS
      rw [le_t (Int.le_refl x.time), cond_true]
      refine ⟨by omega, .inr ⟨x, List.mem_append_right _ (List.mem_singleton_self x), rfl⟩, ?_, rfl, ?_⟩
      · by_cases h3 : x.time ≤ t
        · rw [le_t h3, cond_true]; exact Int.le_refl _
        · rw [le_f h3, cond_false]; omega
      · by_cases h3 : x.time ≤ t
        · exact .inr h3
        · rw [le_f h3, cond_false]; exact .inl (by omega)
    · have e3 : (lt x.time w.to && lt a.many x.many) = false := by
        by_cases h3 : x.time < w.to
        · rw [lt_f (fun h4 => h2 ⟨h3, h4⟩), Bool.and_false]
        · rw [lt_f h3, Bool.false_and]
      rw [e3, cond_false, e2]
      unfold levS
      rw [le_f (by omega : ¬ x.time ≤ a.time), cond_false]
      refine ⟨i1, i2.imp (fun h => h) (fun ⟨y, hy, h⟩ => ⟨y, List.mem_append_left _ hy, h⟩), ?_, i4, ?_⟩
      · by_cases h3 : x.time ≤ t
        · rw [le_t h3, cond_true]; omega
        · rw [le_f h3, cond_false]; exact i3
      · by_cases h3 : x.time ≤ t
        · exact .inr (by omega)
        · rw [le_f h3, cond_false]; exact i5

theorem lvA_pw (T : List Stay) : ∀ (ts : List Int) (n : Int), ts.Pairwise (· < ·) → (lvA T n ts).Pairwise (fun a b => a.time < b.time)
  | [], _, _ => List.Pairwise.nil
  | x :: r, n, h => by
    obtain ⟨h1, h2⟩ := List.pairwise_cons.1 h
    rw [lvA]
    exact List.pairwise_cons.2 ⟨fun y hy => h1 _ (lvA_ok T r _ y hy).1, lvA_pw T r _ h2⟩

theorem levels_pw (q : Int) (l : List Beat) : (levels q l).Pairwise (fun a b => a.time < b.time) := lvA_pw _ _ _ (times_lt _)

/-- The steps up to a time. -/
def sumAt (T : List Stay) (t : Int) : List Int → Int
  | [] => 0
  | x :: r => (bif le x t then net T x else 0) + sumAt T t r

theorem sumAt_none {T : List Stay} {t : Int} : ∀ {U : List Int}, (∀ y ∈ U, t < y) → sumAt T t U = 0
  | [], _ => rfl
  | x :: r, h => by
    have := h x (List.mem_cons_self ..)
    rw [sumAt, le_f (by omega), cond_false, sumAt_none fun y hy => h y (List.mem_cons_of_mem _ hy)]; rfl

theorem lev_none {T : List Stay} {t n : Int} : ∀ {U : List Int} {m : Int}, (∀ y ∈ U, t < y) → (lvA T m U).foldl (levS t) n = n
  | [], _, _ => rfl
  | x :: r, m, h => by
    have h1 := h x (List.mem_cons_self ..)
    have e : levS t n ⟨x, IntKind.i64.wrap (m + net T x)⟩ = n := by unfold levS; rw [le_f (by simp only; omega), cond_false]
    rw [lvA, List.foldl_cons, e]
    exact lev_none fun y hy => h y (List.mem_cons_of_mem _ hy)

theorem lev_lvA {T : List Stay} {t : Int} (hT : T.length ≤ 3000) (U : List Int) : ∀ n : Int, U.Pairwise (· < ·) → -100000000 + U.length * 3000 ≤ n → n + U.length * 3000 ≤ 100000000 → (lvA T n U).foldl (levS t) n = n + sumAt T t U := by
  induction U with
  | nil => intro n _ _ _; simp [lvA, sumAt]
  | cons x r ih =>
    intro n h h1 h2
    obtain ⟨g1, g2⟩ := List.pairwise_cons.1 h
    have hb := net_le T x
    rw [List.length_cons] at h1 h2
    have hw : IntKind.i64.wrap (n + net T x) = n + net T x := by rw [IntKind.wrap_i64]; omega
    rw [lvA, List.foldl_cons, hw, sumAt]
    by_cases hx : x ≤ t
    · have e : levS t n ⟨x, n + net T x⟩ = n + net T x := by unfold levS; rw [le_t (by simpa using hx), cond_true]
      rw [e, le_t hx, cond_true, ih _ g2 (by omega) (by omega)]
      omega
    · have e : levS t n ⟨x, n + net T x⟩ = n := by unfold levS; rw [le_f (by simpa using hx), cond_false]
      have hr : ∀ y ∈ r, t < y := fun y hy => by have := g1 y hy; omega
      rw [e, le_f hx, cond_false, lev_none hr, sumAt_none hr]; omega

/-- One time counted. -/
def ptAt (a t : Int) : List Int → Int
  | [] => 0
  | x :: r => (bif le x t && (a == x) then 1 else 0) + ptAt a t r

theorem ptAt_none {a t : Int} : ∀ {U : List Int}, a ∉ U → ptAt a t U = 0
  | [], _ => rfl
  | x :: r, h => by
    have h1 : (a == x) = false := beq_eq_false_iff_ne.2 fun e => h (e ▸ List.mem_cons_self ..)
    rw [ptAt, h1, Bool.and_false, cond_false, ptAt_none fun hm => h (List.mem_cons_of_mem _ hm)]; rfl

theorem ptAt_one {a t : Int} : ∀ {U : List Int}, U.Nodup → a ∈ U → ptAt a t U = bif le a t then 1 else 0
  | [], _, h => by cases h
  | x :: r, hn, h => by
    obtain ⟨h1, h2⟩ := List.nodup_cons.1 hn
    rw [ptAt]
    by_cases e : a = x
    · subst e
      rw [beq_self_eq_true, Bool.and_true, ptAt_none h1]; omega
    · rw [beq_eq_false_iff_ne.2 e, Bool.and_false, cond_false, ptAt_one h2 ((List.mem_cons.1 h).resolve_left e)]; omega

theorem sumAt_cons (s : Stay) (T : List Stay) (t : Int) : ∀ U : List Int, sumAt (s :: T) t U = ptAt s.sp.fr t U - ptAt s.sp.to t U + sumAt T t U
  | [] => rfl
  | x :: r => by
    rw [sumAt, sumAt, ptAt, ptAt, sumAt_cons s T t r, net, stp]
    cases le x t <;> cases s.sp.fr == x <;> cases s.sp.to == x <;> simp only [Bool.false_and, Bool.true_and, cond_true, cond_false] <;> omega

/-- A stay covers a time. -/
def cov (t : Int) (s : Stay) : Bool := le s.sp.fr t && lt t s.sp.to

theorem sumAt_count {t : Int} {U : List Int} (hU : U.Nodup) : ∀ T : List Stay, (∀ s ∈ T, s.sp.fr ∈ U ∧ s.sp.to ∈ U ∧ s.sp.fr ≤ s.sp.to) → sumAt T t U = (T.countP (cov t) : Nat)
  | [], _ => by
    have : ∀ V : List Int, sumAt [] t V = 0 := fun V => by
      induction V with
      | nil => rfl
      | cons x r ih => rw [sumAt, ih, net]; cases le x t <;> rfl
    rw [this]; rfl
  | s :: T, h => by
    obtain ⟨h1, h2, h3⟩ := h s (List.mem_cons_self ..)
    rw [sumAt_cons, ptAt_one hU h1, ptAt_one hU h2, sumAt_count hU T fun y hy => h y (List.mem_cons_of_mem _ hy), List.countP_cons]
    unfold cov
    by_cases g1 : s.sp.fr ≤ t
    · by_cases g2 : s.sp.to ≤ t
      · rw [le_t g1, le_t g2, lt_f (by omega)]; simp
      · rw [le_t g1, le_f g2, lt_t (by omega)]; simp; omega
    · rw [le_f g1, le_f (by omega : ¬ s.sp.to ≤ t)]; simp

theorem sumAt_filter (T : List Stay) (t : Int) : ∀ U : List Int, sumAt T t (U.filter fun x => net T x != 0) = sumAt T t U
  | [] => rfl
  | x :: r => by
    rw [List.filter_cons]
    by_cases h : net T x = 0
    · have h1 : (net T x != 0) = false := by simp [h]
      rw [h1, if_neg (by simp), sumAt_filter T t r, sumAt, h]
      cases le x t <;> simp
    · have h1 : (net T x != 0) = true := by simp [h]
      rw [h1, if_pos rfl, sumAt, sumAt, sumAt_filter T t r]

theorem levAt_levels {q : Int} {l : List Beat} (hl : l.length ≤ 3000) (t : Int) : levAt (levels q l) t = ((stays q l).countP (cov t) : Nat) := by
  have hT : (stays q l).length ≤ 3000 := Nat.le_trans (stays_len q l) hl
  have ho := stays_ord (q := q) (l := l)
  generalize hTT : stays q l = T at *
  have h1 := times_len T
  unfold levAt levels
  rw [hTT, lev_lvA hT (times T) 0 (times_lt T) (by omega) (by omega), Int.zero_add]
  unfold times
  rw [sumAt_filter]
  have hU := uniqI_lt (srtI_le (T.map (fun s => s.sp.fr) ++ T.map (fun s => s.sp.to)))
  refine sumAt_count (hU.imp fun h => by omega) T fun s hs => ⟨uniqI_mem.2 (srtI_mem.2 ?_), uniqI_mem.2 (srtI_mem.2 ?_), ho s hs⟩
  · exact List.mem_append_left _ (List.mem_map.2 ⟨s, hs, rfl⟩)
  · exact List.mem_append_right _ (List.mem_map.2 ⟨s, hs, rfl⟩)

theorem stays_sub (q : Int) : ∀ l : List Beat, ((stays q l).map (·.beat)).Sublist l
  | [] => List.Sublist.refl _
  | b :: l => by
    rw [stays_cons, List.map_append]
    have ih := stays_sub q l
    unfold stayS
    cases (b.state != 5) && lt b.time (endB q b l)
    · exact ih.cons b
    · exact ih.cons_cons b

theorem cov_one {q t : Int} {l : List Beat} (hs : l.Pairwise bef) : (stays q l).Pairwise fun a b => ¬ (a.beat.session = b.beat.session ∧ cov t a = true ∧ cov t b = true) := by
  have h1 : ((stays q l).map (·.beat)).Pairwise bef := hs.sublist (stays_sub q l)
  rw [List.pairwise_map] at h1
  refine List.Pairwise.imp_of_mem ?_ h1
  rintro a b ha hb hab ⟨e, ca, cb⟩
  obtain ⟨pre, r, d1, d2, d3, d4⟩ := stays_mem q ha
  obtain ⟨pre', r', d1', d2', d3', d4'⟩ := stays_mem q hb
  simp only [cov, Bool.and_eq_true, le, lt, decide_eq_true_eq] at ca cb
  rw [d2] at ca
  rw [d2'] at cb
  have hn : a.beat.no < b.beat.no := by
    rcases hab with h | h
    · exfalso
      rw [e] at h
      have h0 := cb_refl b.beat.session.data.toList
      unfold cmp at h
      rw [h0] at h
      cases h
    · exact h.2.1
  exact last_one d1 hs ca.2 b.beat (by rw [d1']; simp) e.symm hn cb.1

theorem countP_one {a : ByteArray} {p : ByteArray → Bool} (hp : p a = false) : ∀ {X : List ByteArray}, X.Nodup → a ∈ X → X.countP (fun x => (a.toList == x.toList) || p x) = X.countP p + 1
  | [], _, h => by cases h
  | x :: X, hn, h => by
    obtain ⟨h1, h2⟩ := List.nodup_cons.1 hn
    rw [List.countP_cons, List.countP_cons]
    by_cases e : a = x
    · subst e
      have e2 : X.countP (fun x => (a.toList == x.toList) || p x) = X.countP p := by
        refine List.countP_congr fun y hy => ?_
        have : (a.toList == y.toList) = false := by
          cases hq : (a.toList == y.toList)
          · rfl
          · exact absurd (seq_iff.1 hq ▸ hy) h1
        rw [this, Bool.false_or]
      rw [e2, hp]; simp
    · have : (a.toList == x.toList) = false := by
        cases hq : (a.toList == x.toList)
        · rfl
        · exact absurd (seq_iff.1 hq) e
      rw [countP_one hp h2 ((List.mem_cons.1 h).resolve_left e), this, Bool.false_or]; omega

theorem count_ses {t : Int} {X : List ByteArray} (hX : X.Nodup) : ∀ T : List Stay, (∀ s ∈ T, s.beat.session ∈ X) → (T.Pairwise fun a b => ¬ (a.beat.session = b.beat.session ∧ cov t a = true ∧ cov t b = true)) →
    X.countP (fun x => T.any fun s => (s.beat.session.toList == x.toList) && cov t s) = T.countP (cov t)
  | [], _, _ => by simp
  | s :: T, h, hp => by
    obtain ⟨p1, p2⟩ := List.pairwise_cons.1 hp
    have ih := count_ses hX T (fun y hy => h y (List.mem_cons_of_mem _ hy)) p2
    rw [List.countP_cons]
    cases hc : cov t s
    · simp only [List.any_cons, hc, Bool.and_false, Bool.false_or, Bool.false_eq_true, if_false, Nat.add_zero]
      exact ih
    · simp only [List.any_cons, hc, Bool.and_true, if_true]
      rw [countP_one ?_ hX (h s (List.mem_cons_self ..)), ih]
      rw [List.any_eq_false]
      intro y hy hq
      simp only [Bool.and_eq_true] at hq
      exact p1 y hy ⟨(seq_iff.1 hq.1).symm, hc, hq.2⟩

theorem sess_ok : ∀ (n : Nat) (l : List Beat), l.length ≤ n → l.Pairwise bef → (sess l).Nodup ∧ ∀ x, x ∈ sess l ↔ ∃ b ∈ l, b.session = x
  | 0, l, hl, _ => by
    obtain rfl : l = [] := List.eq_nil_of_length_eq_zero (by omega)
    exact ⟨List.nodup_nil, fun x => by simp [sess, ds]⟩
  | n + 1, [], _, _ => ⟨List.nodup_nil, fun x => by simp [sess, ds]⟩
  | n + 1, b :: r, hl, h => by
    obtain ⟨o1, o2⟩ := own_run (x := b.session) h fun y hy => by
      rcases List.mem_cons.1 hy with rfl | hy
      · exact .inl rfl
      · rcases (List.pairwise_cons.1 h).1 y hy with h | h
        · exact .inr h
        · exact .inl h.1.symm
    have hpos := ofA_pos b r
    rw [sess_cons h]
    generalize hk : (ofA b.session [] (b :: r)).length = k at *
    obtain ⟨i1, i2⟩ := sess_ok n ((b :: r).drop k) (by rw [List.length_drop]; simp at hl ⊢; omega) (h.sublist (List.drop_sublist ..))
    refine ⟨List.nodup_cons.2 ⟨fun hm => ?_, i1⟩, fun x => ?_⟩
    · obtain ⟨y, hy, e⟩ := (i2 _).1 hm
      exact o2 y hy e
    · rw [List.mem_cons, i2]
      constructor
      · rintro (rfl | ⟨y, hy, rfl⟩)
        · exact ⟨b, List.mem_cons_self .., rfl⟩
        · exact ⟨y, List.mem_of_mem_drop hy, rfl⟩
      · rintro ⟨y, hy, rfl⟩
        rw [← List.take_append_drop k (b :: r), List.mem_append] at hy
        rcases hy with hy | hy
        · rw [← o1] at hy
          exact .inl (ofA_mem hy).2
        · exact .inr ⟨y, hy, rfl⟩

theorem found_any (x : ByteArray) (t : Int) : ∀ T : List Stay, found (stFind x t T) = T.any fun s => (s.beat.session.toList == x.toList) && cov t s
  | [] => rfl
  | s :: T => by
    have ih := found_any x t T
    unfold stFind at ih ⊢
    rw [List.any_cons, M.findS, stP, ← ih, cov, ← Bool.and_assoc]
    cases (s.beat.session.toList == x.toList) && le s.sp.fr t && lt t s.sp.to <;> rfl

/-- At each time as many sessions are watched as are there. -/
theorem watched_count {q t : Int} {l : List Beat} (hc : checkB l = 0) (hl : l.length ≤ 3000) :
    levAt (levels q l) t = ((sess l).countP (fun x => found (stFind x t (stays q l))) : Nat) := by
  have hs := (checkB_sorted hc).1
  obtain ⟨h1, h2⟩ := sess_ok _ l (Nat.le_refl _) hs
  rw [levAt_levels hl, ← count_ses h1 (stays q l) (fun s hs => (h2 _).2 ⟨s.beat, (stays_sub q l).subset (List.mem_map.2 ⟨s, hs, rfl⟩), rfl⟩) (cov_one hs)]
  simp only [found_any]

end F
end Go.Proofs.Ytnkaadiofjoacaa
