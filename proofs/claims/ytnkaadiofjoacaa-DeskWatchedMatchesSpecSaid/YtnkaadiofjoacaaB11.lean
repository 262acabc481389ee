/- What is proved here: what the law that figures add up returns on plain data (no statement of the seat). -/
import Derived.Test.YtnkaadiofjoacaaB10
namespace Go.Proofs.Ytnkaadiofjoacaa
open Go Go.RowKit
set_option linter.unusedVariables false
set_option linter.unusedSimpArgs false

/-- What a beat without fault holds. -/
theorem F.beatF1_rng {b : Beat} (h : F.beatF1 b = 0) : 0 ≤ b.time ∧ b.time ≤ 1000000000000 ∧ 0 ≤ b.rate ∧ b.rate ≤ 1000000000 := by
  unfold F.beatF1 at h
  cases h1 : F.isName b.session
  · simp [h1] at h
  · cases h2 : F.out b.no 1 3000 || F.out b.time 0 1000000000000
    · cases h3 : F.out b.state 1 5
      · cases h4 : F.out b.rate 0 1000000000
        · simp [F.out] at h2 h4
          omega
        · simp [h1, h2, h3, h4] at h
      · simp [h1, h2, h3] at h
    · simp [h1, h2] at h

theorem F.ofA_app (x : ByteArray) : ∀ (l : List Beat) (acc : List Beat), F.ofA x acc l = acc ++ F.ofA x [] l
  | [], acc => by simp [F.ofA]
  | b :: l, acc => by
    show F.ofA x (F.ofS x acc b) l = acc ++ F.ofA x (F.ofS x [] b) l
    rw [F.ofA_app x l (F.ofS x acc b), F.ofA_app x l (F.ofS x [] b), ← List.append_assoc]
    congr 1
    unfold F.ofS
    cases (b.session.toList == x.toList) <;> simp

theorem F.ofA_cons (x : ByteArray) (b : Beat) (l : List Beat) : F.ofA x [] (b :: l) = bif b.session.toList == x.toList then b :: F.ofA x [] l else F.ofA x [] l := by
  show F.ofA x (F.ofS x [] b) l = _
  rw [F.ofA_app]
  unfold F.ofS
  cases (b.session.toList == x.toList) <;> simp

theorem F.ofA_mem {x : ByteArray} {y : Beat} : ∀ {l : List Beat}, y ∈ F.ofA x [] l → y ∈ l ∧ y.session = x
  | [], h => by simp [F.ofA] at h
  | b :: l, h => by
    rw [F.ofA_cons] at h
    cases hb : (b.session.toList == x.toList)
    · rw [hb] at h
      have := F.ofA_mem h
      exact ⟨by simp [this.1], this.2⟩
    · rw [hb] at h
      simp only [cond_true, List.mem_cons] at h
      rcases h with rfl | h
      · exact ⟨by simp, F.seq_iff.1 hb⟩
      · have := F.ofA_mem h
        exact ⟨by simp [this.1], this.2⟩

theorem F.stays_cons (q : Int) (b : Beat) (l : List Beat) : F.stays q (b :: l) = F.stayS q [] b l ++ F.stays q l := by
  show F.staysA q (F.stayS q [] b l) l = _
  rw [F.staysA_app]; rfl

/-- Stays of a session. -/
def F.ofT (x : ByteArray) (ss : List Stay) : List Stay := ss.filter fun s => s.beat.session.toList == x.toList

theorem F.ofA_none {x : ByteArray} {l : List Beat} (h : ∀ y ∈ l, y.session ≠ x) : F.ofA x [] l = [] := by
  match hl : F.ofA x [] l with
  | [] => rfl
  | y :: r =>
    have := F.ofA_mem (x := x) (l := l) (y := y) (by rw [hl]; simp)
    exact absurd this.2 (h y this.1)

theorem F.endB_own {q : Int} {b : Beat} {l : List Beat} (h : (b :: l).Pairwise F.bef) : F.endB q b (F.ofA b.session [] l) = F.endB q b l := by
  rw [List.pairwise_cons] at h
  cases l with
  | nil => rfl
  | cons n r =>
    rw [F.ofA_cons]
    cases hn : (n.session.toList == b.session.toList)
    · simp only [cond_false, F.endB, hn]
      rw [F.ofA_none (x := b.session) (l := r)]
      · intro y hy e
        rcases h.1 n (by simp) with h1 | h1
        · have h2 := (List.pairwise_cons.1 h.2).1 y hy
          have h3 : F.cmp b.session y.session = -1 := by
            rcases h2 with h2 | h2
            · exact F.cb_trans h1 h2
            · rw [← h2.1]; exact h1
          rw [e] at h3
          unfold F.cmp at h3
          rw [F.cb_refl] at h3
          cases h3
        · have := F.seq_iff.2 h1.1.symm
          simp only [F.seq] at this
          rw [hn] at this
          cases this
    · simp only [cond_true, F.endB, hn]

theorem F.stays_own {q : Int} {x : ByteArray} : ∀ {l : List Beat}, l.Pairwise F.bef → F.stays q (F.ofA x [] l) = F.ofT x (F.stays q l)
  | [], _ => rfl
  | b :: l, h => by
    have ih := F.stays_own (q := q) (x := x) (List.pairwise_cons.1 h).2
    rw [F.ofA_cons, F.stays_cons]
    cases hb : (b.session.toList == x.toList)
    · simp only [cond_false, F.ofT, List.filter_append]
      rw [ih, F.ofT]
      have : List.filter (fun s : Stay => s.beat.session.toList == x.toList) (F.stayS q [] b l) = [] := by
        unfold F.stayS
        cases (b.state != 5) && F.lt b.time (F.endB q b l) <;> simp [hb]
      rw [this]; rfl
    · have e : b.session = x := F.seq_iff.1 hb
      subst e
      simp only [cond_true, F.ofT, List.filter_append]
      rw [F.stays_cons, ih, F.ofT]
      congr 1
      unfold F.stayS
      rw [F.endB_own h]
      cases (b.state != 5) && F.lt b.time (F.endB q b l) <;> simp

/-- Sums. -/
def F.tot (g : Stay → Int) : List Stay → Int
  | [] => 0
  | s :: l => g s + F.tot g l

def F.len (s : Stay) : Int := s.sp.to - s.sp.fr
def F.gP (s : Stay) : Int := bif s.beat.state == 2 then F.len s else 0
def F.gS (s : Stay) : Int := bif s.beat.state == 3 then F.len s else 0
def F.gW (s : Stay) : Int := bif s.beat.state == 4 then F.len s else 0
def F.gB (s : Stay) : Int := bif s.beat.state == 2 then s.beat.rate * F.len s else 0

def F.sOK (s : Stay) : Prop := 0 ≤ F.len s ∧ F.len s ≤ 1000000 ∧ 0 ≤ s.beat.rate ∧ s.beat.rate ≤ 1000000000

theorem F.mul_ok {r n : Int} (h1 : 0 ≤ r) (h2 : r ≤ 1000000000) (h3 : 0 ≤ n) (h4 : n ≤ 1000000) : 0 ≤ r * n ∧ r * n ≤ 1000000000000000 :=
  ⟨Int.mul_nonneg h1 h3, by have := Int.mul_le_mul h2 h4 h3 (by omega : (0 : Int) ≤ 1000000000); omega⟩

theorem F.fig2_tot (S : List Stay) : ∀ (f : Figs) (n : Int), (∀ s ∈ S, F.sOK s) → S.length ≤ 3000 →
    0 ≤ f.played → f.played ≤ (3000 - S.length) * 1000000 → 0 ≤ f.stalled → f.stalled ≤ (3000 - S.length) * 1000000 →
    0 ≤ f.paused → f.paused ≤ (3000 - S.length) * 1000000 → 0 ≤ n → n ≤ (3000 - S.length) * 1000000000000000 →
    F.fig2 f n S = (⟨f.wait, f.played + F.tot F.gP S, f.stalled + F.tot F.gS S, f.paused + F.tot F.gW S, f.stalls, f.changes, f.bits, f.ended⟩, n + F.tot F.gB S) := by
  induction S with
  | nil => intros; simp [F.fig2, F.tot]
  | cons s S ih =>
    intro f n h hl a1 a2 b1 b2 c1 c2 d1 d2
    obtain ⟨k1, k2, k3, k4⟩ := h s (by simp)
    have hm := F.mul_ok k3 k4 k1 k2
    simp only [List.length_cons] at hl a2 b2 c2 d2
    have hlong : F.long s = F.len s := M.wrap_id (by simp only [F.len] at *; omega) (by simp only [F.len] at *; omega)
    have hS : F.figS2 (f, n) s = (⟨f.wait, f.played + F.gP s, f.stalled + F.gS s, f.paused + F.gW s, f.stalls, f.changes, f.bits, f.ended⟩, n + F.gB s) := by
      have e1 : IntKind.i64.wrap (f.played + F.len s) = f.played + F.len s := M.wrap_id (by omega) (by omega)
      have e2 : IntKind.i64.wrap (f.stalled + F.len s) = f.stalled + F.len s := M.wrap_id (by omega) (by omega)
      have e3 : IntKind.i64.wrap (f.paused + F.len s) = f.paused + F.len s := M.wrap_id (by omega) (by omega)
      have e4 : IntKind.i64.wrap (s.beat.rate * F.len s) = s.beat.rate * F.len s := M.wrap_id (by omega) (by omega)
      have e5 : IntKind.i64.wrap (n + s.beat.rate * F.len s) = n + s.beat.rate * F.len s := M.wrap_id (by omega) (by omega)
      simp only [F.figS2, F.gP, F.gS, F.gW, F.gB, hlong, e4, e1, e2, e3, e5]
      cases (s.beat.state == 2) <;> cases (s.beat.state == 3) <;> cases (s.beat.state == 4) <;> simp
    have g1 : 0 ≤ F.gP s ∧ F.gP s ≤ 1000000 := by unfold F.gP; cases (s.beat.state == 2) <;> simp <;> omega
    have g2 : 0 ≤ F.gS s ∧ F.gS s ≤ 1000000 := by unfold F.gS; cases (s.beat.state == 3) <;> simp <;> omega
    have g3 : 0 ≤ F.gW s ∧ F.gW s ≤ 1000000 := by unfold F.gW; cases (s.beat.state == 4) <;> simp <;> omega
    have g4 : 0 ≤ F.gB s ∧ F.gB s ≤ 1000000000000000 := by unfold F.gB; cases (s.beat.state == 2) <;> simp <;> omega
    show F.fig2 (F.figS2 (f, n) s).1 (F.figS2 (f, n) s).2 S = _
    rw [hS]
    simp only
    rw [ih _ _ (fun y hy => h y (by simp [hy])) (by omega) (by simp only; omega) (by simp only; omega) (by simp only; omega) (by simp only; omega) (by simp only; omega) (by simp only; omega) (by omega) (by omega)]
    simp only [F.tot, Int.add_assoc]

theorem F.tot_le : ∀ (S : List Stay), (∀ s ∈ S, F.sOK s) → 0 ≤ F.tot F.gP S ∧ 0 ≤ F.tot F.gS S ∧ 0 ≤ F.tot F.gW S ∧ 0 ≤ F.tot F.gB S ∧
    F.tot F.gP S + F.tot F.gS S + F.tot F.gW S ≤ F.tot F.len S ∧ F.tot F.len S ≤ S.length * 1000000 ∧ F.tot F.gB S ≤ S.length * 1000000000000000 ∧ F.tot F.gP S ≤ F.tot F.len S ∧ F.tot F.gS S ≤ F.tot F.len S ∧ F.tot F.gW S ≤ F.tot F.len S
  | [], _ => by simp [F.tot]
  | s :: S, h => by
    have ih := F.tot_le S (fun y hy => h y (by simp [hy]))
    obtain ⟨k1, k2, k3, k4⟩ := h s (by simp)
    have hm := F.mul_ok k3 k4 k1 k2
    have hg : 0 ≤ F.gP s ∧ 0 ≤ F.gS s ∧ 0 ≤ F.gW s ∧ F.gP s + F.gS s + F.gW s ≤ F.len s := by
      simp only [F.gP, F.gS, F.gW]
      by_cases e2 : s.beat.state = 2
      · simp [e2]; omega
      · by_cases e3 : s.beat.state = 3
        · simp [e3]; omega
        · by_cases e4 : s.beat.state = 4
          · simp [e4]; omega
          · have b2 : (s.beat.state == 2) = false := by simpa using e2
            have b3 : (s.beat.state == 3) = false := by simpa using e3
            have b4 : (s.beat.state == 4) = false := by simpa using e4
            simp only [b2, b3, b4, cond_false]; omega
    have g4 : 0 ≤ F.gB s ∧ F.gB s ≤ 1000000000000000 := by unfold F.gB; cases (s.beat.state == 2) <;> simp <;> omega
    simp only [F.tot, List.length_cons]
    omega

theorem F.tot_none {S : List Stay} (h : ∀ s ∈ S, s.beat.state ≠ 2) : F.tot F.gP S = 0 ∧ F.tot F.gB S = 0 := by
  induction S with
  | nil => exact ⟨rfl, rfl⟩
  | cons s S ih =>
    have hs : (s.beat.state == 2) = false := by simpa using h s (by simp)
    have := ih fun y hy => h y (by simp [hy])
    simp only [F.tot, F.gP, F.gB, hs, cond_false]
    exact ⟨by have := this.1; omega, by have := this.2; omega⟩

/-- Sums of spans. -/
def F.sumZ : List Span → Int
  | [] => 0
  | s :: l => (s.to - s.fr) + F.sumZ l

theorem F.sumZ_app : ∀ (l r : List Span), F.sumZ (l ++ r) = F.sumZ l + F.sumZ r
  | [], r => by simp [F.sumZ]
  | s :: l, r => by simp only [List.cons_append, F.sumZ, F.sumZ_app l r]; omega

theorem F.sumZ_nn : ∀ {l : List Span}, (∀ s ∈ l, s.fr ≤ s.to) → 0 ≤ F.sumZ l
  | [], _ => by simp [F.sumZ]
  | s :: l, h => by
    have := F.sumZ_nn (l := l) fun y hy => h y (by simp [hy])
    have := h s (by simp)
    simp only [F.sumZ]; omega

theorem F.sumSp_eq : ∀ (l : List Span) (n : Int), (∀ s ∈ l, s.fr ≤ s.to) → 0 ≤ n → n + F.sumZ l ≤ 4611686018427387904 → F.sumSp n l = n + F.sumZ l
  | [], n, _, _, _ => by simp [F.sumSp, F.sumZ]
  | s :: l, n, h, hn, hb => by
    have h1 := F.sumZ_nn (l := l) fun y hy => h y (by simp [hy])
    have h2 := h s (by simp)
    simp only [F.sumZ] at hb ⊢
    have e1 : IntKind.i64.wrap (s.to - s.fr) = s.to - s.fr := M.wrap_id (by omega) (by omega)
    have e2 : IntKind.i64.wrap (n + (s.to - s.fr)) = n + (s.to - s.fr) := M.wrap_id (by omega) (by omega)
    show F.sumSp (IntKind.i64.wrap (n + IntKind.i64.wrap (s.to - s.fr))) l = _
    rw [e1, e2, F.sumSp_eq l _ (fun y hy => h y (by simp [hy])) (by omega) (by omega)]
    omega

theorem F.addSpan_sum (l : List Span) (s : Span) : F.sumZ (F.addSpan l s) = F.sumZ l + (s.to - s.fr) := by
  rcases List.eq_nil_or_concat l with rfl | ⟨i, x, rfl⟩
  · simp [F.addSpan, F.lt, F.sumZ]
  · rw [List.concat_eq_append]
    have hg : (i ++ [x]).getD ((i ++ [x]).length - 1) ⟨0, 0⟩ = x := by simp [List.getD]
    have hlt : F.lt 0 ((i ++ [x]).length : Nat) = true := by simp [F.lt]
    unfold F.addSpan
    rw [hlt, hg, F.set_last]
    cases he : (x.to == s.fr)
    · simp only [Bool.and_false, cond_false, F.sumZ_app, F.sumZ]; omega
    · have he : x.to = s.fr := by simpa using he
      simp only [Bool.and_self, cond_true, F.sumZ_app, F.sumZ]; omega

theorem F.there_sum (x : ByteArray) : ∀ (ss : List Stay) (acc : List Span), (∀ s ∈ ss, s.sp.fr ≤ s.sp.to) → (∀ s ∈ acc, s.fr ≤ s.to) →
    F.sumZ (F.thereA x acc ss) = F.sumZ acc + F.tot F.len (F.ofT x ss) ∧ ∀ s ∈ F.thereA x acc ss, s.fr ≤ s.to
  | [], acc, _, h => ⟨by simp [F.thereA, F.ofT, F.tot], h⟩
  | s :: ss, acc, h1, h2 => by
    have hss : ∀ s ∈ ss, s.sp.fr ≤ s.sp.to := fun y hy => h1 y (by simp [hy])
    show F.sumZ (F.thereA x (F.thereS x acc s) ss) = _ ∧ ∀ s' ∈ F.thereA x (F.thereS x acc s) ss, s'.fr ≤ s'.to
    cases hx : (s.beat.session.toList == x.toList)
    · have e : F.thereS x acc s = acc := by simp only [F.thereS, hx, cond_false]
      rw [e]
      have := F.there_sum x ss acc hss h2
      simpa [F.ofT, hx] using this
    · have e : F.thereS x acc s = F.addSpan acc s.sp := by simp only [F.thereS, hx, cond_true]
      rw [e]
      have := F.there_sum x ss (F.addSpan acc s.sp) hss (F.addSpan_in (l := acc) (s := s.sp) 0 h2 (h1 s (by simp))).2
      refine ⟨?_, this.2⟩
      rw [this.1, F.addSpan_sum]
      simp only [F.ofT, List.filter_cons, hx, if_true, F.tot, F.len]
      omega

/-- What the first figures are. -/
theorem F.fig1_ok (t0 : Int) (l : List Beat) : ∀ (p : Option Beat) (f : Figs) (rate : Int), (∀ b ∈ l, 0 ≤ b.time - t0 ∧ b.time - t0 ≤ 1000000000000) → l.length ≤ 3000 →
    0 ≤ f.stalls → 0 ≤ f.changes → f.stalls + f.changes ≤ 3000 - l.length →
    (F.fig1 t0 p f rate l).played = f.played ∧ (F.fig1 t0 p f rate l).stalled = f.stalled ∧ (F.fig1 t0 p f rate l).paused = f.paused ∧
    (0 ≤ f.wait → 0 ≤ (F.fig1 t0 p f rate l).wait) ∧ ((∃ b ∈ l, b.state = 2) → 0 ≤ (F.fig1 t0 p f rate l).wait) ∧
    0 ≤ (F.fig1 t0 p f rate l).stalls ∧ 0 ≤ (F.fig1 t0 p f rate l).changes ∧ (F.fig1 t0 p f rate l).stalls + (F.fig1 t0 p f rate l).changes ≤ f.stalls + f.changes + l.length := by
  induction l with
  | nil =>
    intro p f rate _ _ a1 a2 _
    simp [F.fig1]
    exact ⟨a1, a2⟩
  | cons b l ih =>
    intro p f rate h hl a1 a2 a3
    simp only [List.length_cons] at hl a3 ⊢
    have hb := h b (by simp)
    have ew : IntKind.i64.wrap (b.time - t0) = b.time - t0 := M.wrap_id (by omega) (by omega)
    have es : IntKind.i64.wrap (f.stalls + 1) = f.stalls + 1 := M.wrap_id (by omega) (by omega)
    have ec : IntKind.i64.wrap (f.changes + 1) = f.changes + 1 := M.wrap_id (by omega) (by omega)
    have key : ∃ g r, F.figS1 t0 (p, f, rate) b = (some b, g, r) ∧ g.played = f.played ∧ g.stalled = f.stalled ∧ g.paused = f.paused ∧ (0 ≤ f.wait → 0 ≤ g.wait) ∧ (b.state = 2 → 0 ≤ g.wait) ∧
        0 ≤ g.stalls ∧ 0 ≤ g.changes ∧ g.stalls + g.changes ≤ f.stalls + f.changes + 1 := by
      refine ⟨_, _, rfl, ?_⟩
      simp only
      cases e2 : (b.state == 2)
      · have e2' : b.state ≠ 2 := by simpa using e2
        cases e3 : (b.state == 3) && F.notSt p
        · simp only [cond_false, true_and]
          exact ⟨id, fun e => absurd e e2', a1, a2, by omega⟩
        · simp only [cond_true, cond_false, true_and, es]
          exact ⟨id, fun e => absurd e e2', by omega, a2, by omega⟩
      · simp only [cond_true, true_and, ew, ec]
        have hw : 0 ≤ (bif F.lt f.wait 0 then b.time - t0 else f.wait) := by
          cases e : F.lt f.wait 0
          · simp [F.lt] at e; simpa using e
          · simp only [cond_true]; omega
        refine ⟨fun _ => hw, fun _ => hw, a1, ?_, ?_⟩ <;> cases (F.le 0 rate && (rate != b.rate)) <;> simp <;> omega
    obtain ⟨g, r, k0, k1, k2, k3, k4, k5, k6, k7, k8⟩ := key
    have e : F.fig1 t0 p f rate (b :: l) = F.fig1 t0 (some b) g r l := by
      show (l.foldl (F.figS1 t0) (F.figS1 t0 (p, f, rate) b)).2.1 = _
      rw [k0]; rfl
    rw [e]
    have ih := ih (some b) g r (fun y hy => h y (by simp [hy])) (by omega) k6 k7 (by omega)
    obtain ⟨i1, i2, i3, i4, i5, i6, i7, i8⟩ := ih
    refine ⟨i1.trans k1, i2.trans k2, i3.trans k3, fun hh => i4 (k4 hh), ?_, i6, i7, by omega⟩
    rintro ⟨y, hy, hy2⟩
    rcases List.mem_cons.1 hy with rfl | hy
    · exact i4 (k5 hy2)
    · exact i5 ⟨y, hy, hy2⟩

theorem F.stays_ok {q : Int} {l : List Beat} (h1 : ∀ b ∈ l, F.beatF1 b = 0) (h2 : 1 ≤ q) (h3 : q ≤ 1000000) : ∀ s ∈ F.stays q l, F.sOK s := by
  intro s hs
  obtain ⟨pre, r, e1, e2, e3, e4⟩ := F.stays_mem q hs
  have hb := F.beatF1_rng (h1 s.beat (by rw [e1]; simp))
  have hw : IntKind.i64.wrap (s.beat.time + q) = s.beat.time + q := M.wrap_id (by omega) (by omega)
  have := F.endB_le q s.beat r
  rw [hw] at this
  simp only [F.sOK, F.len, e2]
  omega

theorem F.own_first {x : ByteArray} {l : List Beat} (h : l.Pairwise F.bef) (hc : ∀ b ∈ l, F.beatF1 b = 0) : ∀ b ∈ F.ofA x [] l, 0 ≤ b.time - F.t0 (F.ofA x [] l) ∧ b.time - F.t0 (F.ofA x [] l) ≤ 1000000000000 := by
  intro b hb
  have hsub : (F.ofA x [] l).Pairwise F.bef := by
    have : ∀ l : List Beat, F.ofA x [] l = l.filter fun b => b.session.toList == x.toList := by
      intro l
      induction l with
      | nil => rfl
      | cons b l ih =>
        rw [F.ofA_cons, List.filter_cons, ih]
        cases (b.session.toList == x.toList) <;> rfl
    rw [this]
    exact h.filter _
  have hm := F.ofA_mem hb
  have hbt := F.beatF1_rng (hc b hm.1)
  cases ho : F.ofA x [] l with
  | nil => rw [ho] at hb; simp at hb
  | cons a r =>
    have ha := F.ofA_mem (x := x) (l := l) (y := a) (by rw [ho]; simp)
    have hat := F.beatF1_rng (hc a ha.1)
    rw [ho] at hb hsub
    show 0 ≤ b.time - a.time ∧ b.time - a.time ≤ 1000000000000
    rcases List.mem_cons.1 hb with rfl | hb
    · omega
    · rcases (List.pairwise_cons.1 hsub).1 b hb with h1 | h1
      · rw [ha.2, hm.2] at h1
        unfold F.cmp at h1
        rw [F.cb_refl] at h1
        cases h1
      · omega

/-- Figures add up. -/
theorem F.adds {l : List Beat} {q : Int} {x : ByteArray} (h : (F.figures l q x).2 = 0) :
    (F.there l q x).2 = 0 ∧ ∃ f, (F.figures l q x).1 = f ∧
      0 ≤ IntKind.i64.wrap (IntKind.i64.wrap (IntKind.i64.wrap (F.sumSp 0 (F.there l q x).1 - f.played) - f.stalled) - f.paused) ∧ 0 ≤ f.bits ∧ (0 ≤ f.wait ∨ f.played = 0 ∧ f.bits = 0) ∧
      IntKind.i64.wrap (f.stalls + f.changes) ≤ l.length ∧ (F.there l q x).1.length ≤ 3000 := by
  unfold F.figures at h ⊢
  cases h1 : F.sesF l q x != 0
  · rw [h1] at h
    simp only [cond_false] at h ⊢
    have h0 : F.sesF l q x = 0 := by simpa using h1
    obtain ⟨c1, c2, c3, c4⟩ := F.sesF_ok h0
    have hlen := F.sesF_len h1
    obtain ⟨hs, hf⟩ := F.checkB_sorted c1
    have et : F.there l q x = (F.thereA x [] (F.stays q l), 0) := by simp only [F.there, h1, cond_false]
    rw [et]
    cases ho : (F.ofA x [] l).isEmpty
    · simp only [cond_false]
      have hol := F.ofA_len x l []
      simp only [List.length_nil, Nat.zero_add] at hol
      obtain ⟨hsum, hord⟩ := F.there_sum x (F.stays q l) [] F.stays_ord (by simp)
      have hown := F.stays_own (q := q) (x := x) hs
      have hok : ∀ s ∈ F.stays q (F.ofA x [] l), F.sOK s := F.stays_ok (fun b hb => hf b (F.ofA_mem hb).1) c2 c3
      have hsl := F.stays_len q (F.ofA x [] l)
      obtain ⟨i1, i2, i3, i4, i5, i6, i7, i8⟩ := F.fig1_ok (F.t0 (F.ofA x [] l)) (F.ofA x [] l) none (F.figI (F.ofA x [] l)) (-1) (F.own_first hs hf) (by omega) (by simp [F.figI]) (by simp [F.figI]) (by simp [F.figI]; omega)
      obtain ⟨t1, t2, t3, t4, t5, t6, t7, t8, t9, t10⟩ := F.tot_le _ hok
      have e2 := F.fig2_tot (F.stays q (F.ofA x [] l)) (F.fig1 (F.t0 (F.ofA x [] l)) none (F.figI (F.ofA x [] l)) (-1) (F.ofA x [] l)) 0 hok (by omega)
        (by rw [i1]; simp [F.figI]) (by rw [i1]; simp [F.figI]; omega) (by rw [i2]; simp [F.figI]) (by rw [i2]; simp [F.figI]; omega) (by rw [i3]; simp [F.figI]) (by rw [i3]; simp [F.figI]; omega) (by omega) (by omega)
      rw [i1, i2, i3] at e2
      simp only [F.figI, Int.zero_add] at e2 i5 i6 i7 i8
      have hsp : F.sumSp 0 (F.thereA x [] (F.stays q l)) = F.tot F.len (F.stays q (F.ofA x [] l)) := by
        rw [F.sumSp_eq _ _ hord (by omega) (by rw [hsum, ← hown]; simp only [F.sumZ]; omega), hsum, ← hown]
        simp only [F.sumZ]; omega
      refine ⟨trivial, _, rfl, ?_⟩
      simp only [F.figs, F.figB, F.figM, e2, F.figI, hsp]
      generalize hT : F.stays q (F.ofA x [] l) = T at *
      have w1 : IntKind.i64.wrap (F.tot F.len T - F.tot F.gP T) = F.tot F.len T - F.tot F.gP T := M.wrap_id (by omega) (by omega)
      have w2 : IntKind.i64.wrap (F.tot F.len T - F.tot F.gP T - F.tot F.gS T) = F.tot F.len T - F.tot F.gP T - F.tot F.gS T := M.wrap_id (by omega) (by omega)
      have w3 : IntKind.i64.wrap (F.tot F.len T - F.tot F.gP T - F.tot F.gS T - F.tot F.gW T) = F.tot F.len T - F.tot F.gP T - F.tot F.gS T - F.tot F.gW T := M.wrap_id (by omega) (by omega)
      have hd : (F.tot F.gB T).tdiv 1000 = F.tot F.gB T / 1000 := by rw [Int.tdiv_eq_ediv_of_nonneg t4]
      have w4 : IntKind.i64.wrap ((F.tot F.gB T).tdiv 1000) = F.tot F.gB T / 1000 := by rw [hd]; exact M.wrap_id (by omega) (by omega)
      rw [w1, w2, w3, w4]
      refine ⟨by omega, by omega, ?_, ?_, ?_⟩
      · by_cases hp : ∃ b ∈ F.ofA x [] l, b.state = 2
        · exact .inl (i5 hp)
        · right
          have := F.tot_none (S := T) fun s hs' hs2 => by
            rw [← hT] at hs'
            obtain ⟨pre, r, e, _⟩ := F.stays_mem q hs'
            exact hp ⟨s.beat, by rw [e]; simp, hs2⟩
          rw [this.1, this.2]
          exact ⟨rfl, rfl⟩
      · rw [M.wrap_id (by omega) (by omega)]
        omega
      · have : ∀ (ss : List Stay) (acc : List Span), (F.thereA x acc ss).length ≤ acc.length + ss.length := by
          intro ss
          induction ss with
          | nil => intro acc; simp [F.thereA]
          | cons s ss ih =>
            intro acc
            have h1 := ih (F.thereS x acc s)
            have h2 : (F.thereS x acc s).length ≤ acc.length + 1 := by
              unfold F.thereS
              cases (s.beat.session.toList == x.toList)
              · simp
              · exact F.addSpan_len _ _
            show (F.thereA x (F.thereS x acc s) ss).length ≤ _
            simp only [List.length_cons]; omega
        have := this (F.stays q l) []
        have := F.stays_len q l
        simp only [List.length_nil] at *
        omega
    · rw [ho] at h
      cases h
  · rw [h1] at h
    simp only [cond_true] at h
    simp [h] at h1

theorem F.figures_bad {l : List Beat} {q : Int} {x : ByteArray} (h : ((F.figures l q x).2 != 0) = true) : (F.figures l q x).1.played = 0 := by
  unfold F.figures at h ⊢
  cases h1 : F.sesF l q x != 0
  · rw [h1] at h
    simp only [cond_false] at h ⊢
    cases ho : (F.ofA x [] l).isEmpty
    · rw [ho] at h; simp at h
    · rfl
  · rfl

namespace M

def stLAd (l : List Beat) (sp : List Span) (f : Figs) (n : Int) (k : Nat) : St := ⟨[(44, vI k), (43, vI sp.length), (42, .sl (sp.map eSpan)), (10, vI n), (7, .ptr 7 0 0), (0, .sl (l.map eBeat))], [(7, ⟨true, 0, 0, [eFigs f]⟩)]⟩

def stLAd1 (a : (List Beat) × (List Span) × Figs × Int × Nat) : St := stLAd a.1 a.2.1 a.2.2.1 a.2.2.2.1 a.2.2.2.2

theorem stLAd_inj (a a' : (List Beat) × (List Span) × Figs × Int × Nat) (h : stLAd1 a = stLAd1 a') : a = a' := by
  simp only [stLAd1, stLAd] at h
  try simp [strs_inj, ints_inj, bools_inj, eL_eIs_inj, eBeats_inj, eBeat_iff, eL_eBeats_inj, eSpans_inj, eSpan_iff, eHoles_inj, eHole_iff, eLevels_inj, eLevel_iff, eFigss_inj, eFigs_iff, eRatios_inj, eRatio_iff, eReps_inj, eRep_iff, eStays_inj, eStay_iff] at h
  grind

theorem unstLAd (l : List Beat) (sp : List Span) (f : Figs) (n : Int) (k : Nat) : unenc stLAd1 (St.mk [(44, (vI (↑k : Int))), (43, (vI (↑(List.length sp) : Int))), (42, AV.sl (List.map eSpan sp)), (10, (vI n)), (7, .ptr 7 0 0), (0, AV.sl (List.map eBeat l))] [(7,
  Blk.mk true 0 0 [[(vI f.wait), (vI f.played), (vI f.stalled), (vI f.paused), (vI f.stalls), (vI f.changes), (vI f.bits), (vB f.ended)]])]) = some (l, sp, f, n, k) := unenc_of stLAd_inj (l, sp, f, n, k) rfl

theorem unstLAd0 (l : List Beat) (sp : List Span) (f : Figs) (n : Int)  : unenc stLAd1 (St.mk [(44, (vI (0 : Int))), (43, (vI (↑(List.length sp) : Int))), (42, AV.sl (List.map eSpan sp)), (10, (vI n)), (7, .ptr 7 0 0), (0, AV.sl (List.map eBeat l))] [(7,
  Blk.mk true 0 0 [[(vI f.wait), (vI f.played), (vI f.stalled), (vI f.paused), (vI f.stalls), (vI f.changes), (vI f.bits), (vB f.ended)]])]) = some (l, sp, f, n, 0) := unenc_of stLAd_inj (l, sp, f, n, 0) rfl

def outLAd (l : List Beat) (sp : List Span) (f : Figs) (n : Int) (k : Nat) : T (Ex × St) := .ret (.exit 0, ⟨[(10, vI (F.sumSp n (sp.drop k))), (7, .ptr 7 0 0), (0, .sl (l.map eBeat))], [(7, ⟨true, 0, 0, [eFigs f]⟩)]⟩)

noncomputable def prlLAd (l : List Beat) (sp : List Span) (f : Figs) (n : Int) (k : Nat) : Bool := decide (sp.length ≤ 9223372036854775807) && decide (k ≤ sp.length)

noncomputable def lpLAd : Nat × (St → T (Ex × St)) := (9, lpo [44, 43, 42, 10, 7, 0] [7] stLAd1 (fun a => prlLAd a.1 a.2.1 a.2.2.1 a.2.2.2.1 a.2.2.2.2) fun a => outLAd a.1 a.2.1 a.2.2.1 a.2.2.2.1 a.2.2.2.2)

def encLAd1 (l : List Beat) (q : Int) (x : ByteArray) : List AV := [.sl (l.map eBeat), vI q, vS x]

def encLAd (a : (List Beat) × Int × ByteArray) : List AV := encLAd1 a.1 a.2.1 a.2.2

theorem encLAd_inj (a a' : (List Beat) × Int × ByteArray) (h : encLAd a = encLAd a') : a = a' := by
  simp only [encLAd, encLAd1] at h
  try simp [strs_inj, ints_inj, bools_inj, eL_eIs_inj, eBeats_inj, eBeat_iff, eL_eBeats_inj, eSpans_inj, eSpan_iff, eHoles_inj, eHole_iff, eLevels_inj, eLevel_iff, eFigss_inj, eFigs_iff, eRatios_inj, eRatio_iff, eReps_inj, eRep_iff, eStays_inj, eStay_iff] at h
  grind

theorem unLAd (l : List Beat) (q : Int) (x : ByteArray) : unenc encLAd ([AV.sl (List.map eBeat l), (vI q), (vS x)]) = some (l, q, x) := unenc_of encLAd_inj (l, q, x) rfl

def resLAd1 (l : List Beat) (q : Int) (x : ByteArray) : AV × Heap := (vB true, [])

def preLAd1 (l : List Beat) (q : Int) (x : ByteArray) : Bool := true

end M
end Go.Proofs.Ytnkaadiofjoacaa
