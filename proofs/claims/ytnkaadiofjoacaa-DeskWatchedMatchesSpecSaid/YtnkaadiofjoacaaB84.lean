/- What is proved here: both ways to reckon a session's figures are one (no statement of the seat). -/
import Derived.Test.YtnkaadiofjoacaaB81
namespace Go.Proofs.Ytnkaadiofjoacaa
open Go Go.RowKit
set_option linter.unusedVariables false
set_option linter.unusedSimpArgs false
set_option maxHeartbeats 1000000

namespace F

/-- How long a session is in a beat's state. -/
def rlong (q : Int) (b : Beat) (r : List Beat) : Int := max 0 (IntKind.i64.wrap (lastsB q b r - b.time))

/-- The reference's round over a beat: the figures, the bits, the last rate. -/
def rfS (q t0 : Int) (p : Option Beat) (rate : Int) (f : Figs) (n : Int) (b : Beat) (r : List Beat) : Figs × Int × Int :=
  bif b.state == 2 then
    (⟨bif lt f.wait 0 then IntKind.i64.wrap (b.time - t0) else f.wait, IntKind.i64.wrap (f.played + rlong q b r), f.stalled, f.paused, f.stalls,
      bif le 0 rate && (rate != b.rate) then IntKind.i64.wrap (f.changes + 1) else f.changes, f.bits, b.state == 5⟩, IntKind.i64.wrap (n + IntKind.i64.wrap (b.rate * rlong q b r)), b.rate)
  else bif b.state == 3 then
    (⟨f.wait, f.played, IntKind.i64.wrap (f.stalled + rlong q b r), f.paused, bif notSt p then IntKind.i64.wrap (f.stalls + 1) else f.stalls, f.changes, f.bits, b.state == 5⟩, n, rate)
  else bif b.state == 4 then
    (⟨f.wait, f.played, f.stalled, IntKind.i64.wrap (f.paused + rlong q b r), f.stalls, f.changes, f.bits, b.state == 5⟩, n, rate)
  else (⟨f.wait, f.played, f.stalled, f.paused, f.stalls, f.changes, f.bits, b.state == 5⟩, n, rate)

def rf (q t0 : Int) : Option Beat → Int → Figs → Int → List Beat → Figs × Int
  | _, _, f, n, [] => (f, n)
  | p, rate, f, n, b :: r => rf q t0 (some b) (rfS q t0 p rate f n b r).2.2 (rfS q t0 p rate f n b r).1 (rfS q t0 p rate f n b r).2.1 r

def rfM (q : Int) (l : List Beat) : Figs × Int := rf q (t0 l) none (-1) ⟨-1, 0, 0, 0, 0, 0, 0, false⟩ 0 l

def rfigs (q : Int) (l : List Beat) : Figs × Int := figB (rfM q l)

theorem tot_app (g : Stay → Int) : ∀ (a b : List Stay), tot g (a ++ b) = tot g a + tot g b
  | [], b => by simp [tot]
  | s :: a, b => by
    have := tot_app g a b
    simp only [List.cons_append, tot, this]
    omega

def endedOf (e : Bool) : List Beat → Bool
  | [] => e
  | b :: r => endedOf (b.state == 5) r

theorem endedOf_last : ∀ (l : List Beat) (e : Bool), l ≠ [] → endedOf e l = ((l.getD (l.length - 1) ⟨⟨#[]⟩, 0, 0, 0, 0⟩).state == 5)
  | [], _, h => absurd rfl h
  | [b], e, _ => rfl
  | b :: c :: r, e, _ => by
    have := endedOf_last (c :: r) (b.state == 5) (by simp)
    show endedOf (b.state == 5) (c :: r) = _
    rw [this]
    simp only [List.length_cons, Nat.add_sub_cancel, List.getD_cons_succ]

theorem fig1_cons (t0 : Int) (p : Option Beat) (f : Figs) (rate : Int) (b : Beat) (l : List Beat) : fig1 t0 p f rate (b :: l) = fig1 t0 (some b) (figS1 t0 (p, f, rate) b).2.1 (figS1 t0 (p, f, rate) b).2.2 l := by
  unfold fig1
  rw [List.foldl_cons]
  rfl

theorem fig1_core (t0 : Int) : ∀ (l : List Beat) (p : Option Beat) (rate : Int) (f g : Figs), f.wait = g.wait → f.stalls = g.stalls → f.changes = g.changes →
    (fig1 t0 p f rate l).wait = (fig1 t0 p g rate l).wait ∧ (fig1 t0 p f rate l).stalls = (fig1 t0 p g rate l).stalls ∧ (fig1 t0 p f rate l).changes = (fig1 t0 p g rate l).changes
  | [], p, rate, f, g, h1, h2, h3 => ⟨h1, h2, h3⟩
  | b :: l, p, rate, f, g, h1, h2, h3 => by
    rw [fig1_cons, fig1_cons]
    have e : (figS1 t0 (p, f, rate) b).2.2 = (figS1 t0 (p, g, rate) b).2.2 := rfl
    rw [e]
    refine fig1_core t0 l _ _ _ _ ?_ ?_ ?_
    · simp only [figS1]; cases b.state == 2 <;> simp only [cond_true, cond_false, h1] <;> cases (b.state == 3) && notSt p <;> simp only [cond_true, cond_false, h1]
    · simp only [figS1]; cases b.state == 2 <;> simp only [cond_true, cond_false, h2] <;> cases (b.state == 3) && notSt p <;> simp only [cond_true, cond_false, h2]
    · simp only [figS1]; cases b.state == 2 <;> simp only [cond_true, cond_false, h3] <;> cases (b.state == 3) && notSt p <;> simp only [cond_true, cond_false, h3]

theorem fig1_keep (t0 : Int) : ∀ (l : List Beat) (p : Option Beat) (rate : Int) (f : Figs), (fig1 t0 p f rate l).bits = f.bits ∧ (fig1 t0 p f rate l).ended = f.ended
  | [], p, rate, f => ⟨rfl, rfl⟩
  | b :: l, p, rate, f => by
    rw [fig1_cons]
    obtain ⟨i1, i2⟩ := fig1_keep t0 l (some b) (figS1 t0 (p, f, rate) b).2.2 (figS1 t0 (p, f, rate) b).2.1
    rw [i1, i2]
    unfold figS1
    cases b.state == 2 <;> cases (b.state == 3) && notSt p <;> exact ⟨rfl, rfl⟩

/-- What a beat's stay adds. -/
theorem stay_adds {q : Int} {b : Beat} {r : List Beat} (hb : beatF1 b = 0) (hr : ∀ y ∈ r, beatF1 y = 0) (hq1 : 1 ≤ q) (hq2 : q ≤ 1000000) :
    0 ≤ rlong q b r ∧ rlong q b r ≤ 1000000 ∧ tot gP (stayS q [] b r) = (bif b.state == 2 then rlong q b r else 0) ∧ tot gS (stayS q [] b r) = (bif b.state == 3 then rlong q b r else 0) ∧
      tot gW (stayS q [] b r) = (bif b.state == 4 then rlong q b r else 0) ∧ tot gB (stayS q [] b r) = (bif b.state == 2 then b.rate * rlong q b r else 0) := by
  obtain ⟨k1, k2, k3, k4⟩ := beatF1_rng hb
  have hw : IntKind.i64.wrap (b.time + q) = b.time + q := M.wrap_id (by omega) (by omega)
  have h1 := endB_le q b r
  rw [hw] at h1
  have h2 : 0 ≤ endB q b r := by
    cases r with
    | nil => simp only [endB, hw]; omega
    | cons y r =>
      have := (beatF1_rng (hr y (List.mem_cons_self ..))).1
      simp only [endB, hw]
      cases y.session.toList == b.session.toList <;> simp only [cond_true, cond_false] <;> omega
  have h3 : 0 ≤ lastsB q b r ∧ lastsB q b r ≤ b.time + q := by
    unfold lastsB
    cases b.state == 5 <;> simp only [cond_true, cond_false] <;> omega
  have h4 : rlong q b r = max 0 (lastsB q b r - b.time) := by unfold rlong; rw [M.wrap_id (by omega) (by omega)]
  rw [h4]
  have h5 : lastsB q b r = bif b.state == 5 then b.time else endB q b r := rfl
  refine ⟨by omega, by omega, ?_⟩
  unfold stayS
  by_cases s5 : b.state = 5
  · have e5 : (b.state == 5) = true := by rw [s5]; rfl
    have e5' : (b.state != 5) = false := by rw [s5]; rfl
    have e2 : (b.state == 2) = false := by rw [s5]; rfl
    have e3 : (b.state == 3) = false := by rw [s5]; rfl
    have e4 : (b.state == 4) = false := by rw [s5]; rfl
    simp only [e5', Bool.false_and, cond_false, tot, e2, e3, e4, and_self]
  · have e5 : (b.state == 5) = false := beq_eq_false_iff_ne.2 s5
    have e5' : (b.state != 5) = true := by rw [bne, e5]; rfl
    rw [e5, cond_false] at h5
    rw [e5', Bool.true_and, h5]
    by_cases hlt : b.time < endB q b r
    · have : lt b.time (endB q b r) = true := by simp [lt, hlt]
      have hm : max 0 (endB q b r - b.time) = endB q b r - b.time := by omega
      simp only [this, cond_true, List.nil_append, tot, gP, gS, gW, gB, len, hm, Int.add_zero, and_self]
    · have : lt b.time (endB q b r) = false := by simp [lt, hlt]
      have hm : max 0 (endB q b r - b.time) = 0 := by omega
      simp only [this, cond_false, tot, hm, Int.mul_zero]
      cases b.state == 2 <;> cases b.state == 3 <;> cases b.state == 4 <;> simp

theorem rf_eq {q t0 : Int} (hq1 : 1 ≤ q) (hq2 : q ≤ 1000000) : ∀ (l : List Beat) (p : Option Beat) (rate : Int) (f : Figs) (n : Int), (∀ b ∈ l, beatF1 b = 0) → l.length ≤ 3000 →
    0 ≤ f.played → f.played ≤ (3000 - l.length) * 1000000 → 0 ≤ f.stalled → f.stalled ≤ (3000 - l.length) * 1000000 →
    0 ≤ f.paused → f.paused ≤ (3000 - l.length) * 1000000 → 0 ≤ n → n ≤ (3000 - l.length) * 1000000000000000 →
    rf q t0 p rate f n l = (⟨(fig1 t0 p f rate l).wait, f.played + tot gP (stays q l), f.stalled + tot gS (stays q l), f.paused + tot gW (stays q l), (fig1 t0 p f rate l).stalls, (fig1 t0 p f rate l).changes, f.bits, endedOf f.ended l⟩, n + tot gB (stays q l)) := by
  intro l
  induction l with
  | nil =>
    intro p rate f n _ _ _ _ _ _ _ _ _ _
    simp only [rf, stays, staysA, M.foldS, tot, Int.add_zero, endedOf]
    rfl
  | cons b l ih0 =>
    intro p rate f n hc hl a1 a2 a3 a4 a5 a6 a7 a8
    have hb := hc b (List.mem_cons_self ..)
    have hcl : ∀ y ∈ l, beatF1 y = 0 := fun y hy => hc y (List.mem_cons_of_mem _ hy)
    obtain ⟨g1, g2, g3, g4, g5, g6⟩ := stay_adds hb hcl hq1 hq2
    obtain ⟨k1, k2, k3, k4⟩ := beatF1_rng hb
    have hm := mul_ok k3 k4 g1 g2
    simp only [List.length_cons] at hl a2 a4 a6 a8
    have x1 : ((l.length + 1 : Nat) : Int) = (l.length : Int) + 1 := by omega
    rw [x1] at a2 a4 a6 a8
    have w1 : IntKind.i64.wrap (f.played + rlong q b l) = f.played + rlong q b l := M.wrap_id (by omega) (by omega)
    have w2 : IntKind.i64.wrap (f.stalled + rlong q b l) = f.stalled + rlong q b l := M.wrap_id (by omega) (by omega)
    have w3 : IntKind.i64.wrap (f.paused + rlong q b l) = f.paused + rlong q b l := M.wrap_id (by omega) (by omega)
    have w4 : IntKind.i64.wrap (b.rate * rlong q b l) = b.rate * rlong q b l := M.wrap_id (by omega) (by omega)
    have w5 : IntKind.i64.wrap (n + b.rate * rlong q b l) = n + b.rate * rlong q b l := M.wrap_id (by omega) (by omega)
    rw [stays_cons, tot_app, tot_app, tot_app, tot_app, g3, g4, g5, g6, fig1_cons]
    show rf q t0 (some b) (rfS q t0 p rate f n b l).2.2 (rfS q t0 p rate f n b l).1 (rfS q t0 p rate f n b l).2.1 l = _
    have hcore : (rfS q t0 p rate f n b l).2.2 = (figS1 t0 (p, f, rate) b).2.2 ∧ (rfS q t0 p rate f n b l).1.wait = (figS1 t0 (p, f, rate) b).2.1.wait ∧ (rfS q t0 p rate f n b l).1.stalls = (figS1 t0 (p, f, rate) b).2.1.stalls ∧
        (rfS q t0 p rate f n b l).1.changes = (figS1 t0 (p, f, rate) b).2.1.changes ∧ (rfS q t0 p rate f n b l).1.bits = f.bits ∧ (rfS q t0 p rate f n b l).1.ended = (b.state == 5) ∧
        (rfS q t0 p rate f n b l).1.played = f.played + (bif b.state == 2 then rlong q b l else 0) ∧ (rfS q t0 p rate f n b l).1.stalled = f.stalled + (bif b.state == 3 then rlong q b l else 0) ∧
        (rfS q t0 p rate f n b l).1.paused = f.paused + (bif b.state == 4 then rlong q b l else 0) ∧ (rfS q t0 p rate f n b l).2.1 = n + (bif b.state == 2 then b.rate * rlong q b l else 0) := by
      unfold rfS figS1
      rw [w1, w2, w3, w4, w5]
      by_cases s2 : b.state = 2
      · have e2 : (b.state == 2) = true := by rw [s2]; rfl
        have e3 : (b.state == 3) = false := by rw [s2]; rfl
        have e4 : (b.state == 4) = false := by rw [s2]; rfl
        simp only [e2, e3, e4, cond_true, cond_false, Int.add_zero, and_self]
      · have e2 : (b.state == 2) = false := beq_eq_false_iff_ne.2 s2
        by_cases s3 : b.state = 3
        · have e3 : (b.state == 3) = true := by rw [s3]; rfl
          have e4 : (b.state == 4) = false := by rw [s3]; rfl
          simp only [e2, e3, e4, cond_true, cond_false, Int.add_zero, Bool.true_and]
          cases notSt p <;> simp only [cond_true, cond_false, and_self]
        · have e3 : (b.state == 3) = false := beq_eq_false_iff_ne.2 s3
          cases e4 : b.state == 4 <;> simp only [e2, e3, cond_true, cond_false, Int.add_zero, Bool.false_and, and_self]
    generalize rfS q t0 p rate f n b l = R at hcore ⊢
    obtain ⟨fR, nR, rR⟩ := R
    obtain ⟨c1, c2, c3, c4, c5, c6, c7, c8, c9, c10⟩ := hcore
    simp only at c1 c2 c3 c4 c5 c6 c7 c8 c9 c10 ⊢
    have hP : (bif b.state == 2 then rlong q b l else 0) ≤ 1000000 ∧ 0 ≤ (bif b.state == 2 then rlong q b l else 0) := by cases b.state == 2 <;> simp only [cond_true, cond_false] <;> omega
    have hS : (bif b.state == 3 then rlong q b l else 0) ≤ 1000000 ∧ 0 ≤ (bif b.state == 3 then rlong q b l else 0) := by cases b.state == 3 <;> simp only [cond_true, cond_false] <;> omega
    have hW : (bif b.state == 4 then rlong q b l else 0) ≤ 1000000 ∧ 0 ≤ (bif b.state == 4 then rlong q b l else 0) := by cases b.state == 4 <;> simp only [cond_true, cond_false] <;> omega
    have hB : (bif b.state == 2 then b.rate * rlong q b l else 0) ≤ 1000000000000000 ∧ 0 ≤ (bif b.state == 2 then b.rate * rlong q b l else 0) := by cases b.state == 2 <;> simp only [cond_true, cond_false] <;> omega
    have ih := ih0 (some b) rR fR nR hcl (by omega) (by omega) (by omega) (by omega) (by omega) (by omega) (by omega) (by omega) (by omega)
    rw [ih]
    obtain ⟨d1, d2, d3⟩ := fig1_core t0 l (some b) rR fR (figS1 t0 (p, f, rate) b).2.1 c2 c3 c4
    rw [d1, d2, d3, c1, c5, c6, c7, c8, c9, c10]
    simp only [Int.add_assoc, endedOf]

theorem rfigs_eq {l : List Beat} {q : Int} {x : ByteArray} (hc : checkB l = 0) (hq1 : 1 ≤ q) (hq2 : q ≤ 1000000) (h0 : ofA x [] l ≠ []) : rfigs q (ofA x [] l) = figs q (ofA x [] l) := by
  obtain ⟨hs, hf⟩ := checkB_sorted hc
  have hlen := chk3 hc
  have hol := ofA_len x l []
  simp only [List.length_nil, Nat.zero_add] at hol
  have hfo : ∀ b ∈ ofA x [] l, beatF1 b = 0 := fun b hb => hf b (ofA_mem hb).1
  have hok : ∀ s ∈ stays q (ofA x [] l), sOK s := stays_ok hfo hq1 hq2
  have hsl := stays_len q (ofA x [] l)
  obtain ⟨i1, i2, i3, -⟩ := fig1_ok (t0 (ofA x [] l)) (ofA x [] l) none (figI (ofA x [] l)) (-1) (own_first hs hf) (by omega) (by simp [figI]) (by simp [figI]) (by simp [figI]; omega)
  have e2 := fig2_tot (stays q (ofA x [] l)) (fig1 (t0 (ofA x [] l)) none (figI (ofA x [] l)) (-1) (ofA x [] l)) 0 hok (by omega)
    (by rw [i1]; simp [figI]) (by rw [i1]; simp [figI]; omega) (by rw [i2]; simp [figI]) (by rw [i2]; simp [figI]; omega) (by rw [i3]; simp [figI]) (by rw [i3]; simp [figI]; omega) (by omega) (by omega)
  obtain ⟨j1, j2⟩ := fig1_keep (t0 (ofA x [] l)) (ofA x [] l) none (-1) (figI (ofA x [] l))
  have e3 := rf_eq (q := q) (t0 := t0 (ofA x [] l)) hq1 hq2 (ofA x [] l) none (-1) ⟨-1, 0, 0, 0, 0, 0, 0, false⟩ 0 hfo (by omega) (by simp) (by simp; omega) (by simp) (by simp; omega) (by simp) (by simp; omega) (by omega) (by omega)
  obtain ⟨d1, d2, d3⟩ := fig1_core (t0 (ofA x [] l)) (ofA x [] l) none (-1) ⟨-1, 0, 0, 0, 0, 0, 0, false⟩ (figI (ofA x [] l)) rfl rfl rfl
  unfold rfigs figs rfM
  rw [e3]
  unfold figM
  rw [e2, i1, i2, i3, j1, j2, d1, d2, d3, endedOf_last _ _ h0]
  rfl

theorem rfM_eq {l : List Beat} {q : Int} {x : ByteArray} (hc : checkB l = 0) (hq1 : 1 ≤ q) (hq2 : q ≤ 1000000) (h0 : ofA x [] l ≠ []) :
    (rfM q (ofA x [] l)).1.wait = (figM q (ofA x [] l)).1.wait ∧ (rfM q (ofA x [] l)).1.played = (figM q (ofA x [] l)).1.played ∧ (rfM q (ofA x [] l)).1.stalled = (figM q (ofA x [] l)).1.stalled ∧ (rfM q (ofA x [] l)).2 = (figM q (ofA x [] l)).2 := by
  have e := rfigs_eq hc hq1 hq2 h0
  have e1 : (rfigs q (ofA x [] l)).1.wait = (figs q (ofA x [] l)).1.wait := by rw [e]
  have e2 : (rfigs q (ofA x [] l)).1.played = (figs q (ofA x [] l)).1.played := by rw [e]
  have e3 : (rfigs q (ofA x [] l)).1.stalled = (figs q (ofA x [] l)).1.stalled := by rw [e]
  have e4 : (rfigs q (ofA x [] l)).2 = (figs q (ofA x [] l)).2 := by rw [e]
  exact ⟨e1, e2, e3, e4⟩

end F
end Go.Proofs.Ytnkaadiofjoacaa
