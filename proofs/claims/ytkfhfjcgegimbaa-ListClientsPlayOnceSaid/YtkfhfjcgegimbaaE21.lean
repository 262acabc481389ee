/- What is proved here: what holds of a client that loads and plays, and the law of it on plain data (no statement of the seat). -/
import Derived.Test.YtkfhfjcgegimbaaE20
namespace Go.Proofs.Ytkfhfjcgegimbaa
open Go Go.RowKit
set_option linter.unusedVariables false
set_option linter.unusedSimpArgs false

/-- One Play of a client whose queue is not empty: the client, the number, how many were played. -/
def F.pl1 (a : Cli × Int × Int) : Cli × Int × Int := (⟨a.1.begun, a.1.next, a.1.last, a.1.queue.drop 1, a.1.lost⟩, (a.1.queue.getD 0 F.noI).number, IntKind.i64.wrap (a.2.2 + 1))

def F.plN : Nat → Cli × Int × Int → Cli × Int × Int
  | 0, a => a
  | n + 1, a => bif a.1.queue.isEmpty then a else F.plN n (F.pl1 a)

/-- What holds of a client between the rounds. -/
structure F.PI (f0 : Int) (b : Int) (now : Lst) (a : Cli × Int × Int) : Prop where
  bk : 0 ≤ b ∧ b ≤ 1000000000000000
  nn : 0 ≤ f0 ∧ 0 ≤ a.2.2 ∧ 0 ≤ a.1.lost
  begun : a.1.begun = true
  rel : F.Rel a.1.last now
  next : a.1.next = F.endN a.1.last
  sum : f0 + a.2.2 + a.1.queue.length + a.1.lost = a.1.next
  inc : ∀ x ∈ a.1.queue, a.2.1 < x.number ∧ x.number < a.1.next
  pw : a.1.queue.Pairwise (fun x y => x.number < y.number)
  ql : a.1.queue.length ≤ 2000
  qo : F.qOK a.1.queue = true
  ln : a.2.1 < a.1.next

theorem F.endN_le {l : Lst} (h : F.check l = 0) : 0 ≤ F.endN l ∧ F.endN l ≤ 1000000000000000 := by
  obtain ⟨h1, _, _, h2, _⟩ := F.check_ok h
  rw [F.endN_eq h]
  omega

theorem F.PI.rng {f0 b : Int} {now : Lst} {a : Cli × Int × Int} (h : F.PI f0 b now a) : 0 ≤ a.1.next ∧ a.1.next ≤ 1000000000000000 ∧ a.1.lost ≤ 1000000000000000 ∧ a.2.2 ≤ 1000000000000000 := by
  have h1 := F.endN_le h.rel.1
  have h2 := h.next
  have h3 := h.sum
  have h4 := h.nn
  omega

theorem F.PI.cli {f0 b : Int} {now : Lst} {a : Cli × Int × Int} (h : F.PI f0 b now a) {b' : Int} (hb : 0 ≤ b' ∧ b' ≤ 1000000000000000) : F.cliF a.1 b' = 0 := by
  have h1 := h.rng
  have h2 := h.nn
  have h3 := h.ql
  have e1 : F.out a.1.next 0 1000000000000000 = false := by simp [F.out]; omega
  have e2 : F.out a.1.lost 0 1000000000000000 = false := by simp [F.out]; omega
  have e3 : F.out b' 0 1000000000000000 = false := by simp [F.out]; omega
  have e4 : F.lt 2000 a.1.queue.length = false := by simp [F.lt]; omega
  unfold F.cliF
  rw [e1, e2, e3, e4]
  rfl

theorem F.PI.cok {f0 b : Int} {now : Lst} {a : Cli × Int × Int} (h : F.PI f0 b now a) : F.cOK a.1 = true := by
  have := F.check_room h.rel.1
  unfold F.cOK
  rw [this, h.qo]
  rfl

theorem F.PI.pl {f0 b : Int} {now : Lst} {a : Cli × Int × Int} (h : F.PI f0 b now a) (h0 : a.1.queue.isEmpty = false) :
    F.play a.1 = ((F.pl1 a).1, a.1.queue.getD 0 F.noI, 0) ∧ (a.1.queue.getD 0 F.noI).number = (F.pl1 a).2.1 ∧ a.2.1 < (F.pl1 a).2.1 ∧ F.PI f0 b now (F.pl1 a) := by
  have hr := h.rng
  obtain ⟨⟨c1, c2, c3, c4, c5⟩, last, played⟩ := a
  cases c4 with
  | nil => cases h0
  | cons x q =>
    have hc := h.cli (b' := 0) (by omega)
    obtain ⟨h1, h2, h3, h4, h5, h6, h7, h8, h9, h10, h11⟩ := h
    simp only at *
    have hx := h7 x (by simp)
    refine ⟨?_, rfl, hx.1, ?_⟩
    · unfold F.play
      rw [hc]
      rfl
    · have hw : IntKind.i64.wrap (played + 1) = played + 1 := M.wrap_id (by omega) (by omega)
      simp only [List.length_cons] at h6 h9
      rw [List.pairwise_cons] at h8
      refine ⟨h1, ?_, h3, h4, h5, ?_, ?_, h8.2, ?_, ?_, hx.2⟩
      · simp only [F.pl1, hw]; omega
      · simp only [F.pl1, hw, List.drop_one, List.tail_cons]; omega
      · intro y hy
        have hy' : y ∈ q := hy
        exact ⟨h8.1 y hy', (h7 y (by simp [hy'])).2⟩
      · show q.length ≤ 2000; omega
      · simp only [F.qOK, List.all_cons, Bool.and_eq_true] at h10
        exact h10.2

theorem F.PI.plN {f0 b : Int} {now : Lst} : ∀ (n : Nat) {a : Cli × Int × Int}, F.PI f0 b now a → F.PI f0 b now (F.plN n a)
  | 0, a, h => h
  | n + 1, a, h => by
    unfold F.plN
    cases h0 : a.1.queue.isEmpty
    · exact F.PI.plN n (h.pl h0).2.2.2
    · exact h

theorem F.PI.turned {f0 b : Int} {now : Lst} {a : Cli × Int × Int} (h : F.PI f0 b now a) (t : Trn) : F.PI f0 b (F.turned now t) a :=
  ⟨h.bk, h.nn, h.begun, F.rel_turned h.rel t, h.next, h.sum, h.inc, h.pw, h.ql, h.qo, h.ln⟩

/-- What Load's loop appends. -/
theorem F.ld_ok (first : Int) : ∀ (l : List Ent) (k : Nat) (lost next : Int) (q : List Itm), 0 ≤ first → first + k + l.length ≤ 4611686018427387904 → first + k ≤ next → next ≤ first + k + l.length →
    (F.ld first k lost next q l).2.2.1 = first + k + l.length ∧ ∃ q', (F.ld first k lost next q l).2.2.2 = q ++ q' ∧ (q'.length : Int) = first + k + l.length - next ∧
      (∀ x ∈ q', next ≤ x.number ∧ x.number < first + k + l.length) ∧ q'.Pairwise (fun x y => x.number < y.number) ∧ (∀ x ∈ q', ∃ e ∈ l, x.entry.extra = e.extra)
  | [], k, lost, next, q, _, _, h3, h4 => by
    simp only [List.length_nil] at h4
    refine ⟨?_, [], by simp [F.ld], by simp; omega, by simp, by simp, by simp⟩
    show next = _
    simp only [List.length_nil]
    omega
  | e :: l, k, lost, next, q, h1, h2, h3, h4 => by
    simp only [List.length_cons] at h2 h4
    have hw : IntKind.i64.wrap (first + (k : Int)) = first + k := M.wrap_id (by omega) (by omega)
    have hw2 : IntKind.i64.wrap (next + 1) = next + 1 := M.wrap_id (by omega) (by omega)
    by_cases h : first + (k : Int) < next
    · have a1 : F.ldS first (k, lost, next, q) e = (k + 1, lost, next, q) := by simp [F.ldS, hw, F.lt, h]
      obtain ⟨i1, q', i2, i3, i4, i5, i6⟩ := F.ld_ok first l (k + 1) lost next q h1 (by omega) (by omega) (by omega)
      have e1 : F.ld first k lost next q (e :: l) = F.ld first (k + 1) lost next q l := by
        unfold F.ld; rw [List.foldl_cons, a1]
      rw [e1]
      refine ⟨by rw [i1]; simp only [List.length_cons]; omega, q', i2, by rw [i3]; simp only [List.length_cons]; omega, fun x hx => ?_, i5, fun x hx => ?_⟩
      · have := i4 x hx; simp only [List.length_cons]; omega
      · obtain ⟨y, hy, hh⟩ := i6 x hx; exact ⟨y, by simp [hy], hh⟩
    · have hkn : first + (k : Int) = next := by omega
      have hlt : F.lt (IntKind.i64.wrap (first + (k : Int))) next = false := by rw [hw]; exact decide_eq_false h
      have a1 : F.ldS first (k, lost, next, q) e = (k + 1, bif F.lt 0 lost then 0 else lost, next + 1, q ++ [⟨next, ⟨e.uri, e.milli, bif F.lt 0 lost then true else e.brk, e.date, e.key, e.gap, e.extra⟩⟩]) := by
        simp only [F.ldS, hlt, cond_false, hw2]
        rw [hw, hkn]
      obtain ⟨i1, q', i2, i3, i4, i5, i6⟩ := F.ld_ok first l (k + 1) (bif F.lt 0 lost then 0 else lost) (next + 1) (q ++ [⟨next, ⟨e.uri, e.milli, bif F.lt 0 lost then true else e.brk, e.date, e.key, e.gap, e.extra⟩⟩]) h1 (by omega) (by omega) (by omega)
      have e1 : F.ld first k lost next q (e :: l) = F.ld first (k + 1) (bif F.lt 0 lost then 0 else lost) (next + 1) (q ++ [⟨next, ⟨e.uri, e.milli, bif F.lt 0 lost then true else e.brk, e.date, e.key, e.gap, e.extra⟩⟩]) l := by
        unfold F.ld; rw [List.foldl_cons, a1]
      rw [e1]
      refine ⟨by rw [i1]; simp only [List.length_cons]; omega, ⟨next, ⟨e.uri, e.milli, bif F.lt 0 lost then true else e.brk, e.date, e.key, e.gap, e.extra⟩⟩ :: q', by rw [i2]; simp, by simp only [List.length_cons]; omega, fun x hx => ?_, ?_, fun x hx => ?_⟩
      · simp only [List.length_cons]
        rcases List.mem_cons.1 hx with rfl | hx
        · simp only; omega
        · have := i4 x hx; omega
      · rw [List.pairwise_cons]
        exact ⟨fun y hy => by have := i4 y hy; simp only; omega, i5⟩
      · rcases List.mem_cons.1 hx with rfl | hx
        · exact ⟨e, by simp, rfl⟩
        · obtain ⟨y, hy, hh⟩ := i6 x hx; exact ⟨y, by simp [hy], hh⟩

theorem F.room_mem {l : Lst} (h : F.check l = 0) {e : Ent} (he : e ∈ l.entries) : e.extra.length * 16 ≤ 140737488355328 := by
  have := F.check_room h
  simp only [Bool.and_eq_true, List.all_eq_true, decide_eq_true_eq] at this
  exact this.2 e he

theorem F.PI.load {f0 b : Int} {now : Lst} {a : Cli × Int × Int} (h : F.PI f0 b now a) :
    F.load a.1 now b = (F.noC, 17) ∨ ((F.load a.1 now b).2 = 0 ∧ F.PI f0 b now ((F.load a.1 now b).1, a.2)) := by
  have hr := h.rng
  have hc := h.cli h.bk
  have c1 := h.rel.1
  have c2 := h.rel.2.1
  have he := F.rel_ends h.rel
  have hf : F.fol a.1.last now = 0 := by
    have := F.rel_follows h.rel
    unfold F.follows at this
    rw [c1, c2] at this
    exact this
  have hb : F.begin a.1 now b = (a.1.next, 0) := by
    unfold F.begin
    rw [hc, h.begun, c1, hf]
    rfl
  obtain ⟨n1, n2, _, n3, n4⟩ := F.check_ok c2
  have en := F.endN_eq c2
  have hN : F.loadN a.1 now b = max 0 (now.first - a.1.next) := by
    unfold F.loadN
    rw [hb, M.wrap_id (by simp only; omega) (by simp only; omega)]
  have hw : IntKind.i64.wrap ((F.begin a.1 now b).1 + F.loadN a.1 now b) = max a.1.next now.first := by
    rw [hN, hb, M.wrap_id (by simp only; omega) (by simp only; omega)]
    simp only; omega
  have hnx := h.next
  have hle : max a.1.next now.first ≤ now.first + (0 : Nat) + now.entries.length := by omega
  obtain ⟨i1, q', i2, i3, i4, i5, i6⟩ := F.ld_ok now.first now.entries 0 (F.loadN a.1 now b) (max a.1.next now.first) a.1.queue (by omega) (by omega) (by omega) hle
  have hR : F.loadR a.1 now b = F.ld now.first 0 (F.loadN a.1 now b) (max a.1.next now.first) a.1.queue now.entries := by
    unfold F.loadR; rw [hw]
  have hz : (F.check now != 0) = false := by simp [c2]
  unfold F.load
  rw [hz, hb]
  simp only [bne_self_eq_false, cond_false]
  cases hq : F.lt 2000 (F.loadR a.1 now b).2.2.2.length
  · right
    refine ⟨rfl, ?_⟩
    simp only [cond_false]
    have hlw : IntKind.i64.wrap (a.1.lost + F.loadN a.1 now b) = a.1.lost + max 0 (now.first - a.1.next) := by
      rw [hN, M.wrap_id (by have := h.nn; omega) (by omega)]
    have hs := h.sum
    have hnn := h.nn
    have hql : (F.loadR a.1 now b).2.2.2.length ≤ 2000 := by
      simp only [F.lt, decide_eq_false_iff_not] at hq; omega
    rw [hR] at hql
    rw [hR, hlw]
    refine ⟨h.bk, ⟨hnn.1, hnn.2.1, by simp only; omega⟩, rfl, F.rel_self c2, ?_, ?_, ?_, ?_, hql, ?_, by simp only [i1]; have := h.ln; omega⟩
    · simp only [i1]; omega
    · simp only [i1, i2, List.length_append]; omega
    · simp only [i1, i2]
      intro x hx
      rcases List.mem_append.1 hx with hx | hx
      · have := h.inc x hx; omega
      · have h1 := i4 x hx
        have := h.ln
        omega
    · simp only [i2]
      rw [List.pairwise_append]
      exact ⟨h.pw, i5, fun x hx y hy => by have := h.inc x hx; have := i4 y hy; omega⟩
    · simp only [i2, F.qOK, List.all_append, Bool.and_eq_true]
      refine ⟨h.qo, List.all_eq_true.2 fun x hx => ?_⟩
      obtain ⟨e, he, hh⟩ := i6 x hx
      rw [hh]
      exact decide_eq_true (F.room_mem c2 he)
  · left
    rfl

theorem F.PI.start {l : Lst} {b : Int} (h : (F.load F.noC l b).2 = 0) : (F.load F.noC l b).1.next - (F.load F.noC l b).1.queue.length = IntKind.i64.wrap ((F.load F.noC l b).1.next - (F.load F.noC l b).1.queue.length) ∧
    F.PI ((F.load F.noC l b).1.next - (F.load F.noC l b).1.queue.length) b l ((F.load F.noC l b).1, IntKind.i64.wrap (IntKind.i64.wrap ((F.load F.noC l b).1.next - (F.load F.noC l b).1.queue.length) - 1), 0) := by
  have hz : (F.check l != 0) = false := by
    cases hh : F.check l != 0
    · rfl
    · unfold F.load at h
      rw [hh] at h
      simp only [cond_true] at h
      rw [h] at hh
      cases hh
  have c2 : F.check l = 0 := by simpa using hz
  have hb0 : (F.begin F.noC l b).2 = 0 := by
    cases hh : (F.begin F.noC l b).2 != 0
    · simpa using hh
    · unfold F.load at h
      rw [hz, hh] at h
      simp only [cond_true, cond_false] at h
      exact h
  have hcl : (F.cliF F.noC b != 0) = false := by
    cases hh : F.cliF F.noC b != 0
    · rfl
    · unfold F.begin at hb0
      rw [hh] at hb0
      simp only [cond_true] at hb0
      rw [hb0] at hh
      cases hh
  obtain ⟨k1, k2, k3, k4⟩ := F.cliF_ok hcl
  have hbo : F.out b 0 1000000000000000 = false := by simp [F.out]; omega
  have hfr : ((F.noC.next != 0) || (F.noC.lost != 0) || F.lt 0 F.noC.queue.length || !F.sameL F.noC.last F.noL) = false := by
    have : F.sameL F.noC.last F.noL = true := F.sameL_refl _
    rw [this]
    rfl
  have hb1 : F.begin F.noC l b = (IntKind.i64.wrap (l.first + (F.start l b).1), (F.start l b).2.2) := by
    unfold F.begin
    rw [hcl, hfr]
    rfl
  have hne : l.entries.isEmpty = false := by
    cases hh : l.entries.isEmpty
    · rfl
    · rw [hb1] at hb0
      unfold F.start at hb0
      rw [hbo, hh] at hb0
      cases hb0
  have hs : F.start l b = (F.startI l b, F.startP l b, 0) := by unfold F.start; rw [hbo, hne]; rfl
  obtain ⟨s1, s2⟩ := F.startI_range c2 hbo hne
  obtain ⟨n1, n2, _, n3, n4⟩ := F.check_ok c2
  have en := F.endN_eq c2
  have hw1 : IntKind.i64.wrap (l.first + F.startI l b) = l.first + F.startI l b := M.wrap_id (by omega) (by omega)
  rw [hs, hw1] at hb1
  have hN : F.loadN F.noC l b = 0 := by
    unfold F.loadN
    rw [hb1, M.wrap_id (by simp only; omega) (by simp only; omega)]
    simp only; omega
  have hw : IntKind.i64.wrap ((F.begin F.noC l b).1 + F.loadN F.noC l b) = l.first + F.startI l b := by
    rw [hN, hb1, M.wrap_id (by simp only; omega) (by simp only; omega)]
    simp only; omega
  obtain ⟨i1, q', i2, i3, i4, i5, i6⟩ := F.ld_ok l.first l.entries 0 (F.loadN F.noC l b) (l.first + F.startI l b) [] (by omega) (by omega) (by omega) (by omega)
  have hR : F.loadR F.noC l b = F.ld l.first 0 (F.loadN F.noC l b) (l.first + F.startI l b) [] l.entries := by
    unfold F.loadR; rw [hw]; rfl
  have hq : F.lt 2000 (F.loadR F.noC l b).2.2.2.length = false := by
    rw [hR, i2, List.nil_append]
    simp only [F.lt, decide_eq_false_iff_not]; omega
  have hL : F.load F.noC l b = (⟨true, (F.loadR F.noC l b).2.2.1, l, (F.loadR F.noC l b).2.2.2, 0⟩, 0) := by
    unfold F.load
    rw [hz, hb0, hq, hN]
    rfl
  rw [List.nil_append] at i2
  rw [hL, hR, i1, i2]
  simp only
  have hl' : l.first + ((0 : Nat) : Int) + l.entries.length - (q'.length : Int) = l.first + F.startI l b := by omega
  rw [hl']
  have hw2 : IntKind.i64.wrap (l.first + F.startI l b) = l.first + F.startI l b := hw1
  rw [hw2, M.wrap_id (n := l.first + F.startI l b - 1) (by omega) (by omega)]
  refine ⟨rfl, k3, by simp only; omega, rfl, F.rel_self c2, by simp only; omega, by simp only; omega, ?_, i5, by simp only; omega, ?_, by simp only; omega⟩
  · intro x hx
    have := i4 x hx
    simp only; omega
  · simp only [F.qOK]
    refine List.all_eq_true.2 fun x hx => ?_
    obtain ⟨e, he, hh⟩ := i6 x hx
    rw [hh]
    exact decide_eq_true (F.room_mem c2 he)

end Go.Proofs.Ytkfhfjcgegimbaa
