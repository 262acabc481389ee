/- What is proved here: what the law that states are there returns on plain data (no statement of the seat). -/
import Derived.Test.YtnkaadiofjoacaaB7
namespace Go.Proofs.Ytnkaadiofjoacaa
open Go Go.RowKit
set_option linter.unusedVariables false
set_option linter.unusedSimpArgs false

/-- The order of bytes. -/
theorem F.cb_refl : ∀ a : List UInt8, Lib.compareBytes a a = 0
  | [] => rfl
  | x :: a => by
    have h : ¬ x < x := UInt8.lt_irrefl x
    simp only [Lib.compareBytes, if_neg h]
    exact F.cb_refl a

theorem F.cb_zero : ∀ {a b : List UInt8}, Lib.compareBytes a b = 0 → a = b
  | [], [], _ => rfl
  | [], _ :: _, h => by simp [Lib.compareBytes] at h
  | _ :: _, [], h => by simp [Lib.compareBytes] at h
  | x :: a, y :: b, h => by
    simp only [Lib.compareBytes] at h
    split at h
    · cases h
    · split at h
      · cases h
      · rename_i h1 h2
        have : x = y := UInt8.le_antisymm (UInt8.not_lt.1 h2) (UInt8.not_lt.1 h1)
        rw [this, F.cb_zero h]

theorem F.cb_trans : ∀ {a b c : List UInt8}, Lib.compareBytes a b = -1 → Lib.compareBytes b c = -1 → Lib.compareBytes a c = -1
  | [], [], _, h, _ => by simp [Lib.compareBytes] at h
  | [], y :: b, [], _, h => by simp [Lib.compareBytes] at h
  | [], y :: b, z :: c, _, _ => rfl
  | _ :: _, [], _, h, _ => by simp [Lib.compareBytes] at h
  | x :: a, y :: b, [], _, h => by simp [Lib.compareBytes] at h
  | x :: a, y :: b, z :: c, h1, h2 => by
    simp only [Lib.compareBytes] at h1 h2 ⊢
    by_cases hxy : x < y
    · by_cases hyz : y < z
      · rw [if_pos (UInt8.lt_trans hxy hyz)]
      · rw [if_neg hyz] at h2
        by_cases hzy : z < y
        · rw [if_pos hzy] at h2; cases h2
        · have : y = z := UInt8.le_antisymm (UInt8.not_lt.1 hzy) (UInt8.not_lt.1 hyz)
          rw [← this, if_pos hxy]
    · rw [if_neg hxy] at h1
      by_cases hyx : y < x
      · rw [if_pos hyx] at h1; cases h1
      · have e : x = y := UInt8.le_antisymm (UInt8.not_lt.1 hyx) (UInt8.not_lt.1 hxy)
        rw [if_neg hyx] at h1
        subst e
        by_cases hyz : x < z
        · rw [if_pos hyz]
        · rw [if_neg hyz] at h2 ⊢
          by_cases hzy : z < x
          · rw [if_pos hzy] at h2; cases h2
          · rw [if_neg hzy] at h2 ⊢
            exact F.cb_trans h1 h2

theorem F.bytes_ext {a b : ByteArray} (h : a.data.toList = b.data.toList) : a = b := by
  cases a; cases b
  simp only [ByteArray.mk.injEq]
  exact Array.ext' h

/-- One beat is before another one. -/
def F.bef (o b : Beat) : Prop := F.cmp o.session b.session = -1 ∨ (o.session = b.session ∧ o.no < b.no ∧ o.time ≤ b.time)

theorem F.bef_trans {a b c : Beat} (h1 : F.bef a b) (h2 : F.bef b c) : F.bef a c := by
  rcases h1 with h1 | ⟨e1, n1, t1⟩ <;> rcases h2 with h2 | ⟨e2, n2, t2⟩
  · exact .inl (F.cb_trans h1 h2)
  · exact .inl (by rw [← e2]; exact h1)
  · exact .inl (by rw [e1]; exact h2)
  · exact .inr ⟨e1.trans e2, by omega, by omega⟩

theorem F.beatF2_ok {o b : Beat} (h : F.beatF2 o b = 0) : F.bef o b ∧ (o.session = b.session → o.state ≠ 5) := by
  unfold F.beatF2 at h
  cases h1' : decide (0 ≤ F.border o b)
  · have h1 : F.border o b < 0 := by simpa using h1'
    cases h2 : F.seq o.session b.session && decide (b.time < o.time)
    · cases h3 : F.seq o.session b.session && (o.state == 5)
      · have hs : o.session = b.session → o.state ≠ 5 := fun e hs => by simp [e, F.seq_refl, hs] at h3
        refine ⟨?_, hs⟩
        unfold F.border at h1
        cases h4 : F.cmp o.session b.session != 0
        · have h4 : F.cmp o.session b.session = 0 := by simpa using h4
          have e := F.bytes_ext (F.cb_zero h4)
          rw [h4] at h1
          simp only [bne_self_eq_false, cond_false] at h1
          refine .inr ⟨e, ?_, ?_⟩
          · by_cases h5 : o.no < b.no
            · exact h5
            · simp only [h5, decide_false, cond_false] at h1
              cases h6 : decide (b.no < o.no) <;> simp [h6] at h1
          · simp [e, F.seq_refl] at h2; omega
        · rw [h4] at h1
          simp only [cond_true] at h1
          rcases M.cmp_range o.session.data.toList b.session.data.toList with h5 | h5 | h5
          · exact .inl h5
          · simp [F.cmp, h5] at h1
          · simp [F.cmp, h5] at h1
      · rw [h1' , h2, h3] at h; simp at h
    · rw [h1', h2] at h; simp at h
  · rw [h1'] at h; simp at h

theorem F.chkB_sorted : ∀ {l : List Beat} {p : Option Beat}, F.chkB p l = 0 → (∀ o, p = some o → ∀ b ∈ l, F.bef o b) ∧ l.Pairwise F.bef ∧ ∀ b ∈ l, F.beatF1 b = 0
  | [], p, _ => ⟨(fun _ _ b hb => by simp at hb), List.Pairwise.nil, (fun b hb => by simp at hb)⟩
  | b :: l, p, h => by
    simp only [F.chkB] at h
    cases h1 : F.beatF1 b != 0
    · rw [h1] at h
      simp only [cond_false] at h
      have h1 : F.beatF1 b = 0 := by simpa using h1
      have key : F.chkB (some b) l = 0 ∧ ∀ o, p = some o → F.bef o b := by
        cases p with
        | none => exact ⟨h, fun o e => by cases e⟩
        | some o =>
          simp only at h
          cases h2 : F.beatF2 o b != 0
          · rw [h2] at h
            exact ⟨h, fun o' e => by cases e; exact (F.beatF2_ok (by simpa using h2)).1⟩
          · rw [h2] at h
            simp only [cond_true] at h
            simp [h] at h2
      obtain ⟨k1, k2, k3⟩ := F.chkB_sorted key.1
      refine ⟨fun o e c hc => ?_, List.pairwise_cons.2 ⟨fun c hc => k1 b rfl c hc, k2⟩, fun c hc => ?_⟩
      · rcases List.mem_cons.1 hc with rfl | hc
        · exact key.2 o e
        · exact F.bef_trans (key.2 o e) (k1 b rfl c hc)
      · rcases List.mem_cons.1 hc with rfl | hc
        · exact h1
        · exact k3 c hc
    · rw [h1] at h
      simp only [cond_true] at h
      simp [h] at h1

theorem F.checkB_sorted {l : List Beat} (h : F.checkB l = 0) : l.Pairwise F.bef ∧ ∀ b ∈ l, F.beatF1 b = 0 := by
  unfold F.checkB at h
  cases hd : decide (3000 < l.length)
  · rw [hd] at h
    exact ⟨(F.chkB_sorted h).2.1, (F.chkB_sorted h).2.2⟩
  · rw [hd] at h; cases h

/-- Spans hold a time. -/
def F.inS (l : List Span) (t : Int) : Bool := l.any fun s => F.le s.fr t && F.lt t s.to

theorem F.set_last {α : Type} (l : List α) (x y : α) : (l ++ [x]).set ((l ++ [x]).length - 1) y = l ++ [y] := by
  simp

theorem F.addSpan_in {l : List Span} {s : Span} (t : Int) (hl : ∀ x ∈ l, x.fr ≤ x.to) (hs : s.fr ≤ s.to) : F.inS (F.addSpan l s) t = (F.inS l t || (F.le s.fr t && F.lt t s.to)) ∧ ∀ x ∈ F.addSpan l s, x.fr ≤ x.to := by
  rcases List.eq_nil_or_concat l with rfl | ⟨i, x, rfl⟩
  · refine ⟨by simp [F.addSpan, F.inS, F.lt], fun y hy => ?_⟩
    simp [F.addSpan, F.lt] at hy
    subst hy; exact hs
  · rw [List.concat_eq_append] at hl ⊢
    have hx := hl x (by simp)
    have hg : (i ++ [x]).getD ((i ++ [x]).length - 1) ⟨0, 0⟩ = x := by simp [List.getD]
    have hlt : F.lt 0 ((i ++ [x]).length : Nat) = true := by simp [F.lt]
    unfold F.addSpan
    rw [hlt, hg, F.set_last]
    cases he : (x.to == s.fr)
    · simp only [Bool.and_false, cond_false]
      refine ⟨by simp [F.inS, Bool.or_assoc], fun y hy => ?_⟩
      simp only [List.mem_append, List.mem_singleton] at hy
      rcases hy with hy | rfl
      · exact hl y (by simpa using hy)
      · exact hs
    · have he : x.to = s.fr := by simpa using he
      simp only [Bool.and_self, cond_true]
      refine ⟨?_, fun y hy => ?_⟩
      · simp only [F.inS, List.any_append, List.any_cons, List.any_nil, Bool.or_false, Bool.or_assoc]
        congr 1
        rw [Bool.eq_iff_iff]
        simp [F.le, F.lt]
        omega
      · simp only [List.mem_append, List.mem_singleton] at hy
        rcases hy with hy | rfl
        · exact hl y (by simp [hy])
        · simp only; omega

theorem F.stays_mem (q : Int) : ∀ {l : List Beat} {s : Stay}, s ∈ F.staysA q [] l → ∃ pre r, l = pre ++ s.beat :: r ∧ s.sp = ⟨s.beat.time, F.endB q s.beat r⟩ ∧ s.beat.state ≠ 5 ∧ s.beat.time < F.endB q s.beat r
  | [], s, h => by simp [F.staysA, M.foldS] at h
  | b :: l, s, h => by
    have h : s ∈ F.staysA q (F.stayS q [] b l) l := h
    rw [F.staysA_app, List.mem_append] at h
    rcases h with h | h
    · unfold F.stayS at h
      cases hc : (b.state != 5) && F.lt b.time (F.endB q b l)
      · rw [hc] at h; simp at h
      · rw [hc] at h
        simp at h
        subst h
        simp [F.lt] at hc
        exact ⟨[], l, rfl, rfl, hc.1, hc.2⟩
    · obtain ⟨pre, r, h1, h2⟩ := F.stays_mem q h
      exact ⟨b :: pre, r, by rw [h1]; rfl, h2⟩

theorem F.there_in (x : ByteArray) (t : Int) : ∀ (ss : List Stay) (acc : List Span), (∀ s ∈ ss, s.sp.fr ≤ s.sp.to) → (∀ s ∈ acc, s.fr ≤ s.to) → F.inS (F.thereA x acc ss) t = (F.inS acc t || F.found (F.stFind x t ss))
  | [], acc, _, _ => by simp [F.thereA, F.stFind, M.findS, F.found]
  | s :: ss, acc, h1, h2 => by
    show F.inS (F.thereA x (F.thereS x acc s) ss) t = _
    have hs := h1 s (by simp)
    have hss : ∀ s ∈ ss, s.sp.fr ≤ s.sp.to := fun y hy => h1 y (by simp [hy])
    simp only [F.stFind, M.findS, F.stP]
    unfold F.thereS
    cases hx : (s.beat.session.toList == x.toList)
    · simp only [cond_false, Bool.false_and]
      exact F.there_in x t ss acc hss h2
    · simp only [cond_true, Bool.true_and]
      obtain ⟨e1, e2⟩ := F.addSpan_in (l := acc) (s := s.sp) t h2 hs
      rw [F.there_in x t ss _ hss e2, e1]
      cases hp : F.le s.sp.fr t && F.lt t s.sp.to
      · simp [F.stFind]
      · simp [F.found]

theorem F.find_some {α : Type} {p : α → List α → Bool} : ∀ {l : List α} {y : α}, M.findS p l = some y → ∃ pre r, l = pre ++ y :: r ∧ p y r = true
  | [], y, h => by simp [M.findS] at h
  | z :: l, y, h => by
    simp only [M.findS] at h
    cases hp : p z l
    · rw [hp] at h
      obtain ⟨pre, r, h1, h2⟩ := F.find_some h
      exact ⟨z :: pre, r, by rw [h1]; rfl, h2⟩
    · rw [hp] at h
      simp at h
      subst h
      exact ⟨[], l, rfl, hp⟩

/-- No beat of the session that is not later has a greater number. -/
theorem F.last_one {l pre r : List Beat} {b : Beat} {q t : Int} (hl : l = pre ++ b :: r) (hs : l.Pairwise F.bef) (ht : t < F.endB q b r) : ∀ y ∈ l, y.session = b.session → b.no < y.no → ¬ y.time ≤ t := by
  intro y hy he hn hle
  subst hl
  rw [List.pairwise_append] at hs
  obtain ⟨_, h2, h3⟩ := hs
  rw [List.pairwise_cons] at h2
  have irr : ∀ {c d : Beat}, c.session = d.session → F.cmp c.session d.session ≠ -1 := by
    intro c d e h
    rw [e] at h
    unfold F.cmp at h
    rw [F.cb_refl] at h
    cases h
  simp only [List.mem_append, List.mem_cons] at hy
  rcases hy with hy | rfl | hy
  · rcases h3 y hy b (by simp) with h | ⟨_, h, _⟩
    · exact irr he h
    · omega
  · omega
  · cases r with
    | nil => simp at hy
    | cons n r =>
      have hbn := h2.1 n (by simp)
      have hbe : F.endB q b (n :: r) ≤ n.time ∨ n.session ≠ b.session := by
        by_cases hne : n.session = b.session
        · left
          simp [F.endB, hne]
          omega
        · exact .inr hne
      have hns : n.session = b.session ∧ n.time ≤ y.time := by
        simp only [List.mem_cons] at hy
        rcases hy with rfl | hy
        · exact ⟨he, Int.le_refl _⟩
        · have hny := (List.pairwise_cons.1 h2.2).1 y hy
          rcases hbn with hbn | ⟨e1, _, _⟩
          · exfalso
            rcases hny with hny | ⟨e2, _, _⟩
            · exact irr (c := b) (d := y) he.symm (F.cb_trans hbn hny)
            · exact irr (c := b) (d := y) he.symm (by rw [← e2]; exact hbn)
          · rcases hny with hny | ⟨e2, _, t2⟩
            · exact absurd hny (irr (e1.symm.trans he.symm))
            · exact ⟨e1.symm, t2⟩
      rcases hbe with h | h
      · omega
      · exact h hns.1

end Go.Proofs.Ytnkaadiofjoacaa
