/- What is proved here: the lines of a text keep its words (no statement of the seat). -/
import Derived.Test.YtniealifncgilaaDoorC30
namespace Go.Proofs.YtniealifncgilaaDoor
open Go Go.RowKit
set_option linter.unusedVariables false
set_option linter.unusedSimpArgs false

/-- The characters of the words from one on up to another one, with blanks between. -/
def F.lgR (ws : List ByteArray) (i k : Nat) : Int := F.lg ((ws.take k).drop i)

theorem F.lgR_self (ws : List ByteArray) (i : Nat) : F.lgR ws i i = -1 := by
  unfold F.lgR
  rw [List.drop_eq_nil_of_le (by rw [List.length_take]; omega)]
  rfl

theorem F.lgR_next {ws : List ByteArray} {i k : Nat} {y : ByteArray} (hi : i ≤ k) (hy : ws[k]? = some y) : F.lgR ws i (k + 1) = F.lgR ws i k + 1 + F.runes y := by
  unfold F.lgR F.lg
  have hlt := M.lt_at hy
  have e : (ws.take (k + 1)).drop i = (ws.take k).drop i ++ [y] := by
    rw [List.take_add_one, hy, List.drop_append_of_le_length (by rw [List.length_take]; omega)]
    rfl
  rw [e, List.map_append, List.sum_append]
  simp
  omega

/-- All words are short. -/
def F.ws1 (ws : List ByteArray) : Prop := ws.length ≤ 1001 ∧ ∀ x ∈ ws, x.size ≤ 1000

theorem F.lgR_bd {ws : List ByteArray} (h : F.ws1 ws) (i k : Nat) : -1 ≤ F.lgR ws i k ∧ F.lgR ws i k ≤ 1002001 := by
  have main : ∀ l : List ByteArray, (∀ x ∈ l, x.size ≤ 1000) → 0 ≤ (l.map fun x => F.runes x + 1).sum ∧ (l.map fun x => F.runes x + 1).sum ≤ 1001 * (l.length : Int) := by
    intro l
    induction l with
    | nil => intro _; simp
    | cons x l ih =>
      intro hx
      have h1 := ih fun y hy => hx y (List.mem_cons_of_mem _ hy)
      have h2 := hx x (List.mem_cons_self ..)
      have h3 := Lib.runeCount_le x
      simp only [List.map_cons, List.sum_cons, List.length_cons]
      unfold F.runes at h1 ⊢
      omega
  have h1 := main ((ws.take k).drop i) fun x hx => h.2 x (List.mem_of_mem_take (List.mem_of_mem_drop hx))
  have h2 : ((ws.take k).drop i).length ≤ 1001 := by
    rw [List.length_drop, List.length_take]
    have := h.1
    omega
  unfold F.lgR F.lg
  omega

/-- A way is one: its line fits, and it leads to a way of one line less. -/
def F.wayG (w : Int) (ws : List ByteArray) (best : List Way) (i : Nat) (y : Way) : Prop :=
  y.lines = 0 ∨ ∃ k : Nat, y.next = k ∧ i < k ∧ k ≤ ws.length ∧ y.lines = (best.getD k default).lines + 1 ∧ 0 ≤ (best.getD k default).lines ∧ (best.getD k default).lines ≤ ((ws.length - k : Nat) : Int) ∧
    (k = ws.length ∨ (best.getD k default).lines ≠ 0) ∧ F.lgR ws i k ≤ w

def F.waysG (w : Int) (ws : List ByteArray) (best : List Way) (j : Nat) : Prop := ∀ i, j ≤ i → i < ws.length → F.wayG w ws best i (best.getD i default)

theorem F.brK_G {w : Int} {ws : List ByteArray} {best : List Way} (hb : best.length = ws.length + 1) (hn : F.ws1 ws) {i : Nat} (hl : ∀ k, i < k → k ≤ ws.length → 0 ≤ (best.getD k default).lines ∧ (best.getD k default).lines ≤ ((ws.length - k : Nat) : Int)) :
    ∀ (m k : Nat) (long : Int) (cur : Way), ws.length - k = m → i ≤ k → k ≤ ws.length → long = F.lgR ws i k → F.wayG w ws best i cur →
    F.wayG w ws best i (F.brK w ((F.brP ws best).drop k) k long cur)
  | 0, k, long, cur, hm, h1, h2, h3, hc => by
    have : (F.brP ws best).drop k = [] := List.drop_eq_nil_of_le (by rw [F.brP_len hb]; omega)
    rw [this]; exact hc
  | m + 1, k, long, cur, hm, h1, h2, h3, hc => by
    have hlt : k < ws.length := by omega
    have hy : ws[k]? = some ws[k] := List.getElem?_eq_getElem hlt
    obtain ⟨b, hbk, hd⟩ := F.brP_at hb hy
    have hnl := hn.1
    have hsz := hn.2 _ (List.mem_of_getElem? hy)
    have hr := Lib.runeCount_le ws[k]
    have hbd := F.lgR_bd hn i k
    have hnx := F.lgR_next h1 hy
    have hrn : F.brN long (F.runes ws[k]) = F.lgR ws i (k + 1) := by
      unfold F.brN
      rw [M.wrap_id (n := 1 + F.runes ws[k]) (by unfold F.runes; omega) (by unfold F.runes; omega), M.wrap_id (by unfold F.runes; omega) (by unfold F.runes; omega), hnx, h3]
      omega
    have hgb : best.getD (k + 1) default = b := M.getD_at hbk
    have hlk := hl (k + 1) (by omega) (by omega)
    rw [hgb] at hlk
    rw [hd, F.brK, hrn]
    cases hw : F.lt w (F.lgR ws i (k + 1))
    · have hw : ¬ w < F.lgR ws i (k + 1) := of_decide_eq_false hw
      simp only [cond_false]
      cases hz : (!((F.brP ws best).drop (k + 1)).isEmpty && (b.lines == 0))
      · simp only [cond_false]
        refine F.brK_G hb hn hl m (k + 1) _ _ (by omega) (by omega) hlt rfl ?_
        unfold F.wayB
        generalize (_ || _ : Bool) = t
        cases t
        · exact hc
        simp only [cond_true]
        right
        have hnx2 : (F.brX w (F.lgR ws i (k + 1)) b k).next = ((k + 1 : Nat) : Int) := M.next_at hlt (by omega)
        have hln : (F.brX w (F.lgR ws i (k + 1)) b k).lines = b.lines + 1 := M.wrap_id (by omega) (by omega)
        refine ⟨k + 1, hnx2, by omega, by omega, by rw [hln, hgb], by rw [hgb]; exact hlk.1, by rw [hgb]; exact hlk.2, ?_, by omega⟩
        by_cases hh : k + 1 < ws.length
        · right
          have hne : ((F.brP ws best).drop (k + 1)).isEmpty = false := by
            have : (F.brP ws best).drop (k + 1) ≠ [] := by
              intro e
              have := congrArg List.length e
              rw [List.length_drop, F.brP_len hb] at this
              simp at this; omega
            simp [this]
          rw [hne] at hz
          rw [hgb]
          intro e
          rw [e] at hz
          simp at hz
        · left; omega
      · simp only [cond_true]
        exact F.brK_G hb hn hl m (k + 1) _ _ (by omega) (by omega) hlt rfl hc
    · exact hc

theorem F.wayG_set {w : Int} {ws : List ByteArray} {best : List Way} {i j : Nat} {x y : Way} (hj : j ≤ i) (h : F.wayG w ws best i y) : F.wayG w ws (best.set j x) i y := by
  rcases h with h | ⟨k, h1, h2, h3⟩
  · exact .inl h
  · have e : (best.set j x).getD k default = best.getD k default := by simp only [List.getD, List.getElem?_set_ne (show j ≠ k by omega)]
    exact .inr ⟨k, h1, h2, by rw [e]; exact h3⟩

theorem F.wayG_lines {w : Int} {ws : List ByteArray} {best : List Way} {i : Nat} {y : Way} (hi : i < ws.length) (h : F.wayG w ws best i y) : 0 ≤ y.lines ∧ y.lines ≤ ((ws.length - i : Nat) : Int) := by
  rcases h with h | ⟨k, h1, h2, h3, h4, h5, h6, _⟩ <;> omega

theorem F.brU_G {w : Int} {ws : List ByteArray} (hn : F.ws1 ws) : ∀ (j : Nat) (best : List Way), best.length = ws.length + 1 → j ≤ ws.length → (∀ i, i < j → (best.getD i default).lines = 0) → (best.getD ws.length default).lines = 0 → F.waysG w ws best j →
    F.waysG w ws (F.brU w ws j best) 0 ∧ ((F.brU w ws j best).getD ws.length default).lines = 0
  | 0, best, hb, hj, hz, he, h => ⟨h, he⟩
  | j + 1, best, hb, hj, hz, he, h => by
    rw [F.brU]
    have hset : ∀ x : Way, ∀ i, i ≠ j → (best.set j x).getD i default = best.getD i default := by
      intro x i hi
      simp only [List.getD, List.getElem?_set_ne (Ne.symm hi)]
    have hl : ∀ k, j < k → k ≤ ws.length → 0 ≤ (best.getD k default).lines ∧ (best.getD k default).lines ≤ ((ws.length - k : Nat) : Int) := by
      intro k h1 h2
      by_cases hk : k = ws.length
      · subst hk
        omega
      · exact F.wayG_lines (by omega) (h k (by omega) (by omega))
    have hcur : F.wayG w ws best j (best.getD j default) := .inl (hz j (by omega))
    have hk := F.brK_G (w := w) hb hn (i := j) hl _ j (-1) _ rfl (Nat.le_refl _) (by omega) (F.lgR_self ws j).symm hcur
    refine F.brU_G hn j _ (by rw [List.length_set]; exact hb) (by omega) (fun i hi => by rw [hset _ i (by omega)]; exact hz i (by omega)) (by rw [hset _ _ (by omega)]; exact he) ?_
    intro i hi1 hi2
    by_cases hij : i = j
    · subst hij
      rw [F.set_get (by omega)]
      exact F.wayG_set (Nat.le_refl _) hk
    · rw [hset _ i hij]
      exact F.wayG_set (by omega) (h i (by omega) hi2)

theorem F.ways_G (w : Int) {ws : List ByteArray} (hn : F.ws1 ws) : F.waysG w ws (F.ways w ws) 0 ∧ ((F.ways w ws).getD ws.length default).lines = 0 := by
  have hl : (F.zeroW ws.length).length = ws.length + 1 := by simp [F.zeroW]
  refine F.brU_G hn _ _ hl (Nat.le_refl _) (fun i hi => ?_) ?_ (fun i h1 h2 => by omega)
  · simp [F.zeroW, List.getD, List.getElem?_replicate, show i < ws.length + 1 by omega]
  · simp [F.zeroW, List.getD, List.getElem?_replicate]

/-- The lines from a word on. -/
theorem F.brO_keep {w : Int} {ws : List ByteArray} {best : List Way} (hg : F.waysG w ws best 0) (he : (best.getD ws.length default).lines = 0) (hw : F.waysOK ws.length best 0) :
    ∀ (n i : Nat), ws.length - i = n → i < ws.length → (best.getD i default).lines ≠ 0 →
    F.jl (F.brO ws best ws.length i) = F.jl (ws.drop i) ∧ ((F.brO ws best ws.length i).length : Int) = (best.getD i default).lines ∧ ∀ s ∈ F.brO ws best ws.length i, F.runes s ≤ w := by
  intro n
  induction n using Nat.strongRecOn with
  | ind n ih =>
    intro i hn hi hz
    rcases hg i (Nat.zero_le _) hi with h | ⟨k, h1, h2, h3, h4, h5, h6, h7, h8⟩
    · exact absurd h hz
    rw [F.brO_step hw hi hz h1]
    have hne : (ws.take k).drop i ≠ [] := by
      intro e
      have := congrArg List.length e
      rw [List.length_drop, List.length_take] at this
      simp at this; omega
    have hr : F.runes (F.join ((ws.take k).drop i) F.sp) ≤ w := by
      rw [F.runes_join hne]; exact h8
    have hd : ws.drop i = (ws.take k).drop i ++ ws.drop k := by
      conv => lhs; rw [← List.take_append_drop k ws]
      rw [List.drop_append_of_le_length (by rw [List.length_take]; omega)]
    by_cases hk : k = ws.length
    · subst hk
      rw [F.brO_end]
      refine ⟨?_, ?_, ?_⟩
      · simp only [F.jl, List.map_cons, List.map_nil, Lib.join_one, List.take_length]
        rfl
      · rw [h4, he]; rfl
      · intro s hs
        rcases List.mem_cons.1 hs with rfl | hs
        · exact hr
        · cases hs
    · obtain ⟨j1, j2, j3⟩ := ih (ws.length - k) (by omega) k rfl (by omega) (h7.resolve_left hk)
      have hon : F.brO ws best ws.length k ≠ [] := by
        intro e
        rw [e] at j2
        exact h7.resolve_left hk (by rw [← j2]; rfl)
      refine ⟨?_, ?_, ?_⟩
      · rw [F.jl_cons hon, j1, hd, F.jl_app hne (by
          intro e
          have := congrArg List.length e
          rw [List.length_drop] at this
          simp at this; omega)]
        rfl
      · rw [h4, List.length_cons, ← j2]
        push_cast
        rfl
      · intro s hs
        rcases List.mem_cons.1 hs with rfl | hs
        · exact hr
        · exact j3 s hs

theorem M.F_ne {x : Int} (h : x ≠ 0) : (x == 0) = false := by simpa using h

theorem F.lt_no {a b : Int} (h : ¬ a < b) : F.lt a b = false := decide_eq_false h

theorem F.brk_no {s : ByteArray} {w r : Int} (h : (F.brk s w r).2 ≠ 0) : (F.brk s w r).1 = [] := by
  unfold F.brk at h ⊢
  cases h1 : F.out w 1 200
  case true => rfl
  cases h2 : F.out r 1 15
  case true => rfl
  cases h3 : F.clean s
  case false => rfl
  cases h4 : F.cont s F.sp2
  case true => rfl
  cases h5 : F.lt 1000 s.size
  case true => rfl
  simp only [h1, h2, h3, h4, h5, cond_false, Bool.not_true] at h ⊢
  unfold F.brkB at h ⊢
  cases h6 : (F.way0 w s).lines == 0
  case true => rfl
  cases h7 : F.lt r (F.way0 w s).lines
  case true => rfl
  rw [h6, h7] at h
  exact absurd rfl h

theorem F.brk_yes {s : ByteArray} {w r : Int} (h : (F.brk s w r).2 = 0) : F.join (F.brk s w r).1 F.sp = s ∧ ((F.brk s w r).1.length : Int) ≤ r ∧ 1 ≤ (F.brk s w r).1.length ∧ r ≤ 15 ∧ (∀ x ∈ (F.brk s w r).1, F.runes x ≤ w) ∧ (∀ q : Int, 1 ≤ q → q < ((F.brk s w r).1.length : Int) → (F.brk s w q).2 = 17) ∧ s.size ≤ 1000 := by
  unfold F.brk at h ⊢
  cases h1 : F.out w 1 200
  case true => rw [h1] at h; cases h
  cases h2 : F.out r 1 15
  case true => rw [h1, h2] at h; cases h
  cases h3 : F.clean s
  case false => rw [h1, h2, h3] at h; cases h
  cases h4 : F.cont s F.sp2
  case true => rw [h1, h2, h3, h4] at h; cases h
  cases h5 : F.lt 1000 s.size
  case true => rw [h1, h2, h3, h4, h5] at h; cases h
  simp only [h1, h2, h3, h4, h5, cond_false, Bool.not_true] at h ⊢
  have hs : s.size ≤ 1000 := by
    have := of_decide_eq_false h5; omega
  have hr : r ≤ 15 := by
    unfold F.out at h2
    simp at h2
    omega
  cases h6 : (F.way0 w s).lines == 0
  case true => unfold F.brkB at h; rw [h6] at h; cases h
  cases h7 : F.lt r (F.way0 w s).lines
  case true => unfold F.brkB at h; rw [h6, h7] at h; cases h
  have h6 : (F.way0 w s).lines ≠ 0 := by simpa using h6
  have h7 : ¬ r < (F.way0 w s).lines := of_decide_eq_false h7
  have hw1 : F.ws1 (F.split s F.sp) := ⟨(F.words_len s hs).2, fun x hx => Nat.le_trans (F.split_size hx) hs⟩
  have hl1 := (F.words_len s hs).1
  obtain ⟨g1, g2⟩ := F.ways_G w hw1
  obtain ⟨o1, o2⟩ := F.ways_ok w (ws := F.split s F.sp) (by have := hw1.1; omega)
  obtain ⟨k1, k2, k3⟩ := F.brO_keep g1 g2 o2 _ 0 rfl (by omega) h6
  have hE : F.brkB s w r = (F.brO (F.split s F.sp) (F.ways w (F.split s F.sp)) (F.split s F.sp).length 0, 0) := by
    unfold F.brkB
    rw [M.F_ne h6, F.lt_no h7]
    rfl
  rw [hE]
  have k2 : ((F.brO (F.split s F.sp) (F.ways w (F.split s F.sp)) (F.split s F.sp).length 0).length : Int) = (F.way0 w s).lines := k2
  refine ⟨?_, by simp only; omega, by simp only; omega, hr, k3, fun q hq1 hq2 => ?_, hs⟩
  · apply ByteArray.ext
    apply Array.ext'
    show F.jl _ = _
    rw [k1, List.drop_zero, ← F.join_jl, F.join_split]
  · have h2q : F.out q 1 15 = false := by
      simp only at hq2
      unfold F.out
      simp
      omega
    rw [h2q]
    simp only [cond_false]
    unfold F.brkB
    have : F.lt q (F.way0 w s).lines = true := decide_eq_true (by simp only at hq2; omega)
    rw [this, M.F_ne h6]
    rfl

end Go.Proofs.YtniealifncgilaaDoor
