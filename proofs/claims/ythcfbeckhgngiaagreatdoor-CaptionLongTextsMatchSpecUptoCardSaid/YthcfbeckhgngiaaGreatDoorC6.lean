/- What is proved here: how a text is broken into lines by the program: the lines, and the one simple thing that the laws ask (no statement of the seat). -/
import Derived.Test.YthcfbeckhgngiaaGreatDoorC5
namespace Go.Proofs.YthcfbeckhgngiaaGreatDoor
open Go Go.RowKit
set_option linter.unusedVariables false
set_option linter.unusedSimpArgs false

def F.sp : ByteArray := ⟨⟨[32]⟩⟩

/-- The lines of words, from one on. -/
def F.brO (ws : List ByteArray) (best : List Way) : Nat → Nat → List ByteArray
  | 0, _ => []
  | f + 1, i => bif decide (i < ws.length) then F.join ((ws.take (best.getD i default).next.toNat).drop i) F.sp :: F.brO ws best f (best.getD i default).next.toNat else []

/-- A way leads on. -/
def F.wayOK (n : Nat) (best : List Way) (i : Nat) (y : Way) : Prop := y.lines = 0 ∨ ((i : Int) < y.next ∧ y.next ≤ n ∧ (y.next = n ∨ (best.getD y.next.toNat default).lines ≠ 0))

def F.waysOK (n : Nat) (best : List Way) (j : Nat) : Prop := ∀ i, j ≤ i → i < n → F.wayOK n best i (best.getD i default)

theorem F.brK_ok {w : Int} {ws : List ByteArray} {best : List Way} (hb : best.length = ws.length + 1) (hn : ws.length ≤ 100000) {i : Nat} : ∀ (m k : Nat) (long : Int) (cur : Way), ws.length - k = m → i ≤ k → k ≤ ws.length → F.wayOK ws.length best i cur →
    F.wayOK ws.length best i (F.brK w ((F.brP ws best).drop k) k long cur)
  | 0, k, long, cur, hm, h1, h2, hc => by
    have : (F.brP ws best).drop k = [] := List.drop_eq_nil_of_le (by rw [F.brP_len hb]; omega)
    rw [this]; exact hc
  | m + 1, k, long, cur, hm, h1, h2, hc => by
    have hlt : k < ws.length := by omega
    obtain ⟨b, hbk, hd⟩ := F.brP_at hb (List.getElem?_eq_getElem hlt)
    rw [hd, F.brK]
    cases F.lt w (F.brN long (F.runes ws[k]))
    · simp only [cond_false]
      cases hz : (!((F.brP ws best).drop (k + 1)).isEmpty && (b.lines == 0))
      · simp only [cond_false]
        refine F.brK_ok hb hn m (k + 1) _ _ (by omega) (by omega) hlt ?_
        unfold F.wayB
        generalize (_ || _ : Bool) = t
        cases t
        · exact hc
        simp only [cond_true]
        right
        have hnx : (F.brX w (F.brN long (F.runes ws[k])) b k).next = ((k + 1 : Nat) : Int) := M.next_at hlt (by omega)
        rw [hnx]
        refine ⟨by omega, by omega, ?_⟩
        by_cases hh : k + 1 < ws.length
        · right
          have hne : ((F.brP ws best).drop (k + 1)).isEmpty = false := by
            have : (F.brP ws best).drop (k + 1) ≠ [] := by
              intro e
              have := congrArg List.length e
              rw [List.length_drop, F.brP_len hb] at this
              simp at this; omega
            simp [this]
          rw [hne] at hz
          rw [Int.toNat_natCast, M.getD_at hbk]
          intro e
          rw [e] at hz
          simp at hz
        · left; omega
      · simp only [cond_true]
        exact F.brK_ok hb hn m (k + 1) _ _ (by omega) (by omega) hlt hc
    · exact hc

theorem F.brU_ok {w : Int} {ws : List ByteArray} (hn : ws.length ≤ 100000) : ∀ (j : Nat) (best : List Way), best.length = ws.length + 1 → j ≤ ws.length → (∀ i, i < j → (best.getD i default).lines = 0) → F.waysOK ws.length best j → F.waysOK ws.length (F.brU w ws j best) 0
  | 0, best, hb, hj, hz, h => h
  | j + 1, best, hb, hj, hz, h => by
    rw [F.brU]
    have hset : ∀ x : Way, ∀ i, i ≠ j → (best.set j x).getD i default = best.getD i default := by
      intro x i hi
      simp only [List.getD, List.getElem?_set_ne (Ne.symm hi)]
    refine F.brU_ok hn j _ (by rw [List.length_set]; exact hb) (by omega) (fun i hi => by rw [hset _ i (by omega)]; exact hz i (by omega)) ?_
    intro i hi1 hi2
    have hcur : F.wayOK ws.length best j (best.getD j default) := .inl (hz j (by omega))
    have hk := F.brK_ok (w := w) hb hn (i := j) _ j (-1) _ rfl (Nat.le_refl _) (by omega) hcur
    have tr : ∀ y : Way, j < y.next → y.next ≤ ws.length → (y.next = ws.length ∨ (best.getD y.next.toNat default).lines ≠ 0) → ∀ x : Way, (y.next = ws.length ∨ ((best.set j x).getD y.next.toNat default).lines ≠ 0) := by
      intro y h1 h2 h3 x
      rcases h3 with h3 | h3
      · exact .inl h3
      · right; rw [hset x _ (by omega)]; exact h3
    by_cases he : i = j
    · subst he
      rw [F.set_get (by omega)]
      rcases hk with h1 | ⟨h1, h2, h3⟩
      · exact .inl h1
      · exact .inr ⟨h1, h2, tr _ h1 h2 h3 _⟩
    · rw [hset _ i he]
      rcases h i (by omega) hi2 with h1 | ⟨h1, h2, h3⟩
      · exact .inl h1
      · exact .inr ⟨h1, h2, tr _ (by omega) h2 h3 _⟩

def F.zeroW (n : Nat) : List Way := List.replicate (n + 1) ⟨0, 0, 0⟩

def F.ways (w : Int) (ws : List ByteArray) : List Way := F.brU w ws ws.length (F.zeroW ws.length)

theorem F.ways_ok (w : Int) {ws : List ByteArray} (hn : ws.length ≤ 100000) : (F.ways w ws).length = ws.length + 1 ∧ F.waysOK ws.length (F.ways w ws) 0 := by
  have hl : (F.zeroW ws.length).length = ws.length + 1 := by simp [F.zeroW]
  refine ⟨by rw [F.ways, F.brU_len, hl], F.brU_ok hn _ _ hl (Nat.le_refl _) (fun i hi => ?_) (fun i h1 h2 => by omega)⟩
  simp [F.zeroW, List.getD, List.getElem?_replicate, show i < ws.length + 1 by omega]

/-- The sizes of words, with blanks between. -/
def F.sizes (ws : List ByteArray) : Nat := (ws.map fun s => s.size + 1).sum

theorem F.inter_le (sep : List UInt8) (hs : sep.length = 1) : ∀ l : List (List UInt8), (Lib.join l sep).length ≤ (l.map fun x => x.length + 1).sum
  | [] => by simp [Lib.join, List.intercalate]
  | [x] => by rw [Lib.join_one]; simp
  | x :: y :: l => by
    have ih := F.inter_le sep hs (y :: l)
    have e : Lib.join (x :: y :: l) sep = x ++ sep ++ Lib.join (y :: l) sep := by
      simp [Lib.join, List.intercalate, List.intersperse]
    rw [e]
    simp only [List.length_append, List.map_cons, List.sum_cons] at ih ⊢
    omega

theorem F.sum_sub : ∀ (ws : List ByteArray) (a b : Nat), F.sizes ((ws.take a).drop b) ≤ F.sizes ws := by
  have h1 : ∀ (ws : List ByteArray) (b : Nat), F.sizes (ws.drop b) ≤ F.sizes ws := by
    intro ws
    induction ws with
    | nil => intro b; simp [F.sizes]
    | cons x l ih =>
      intro b
      cases b with
      | zero => simp
      | succ b =>
        have := ih b
        simp only [List.drop_succ_cons, F.sizes, List.map_cons, List.sum_cons] at this ⊢
        omega
  have h2 : ∀ (ws : List ByteArray) (a : Nat), F.sizes (ws.take a) ≤ F.sizes ws := by
    intro ws
    induction ws with
    | nil => intro a; simp [F.sizes]
    | cons x l ih =>
      intro a
      cases a with
      | zero => simp [F.sizes]
      | succ a =>
        have := ih a
        simp only [List.take_succ_cons, F.sizes, List.map_cons, List.sum_cons] at this ⊢
        omega
  intro ws a b
  exact Nat.le_trans (h1 _ b) (h2 ws a)

theorem F.join_le (ws : List ByteArray) : (F.join ws F.sp).size ≤ F.sizes ws := by
  rw [M.join_size]
  have := F.inter_le F.sp.data.toList rfl (ws.map (·.data.toList))
  refine Nat.le_trans this ?_
  unfold F.sizes
  rw [List.map_map]
  apply Nat.le_of_eq
  congr 1

open Classical in
noncomputable def F.waysB (n : Nat) (best : List Way) : Bool := decide (F.waysOK n best 0)

theorem F.waysB_iff {n : Nat} {best : List Way} : F.waysB n best = true ↔ F.waysOK n best 0 := by simp [F.waysB]

def F.ne0 (x : Int) : Bool := !(x == 0)

theorem F.ne0_iff {x : Int} : F.ne0 x = true ↔ x ≠ 0 := by simp [F.ne0]

/-- From a word that has a way, its way leads on. -/
theorem F.way_at {ws : List ByteArray} {best : List Way} (hw : F.waysOK ws.length best 0) {i : Nat} (hi : i < ws.length) (hz : (best.getD i default).lines ≠ 0) : ∃ k : Nat, (best.getD i default).next = k ∧ i < k ∧ k ≤ ws.length ∧ (k = ws.length ∨ (best.getD k default).lines ≠ 0) := by
  rcases hw i (Nat.zero_le _) hi with h | ⟨h1, h2, h3⟩
  · exact absurd h hz
  · refine ⟨(best.getD i default).next.toNat, by omega, by omega, by omega, ?_⟩
    rcases h3 with h3 | h3
    · exact .inl (by omega)
    · exact .inr h3

theorem F.brO_fuel {ws : List ByteArray} {best : List Way} (hw : F.waysOK ws.length best 0) : ∀ (f g i : Nat), (i ≥ ws.length ∨ (best.getD i default).lines ≠ 0) → ws.length - i ≤ f → ws.length - i ≤ g → F.brO ws best f i = F.brO ws best g i := by
  have nil : ∀ (f i : Nat), i ≥ ws.length → F.brO ws best f i = [] := by
    intro f i hi
    cases f with
    | zero => rfl
    | succ f => rw [F.brO, decide_eq_false (by omega)]; rfl
  intro f
  induction f with
  | zero =>
    intro g i _ h1 _
    rw [nil 0 i (by omega), nil g i (by omega)]
  | succ f ih =>
    intro g i hz h1 h2
    by_cases hi : i < ws.length
    · cases g with
      | zero => omega
      | succ g =>
        obtain ⟨k, hk, k1, k2, k3⟩ := F.way_at hw hi (hz.resolve_left (by omega))
        rw [F.brO, F.brO, hk]
        rw [Int.toNat_natCast]
        rw [ih g k (k3.imp (fun e => by omega) id) (by omega) (by omega)]
    · rw [nil _ i (by omega), nil _ i (by omega)]

theorem F.brO_step {ws : List ByteArray} {best : List Way} (hw : F.waysOK ws.length best 0) {i k : Nat} (hi : i < ws.length) (hz : (best.getD i default).lines ≠ 0) (hk : (best.getD i default).next = k) : F.brO ws best ws.length i = F.join ((ws.take k).drop i) F.sp :: F.brO ws best ws.length k := by
  obtain ⟨k', hk', k1, k2, k3⟩ := F.way_at hw hi hz
  have : k' = k := by omega
  subst this
  rw [F.brO_fuel hw ws.length (ws.length + 1) i (.inr hz) (by omega) (by omega), F.brO, decide_eq_true hi, hk, Int.toNat_natCast]
  rfl

theorem F.brO_end {ws : List ByteArray} {best : List Way} (f : Nat) : F.brO ws best f ws.length = [] := by
  cases f with
  | zero => rfl
  | succ f => rw [F.brO, decide_eq_false (by omega)]; rfl

end Go.Proofs.YthcfbeckhgngiaaGreatDoor
