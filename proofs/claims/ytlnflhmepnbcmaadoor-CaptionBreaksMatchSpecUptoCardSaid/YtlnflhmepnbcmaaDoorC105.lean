/- What is proved here: the ways of the program are the least ones by the costs of the reference, on plain data (no statement of the seat). -/
import Derived.Test.YtlnflhmepnbcmaaDoorC103
namespace Go.Proofs.YtlnflhmepnbcmaaDoor
open Go Go.RowKit
set_option linter.unusedVariables false
set_option linter.unusedSimpArgs false
set_option maxHeartbeats 1000000

namespace F

/-- What words take, with a blank each. -/
def wl : List ByteArray → Int
  | [] => 0
  | s :: r => runes s + 1 + wl r

theorem wl_append (a b : List ByteArray) : wl (a ++ b) = wl a + wl b := by
  induction a with
  | nil => simp [wl]
  | cons s r ih => simp only [List.cons_append, wl, ih]; omega

theorem runes_bd (s : ByteArray) : 0 ≤ runes s ∧ runes s ≤ s.size := by
  have := Lib.runeCount_le s
  unfold runes
  omega

theorem wl_bd (l : List ByteArray) : (l.length : Int) ≤ wl l ∧ wl l ≤ sizes l := by
  induction l with
  | nil => simp [wl, sizes]
  | cons s r ih =>
    have := runes_bd s
    simp only [wl, sizes, List.map_cons, List.sum_cons, List.length_cons] at ih ⊢
    omega

theorem lkN_eq : ∀ (l : List ByteArray) (n : Int), n ≤ 1000 → -1000000000 + wl l ≤ n → lkN l n = n - wl l
  | [], n, _, _ => by simp [lkN, wl]
  | s :: r, n, h1, h2 => by
    have hb := runes_bd s
    have hr := wl_bd r
    rw [wl] at h2
    have e : lkS n s = n - (runes s + 1) := by
      unfold lkS
      have e1 : IntKind.i64.wrap (runes s + 1) = runes s + 1 := by rw [IntKind.wrap_i64]; omega
      rw [e1, IntKind.wrap_i64]
      omega
    have ih := lkN_eq r (n - (runes s + 1)) (by omega) (by omega)
    unfold lkN at ih ⊢
    rw [List.foldl_cons, e, ih, wl]
    omega

/-- Words from one on up to another one. -/
def seg (ws : List ByteArray) (i j : Nat) : List ByteArray := (ws.take j).drop i

theorem seg_next {ws : List ByteArray} {i k : Nat} {y : ByteArray} (hi : i ≤ k) (hy : ws[k]? = some y) : seg ws i (k + 1) = seg ws i k ++ [y] := by
  unfold seg
  rw [List.take_add_one, hy]
  have := (List.getElem?_eq_some_iff.1 hy).1
  exact List.drop_append_of_le_length (by rw [List.length_take]; omega)

theorem seg_len {ws : List ByteArray} {i j : Nat} (hj : j ≤ ws.length) : (seg ws i j).length = j - i := by
  unfold seg
  rw [List.length_drop, List.length_take]; omega

theorem seg_self (ws : List ByteArray) (i : Nat) : seg ws i i = [] := by
  unfold seg
  exact List.drop_of_length_le (by rw [List.length_take]; omega)

/-- What the texts of breaks are like. -/
structure Txt (ws : List ByteArray) (w : Int) : Prop where
  w1 : 1 ≤ w
  w2 : w ≤ 200
  n : ws.length ≤ 1001
  sz : sizes ws ≤ 2000000

theorem seg_wl {ws : List ByteArray} {w : Int} (h : Txt ws w) (i j : Nat) : 0 ≤ wl (seg ws i j) ∧ wl (seg ws i j) ≤ 2000000 := by
  have h1 := wl_bd (seg ws i j)
  have h2 := sum_sub ws j i
  have h3 := h.sz
  unfold seg at h1 ⊢
  omega

theorem sq_bd {a b : Int} (h0 : 0 ≤ a) (h1 : a ≤ b) : 0 ≤ a * a ∧ a * a ≤ b * b := ⟨Int.mul_nonneg h0 h0, Int.mul_le_mul h1 h1 h0 (by omega)⟩

theorem lacks_eq {ws : List ByteArray} {w : Int} (h : Txt ws w) (i j : Nat) :
    (w + 1 - wl (seg ws i j) < 0 ∧ lacks ws w i j = far) ∨ (0 ≤ w + 1 - wl (seg ws i j) ∧ lacks ws w i j = (w + 1 - wl (seg ws i j)) * (w + 1 - wl (seg ws i j)) ∧ 0 ≤ lacks ws w i j ∧ lacks ws w i j ≤ 40401) := by
  have hs := seg_wl h i j
  have hw1 := h.w1
  have hw2 := h.w2
  have e1 : IntKind.i64.wrap (w + 1) = w + 1 := by rw [IntKind.wrap_i64]; omega
  have e2 : lkN ((ws.take j).drop i) (w + 1) = w + 1 - wl (seg ws i j) := lkN_eq _ _ (by omega) (by unfold seg at hs; omega)
  unfold lacks
  rw [e1, e2, lkF]
  by_cases hn : w + 1 - wl (seg ws i j) < 0
  · left
    rw [decide_eq_true hn, cond_true]
    exact ⟨hn, rfl⟩
  · right
    rw [decide_eq_false hn, cond_false]
    obtain ⟨q1, q2⟩ := sq_bd (a := w + 1 - wl (seg ws i j)) (b := 201) (by omega) (by omega)
    have e3 : IntKind.i64.wrap ((w + 1 - wl (seg ws i j)) * (w + 1 - wl (seg ws i j))) = (w + 1 - wl (seg ws i j)) * (w + 1 - wl (seg ws i j)) := by
      rw [IntKind.wrap_i64]; omega
    rw [e3]
    exact ⟨by omega, rfl, q1, by omega⟩

theorem cj_far {x z : Nat → Int} {f j : Nat} {a : Int} (h : x j = far) : cj x z f j a = a := by
  cases f with
  | zero => rfl
  | succ f => rw [cj, h, beq_self_eq_true, cond_true]

theorem cz_bd {ws : List ByteArray} {w : Int} (h : Txt ws w) : ∀ (k i : Nat), 0 ≤ cz ws w k i ∧ cz ws w k i ≤ far := by
  intro k
  induction k with
  | zero =>
    intro i
    rw [cz]
    cases i == ws.length <;> simp only [cond_true, cond_false, far] <;> omega
  | succ k ih =>
    intro i
    rw [cz]
    have key : ∀ (f j : Nat) (a : Int), 0 ≤ a → a ≤ far → 0 ≤ cj (fun j => lacks ws w i j) (fun j => cz ws w k j) f j a ∧ cj (fun j => lacks ws w i j) (fun j => cz ws w k j) f j a ≤ far := by
      intro f
      induction f with
      | zero => intro j a h1 h2; exact ⟨h1, h2⟩
      | succ f ihf =>
        intro j a h1 h2
        rw [cj]
        rcases lacks_eq h i j with ⟨_, e⟩ | ⟨_, _, e1, e2⟩
        · rw [e, beq_self_eq_true, cond_true]; exact ⟨h1, h2⟩
        · have hne : (lacks ws w i j == far) = false := beq_eq_false_iff_ne.2 (by unfold far; omega)
          rw [hne, cond_false]
          have hz := ih j
          have hw : IntKind.i64.wrap (lacks ws w i j + cz ws w k j) = lacks ws w i j + cz ws w k j := by rw [IntKind.wrap_i64]; unfold far at hz; omega
          rw [hw]
          exact ihf _ _ (by omega) (by omega)
    exact key _ _ _ (by unfold far; omega) (Int.le_refl _)

theorem cj_next {ws : List ByteArray} {w : Int} (h : Txt ws w) {i j f k : Nat} {a : Int} (hx : lacks ws w i j ≠ far) :
    cj (fun j => lacks ws w i j) (fun j => cz ws w k j) (f + 1) j a = cj (fun j => lacks ws w i j) (fun j => cz ws w k j) f (j + 1) (min a (lacks ws w i j + cz ws w k j)) := by
  rw [cj]
  rcases lacks_eq h i j with ⟨_, e⟩ | ⟨_, _, e1, e2⟩
  · exact absurd e hx
  · have hz := cz_bd h k j
    have hw : IntKind.i64.wrap (lacks ws w i j + cz ws w k j) = lacks ws w i j + cz ws w k j := by rw [IntKind.wrap_i64]; unfold far at hz; omega
    rw [beq_eq_false_iff_ne.2 hx, cond_false, hw]

/-- What a way from a word on is worth. -/
def HJ (ws : List ByteArray) (w : Int) (j : Nat) (b : Way) : Prop :=
  (j ≠ ws.length ∧ b.lines = 0 ∧ ∀ kk, cz ws w kk j = far) ∨
  (∃ L : Nat, b.lines = L ∧ (j = ws.length → L = 0) ∧ (j ≠ ws.length → 1 ≤ L) ∧ L + j ≤ ws.length ∧ (∀ kk, kk < L → cz ws w kk j = far) ∧ cz ws w L j = b.sum ∧ 0 ≤ b.sum ∧ b.sum ≤ (ws.length - j : Nat) * 40401)

/-- The best way so far. -/
def Inv (ws : List ByteArray) (w : Int) (i j : Nat) (cur : Way) (a : Nat → Int) : Prop :=
  (∀ kk, a kk ≤ far) ∧
  ((cur.lines = 0 ∧ ∀ kk, a kk = far) ∨
   (∃ M N : Nat, 1 ≤ M ∧ cur.lines = M ∧ cur.next = N ∧ i < N ∧ N < j ∧ N + (M - 1) ≤ ws.length ∧ (∀ kk, kk + 1 < M → a kk = far) ∧ a (M - 1) = cur.sum ∧ 0 ≤ cur.sum ∧ cur.sum ≤ (ws.length - i : Nat) * 40401 ∧
     lacks ws w i N ≠ far ∧ lacks ws w i N + cz ws w (M - 1) N = cur.sum ∧ (∀ kk, kk + 1 < M → cz ws w kk N = far) ∧ ∀ j', N < j' → j' < j → lacks ws w i j' = far ∨ cur.sum < lacks ws w i j' + cz ws w (M - 1) j'))

theorem inv_skip {ws : List ByteArray} {w : Int} (h : Txt ws w) {i j : Nat} {cur : Way} {a : Nat → Int} (hi : Inv ws w i j cur a) (hx : 0 ≤ lacks ws w i j)
    (hz : ∀ kk, cz ws w kk j = far) : Inv ws w i (j + 1) cur (fun kk => min (a kk) (lacks ws w i j + cz ws w kk j)) := by
  have hn := h.n
  obtain ⟨h1, h2⟩ := hi
  have e : (fun kk => min (a kk) (lacks ws w i j + cz ws w kk j)) = a := by
    funext kk
    have := h1 kk
    rw [hz kk]; omega
  rw [e]
  refine ⟨h1, h2.imp (fun x => x) ?_⟩
  rintro ⟨M, N, g1, g2, g3, g4, g5, g6, g7, g8, g9, g10, g11, g12, g14, g13⟩
  refine ⟨M, N, g1, g2, g3, g4, by omega, g6, g7, g8, g9, g10, g11, g12, g14, fun j' q1 q2 => ?_⟩
  by_cases e2 : j' = j
  · subst e2
    right
    rw [hz]
    unfold far
    have : ((ws.length - i : Nat) : Int) * 40401 ≤ 1001 * 40401 := by omega
    omega
  · exact g13 j' q1 (by omega)

theorem inv_step {ws : List ByteArray} {w : Int} (h : Txt ws w) {i j : Nat} {cur b : Way} {a : Nat → Int} (hi : Inv ws w i j cur a) (hij : i < j) (hjn : j ≤ ws.length) (hx0 : 0 ≤ lacks ws w i j) (hx1 : lacks ws w i j ≤ 40401) {L : Nat}
    (hL : b.lines = L) (hLn : L + j ≤ ws.length) (hz : ∀ kk, kk < L → cz ws w kk j = far) (hs : cz ws w L j = b.sum) (hs0 : 0 ≤ b.sum) (hs1 : b.sum ≤ (ws.length - j : Nat) * 40401) :
    Inv ws w i (j + 1) (wayB cur ⟨(L + 1 : Nat), b.sum + lacks ws w i j, j⟩) (fun kk => min (a kk) (lacks ws w i j + cz ws w kk j)) := by
  have hn := h.n
  obtain ⟨h1, h2⟩ := hi
  have hfar : far = 1099511627776 := rfl
  have hsum : b.sum + lacks ws w i j ≤ (ws.length - i : Nat) * 40401 := by
    have : ((ws.length - j : Nat) : Int) * 40401 + 40401 ≤ ((ws.length - i : Nat) : Int) * 40401 := by omega
    omega
  have hbig : ((ws.length - i : Nat) : Int) * 40401 < far := by rw [hfar]; omega
  have hle : ∀ kk, min (a kk) (lacks ws w i j + cz ws w kk j) ≤ far := fun kk => by have := h1 kk; omega
  have take : (cur.lines = 0 ∨ ((L + 1 : Nat) : Int) < cur.lines ∨ (((L + 1 : Nat) : Int) = cur.lines ∧ b.sum + lacks ws w i j ≤ cur.sum)) → (∀ kk, kk < L → a kk = far) → b.sum + lacks ws w i j ≤ a L →
      Inv ws w i (j + 1) ⟨(L + 1 : Nat), b.sum + lacks ws w i j, j⟩ (fun kk => min (a kk) (lacks ws w i j + cz ws w kk j)) := fun _ ha hm => by
    refine ⟨hle, .inr ⟨L + 1, j, by omega, rfl, rfl, hij, by omega, by omega, fun kk hk => ?_, ?_, by simp only; omega, hsum, by rw [hfar]; omega, ?_, fun kk hk => hz kk (by omega), fun j' q1 q2 => by omega⟩⟩
    · have e1 := ha kk (by omega)
      have e2 := hz kk (by omega)
      simp only
      rw [e1, e2]; omega
    · simp only [Nat.add_sub_cancel]
      rw [hs]; omega
    · simp only [Nat.add_sub_cancel]
      rw [hs]; omega
  have keep : ∀ {M N : Nat}, 1 ≤ M → cur.lines = M → cur.next = N → i < N → N < j → N + (M - 1) ≤ ws.length → (∀ kk, kk + 1 < M → a kk = far) → a (M - 1) = cur.sum → 0 ≤ cur.sum → cur.sum ≤ (ws.length - i : Nat) * 40401 →
      lacks ws w i N ≠ far → lacks ws w i N + cz ws w (M - 1) N = cur.sum → (∀ kk, kk + 1 < M → cz ws w kk N = far) → (∀ j', N < j' → j' < j → lacks ws w i j' = far ∨ cur.sum < lacks ws w i j' + cz ws w (M - 1) j') → M ≤ L + 1 → cur.sum < lacks ws w i j + cz ws w (M - 1) j →
      Inv ws w i (j + 1) cur (fun kk => min (a kk) (lacks ws w i j + cz ws w kk j)) := fun {M N} g1 g2 g3 g4 g5 g6 g7 g8 g9 g10 g11 g12 g14 g13 hML hlt => by
    refine ⟨hle, .inr ⟨M, N, g1, g2, g3, g4, by omega, g6, fun kk hk => ?_, ?_, g9, g10, g11, g12, g14, fun j' q1 q2 => ?_⟩⟩
    · have e1 := g7 kk hk
      have e2 := hz kk (by omega)
      simp only
      rw [e1, e2]; omega
    · simp only
      rw [g8]; omega
    · by_cases e : j' = j
      · subst e; exact .inr hlt
      · exact g13 j' q1 (by omega)
  unfold wayB
  rcases h2 with ⟨c0, ca⟩ | ⟨M, N, g1, g2, g3, g4, g5, g6, g7, g8, g9, g10, g11, g12, g14, g13⟩
  · rw [c0, beq_self_eq_true, Bool.true_or, Bool.true_or, cond_true]
    exact take (.inl c0) (fun kk _ => ca kk) (by rw [ca]; omega)
  · have hc0 : (cur.lines == 0) = false := beq_eq_false_iff_ne.2 (by rw [g2]; omega)
    rw [hc0, Bool.false_or]
    simp only [g2]
    by_cases q : L + 1 < M
    · have e1 : lt (((L + 1 : Nat) : Int)) (M : Int) = true := decide_eq_true (by omega)
      rw [e1, Bool.true_or, cond_true]
      exact take (.inr (.inl (by rw [g2]; omega))) (fun kk hk => g7 kk (by omega)) (by rw [g7 L (by omega)]; omega)
    · have e1 : lt (((L + 1 : Nat) : Int)) (M : Int) = false := decide_eq_false (by omega)
      rw [e1, Bool.false_or]
      by_cases q2 : L + 1 = M
      · subst q2
        rw [beq_self_eq_true, Bool.true_and]
        simp only [Nat.add_sub_cancel] at g8 g12 g13
        by_cases q3 : b.sum + lacks ws w i j ≤ cur.sum
        · have e2 : le (b.sum + lacks ws w i j) cur.sum = true := decide_eq_true q3
          rw [e2, cond_true]
          exact take (.inr (.inr ⟨g2.symm, q3⟩)) (fun kk hk => g7 kk (by omega)) (by rw [g8]; exact q3)
        · have e2 : le (b.sum + lacks ws w i j) cur.sum = false := decide_eq_false q3
          rw [e2, cond_false]
          exact keep g1 g2 g3 g4 g5 g6 g7 g8 g9 g10 g11 g12 g14 g13 (by omega) (by simp only [Nat.add_sub_cancel]; rw [hs]; omega)
      · have e2 : (((L + 1 : Nat) : Int) == (M : Int)) = false := beq_eq_false_iff_ne.2 (by omega)
        rw [e2, Bool.false_and, cond_false]
        have e3 := hz (M - 1) (by omega)
        exact keep g1 g2 g3 g4 g5 g6 g7 g8 g9 g10 g11 g12 g14 g13 (by omega) (by rw [e3]; omega)

theorem seg_mono {ws : List ByteArray} {i j : Nat} (hij : i ≤ j) : ∀ d : Nat, j + d ≤ ws.length → wl (seg ws i j) ≤ wl (seg ws i (j + d)) := by
  intro d
  induction d with
  | zero => intro _; exact Int.le_refl _
  | succ d ih =>
    intro h
    have hy : ws[j + d]? = some ws[j + d] := List.getElem?_eq_getElem (by omega)
    have e := seg_next (i := i) (show i ≤ j + d by omega) hy
    have hr := runes_bd ws[j + d]
    have := ih (by omega)
    rw [← Nat.add_assoc, e, wl_append]
    simp only [wl]
    omega

theorem far_mono {ws : List ByteArray} {w : Int} (h : Txt ws w) {i j j' : Nat} (hij : i ≤ j) (hj : j ≤ j') (hn : j' ≤ ws.length) (hf : lacks ws w i j = far) : lacks ws w i j' = far := by
  have hm := seg_mono (ws := ws) hij (j' - j) (by omega)
  rw [show j + (j' - j) = j' by omega] at hm
  rcases lacks_eq h i j with ⟨a1, _⟩ | ⟨_, _, a2, a3⟩
  · rcases lacks_eq h i j' with ⟨_, b2⟩ | ⟨b1, _⟩
    · exact b2
    · omega
  · rw [hf] at a3; unfold far at a3; omega

theorem inv_end {ws : List ByteArray} {w : Int} (h : Txt ws w) {i j : Nat} {cur : Way} {a : Nat → Int} (hij : i ≤ j) (hi : Inv ws w i j cur a) (hf : lacks ws w i j = far) : Inv ws w i (ws.length + 1) cur a := by
  obtain ⟨h1, h2⟩ := hi
  refine ⟨h1, h2.imp (fun x => x) ?_⟩
  rintro ⟨M, N, g1, g2, g3, g4, g5, g6, g7, g8, g9, g10, g11, g12, g14, g13⟩
  refine ⟨M, N, g1, g2, g3, g4, by omega, g6, g7, g8, g9, g10, g11, g12, g14, fun j' q1 q2 => ?_⟩
  by_cases e : j' < j
  · exact g13 j' q1 e
  · exact .inl (far_mono h hij (by omega) (by omega) hf)

theorem brK_inv {ws : List ByteArray} {w : Int} (h : Txt ws w) {best : List Way} (hb : best.length = ws.length + 1) {i : Nat} (hJ : ∀ j, i < j → j ≤ ws.length → HJ ws w j (best.getD j default)) :
    ∀ (m k : Nat) (cur : Way) (a : Nat → Int), ws.length - k = m → i ≤ k → k ≤ ws.length → Inv ws w i (k + 1) cur a →
      Inv ws w i (ws.length + 1) (brK w ((brP ws best).drop k) k (wl (seg ws i k) - 1) cur) (fun kk => cj (fun j => lacks ws w i j) (fun j => cz ws w kk j) (ws.length - k) (k + 1) (a kk)) := by
  intro m
  induction m with
  | zero =>
    intro k cur a hm hik hk hi
    have e : k = ws.length := by omega
    subst e
    have hd : (brP ws best).drop ws.length = [] := List.drop_eq_nil_of_le (by rw [brP_len hb]; exact Nat.le_refl _)
    rw [hd, Nat.sub_self]
    exact hi
  | succ m ih =>
    intro k cur a hm hik hk hi
    have hlt : k < ws.length := by omega
    have hy : ws[k]? = some ws[k] := List.getElem?_eq_getElem hlt
    generalize ws[k] = y at hy
    obtain ⟨b, hbk, hd⟩ := brP_at hb hy
    have hbd : best.getD (k + 1) default = b := M.getD_at hbk
    have hjb := hJ (k + 1) (by omega) hlt
    rw [hbd] at hjb
    have hseg := seg_next hik hy
    have hwl : wl (seg ws i (k + 1)) = wl (seg ws i k) + (runes y + 1) := by rw [hseg, wl_append]; simp [wl]
    have hs1 := seg_wl h i k
    have hs2 := seg_wl h i (k + 1)
    have hry := runes_bd y
    have hw1 := h.w1
    have hw2 := h.w2
    have hN : brN (wl (seg ws i k) - 1) (runes y) = wl (seg ws i (k + 1)) - 1 := by
      unfold brN
      have e1 : IntKind.i64.wrap (1 + runes y) = 1 + runes y := by rw [IntKind.wrap_i64]; omega
      rw [e1, IntKind.wrap_i64]; omega
    rw [hd, brK, hN]
    rcases lacks_eq h i (k + 1) with ⟨q1, q2⟩ | ⟨q1, q2, q3, q4⟩
    · have e1 : lt w (wl (seg ws i (k + 1)) - 1) = true := decide_eq_true (by omega)
      rw [e1, cond_true]
      have e2 : (fun kk => cj (fun j => lacks ws w i j) (fun j => cz ws w kk j) (ws.length - k) (k + 1) (a kk)) = a := by
        funext kk
        exact cj_far (x := fun j => lacks ws w i j) q2
      rw [e2]
      exact inv_end h (by omega) hi q2
    · have e1 : lt w (wl (seg ws i (k + 1)) - 1) = false := decide_eq_false (by omega)
      have hx : lacks ws w i (k + 1) ≠ far := by unfold far; omega
      rw [e1, cond_false]
      have e2 : (fun kk => cj (fun j => lacks ws w i j) (fun j => cz ws w kk j) (ws.length - k) (k + 1) (a kk)) = fun kk => cj (fun j => lacks ws w i j) (fun j => cz ws w kk j) (ws.length - (k + 1)) (k + 1 + 1) (min (a kk) (lacks ws w i (k + 1) + cz ws w kk (k + 1))) := by
        funext kk
        rw [show ws.length - k = ws.length - (k + 1) + 1 by omega, cj_next h hx]
      rw [e2]
      rcases hjb with ⟨j1, j2, j3⟩ | ⟨L, l1, l2, l3, l4, l5, l6, l7, l8⟩
      · have hne : (!((brP ws best).drop (k + 1)).isEmpty) = true := by
          have : (brP ws best).drop (k + 1) ≠ [] := by
            intro e
            have := congrArg List.length e
            rw [List.length_drop, brP_len hb] at this
            simp at this; omega
          simp [this]
        rw [hne, j2, beq_self_eq_true, Bool.and_self, cond_true]
        exact ih (k + 1) cur _ (by omega) (by omega) hlt (inv_skip h hi q3 j3)
      · have hc : (!((brP ws best).drop (k + 1)).isEmpty && (b.lines == 0)) = false := by
          by_cases e : k + 1 = ws.length
          · have : (brP ws best).drop (k + 1) = [] := List.drop_eq_nil_of_le (by rw [brP_len hb]; omega)
            rw [this]; rfl
          · have := l3 e
            rw [beq_eq_false_iff_ne.2 (show b.lines ≠ 0 by omega), Bool.and_false]
        rw [hc, cond_false]
        have hX : brX w (wl (seg ws i (k + 1)) - 1) b k = ⟨(L + 1 : Nat), b.sum + lacks ws w i (k + 1), (k + 1 : Nat)⟩ := by
          have hnn := h.n
          have u1 : IntKind.i64.wrap (b.lines + 1) = ((L + 1 : Nat) : Int) := by rw [l1, IntKind.wrap_i64]; omega
          have u2 : IntKind.i64.wrap (w - (wl (seg ws i (k + 1)) - 1)) = w + 1 - wl (seg ws i (k + 1)) := by rw [IntKind.wrap_i64]; omega
          have u3 : IntKind.i64.wrap ((w + 1 - wl (seg ws i (k + 1))) * (w + 1 - wl (seg ws i (k + 1)))) = lacks ws w i (k + 1) := by rw [← q2, IntKind.wrap_i64]; omega
          have u4 : IntKind.i64.wrap (b.sum + lacks ws w i (k + 1)) = b.sum + lacks ws w i (k + 1) := by rw [IntKind.wrap_i64]; omega
          have u5 : IntKind.i64.wrap ((k : Int) + 1) = ((k + 1 : Nat) : Int) := by rw [IntKind.wrap_i64]; omega
          unfold brX
          rw [u1, u2, u3, u4, u5]
        rw [hX]
        exact ih (k + 1) _ _ (by omega) (by omega) hlt (inv_step h hi (by omega) hlt q3 q4 l1 l4 l5 l6 l7 l8)

/-- Where a way leads. -/
def NX (ws : List ByteArray) (w : Int) (i : Nat) (b : Way) : Prop :=
  b.lines ≠ 0 → ∃ M N : Nat, 1 ≤ M ∧ b.lines = M ∧ b.next = N ∧ i < N ∧ N ≤ ws.length ∧ lacks ws w i N ≠ far ∧ lacks ws w i N + cz ws w (M - 1) N = cz ws w M i ∧ (∀ kk, kk + 1 < M → cz ws w kk N = far) ∧ 
    ∀ j', N < j' → j' ≤ ws.length → lacks ws w i j' = far ∨ cz ws w M i < lacks ws w i j' + cz ws w (M - 1) j'

theorem way_done {ws : List ByteArray} {w : Int} (h : Txt ws w) {best : List Way} (hb : best.length = ws.length + 1) {i : Nat} (hi : i < ws.length) (hJ : ∀ j, i < j → j ≤ ws.length → HJ ws w j (best.getD j default)) :
    HJ ws w i (brK w ((brP ws best).drop i) i (-1) default) ∧ NX ws w i (brK w ((brP ws best).drop i) i (-1) default) := by
  have h0 : Inv ws w i (i + 1) default (fun _ => far) := ⟨fun _ => Int.le_refl _, .inl ⟨rfl, fun _ => rfl⟩⟩
  have hr := brK_inv h hb hJ _ i default _ rfl (Nat.le_refl _) (by omega) h0
  rw [seg_self, show wl [] - 1 = (-1 : Int) from rfl] at hr
  generalize brK w ((brP ws best).drop i) i (-1) default = cur at hr
  have hcz : ∀ kk, cj (fun j => lacks ws w i j) (fun j => cz ws w kk j) (ws.length - i) (i + 1) far = cz ws w (kk + 1) i := fun kk => by rw [cz]
  obtain ⟨r1, r2⟩ := hr
  have hz0 : cz ws w 0 i = far := by rw [cz, beq_eq_false_iff_ne.2 (by omega), cond_false]
  rcases r2 with ⟨c0, ca⟩ | ⟨M, N, g1, g2, g3, g4, g5, g6, g7, g8, g9, g10, g11, g12, g14, g13⟩
  · refine ⟨.inl ⟨by omega, c0, fun kk => ?_⟩, fun hne => absurd c0 hne⟩
    cases kk with
    | zero => exact hz0
    | succ kk => exact (hcz kk).symm.trans (ca kk)
  · have hM : cz ws w M i = cur.sum := by
      simp only at g8
      rw [hcz, Nat.sub_add_cancel g1] at g8
      exact g8
    refine ⟨.inr ⟨M, g2, fun e => by omega, fun _ => g1, by omega, fun kk hk => ?_, hM, g9, g10⟩, fun _ => ⟨M, N, g1, g2, g3, g4, by omega, g11, by rw [hM]; exact g12, g14, fun j' q1 q2 => by rw [hM]; exact g13 j' q1 (by omega)⟩⟩
    cases kk with
    | zero => exact hz0
    | succ kk =>
      exact (hcz kk).symm.trans (g7 kk hk)

theorem brU_hj {ws : List ByteArray} {w : Int} (h : Txt ws w) : ∀ (j : Nat) (best : List Way), best.length = ws.length + 1 → j ≤ ws.length → (∀ i, i < j → best.getD i default = default) →
    (∀ i, j ≤ i → i ≤ ws.length → HJ ws w i (best.getD i default)) → (∀ i, j ≤ i → i < ws.length → NX ws w i (best.getD i default)) →
    (∀ i, i ≤ ws.length → HJ ws w i ((brU w ws j best).getD i default)) ∧ (∀ i, i < ws.length → NX ws w i ((brU w ws j best).getD i default)) := by
  intro j
  induction j with
  | zero => intro best hb hj hz h1 h2; exact ⟨fun i hi => h1 i (Nat.zero_le _) hi, fun i hi => h2 i (Nat.zero_le _) hi⟩
  | succ j ih =>
    intro best hb hj hz h1 h2
    have hset : ∀ x : Way, ∀ i, i ≠ j → (best.set j x).getD i default = best.getD i default := by
      intro x i hi
      simp only [List.getD, List.getElem?_set_ne (Ne.symm hi)]
    obtain ⟨d1, d2⟩ := way_done h hb (i := j) (by omega) (fun i q1 q2 => h1 i (by omega) q2)
    rw [brU, hz j (Nat.lt_succ_self _)]
    refine ih _ (by rw [List.length_set]; exact hb) (by omega) (fun i hi => by rw [hset _ i (by omega)]; exact hz i (by omega)) (fun i q1 q2 => ?_) (fun i q1 q2 => ?_)
    · by_cases e : i = j
      · subst e; rw [set_get (by omega)]; exact d1
      · rw [hset _ i e]; exact h1 i (by omega) q2
    · by_cases e : i = j
      · subst e; rw [set_get (by omega)]; exact d2
      · rw [hset _ i e]; exact h2 i (by omega) q2

theorem ways_hj {ws : List ByteArray} {w : Int} (h : Txt ws w) : (∀ i, i ≤ ws.length → HJ ws w i ((ways w ws).getD i default)) ∧ (∀ i, i < ws.length → NX ws w i ((ways w ws).getD i default)) := by
  have hz : ∀ i, (zeroW ws.length).getD i default = default := fun i => by
    unfold zeroW
    simp only [List.getD, List.getElem?_replicate]
    split <;> rfl
  refine brU_hj h _ _ (by simp [zeroW]) (Nat.le_refl _) (fun i _ => hz i) (fun i q1 q2 => ?_) (fun i q1 q2 => by omega)
  have e : i = ws.length := by omega
  subst e
  rw [hz]
  refine .inr ⟨0, rfl, fun _ => rfl, fun hne => absurd rfl hne, by omega, fun kk hk => by omega, ?_, Int.le_refl _, ?_⟩
  · rw [cz, beq_self_eq_true, cond_true]; rfl
  · show (0 : Int) ≤ _
    omega

/-- The first number of lines that will do. -/
def kf (c : Nat → Int) (R : Nat) : Nat → Nat → Nat
  | 0, k => k
  | f + 1, k => bif decide (k ≤ R) && decide (far ≤ c k) then kf c R f (k + 1) else k

theorem kf_eq {c : Nat → Int} {R L : Nat} (h1 : ∀ k, k < L → far ≤ c k) (h2 : c L < far) : ∀ (f k : Nat), k ≤ L → k + f = R + 1 → k ≤ R + 1 → kf c R f k = min L (R + 1)
  | 0, k, hk, hf, hR => by rw [kf]; omega
  | f + 1, k, hk, hf, hR => by
    rw [kf]
    by_cases e : k = L
    · subst e
      rw [decide_eq_false (show ¬ far ≤ c k by omega), Bool.and_false, cond_false]; omega
    · rw [decide_eq_true (show k ≤ R by omega), decide_eq_true (h1 k (by omega)), Bool.and_self, cond_true]
      exact kf_eq h1 h2 f (k + 1) (by omega) (by omega) (by omega)

theorem kf_none {c : Nat → Int} {R : Nat} (h1 : ∀ k, far ≤ c k) : ∀ (f k : Nat), k + f = R + 1 → kf c R f k = R + 1
  | 0, k, hf => by rw [kf]; omega
  | f + 1, k, hf => by
    rw [kf, decide_eq_true (show k ≤ R by omega), decide_eq_true (h1 k), Bool.and_self, cond_true]
    exact kf_none h1 f (k + 1) (by omega)

def tj (ws : List ByteArray) (w : Int) (k i j : Nat) : Bool := (lacks ws w i j != far) && (IntKind.i64.wrap (lacks ws w i j + cz ws w (k - 1) j) == cz ws w k i)

/-- The last word that a line may go up to. -/
def bj (ws : List ByteArray) (w : Int) (k i : Nat) : Nat → Nat → Nat → Nat
  | 0, _, b => b
  | f + 1, j, b => bj ws w k i f (j + 1) (bif tj ws w k i j then j else b)

theorem bj_none {ws : List ByteArray} {w : Int} {k i : Nat} : ∀ (f j b : Nat), (∀ j', j ≤ j' → j' < j + f → tj ws w k i j' = false) → bj ws w k i f j b = b
  | 0, _, _, _ => rfl
  | f + 1, j, b, h => by
    rw [bj, h j (Nat.le_refl _) (by omega), cond_false]
    exact bj_none f (j + 1) b fun j' q1 q2 => h j' (by omega) (by omega)

theorem bj_last {ws : List ByteArray} {w : Int} {k i N : Nat} (ht : tj ws w k i N = true) : ∀ (f j b : Nat), j ≤ N → N < j + f → (∀ j', N < j' → j' < j + f → tj ws w k i j' = false) → bj ws w k i f j b = N
  | 0, j, b, h1, h2, _ => by omega
  | f + 1, j, b, h1, h2, h3 => by
    rw [bj]
    by_cases e : j = N
    · subst e
      rw [ht, cond_true]
      exact bj_none f (j + 1) j fun j' q1 q2 => h3 j' (by omega) (by omega)
    · exact bj_last ht f (j + 1) _ (by omega) (by omega) fun j' q1 q2 => h3 j' q1 (by omega)

def bjx (ws : List ByteArray) (w : Int) (k i : Nat) : Nat := bj ws w k i (ws.length - i) (i + 1) (i + 1)

/-- The lines, by the reference. -/
def rbO (ws : List ByteArray) (w : Int) : Nat → Nat → Nat → List ByteArray
  | 0, _, _ => []
  | f + 1, i, k => bif decide (i < ws.length) then F.join ((ws.take (bjx ws w k i)).drop i) F.sp :: rbO ws w f (bjx ws w k i) (k - 1) else []

theorem tj_eq {ws : List ByteArray} {w : Int} (h : Txt ws w) (k i j : Nat) : tj ws w k i j = true ↔ lacks ws w i j ≠ far ∧ lacks ws w i j + cz ws w (k - 1) j = cz ws w k i := by
  have hz := cz_bd h (k - 1) j
  have hx : 0 ≤ lacks ws w i j ∧ lacks ws w i j ≤ far := by
    rcases lacks_eq h i j with ⟨_, e⟩ | ⟨_, _, e1, e2⟩
    · rw [e]; unfold far; omega
    · unfold far; omega
  have hw : IntKind.i64.wrap (lacks ws w i j + cz ws w (k - 1) j) = lacks ws w i j + cz ws w (k - 1) j := by rw [IntKind.wrap_i64]; unfold far at hz hx; omega
  unfold tj
  rw [hw]
  simp

theorem way_led {ws : List ByteArray} {w : Int} (h : Txt ws w) {i : Nat} (hi : i < ws.length) (hne : ((ways w ws).getD i default).lines ≠ 0) :
    ∃ M N : Nat, 1 ≤ M ∧ ((ways w ws).getD i default).lines = M ∧ ((ways w ws).getD i default).next = N ∧ i < N ∧ N ≤ ws.length ∧ bjx ws w M i = N ∧ (∀ k, k < M → cz ws w k i = far) ∧ cz ws w M i < far ∧
      (N < ws.length → ((ways w ws).getD N default).lines = (M - 1 : Nat) ∧ ((ways w ws).getD N default).lines ≠ 0) := by
  obtain ⟨hJ, hX⟩ := ways_hj h
  obtain ⟨M, N, n1, n2, n3, n4, n5, n6, n7, n8, n9⟩ := hX i hi hne
  have hn := h.n
  have hJi := hJ i (by omega)
  have hfar : far = 1099511627776 := rfl
  rcases hJi with ⟨_, z, _⟩ | ⟨L, l1, l2, l3, l4, l5, l6, l7, l8⟩
  · exact absurd z hne
  have hLM : L = M := by omega
  subst hLM
  have hc : cz ws w L i < far := by
    rw [l6, hfar]
    have : ((ws.length - i : Nat) : Int) * 40401 ≤ 1001 * 40401 := by omega
    omega
  refine ⟨L, N, n1, n2, n3, n4, n5, ?_, l5, hc, fun hN => ?_⟩
  · unfold bjx
    refine bj_last ((tj_eq h L i N).2 ⟨n6, n7⟩) _ _ _ n4 (by omega) fun j' q1 q2 => ?_
    cases ht : tj ws w L i j'
    · rfl
    · exfalso
      obtain ⟨t1, t2⟩ := (tj_eq h L i j').1 ht
      rcases n9 j' q1 (by omega) with e | e
      · exact t1 e
      · omega
  · have hx : 0 ≤ lacks ws w i N := by
      rcases lacks_eq h i N with ⟨_, e⟩ | ⟨_, _, e1, e2⟩
      · exact absurd e n6
      · exact e1
    rcases hJ N n5 with ⟨_, _, z⟩ | ⟨L', k1, k2, k3, k4, k5, k6, k7, k8⟩
    · have := z (L - 1); omega
    · have e1 : ¬ L - 1 < L' := fun hlt => by have := k5 _ hlt; omega
      have hs : cz ws w L' N < far := by
        rw [k6, hfar]
        have : ((ws.length - N : Nat) : Int) * 40401 ≤ 1001 * 40401 := by omega
        omega
      have e2 : ¬ L' + 1 < L := fun hlt => by have := n8 _ hlt; omega
      have e3 := k3 (by omega)
      exact ⟨by omega, by omega⟩

theorem rbO_eq {ws : List ByteArray} {w : Int} (h : Txt ws w) : ∀ (f i k : Nat), i ≤ ws.length → (i < ws.length → ((ways w ws).getD i default).lines = k ∧ ((ways w ws).getD i default).lines ≠ 0) → brO ws (ways w ws) f i = rbO ws w f i k
  | 0, _, _, _, _ => rfl
  | f + 1, i, k, hi, hk => by
    rw [brO, rbO]
    by_cases e : i < ws.length
    · rw [decide_eq_true e, cond_true, cond_true]
      obtain ⟨q1, q2⟩ := hk e
      obtain ⟨M, N, n1, n2, n3, n4, n5, n6, _, _, n9⟩ := way_led h e q2
      have hM : M = k := by omega
      subst hM
      rw [n3, Int.toNat_natCast, n6, rbO_eq h f N (M - 1) n5 n9]
    · rw [decide_eq_false e, cond_false, cond_false]

def rbrkB (s : ByteArray) (w : Int) (R : Nat) : List ByteArray × Int :=
  bif decide (R < kf (fun k => cz (split s sp) w k 0) R R 1) then ([], 17) else (rbO (split s sp) w (split s sp).length 0 (kf (fun k => cz (split s sp) w k 0) R R 1), 0)

/-- The lines are the same. -/
theorem rbrkB_eq {s : ByteArray} {w : Int} {R : Nat} (h : Txt (split s sp) w) (h0 : 0 < (split s sp).length) : brkB s w R = rbrkB s w R := by
  unfold brkB rbrkB way0
  generalize split s sp = ws at *
  by_cases hz : ((ways w ws).getD 0 default).lines = 0
  · have e1 : ∀ k, far ≤ cz ws w k 0 := fun k => by
      rcases (ways_hj h).1 0 (Nat.zero_le _) with ⟨_, _, z⟩ | ⟨L, l1, l2, l3, _⟩
      · rw [z k]; exact Int.le_refl _
      · have := l3 (by omega); omega
    have e2 := kf_none (c := fun k => cz ws w k 0) (R := R) e1 R 1 (by omega)
    rw [e2, hz, beq_self_eq_true, cond_true, decide_eq_true (show R < R + 1 by omega), cond_true]
  · obtain ⟨M, N, n1, n2, n3, n4, n5, n6, n7, n8, n9⟩ := way_led h h0 hz
    have e2 := kf_eq (c := fun k => cz ws w k 0) (R := R) (L := M) (fun k hk => by rw [n7 k hk]; exact Int.le_refl _) n8 R 1 n1 (by omega) (by omega)
    rw [e2, beq_eq_false_iff_ne.2 hz, cond_false, n2]
    by_cases hR : R < M
    · have e3 : lt (R : Int) (M : Int) = true := decide_eq_true (by omega)
      rw [e3, cond_true, decide_eq_true (show R < min M (R + 1) by omega), cond_true]
    · have e3 : lt (R : Int) (M : Int) = false := decide_eq_false (by omega)
      rw [e3, cond_false, decide_eq_false (show ¬ R < min M (R + 1) by omega), cond_false, show min M (R + 1) = M by omega, rbO_eq h _ 0 M (Nat.zero_le _) fun _ => ⟨n2, hz⟩]

end F
end Go.Proofs.YtlnflhmepnbcmaaDoor
