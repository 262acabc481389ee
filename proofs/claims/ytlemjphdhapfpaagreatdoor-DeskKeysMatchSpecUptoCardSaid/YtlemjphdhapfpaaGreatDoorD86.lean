/- What is proved here: numbers as lists of limbs: their values, sums, differences, products, quotients, on plain data (no statement of the seat). -/
import Derived.Test.YtlemjphdhapfpaaGreatDoorD1
namespace Go.Proofs.YtlemjphdhapfpaaGreatDoor
open Go Go.RowKit
set_option linter.unusedVariables false
set_option linter.unusedSimpArgs false

/-- The number of limbs. -/
def F.vl : List Int → Int
  | [] => 0
  | x :: l => x + 10000 * F.vl l

/-- The limbs of a number. -/
def F.lb (n : Nat) : List Int := if h : n = 0 then [] else ((n % 10000 : Nat) : Int) :: F.lb (n / 10000)
termination_by n
decreasing_by omega

def F.okL (l : List Int) : Prop := ∀ x ∈ l, 0 ≤ x ∧ x ≤ 9999

theorem F.lb_zero : F.lb 0 = [] := by rw [F.lb]; rfl

theorem F.lb_pos {n : Nat} (h : n ≠ 0) : F.lb n = ((n % 10000 : Nat) : Int) :: F.lb (n / 10000) := by rw [F.lb, dif_neg h]

theorem F.vl_lb (n : Nat) : F.vl (F.lb n) = n := by
  induction n using Nat.strongRecOn with
  | ind n ih =>
    by_cases h : n = 0
    · subst h; rw [F.lb_zero]; rfl
    · rw [F.lb_pos h, F.vl, ih (n / 10000) (by omega)]
      omega

theorem F.lb_inj {a b : Nat} (h : F.lb a = F.lb b) : a = b := by
  have := congrArg F.vl h
  rw [F.vl_lb, F.vl_lb] at this
  omega

theorem F.lb_ok (n : Nat) : F.okL (F.lb n) := by
  induction n using Nat.strongRecOn with
  | ind n ih =>
    by_cases h : n = 0
    · subst h; rw [F.lb_zero]; intro x hx; cases hx
    · rw [F.lb_pos h]
      intro x hx
      rcases List.mem_cons.1 hx with rfl | hx
      · omega
      · exact ih (n / 10000) (by omega) x hx

theorem F.vl_nn : ∀ {l : List Int}, F.okL l → 0 ≤ F.vl l
  | [], _ => Int.le_refl _
  | x :: l, h => by
    have h1 := h x (List.mem_cons_self ..)
    have h2 := F.vl_nn (l := l) fun y hy => h y (List.mem_cons_of_mem _ hy)
    rw [F.vl]; omega

/-- Without noughts at the end. -/
def F.trimL : List Int → List Int
  | [] => []
  | x :: l => match F.trimL l with
    | [] => if x = 0 then [] else [x]
    | y :: r => x :: y :: r

theorem F.trimL_eq : ∀ {l : List Int}, F.okL l → F.trimL l = F.lb (F.vl l).toNat
  | [], _ => by rw [F.vl]; exact F.lb_zero.symm
  | x :: l, h => by
    have h1 := h x (List.mem_cons_self ..)
    have h2 : F.okL l := fun y hy => h y (List.mem_cons_of_mem _ hy)
    have h3 := F.vl_nn h2
    have ih := F.trimL_eq h2
    rw [F.trimL, ih, F.vl]
    by_cases hz : (F.vl l).toNat = 0
    · rw [hz, F.lb_zero]
      by_cases hx : x = 0
      · rw [if_pos hx, show (x + 10000 * F.vl l).toNat = 0 by omega, F.lb_zero]
      · rw [if_neg hx, F.lb_pos (by omega), show (x + 10000 * F.vl l).toNat / 10000 = 0 by omega, F.lb_zero]
        simp only [List.cons.injEq, and_true]
        omega
    · rw [F.lb_pos (n := (x + 10000 * F.vl l).toNat) (by omega), show (x + 10000 * F.vl l).toNat / 10000 = (F.vl l).toNat by omega]
      rw [F.lb_pos hz]
      simp only [List.cons.injEq, and_true]
      omega

theorem F.lb_len {k : Nat} : ∀ {n : Nat}, n < 10000 ^ k → (F.lb n).length ≤ k := by
  induction k with
  | zero => intro n h; have : n = 0 := by simpa using h
            subst this; rw [F.lb_zero]; exact Nat.le_refl _
  | succ k ih =>
    intro n h
    by_cases hz : n = 0
    · subst hz; rw [F.lb_zero]; exact Nat.zero_le _
    · rw [F.lb_pos hz, List.length_cons]
      have := ih (n := n / 10000) (by rw [Nat.pow_succ] at h; omega)
      omega

theorem F.lb_ge {k : Nat} : ∀ {n : Nat}, 10000 ^ k ≤ n → k < (F.lb n).length := by
  induction k with
  | zero => intro n h; rw [F.lb_pos (by have : 1 ≤ n := by simpa using h
                                        omega), List.length_cons]; omega
  | succ k ih =>
    intro n h
    have hp : 1 ≤ 10000 ^ k := Nat.one_le_pow _ _ (by decide)
    rw [Nat.pow_succ] at h
    rw [F.lb_pos (by omega), List.length_cons]
    have := ih (n := n / 10000) (by omega)
    omega

/-- A sum of limbs, from a carry on. -/
def F.addL : Int → List Int → List Int → List Int
  | c, [], [] => if 0 < c then [c] else []
  | c, x :: a, [] => (c + x) % 10000 :: F.addL ((c + x) / 10000) a []
  | c, [], y :: b => (c + y) % 10000 :: F.addL ((c + y) / 10000) [] b
  | c, x :: a, y :: b => (c + x + y) % 10000 :: F.addL ((c + x + y) / 10000) a b
termination_by _ a b => a.length + b.length

theorem F.addL_eq : ∀ (k m n c : Nat), m + n ≤ k → c ≤ 1 → F.addL c (F.lb m) (F.lb n) = F.lb (c + m + n) := by
  intro k
  induction k with
  | zero =>
    intro m n c hk hc
    have hm : m = 0 := by omega
    have hn : n = 0 := by omega
    subst hm; subst hn
    rw [F.lb_zero, F.addL]
    by_cases h : c = 0
    · subst h; simp [F.lb_zero]
    · have : c = 1 := by omega
      subst this
      rw [F.lb_pos (by omega), F.lb_zero]; simp
  | succ k ih =>
    intro m n c hk hc
    by_cases hm : m = 0
    · subst hm
      by_cases hn : n = 0
      · subst hn
        exact ih 0 0 c (by omega) hc
      · rw [F.lb_zero, F.lb_pos hn, F.addL]
        have h2 := ih 0 (n / 10000) ((c + n % 10000) / 10000) (by omega) (by omega)
        rw [F.lb_zero] at h2
        rw [F.lb_pos (n := c + 0 + n) (by omega), show (c + 0 + n) / 10000 = (c + n % 10000) / 10000 + 0 + n / 10000 by omega, ← h2]
        congr 1
        omega
    · by_cases hn : n = 0
      · subst hn
        rw [F.lb_zero, F.lb_pos hm, F.addL]
        have h2 := ih (m / 10000) 0 ((c + m % 10000) / 10000) (by omega) (by omega)
        rw [F.lb_zero] at h2
        rw [F.lb_pos (n := c + m + 0) (by omega), show (c + m + 0) / 10000 = (c + m % 10000) / 10000 + m / 10000 + 0 by omega, ← h2]
        congr 1
        omega
      · rw [F.lb_pos hm, F.lb_pos hn, F.addL]
        have h2 := ih (m / 10000) (n / 10000) ((c + m % 10000 + n % 10000) / 10000) (by omega) (by omega)
        rw [F.lb_pos (n := c + m + n) (by omega), show (c + m + n) / 10000 = (c + m % 10000 + n % 10000) / 10000 + m / 10000 + n / 10000 by omega, ← h2]
        congr 1
        omega

/-- A difference of limbs, less a borrow. -/
def F.subL : Int → List Int → List Int → List Int
  | _, [], _ => []
  | c, x :: a, [] => if x - c < 0 then (x - c + 10000) :: F.subL 1 a [] else (x - c) :: F.subL 0 a []
  | c, x :: a, y :: b => if x - c - y < 0 then (x - c - y + 10000) :: F.subL 1 a b else (x - c - y) :: F.subL 0 a b

theorem F.okL_cons {x : Int} {l : List Int} (h1 : 0 ≤ x ∧ x ≤ 9999) (h2 : F.okL l) : F.okL (x :: l) := fun y hy => by
  rcases List.mem_cons.1 hy with rfl | hy
  · exact h1
  · exact h2 y hy

theorem F.okL_nil : F.okL [] := fun y hy => by cases hy

theorem F.subL_eq : ∀ (a b : List Int) (c : Int), F.okL a → F.okL b → b.length ≤ a.length → (c = 0 ∨ c = 1) →
    F.okL (F.subL c a b) ∧ (F.vl (F.subL c a b) = F.vl a - F.vl b - c ∨ F.vl a - F.vl b - c < 0)
  | [], [], c, _, _, _, hc => ⟨by rw [F.subL]; exact F.okL_nil, by
      simp only [F.subL, F.vl]; omega⟩
  | [], y :: b, c, _, _, h, _ => by simp at h
  | x :: a, [], c, ha, hb, _, hc => by
    have h1 := ha x (List.mem_cons_self ..)
    have h2 : F.okL a := fun y hy => ha y (List.mem_cons_of_mem _ hy)
    rw [F.subL]
    by_cases hx : x - c < 0
    · rw [if_pos hx]
      obtain ⟨q1, q2⟩ := F.subL_eq a [] 1 h2 hb (by simp) (.inr rfl)
      refine ⟨F.okL_cons (by omega) q1, ?_⟩
      simp only [F.vl] at q2 ⊢
      omega
    · rw [if_neg hx]
      obtain ⟨q1, q2⟩ := F.subL_eq a [] 0 h2 hb (by simp) (.inl rfl)
      refine ⟨F.okL_cons (by omega) q1, ?_⟩
      simp only [F.vl] at q2 ⊢
      omega
  | x :: a, y :: b, c, ha, hb, h, hc => by
    have h1 := ha x (List.mem_cons_self ..)
    have h2 : F.okL a := fun y hy => ha y (List.mem_cons_of_mem _ hy)
    have h3 := hb y (List.mem_cons_self ..)
    have h4 : F.okL b := fun z hz => hb z (List.mem_cons_of_mem _ hz)
    rw [F.subL]
    by_cases hx : x - c - y < 0
    · rw [if_pos hx]
      obtain ⟨q1, q2⟩ := F.subL_eq a b 1 h2 h4 (by simpa using h) (.inr rfl)
      refine ⟨F.okL_cons (by omega) q1, ?_⟩
      simp only [F.vl] at q2 ⊢
      omega
    · rw [if_neg hx]
      obtain ⟨q1, q2⟩ := F.subL_eq a b 0 h2 h4 (by simpa using h) (.inl rfl)
      refine ⟨F.okL_cons (by omega) q1, ?_⟩
      simp only [F.vl] at q2 ⊢
      omega

theorem F.lb_mono {m n : Nat} (h : m ≤ n) : (F.lb m).length ≤ (F.lb n).length := by
  rcases Nat.eq_zero_or_pos (F.lb m).length with h0 | h0
  · omega
  · obtain ⟨k, hk⟩ : ∃ k, (F.lb m).length = k + 1 := ⟨(F.lb m).length - 1, by omega⟩
    rcases Nat.lt_or_ge m (10000 ^ k) with h1 | h1
    · have := F.lb_len h1; omega
    · have := F.lb_ge (Nat.le_trans h1 h); omega

/-- Differences, without noughts. -/
theorem F.sub_lb {m n : Nat} (h : n ≤ m) : F.trimL (F.subL 0 (F.lb m) (F.lb n)) = F.lb (m - n) := by
  obtain ⟨q1, q2⟩ := F.subL_eq (F.lb m) (F.lb n) 0 (F.lb_ok m) (F.lb_ok n) (F.lb_mono h) (.inl rfl)
  rw [F.vl_lb, F.vl_lb] at q2
  rw [F.trimL_eq q1]
  congr 1
  omega

/-- Limbs of one length, compared from the greatest one down. -/
def F.cmpA : List Int → List Int → Int
  | x :: a, y :: b => if F.cmpA a b ≠ 0 then F.cmpA a b else if x < y then -1 else if y < x then 1 else 0
  | _, _ => 0

def F.cmpL (a b : List Int) : Int := if a.length < b.length then -1 else if b.length < a.length then 1 else F.cmpA a b

def F.sgn (a b : Int) : Int := if a < b then -1 else if b < a then 1 else 0

theorem F.sgn_step {x y p q : Int} (h1 : 0 ≤ x ∧ x ≤ 9999) (h3 : 0 ≤ y ∧ y ≤ 9999) :
    (if F.sgn p q ≠ 0 then F.sgn p q else if x < y then -1 else if y < x then 1 else 0) = F.sgn (x + 10000 * p) (y + 10000 * q) := by
  unfold F.sgn
  by_cases c1 : p < q
  · rw [if_pos c1, if_pos (by decide), if_pos (show x + 10000 * p < y + 10000 * q by omega)]
  · by_cases c2 : q < p
    · rw [if_neg c1, if_pos c2, if_pos (by decide), if_neg (show ¬ x + 10000 * p < y + 10000 * q by omega), if_pos (show y + 10000 * q < x + 10000 * p by omega)]
    · have : p = q := by omega
      subst this
      rw [if_neg c1, if_neg c1, if_neg (by decide)]
      by_cases d1 : x < y
      · rw [if_pos d1, if_pos (by omega)]
      · by_cases d2 : y < x
        · rw [if_neg d1, if_pos d2, if_neg (by omega), if_pos (by omega)]
        · rw [if_neg d1, if_neg d2, if_neg (by omega), if_neg (by omega)]

theorem F.cmpA_eq : ∀ {a b : List Int}, F.okL a → F.okL b → a.length = b.length → F.cmpA a b = F.sgn (F.vl a) (F.vl b)
  | [], [], _, _, _ => rfl
  | x :: a, y :: b, ha, hb, h => by
    have h1 := ha x (List.mem_cons_self ..)
    have h3 := hb y (List.mem_cons_self ..)
    have ih := F.cmpA_eq (a := a) (b := b) (fun z hz => ha z (List.mem_cons_of_mem _ hz)) (fun z hz => hb z (List.mem_cons_of_mem _ hz)) (by simpa using h)
    rw [F.cmpA, ih]
    exact F.sgn_step h1 h3
  | [], y :: b, _, _, h => by simp at h
  | x :: a, [], _, _, h => by simp at h

theorem F.cmp_lb (m n : Nat) : F.cmpL (F.lb m) (F.lb n) = F.sgn m n := by
  unfold F.cmpL
  by_cases h1 : (F.lb m).length < (F.lb n).length
  · have : m < n := Nat.lt_of_not_le fun h => by have := F.lb_mono h; omega
    rw [if_pos h1, F.sgn, if_pos (by omega)]
  · by_cases h2 : (F.lb n).length < (F.lb m).length
    · have : n < m := Nat.lt_of_not_le fun h => by have := F.lb_mono h; omega
      rw [if_neg h1, if_pos h2, F.sgn, if_neg (by omega), if_pos (by omega)]
    · rw [if_neg h1, if_neg h2, F.cmpA_eq (F.lb_ok m) (F.lb_ok n) (by omega), F.vl_lb, F.vl_lb]

/-- Limbs, and x times others, and a carry; what is behind them stays. -/
def F.mrow (x : Int) : Int → List Int → List Int → List Int
  | c, o :: os, y :: b => (o + x * y + c) % 10000 :: F.mrow x ((o + x * y + c) / 10000) os b
  | c, o :: os, [] => (o + c) :: os
  | _, [], _ => []

theorem F.mul_bd {x y : Int} (hx : 0 ≤ x ∧ x ≤ 9999) (hy : 0 ≤ y ∧ y ≤ 9999) : 0 ≤ x * y ∧ x * y ≤ 99980001 := by
  refine ⟨Int.mul_nonneg hx.1 hy.1, ?_⟩
  have h1 : x * y ≤ 9999 * y := Int.mul_le_mul_of_nonneg_right hx.2 hy.1
  omega

theorem F.mrow_eq {x : Int} (hx : 0 ≤ x ∧ x ≤ 9999) : ∀ (b os : List Int) (c : Int), F.okL b → F.okL os → b.length < os.length → (0 ≤ c ∧ c ≤ 9999) →
    F.vl (F.mrow x c os b) = F.vl os + x * F.vl b + c ∧ (F.mrow x c os b).length = os.length
  | [], o :: os, c, _, _, _, _ => by
    rw [F.mrow]
    refine ⟨?_, rfl⟩
    simp only [F.vl, Int.mul_zero]
    omega
  | y :: b, o :: os, c, hb, ho2, h, hc => by
    have h3 := hb y (List.mem_cons_self ..)
    rw [F.mrow]
    have hm := F.mul_bd hx h3
    have ho := ho2 o (List.mem_cons_self ..)
    obtain ⟨q1, q2⟩ := F.mrow_eq hx b os ((o + x * y + c) / 10000) (fun z hz => hb z (List.mem_cons_of_mem _ hz)) (fun z hz => ho2 z (List.mem_cons_of_mem _ hz)) (by simpa using h) (by omega)
    refine ⟨?_, by rw [List.length_cons, q2, List.length_cons]⟩
    simp only [F.vl, q1, Int.mul_add]
    rw [show x * (10000 * F.vl b) = 10000 * (x * F.vl b) by rw [← Int.mul_assoc, Int.mul_comm x 10000, Int.mul_assoc]]
    omega
  | [], [], c, _, _, h, _ => by simp at h
  | y :: b, [], c, _, _, h, _ => by simp at h

/-- Noughts from a place on. -/
def F.zeroFrom (k : Nat) (l : List Int) : Prop := ∀ z ∈ l.drop k, z = 0

theorem F.mrow_ok {x : Int} (hx : 0 ≤ x ∧ x ≤ 9999) : ∀ (b os : List Int) (c : Int), F.okL b → F.okL os → F.zeroFrom b.length os → (0 ≤ c ∧ c ≤ 9999) →
    F.okL (F.mrow x c os b) ∧ F.zeroFrom (b.length + 1) (F.mrow x c os b)
  | [], o :: os, c, _, ho, hz, hc => by
    have h0 : o = 0 := hz o (by simp)
    rw [F.mrow]
    refine ⟨F.okL_cons (by omega) fun z h => ho z (List.mem_cons_of_mem _ h), fun z h => hz z ?_⟩
    exact List.mem_cons_of_mem _ (by simpa using h)
  | y :: b, o :: os, c, hb, ho2, hz, hc => by
    have h3 := hb y (List.mem_cons_self ..)
    have hm := F.mul_bd hx h3
    have ho := ho2 o (List.mem_cons_self ..)
    rw [F.mrow]
    obtain ⟨q1, q2⟩ := F.mrow_ok hx b os ((o + x * y + c) / 10000) (fun z hz => hb z (List.mem_cons_of_mem _ hz)) (fun z hz => ho2 z (List.mem_cons_of_mem _ hz)) (fun z h => hz z (by simpa using h)) (by omega)
    exact ⟨F.okL_cons (by omega) q1, fun z h => q2 z (by simpa using h)⟩
  | [], [], c, _, _, _, _ => by
    rw [F.mrow]
    exact ⟨F.okL_nil, fun z h => by simp at h⟩
  | y :: b, [], c, _, _, _, _ => by
    rw [F.mrow]
    exact ⟨F.okL_nil, fun z h => by simp at h⟩

/-- All rows. -/
def F.mulR (b : List Int) : List Int → List Int → List Int
  | [], out => out
  | x :: a, out => match F.mrow x 0 out b with
    | [] => []
    | o :: os => o :: F.mulR b a os

theorem F.mulR_eq {b : List Int} (hb : F.okL b) : ∀ (a out : List Int), F.okL a → F.okL out → F.zeroFrom b.length out → a.length + b.length ≤ out.length →
    F.okL (F.mulR b a out) ∧ F.vl (F.mulR b a out) = F.vl out + F.vl a * F.vl b ∧ (F.mulR b a out).length = out.length
  | [], out, _, ho, _, _ => by
    rw [F.mulR]
    exact ⟨ho, by rw [F.vl, Int.zero_mul]; omega, rfl⟩
  | x :: a, out, ha, ho, hz, hl => by
    have h1 := ha x (List.mem_cons_self ..)
    rw [List.length_cons] at hl
    obtain ⟨q1, q2⟩ := F.mrow_eq h1 b out 0 hb ho (by omega) (by omega)
    obtain ⟨q3, q4⟩ := F.mrow_ok h1 b out 0 hb ho hz (by omega)
    rw [F.mulR]
    cases hr : F.mrow x 0 out b with
    | nil => rw [hr] at q2; simp at q2; omega
    | cons o os =>
      rw [hr] at q1 q2 q3 q4
      rw [List.length_cons] at q2
      obtain ⟨r1, r2, r3⟩ := F.mulR_eq hb a os (fun z h => ha z (List.mem_cons_of_mem _ h)) (fun z h => q3 z (List.mem_cons_of_mem _ h)) (fun z h => q4 z (by simpa using h)) (by omega)
      refine ⟨F.okL_cons (q3 o (List.mem_cons_self ..)) r1, ?_, by simp only [List.length_cons, r3]; omega⟩
      simp only [F.vl, r2] at q1 ⊢
      rw [Int.add_mul, Int.mul_assoc]
      omega

/-- Products, without noughts. -/
theorem F.mul_lb (m n : Nat) : F.trimL (F.mulR (F.lb n) (F.lb m) (List.replicate ((F.lb m).length + (F.lb n).length) 0)) = F.lb (m * n) := by
  have hz : ∀ k : Nat, F.vl (List.replicate k 0) = 0 := fun k => by
    induction k with
    | zero => rfl
    | succ k ih => rw [List.replicate_succ, F.vl, ih]; rfl
  obtain ⟨q1, q2, q3⟩ := F.mulR_eq (F.lb_ok n) (F.lb m) (List.replicate ((F.lb m).length + (F.lb n).length) 0) (F.lb_ok m)
    (fun x hx => by have := (List.mem_replicate.1 hx).2; omega) (fun x hx => (List.mem_replicate.1 (List.mem_of_mem_drop hx)).2) (by simp)
  rw [F.trimL_eq q1, q2, hz, F.vl_lb, F.vl_lb]
  congr 1
  have : (0 : Int) + (m : Int) * (n : Int) = ((m * n : Nat) : Int) := by rw [Int.natCast_mul]; omega
  rw [this]
  rfl

/-- The number of limbs. -/
def F.nv (l : List Int) : Nat := (F.vl l).toNat

theorem F.nv_lb (n : Nat) : F.nv (F.lb n) = n := by unfold F.nv; rw [F.vl_lb]; rfl

/-- Limbs as they ought to be, no more than so many. -/
def F.nk (k : Nat) (l : List Int) : Bool := decide (F.lb (F.nv l) = l) && decide (l.length ≤ k)

theorem F.nk_of {k : Nat} {l : List Int} (h : F.nk k l = true) : ∃ n, l = F.lb n ∧ n < 10000 ^ k := by
  unfold F.nk at h
  simp only [Bool.and_eq_true, decide_eq_true_eq] at h
  refine ⟨F.nv l, h.1.symm, ?_⟩
  rcases Nat.lt_or_ge (F.nv l) (10000 ^ k) with h1 | h1
  · exact h1
  · have := F.lb_ge h1
    rw [h.1] at this
    omega

theorem F.nk_lb {k n : Nat} (h : n < 10000 ^ k) : F.nk k (F.lb n) = true := by
  unfold F.nk
  rw [F.nv_lb, decide_eq_true rfl, decide_eq_true (F.lb_len h)]
  rfl

theorem F.nk_len {k : Nat} {l : List Int} (h : F.nk k l = true) : l.length ≤ k := by
  unfold F.nk at h
  simp only [Bool.and_eq_true, decide_eq_true_eq] at h
  exact h.2

theorem F.lb_nil {n : Nat} : F.lb n = [] ↔ n = 0 := by
  constructor
  · intro h
    have := congrArg F.nv h
    rw [F.nv_lb] at this
    exact this
  · rintro rfl; exact F.lb_zero

theorem F.lb_emp (n : Nat) : (F.lb n).length = 0 ↔ n = 0 := by rw [List.length_eq_zero_iff, F.lb_nil]

theorem F.lb_one : F.lb 1 = [1] := by rw [F.lb_pos (by decide), show (1 : Nat) / 10000 = 0 by decide, F.lb_zero]; rfl

theorem F.trimL_cons {x r : Nat} (hx : x ≤ 9999) : F.trimL ((x : Int) :: F.lb r) = F.lb (x + 10000 * r) := by
  rw [F.trimL_eq (F.okL_cons (by omega) (F.lb_ok r)), F.vl, F.vl_lb]
  congr 1

/-- Quotients limb by limb, and what is left. -/
def F.dqo (b : Nat) : List Int → List Int × Nat
  | [] => ([], 0)
  | x :: l => ((((x.toNat + 10000 * (F.dqo b l).2) / b : Nat) : Int) :: (F.dqo b l).1, (x.toNat + 10000 * (F.dqo b l).2) % b)

theorem F.dqo_eq {b : Nat} (hb : 0 < b) : ∀ {l : List Int}, F.okL l →
    F.okL (F.dqo b l).1 ∧ F.vl (F.dqo b l).1 = ((F.nv l / b : Nat) : Int) ∧ (F.dqo b l).2 = F.nv l % b ∧ (F.dqo b l).1.length = l.length
  | [], _ => ⟨F.okL_nil, by rw [F.dqo, F.vl, show F.nv [] = 0 from rfl, Nat.zero_div]; rfl, by rw [F.dqo, show F.nv [] = 0 from rfl, Nat.zero_mod], rfl⟩
  | x :: l, h => by
    have h1 := h x (List.mem_cons_self ..)
    have h2 : F.okL l := fun y hy => h y (List.mem_cons_of_mem _ hy)
    obtain ⟨q1, q2, q3, q4⟩ := F.dqo_eq hb h2
    have h3 := F.vl_nn h2
    have hr : (F.dqo b l).2 < b := by rw [q3]; exact Nat.mod_lt _ hb
    have hv : F.nv (x :: l) = x.toNat + 10000 * F.nv l := by unfold F.nv; rw [F.vl]; omega
    have e1 := Nat.div_add_mod (F.nv l) b
    rw [← q3] at e1
    have hd : F.nv (x :: l) = (x.toNat + 10000 * (F.dqo b l).2) + b * (10000 * (F.nv l / b)) := by
      rw [hv, Nat.mul_left_comm]; omega
    have hlt : (x.toNat + 10000 * (F.dqo b l).2) / b < 10000 := by
      rw [Nat.div_lt_iff_lt_mul hb]; omega
    rw [F.dqo]
    refine ⟨F.okL_cons (by generalize (x.toNat + 10000 * (F.dqo b l).2) / b = q at hlt ⊢; omega) q1, ?_, ?_, by simp [q4]⟩
    · show F.vl (_ :: _) = _
      rw [F.vl, q2, hd, Nat.add_mul_div_left _ _ hb]
      omega
    · show _ % b = _
      rw [hd, Nat.add_mul_mod_self_left]

theorem F.dqo_lb {b : Nat} (hb : 0 < b) (a : Nat) : F.trimL (F.dqo b (F.lb a)).1 = F.lb (a / b) ∧ (F.dqo b (F.lb a)).2 = a % b := by
  obtain ⟨q1, q2, q3, q4⟩ := F.dqo_eq hb (F.lb_ok a)
  rw [F.nv_lb] at q2 q3
  refine ⟨?_, q3⟩
  rw [F.trimL_eq q1, q2]; rfl

theorem F.lb_lt {m k n : Nat} (h : n < 10000 ^ m) (hm : m ≤ k) : n < 10000 ^ k := Nat.lt_of_lt_of_le h (Nat.pow_le_pow_right (by decide) hm)

theorem F.mul_lt {m n j k : Nat} (h1 : m < 10000 ^ j) (h2 : n < 10000 ^ k) : m * n < 10000 ^ (j + k) := by
  rw [Nat.pow_add]; exact Nat.mul_lt_mul'' h1 h2

theorem F.add_lt {m n k : Nat} (h1 : m < 10000 ^ k) (h2 : n < 10000 ^ k) : m + n < 10000 ^ (k + 1) := by
  rw [Nat.pow_succ]; omega

/-- The limbs of a whole number kept in order. -/
theorem F.sgn_le (m n : Nat) : decide (F.sgn (m : Int) (n : Int) ≤ 0) = decide (m ≤ n) := by
  unfold F.sgn
  by_cases h : m ≤ n
  · rw [decide_eq_true h]
    by_cases h2 : m < n
    · rw [if_pos (by omega)]; rfl
    · rw [if_neg (by omega), if_neg (by omega)]; rfl
  · rw [decide_eq_false h, if_neg (by omega), if_pos (by omega)]; rfl

theorem F.sgn_ge (m n : Nat) : decide (0 ≤ F.sgn (m : Int) (n : Int)) = decide (n ≤ m) := by
  unfold F.sgn
  by_cases h : n ≤ m
  · rw [decide_eq_true h, if_neg (by omega)]
    by_cases h2 : n < m
    · rw [if_pos (by omega)]; rfl
    · rw [if_neg (by omega)]; rfl
  · rw [decide_eq_false h, if_pos (by omega)]; rfl

theorem F.sgn_eq (m n : Nat) : (F.sgn (m : Int) (n : Int) == 0) = decide (m = n) := by
  unfold F.sgn
  by_cases h : m = n
  · rw [decide_eq_true h, if_neg (by omega), if_neg (by omega)]; rfl
  · rw [decide_eq_false h]
    by_cases h2 : m < n
    · rw [if_pos (by omega)]; rfl
    · rw [if_neg (by omega), if_pos (by omega)]; rfl

theorem F.div_le {b R mid : Nat} (hb : 0 < b) : b * mid ≤ R ↔ mid ≤ R / b := by
  rw [Nat.le_div_iff_mul_le hb, Nat.mul_comm]

end Go.Proofs.YtlemjphdhapfpaaGreatDoor
