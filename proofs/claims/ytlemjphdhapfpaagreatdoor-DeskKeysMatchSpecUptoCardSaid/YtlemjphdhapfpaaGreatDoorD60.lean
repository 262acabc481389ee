/- What is proved here: what numbers of 128 bits are on plain data (no statement of the seat). -/
import Derived.Test.YtlemjphdhapfpaaGreatDoorD1
import Derived.Test.YtlemjphdhapfpaaGreatDoorShelf
import Derived.Shelf.Spec.BitsCarry
import Derived.Handy
import Derived.Shelf.Bits.Mul64
namespace Go.Proofs.YtlemjphdhapfpaaGreatDoor
open Go Go.RowKit
set_option linter.unusedVariables false
set_option linter.unusedSimpArgs false

/-- A number of 128 bits, in two parts. -/
def F.whi (v : Int) : Int := v / 18446744073709551616

def F.wlo (v : Int) : Int := v % 18446744073709551616

theorem F.w_split (v : Int) : v = 18446744073709551616 * F.whi v + F.wlo v := by
  unfold F.whi F.wlo
  omega

theorem ext_add (x y c : Nat) (hc : c ≤ 1) (w : World) :
    (callFunc 86 #[.int .u64 x, .int .u64 y, .int .u64 c]).run Tryz.prog w =
      .ok (.value (.tuple #[.int .u64 (((x + y + c) % 18446744073709551616 : Nat) : Int), .int .u64 (((x + y + c) / 18446744073709551616 : Nat) : Int)])) w :=
  Any7.bits_Add64 (ρ := ⟨fun | 25 => 86 | n => n, fun | 22 => 84 | n => n, fun n => n⟩) ⟨by kernel_rfl, Tryz.func86.trans (congrArg some (by kernel_rfl)), Tryz.underlying84, Tryz.isAgg84, Tryz.sizeOf84, Tryz.zeroValue84, by kernel_rfl⟩ x y c hc w

theorem ext_sub (x y b : Nat) (hb : b ≤ 1) (w : World) :
    (callFunc 85 #[.int .u64 x, .int .u64 y, .int .u64 b]).run Tryz.prog w =
      .ok (.value (.tuple #[.int .u64 (((x + 18446744073709551616 - y - b) % 18446744073709551616 : Nat) : Int), .int .u64 ((if x < y + b then 1 else 0 : Nat) : Int)])) w :=
  Any7.bits_Sub64 (ρ := ⟨fun | 26 => 85 | n => n, fun | 22 => 84 | n => n, fun n => n⟩) ⟨by kernel_rfl, Tryz.func85.trans (congrArg some (by kernel_rfl)), Tryz.underlying84, Tryz.isAgg84, Tryz.sizeOf84, Tryz.zeroValue84, by kernel_rfl⟩ x y b hb w

theorem size_walk (n : Int) (h0 : -9223372036854775808 ≤ n) (h1 : n ≤ 9223372036854775807) (w : World) :
    Calls Tryz.prog 53 #[.int .i64 n] w fun e w' => e = .returned (.int .u64 (n.natAbs : Int)) ∧ w' = w := by
  have e1 : n < 0 → IntKind.u64.wrap (-IntKind.u64.wrap n) = (n.natAbs : Int) := fun h => by rw [IntKind.wrap_u64, IntKind.wrap_u64]; omega
  have e2 : ¬ n < 0 → IntKind.u64.wrap n = (n.natAbs : Int) := fun h => by rw [IntKind.wrap_u64]; omega
  go_enter Tryz.func53, Tryz.ntmps53
  by_cases h : n < 0
  · go_wp2
    go_ret
    exact ⟨by simp [e1 h], rfl⟩
  · go_wp2
    go_ret
    exact ⟨by simp [e2 h], rfl⟩

theorem times_pos (a b : Int) (h : decide (a < 0) = decide (b < 0)) : ((a.natAbs * b.natAbs : Nat) : Int) = a * b := by
  by_cases ha : a < 0
  · have hb : b < 0 := by rw [decide_eq_true ha] at h; exact of_decide_eq_true h.symm
    rw [Int.natCast_mul, Int.ofNat_natAbs_of_nonpos (by omega), Int.ofNat_natAbs_of_nonpos (by omega), Int.neg_mul_neg]
  · have hb : ¬ b < 0 := by rw [decide_eq_false ha] at h; exact of_decide_eq_false h.symm
    rw [Int.natCast_mul, Int.natAbs_of_nonneg (by omega), Int.natAbs_of_nonneg (by omega)]

theorem times_neg (a b : Int) (h : decide (a < 0) ≠ decide (b < 0)) : ((a.natAbs * b.natAbs : Nat) : Int) = -(a * b) := by
  by_cases ha : a < 0
  · have hb : ¬ b < 0 := fun hb => h (by rw [decide_eq_true ha, decide_eq_true hb])
    rw [Int.natCast_mul, Int.ofNat_natAbs_of_nonpos (by omega), Int.natAbs_of_nonneg (by omega), Int.neg_mul]
  · have hb : b < 0 := Decidable.byContradiction fun hb => h (by rw [decide_eq_false ha, decide_eq_false hb])
    rw [Int.natCast_mul, Int.natAbs_of_nonneg (by omega), Int.ofNat_natAbs_of_nonpos (by omega), Int.mul_neg]

theorem below_new (w : World) (o : Obj) (v : Value) (j : Nat) : Below w.heap.size w ((w.alloc o).setCell ⟨w.heap.size, j, none⟩ v) :=
  (Below.alloc (Below.refl _ w) (Nat.le_refl _) o).setCell (p := ⟨w.heap.size, j, none⟩) (Nat.le_refl _) v

theorem ext_sub0 (y b : Nat) (hb : b ≤ 1) (w : World) :
    (callFunc 85 #[.int .u64 0, .int .u64 y, .int .u64 b]).run Tryz.prog w =
      .ok (.value (.tuple #[.int .u64 (((18446744073709551616 - y - b) % 18446744073709551616 : Nat) : Int), .int .u64 ((if 0 < y + b then 1 else 0 : Nat) : Int)])) w := by
  have h := ext_sub 0 y b hb w
  rw [Nat.zero_add] at h
  exact h

theorem ext_sub00 (y : Nat) (w : World) :
    (callFunc 85 #[.int .u64 0, .int .u64 y, .int .u64 0]).run Tryz.prog w =
      .ok (.value (.tuple #[.int .u64 (((18446744073709551616 - y) % 18446744073709551616 : Nat) : Int), .int .u64 ((if 0 < y then 1 else 0 : Nat) : Int)])) w := ext_sub0 y 0 (by omega) w

theorem w64_wrap (n : Int) : wrap64 n = IntKind.i64.wrap n := by rw [IntKind.wrap_i64]; unfold wrap64; omega

set_option maxHeartbeats 4000000 in
set_option maxRecDepth 100000 in
theorem times_walk0 (a b : Int) (h l : Nat) (a0 : -9223372036854775808 ≤ a) (a1 : a ≤ 9223372036854775807) (b0 : -9223372036854775808 ≤ b) (b1 : b ≤ 9223372036854775807)
    (hM : ∀ w, Calls Tryz.prog 52 #[.int .u64 (a.natAbs : Int), .int .u64 (b.natAbs : Int)] w fun e w' => e = .returned (.tuple #[.int .u64 (h : Int), .int .u64 (l : Int)]) ∧ w' = w) (w : World) :
    Calls Tryz.prog 49 #[.int .i64 a, .int .i64 b] w fun e w' => ∃ r1 r2 : Int, e = .returned (.agg #[.int .i64 r1, .int .u64 r2]) ∧ Below w.heap.size w w' ∧
      (decide (a < 0) = decide (b < 0) → r1 = IntKind.i64.wrap h ∧ r2 = l) ∧
      (decide (a < 0) ≠ decide (b < 0) → r1 = IntKind.i64.wrap (((18446744073709551616 - h - (if 0 < l then 1 else 0)) % 18446744073709551616 : Nat) : Int) ∧ r2 = (((18446744073709551616 - l) % 18446744073709551616 : Nat) : Int)) := by
  obtain ⟨d, bo, hd, hbo, s1⟩ : ∃ d bo : Nat, d = (18446744073709551616 - l) % 18446744073709551616 ∧ bo = (if 0 < l then 1 else 0) ∧ ∀ w, (callFunc 85 #[.int .u64 0, .int .u64 l, .int .u64 0]).run Tryz.prog w =
      .ok (.value (.tuple #[.int .u64 (d : Int), .int .u64 (bo : Int)])) w := ⟨_, _, rfl, rfl, fun w => ext_sub00 l w⟩
  obtain ⟨d2, b2, hd2, hb2, s2⟩ : ∃ d2 b2 : Nat, d2 = (18446744073709551616 - h - bo) % 18446744073709551616 ∧ b2 = (if 0 < h + bo then 1 else 0) ∧ ∀ w, (callFunc 85 #[.int .u64 0, .int .u64 h, .int .u64 bo]).run Tryz.prog w =
      .ok (.value (.tuple #[.int .u64 (d2 : Int), .int .u64 (b2 : Int)])) w := ⟨_, _, rfl, rfl, fun w => ext_sub0 h bo (by rw [hbo]; split <;> omega) w⟩
  have hS : ∀ n : Int, -9223372036854775808 ≤ n → n ≤ 9223372036854775807 → ∀ w, Calls Tryz.prog 53 #[.int .i64 n] w fun e w' => e = .returned (.int .u64 (n.natAbs : Int)) ∧ w' = w := size_walk
  rw [← hbo, ← hd, ← hd2]
  clear hd hbo hd2 hb2
  go_enter Tryz.func49, Tryz.ntmps49
  by_cases ha : a < 0 <;> by_cases hb : b < 0
  · go_wp2_with (first | (go_at_call 53; refine (hS _ (by assumption) (by assumption) _).mono ?_; rintro e w' ⟨rfl, rfl⟩) | (go_at_call 52; refine (hM _).mono ?_; rintro e w' ⟨rfl, rfl⟩))
    go_returns
    exact ⟨_, _, rfl, Below.alloc (Below.refl _ _) (Nat.le_refl _) _, fun _ => ⟨w64_wrap _, rfl⟩, fun hh => absurd (by rw [decide_eq_true (show a < 0 by omega), decide_eq_true (show b < 0 by omega)]) hh⟩
  · go_wp2_with (first | (go_at_call 53; refine (hS _ (by assumption) (by assumption) _).mono ?_; rintro e w' ⟨rfl, rfl⟩) | (go_at_call 52; refine (hM _).mono ?_; rintro e w' ⟨rfl, rfl⟩))
    go_returns
    exact ⟨_, _, rfl, Below.alloc (Below.refl _ _) (Nat.le_refl _) _, fun hh => absurd hh (by rw [decide_eq_true (show a < 0 by omega), decide_eq_false (show ¬ b < 0 by omega)]; decide), fun _ => ⟨w64_wrap _, rfl⟩⟩
  · go_wp2_with (first | (go_at_call 53; refine (hS _ (by assumption) (by assumption) _).mono ?_; rintro e w' ⟨rfl, rfl⟩) | (go_at_call 52; refine (hM _).mono ?_; rintro e w' ⟨rfl, rfl⟩))
    go_returns
    exact ⟨_, _, rfl, Below.alloc (Below.refl _ _) (Nat.le_refl _) _, fun hh => absurd hh (by rw [decide_eq_false (show ¬ a < 0 by omega), decide_eq_true (show b < 0 by omega)]; decide), fun _ => ⟨w64_wrap _, rfl⟩⟩
  · go_wp2_with (first | (go_at_call 53; refine (hS _ (by assumption) (by assumption) _).mono ?_; rintro e w' ⟨rfl, rfl⟩) | (go_at_call 52; refine (hM _).mono ?_; rintro e w' ⟨rfl, rfl⟩))
    go_returns
    exact ⟨_, _, rfl, Below.alloc (Below.refl _ _) (Nat.le_refl _) _, fun _ => ⟨w64_wrap _, rfl⟩, fun hh => absurd (by rw [decide_eq_false (show ¬ a < 0 by omega), decide_eq_false (show ¬ b < 0 by omega)]) hh⟩

theorem times_walk (a b : Int) (a0 : -9223372036854775808 ≤ a) (a1 : a ≤ 9223372036854775807) (b0 : -9223372036854775808 ≤ b) (b1 : b ≤ 9223372036854775807) (w : World) :
    Calls Tryz.prog 49 #[.int .i64 a, .int .i64 b] w fun e w' => e = .returned (.agg #[.int .i64 (F.whi (a * b)), .int .u64 (F.wlo (a * b))]) ∧ Below w.heap.size w w' := by
  have hA : a.natAbs ≤ 9223372036854775808 := by omega
  have hB : b.natAbs ≤ 9223372036854775808 := by omega
  have hP : a.natAbs * b.natAbs ≤ 9223372036854775808 * 9223372036854775808 := Nat.mul_le_mul hA hB
  have hpos := times_pos a b
  have hneg := times_neg a b
  refine (times_walk0 a b _ _ a0 a1 b0 b1 (fun w => Tryz.bits_Mul64 a.natAbs b.natAbs (by omega) (by omega) w) w).mono ?_
  rintro e w' ⟨r1, r2, rfl, hb, h1, h2⟩
  generalize a.natAbs * b.natAbs = p at *
  generalize a * b = v at *
  refine ⟨?_, hb⟩
  unfold F.whi F.wlo
  by_cases h : decide (a < 0) = decide (b < 0)
  · obtain ⟨rfl, rfl⟩ := h1 h
    have hv := hpos h
    have e1 : IntKind.i64.wrap ((p / 18446744073709551616 : Nat) : Int) = v / 18446744073709551616 := by rw [IntKind.wrap_i64]; omega
    have e2 : ((p % 18446744073709551616 : Nat) : Int) = v % 18446744073709551616 := by omega
    rw [e1, e2]
  · obtain ⟨rfl, rfl⟩ := h2 h
    have hv := hneg h
    have e1 : IntKind.i64.wrap (((18446744073709551616 - p / 18446744073709551616 - (if 0 < p % 18446744073709551616 then 1 else 0)) % 18446744073709551616 : Nat) : Int) = v / 18446744073709551616 := by
      rw [IntKind.wrap_i64]
      split <;> omega
    have e2 : (((18446744073709551616 - p % 18446744073709551616) % 18446744073709551616 : Nat) : Int) = v % 18446744073709551616 := by omega
    rw [e1, e2]


end Go.Proofs.YtlemjphdhapfpaaGreatDoor
