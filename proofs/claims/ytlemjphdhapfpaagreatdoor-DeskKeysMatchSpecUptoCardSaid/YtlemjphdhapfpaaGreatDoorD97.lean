/- What is proved here: decimal numerals, their values and their pieces of four digits, on plain data (no statement of the seat). -/
import Derived.Test.YtlemjphdhapfpaaGreatDoorD96
import Derived.Test.YtlemjphdhapfpaaGreatDoorD66
import Derived.Lib.AtoiAll
import Derived.Lib.AtoiAllCases
import Derived.Lib.ItoaMem
namespace Go.Proofs.YtlemjphdhapfpaaGreatDoor
open Go Go.RowKit
set_option linter.unusedVariables false
set_option linter.unusedSimpArgs false

/-- The value of digits. -/
def F.dvA (acc : Nat) (l : List UInt8) : Nat := l.foldl (fun a c => a * 10 + (c.toNat - 48)) acc

theorem F.dvA_nil (acc : Nat) : F.dvA acc [] = acc := by unfold F.dvA; exact List.foldl_nil

theorem F.dvA_cons (acc : Nat) (c : UInt8) (r : List UInt8) : F.dvA acc (c :: r) = F.dvA (acc * 10 + (c.toNat - 48)) r := by unfold F.dvA; exact List.foldl_cons ..

def F.dgB (c : UInt8) : Bool := decide (48 ≤ c.toNat) && decide (c.toNat ≤ 57)

def F.dv (s : ByteArray) : Nat := F.dvA 0 (F.bs s)

theorem F.dvA_le : ∀ (l : List UInt8) (acc : Nat), acc ≤ F.dvA acc l
  | [], acc => by rw [F.dvA_nil]; exact Nat.le_refl _
  | c :: r, acc => by
    have := F.dvA_le r (acc * 10 + (c.toNat - 48))
    rw [F.dvA_cons]; omega

theorem F.dvA_app : ∀ (a b : List UInt8) (acc : Nat), F.dvA acc (a ++ b) = F.dvA (F.dvA acc a) b
  | [], b, acc => by rw [F.dvA_nil]; rfl
  | c :: a, b, acc => by rw [List.cons_append, F.dvA_cons, F.dvA_cons, F.dvA_app a b]

theorem F.dvA_acc : ∀ (l : List UInt8) (acc : Nat), F.dvA acc l = acc * 10 ^ l.length + F.dvA 0 l
  | [], acc => by rw [F.dvA_nil, F.dvA_nil, List.length_nil, Nat.pow_zero]; omega
  | c :: r, acc => by
    rw [F.dvA_cons, F.dvA_cons, F.dvA_acc r, F.dvA_acc r (0 * 10 + (c.toNat - 48)), Nat.zero_mul, Nat.zero_add, List.length_cons, Nat.pow_succ, Nat.add_mul, Nat.mul_assoc, Nat.mul_comm 10, Nat.add_assoc]

theorem F.dvA_lt : ∀ (l : List UInt8), l.all F.dgB = true → F.dvA 0 l < 10 ^ l.length
  | [], _ => by rw [F.dvA_nil]; decide
  | c :: r, h => by
    rw [List.all_cons, Bool.and_eq_true] at h
    have hc := h.1
    unfold F.dgB at hc
    simp only [Bool.and_eq_true, decide_eq_true_eq] at hc
    have ih := F.dvA_lt r h.2
    rw [F.dvA_cons, F.dvA_acc, List.length_cons, Nat.pow_succ]
    have : (0 * 10 + (c.toNat - 48)) * 10 ^ r.length ≤ 9 * 10 ^ r.length := Nat.mul_le_mul_right _ (by omega)
    omega

theorem F.pu_dvA : ∀ (l : List UInt8) (acc : Nat), l.all F.dgB = true → F.dvA acc l < 18446744073709551616 → Lib.parseUint10 acc l = .ok (F.dvA acc l)
  | [], acc, _, _ => by rw [F.dvA_nil]; rfl
  | c :: r, acc, h, hb => by
    rw [List.all_cons, Bool.and_eq_true] at h
    have hc := h.1
    unfold F.dgB at hc
    simp only [Bool.and_eq_true, decide_eq_true_eq] at hc
    rw [F.dvA_cons] at hb ⊢
    have := F.dvA_le r (acc * 10 + (c.toNat - 48))
    rw [Lib.parseUint10, if_pos ⟨by omega, by omega⟩, if_neg (by omega), if_neg (by omega), F.pu_dvA r _ h.2 hb]

/-- Digits, at least one, of a number of 63 bits. -/
def F.isD (s : ByteArray) : Bool := (F.bs s).all F.dgB && decide (0 < s.size) && decide (F.dv s ≤ 9223372036854775807)

theorem F.isD_ato {s : ByteArray} (h : F.isD s = true) : Lib.atoiAll s.data.toList = .ok ((F.dv s : Nat) : Int) := by
  unfold F.isD at h
  simp only [Bool.and_eq_true, decide_eq_true_eq] at h
  obtain ⟨⟨h1, h2⟩, h3⟩ := h
  have hl := F.bs_len s
  show Lib.atoiAll (F.bs s) = _
  unfold F.dv at h3 ⊢
  cases hs : F.bs s with
  | nil => rw [hs] at hl; simp at hl; omega
  | cons c r =>
    rw [hs] at h1 h3
    have hc := h1
    rw [List.all_cons, Bool.and_eq_true] at hc
    have hc := hc.1
    unfold F.dgB at hc
    simp only [Bool.and_eq_true, decide_eq_true_eq] at hc
    have hp : Lib.parseMag (c :: r) = .ok (F.dvA 0 (c :: r)) := by
      unfold Lib.parseMag
      rw [if_neg (by simp)]
      exact F.pu_dvA _ 0 h1 (by omega)
    rw [Lib.atoiAll_plain c r (by omega) (by omega), hp]
    unfold Lib.signless
    simp only []
    rw [if_neg (by omega)]

theorem F.dd_ok (n : Nat) : (Lib.decDigits n).all F.dgB = true ∧ F.dvA 0 (Lib.decDigits n) = n ∧ Lib.decDigits n ≠ [] := by
  induction n using Nat.strongRecOn with
  | ind n ih =>
    by_cases h : n < 10
    · have hn : (UInt8.ofNat (48 + n)).toNat = 48 + n := by rw [UInt8.toNat_ofNat']; omega
      rw [Lib.decDigits, dif_pos h]
      refine ⟨?_, ?_, by simp⟩
      · simp only [List.all_cons, List.all_nil, Bool.and_true, F.dgB, hn, Bool.and_eq_true, decide_eq_true_eq]; omega
      · rw [F.dvA_cons, F.dvA_nil, hn]; omega
    · obtain ⟨i1, i2, i3⟩ := ih (n / 10) (by omega)
      have hn : (UInt8.ofNat (48 + n % 10)).toNat = 48 + n % 10 := by rw [UInt8.toNat_ofNat']; omega
      rw [Lib.decDigits, dif_neg h]
      refine ⟨?_, ?_, by simp⟩
      · rw [List.all_append, i1]
        simp only [List.all_cons, List.all_nil, Bool.and_true, F.dgB, hn, Bool.and_eq_true, decide_eq_true_eq, Bool.true_and]; omega
      · rw [F.dvA_app, i2, F.dvA_cons, F.dvA_nil, hn]; omega

theorem F.itoa_n (n : Nat) : F.bs (F.itoa (n : Int)) = Lib.decDigits n := by
  unfold F.bs F.itoa
  rw [Lib.itoa_nonneg]

theorem F.dv_itoa (n : Nat) : F.dv (F.itoa (n : Int)) = n := by
  unfold F.dv
  rw [F.itoa_n]
  exact (F.dd_ok n).2.1

theorem F.all_itoa (n : Nat) : (F.bs (F.itoa (n : Int))).all F.dgB = true := by
  rw [F.itoa_n]
  exact (F.dd_ok n).1

theorem F.itoa_pos (n : Nat) : 0 < (F.itoa (n : Int)).size := by
  rw [← F.bs_len, F.itoa_n]
  exact List.length_pos_iff.2 (F.dd_ok n).2.2

theorem F.isD_itoa {n : Nat} (h : n ≤ 9223372036854775807) : F.isD (F.itoa (n : Int)) = true := by
  unfold F.isD
  rw [F.all_itoa, F.dv_itoa, decide_eq_true (F.itoa_pos n), decide_eq_true h]
  rfl

/-- Four digits of a limb. -/
def F.pad4 (l : List UInt8) : List UInt8 := List.replicate (4 - l.length) 48 ++ l

theorem F.dd_lt {n : Nat} (h : n < 10) : Lib.decDigits n = [UInt8.ofNat (48 + n)] := by rw [Lib.decDigits, dif_pos h]

theorem F.dd_ge {n : Nat} (h : ¬ n < 10) : Lib.decDigits n = Lib.decDigits (n / 10) ++ [UInt8.ofNat (48 + n % 10)] := by rw [Lib.decDigits, dif_neg h]

theorem F.pad_dd {b : Nat} (h : b < 10000) : F.pad4 (Lib.decDigits b) = [UInt8.ofNat (48 + b / 1000), UInt8.ofNat (48 + b / 100 % 10), UInt8.ofNat (48 + b / 10 % 10), UInt8.ofNat (48 + b % 10)] := by
  by_cases h1 : b < 10
  · rw [F.dd_lt h1, show b / 1000 = 0 by omega, show b / 100 % 10 = 0 by omega, show b / 10 % 10 = 0 by omega, show b % 10 = b by omega]
    rfl
  · rw [F.dd_ge h1]
    by_cases h2 : b / 10 < 10
    · rw [F.dd_lt h2, show b / 1000 = 0 by omega, show b / 100 % 10 = 0 by omega, show b / 10 % 10 = b / 10 by omega]
      rfl
    · rw [F.dd_ge h2]
      by_cases h3 : b / 10 / 10 < 10
      · rw [F.dd_lt h3, show b / 1000 = 0 by omega, show b / 100 % 10 = b / 10 / 10 by omega]
        rfl
      · rw [F.dd_ge h3, F.dd_lt (by omega : b / 10 / 10 / 10 < 10), show b / 1000 = b / 10 / 10 / 10 by omega, show b / 100 % 10 = b / 10 / 10 % 10 by omega]
        rfl

theorem F.dd_app {a b : Nat} (ha : 0 < a) (h : b < 10000) : Lib.decDigits (a * 10000 + b) = Lib.decDigits a ++ F.pad4 (Lib.decDigits b) := by
  rw [F.pad_dd h, F.dd_ge (n := a * 10000 + b) (by omega), F.dd_ge (n := (a * 10000 + b) / 10) (by omega), F.dd_ge (n := (a * 10000 + b) / 10 / 10) (by omega), F.dd_ge (n := (a * 10000 + b) / 10 / 10 / 10) (by omega)]
  rw [show (a * 10000 + b) / 10 / 10 / 10 / 10 = a by omega, show (a * 10000 + b) / 10 / 10 / 10 % 10 = b / 1000 by omega, show (a * 10000 + b) / 10 / 10 % 10 = b / 100 % 10 by omega, show (a * 10000 + b) / 10 % 10 = b / 10 % 10 by omega, show (a * 10000 + b) % 10 = b % 10 by omega]
  simp

/-- The pieces of four digits, the last one first. -/
def F.pcs (s : ByteArray) : List Int := if h : s.size = 0 then [] else ((F.dv (s.extract (s.size - 4) s.size) : Nat) : Int) :: F.pcs (s.extract 0 (s.size - 4))
termination_by s.size
decreasing_by rw [ByteArray.size_extract]; omega

theorem F.bs_ext (s : ByteArray) (i j : Nat) : F.bs (s.extract i j) = ((F.bs s).take j).drop i := by
  unfold F.bs
  rw [ByteArray.data_extract, Array.toList_extract, List.extract_eq_take_drop]
  rw [List.drop_take]

theorem F.dv_split {s : ByteArray} (k : Nat) (hk : k ≤ s.size) : F.dv s = F.dv (s.extract 0 k) * 10 ^ (s.size - k) + F.dv (s.extract k s.size) := by
  have hl := F.bs_len s
  unfold F.dv
  rw [F.bs_ext, F.bs_ext, List.drop_zero, List.take_of_length_le (by omega : (F.bs s).length ≤ s.size)]
  conv => lhs; rw [← List.take_append_drop k (F.bs s)]
  rw [F.dvA_app, F.dvA_acc, List.length_drop, hl]

theorem F.all_ext {s : ByteArray} (h : (F.bs s).all F.dgB = true) (i j : Nat) : (F.bs (s.extract i j)).all F.dgB = true := by
  rw [F.bs_ext, List.all_eq_true]
  intro x hx
  exact List.all_eq_true.1 h x (List.mem_of_mem_take (List.mem_of_mem_drop hx))

theorem F.pcs_ok : ∀ (n : Nat) (s : ByteArray), s.size ≤ n → (F.bs s).all F.dgB = true → F.okL (F.pcs s) ∧ F.vl (F.pcs s) = ((F.dv s : Nat) : Int) := by
  intro n
  induction n with
  | zero =>
    intro s hs _
    have h0 : s.size = 0 := by omega
    rw [F.pcs, dif_pos h0]
    have : F.bs s = [] := List.length_eq_zero_iff.1 (by rw [F.bs_len, h0])
    exact ⟨F.okL_nil, by unfold F.dv; rw [this]; rfl⟩
  | succ n ih =>
    intro s hs hd
    by_cases h0 : s.size = 0
    · exact ih s (by omega) hd
    · rw [F.pcs, dif_neg h0]
      have hz : (s.extract 0 (s.size - 4)).size = s.size - 4 := by rw [ByteArray.size_extract]; omega
      have hz2 : (s.extract (s.size - 4) s.size).size = s.size - (s.size - 4) := by rw [ByteArray.size_extract]; omega
      obtain ⟨i1, i2⟩ := ih (s.extract 0 (s.size - 4)) (by omega) (F.all_ext hd _ _)
      have hlt := F.dvA_lt _ (F.all_ext hd (s.size - 4) s.size)
      rw [F.bs_len, hz2] at hlt
      have h4 : 10 ^ (s.size - (s.size - 4)) ≤ 10 ^ 4 := Nat.pow_le_pow_right (by decide) (by clear hlt hs hz hz2; omega)
      have hlt2 : F.dv (s.extract (s.size - 4) s.size) < 10000 := Nat.lt_of_lt_of_le hlt h4
      refine ⟨F.okL_cons (by omega) i1, ?_⟩
      have hsp := F.dv_split (s := s) (s.size - 4) (by omega)
      rw [F.vl, i2, hsp]
      by_cases h : 4 ≤ s.size
      · rw [show s.size - (s.size - 4) = 4 by clear hlt hlt2 hsp; omega]
        clear hlt hlt2 hsp
        omega
      · have e0 : F.bs (s.extract 0 (s.size - 4)) = [] := List.length_eq_zero_iff.1 (by rw [F.bs_len, hz]; omega)
        have e1 : F.dv (s.extract 0 (s.size - 4)) = 0 := by unfold F.dv; rw [e0]; rfl
        rw [e1]; omega

theorem F.pcs_lb {s : ByteArray} (h : (F.bs s).all F.dgB = true) : F.trimL (F.pcs s) = F.lb (F.dv s) := by
  obtain ⟨q1, q2⟩ := F.pcs_ok s.size s (Nat.le_refl _) h
  rw [F.trimL_eq q1, q2]; rfl

end Go.Proofs.YtlemjphdhapfpaaGreatDoor
