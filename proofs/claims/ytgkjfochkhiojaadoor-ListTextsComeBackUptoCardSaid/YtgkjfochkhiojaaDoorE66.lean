/- What is proved here: numerals, lines and words that are put together, on plain data (no statement of the seat). -/
import Derived.Test.YtgkjfochkhiojaaDoorE57
import Derived.Test.YtgkjfochkhiojaaDoorE99
import Derived.Lib.ItoaNum
namespace Go.Proofs.YtgkjfochkhiojaaDoor
open Go Go.RowKit
set_option linter.unusedVariables false
set_option linter.unusedSimpArgs false

theorem F.dd_lt {n : Nat} (h : n < 10) : Lib.decDigits n = [UInt8.ofNat (48 + n)] := by rw [Lib.decDigits, dif_pos h]

theorem F.dd_ge {n : Nat} (h : ¬ n < 10) : Lib.decDigits n = Lib.decDigits (n / 10) ++ [UInt8.ofNat (48 + n % 10)] := by rw [Lib.decDigits, dif_neg h]

theorem F.u8_dg {n : Nat} (h : n < 10) : (UInt8.ofNat (48 + n)).toNat = 48 + n := by rw [UInt8.toNat_ofNat']; omega

theorem F.dd_ok (n : Nat) : (Lib.decDigits n).all F.dgB = true ∧ F.dvA 0 (Lib.decDigits n) = n ∧ Lib.decDigits n ≠ [] := by
  induction n using Nat.strongRecOn with
  | ind n ih =>
    by_cases h : n < 10
    · have hn := F.u8_dg h
      rw [F.dd_lt h]
      refine ⟨?_, ?_, by simp⟩
      · simp only [List.all_cons, List.all_nil, Bool.and_true, F.dgB, hn, Bool.and_eq_true, decide_eq_true_eq]; omega
      · rw [F.dvA_cons, F.dvA_nil, hn]; omega
    · obtain ⟨i1, i2, i3⟩ := ih (n / 10) (by omega)
      have hn := F.u8_dg (n := n % 10) (by omega)
      rw [F.dd_ge h]
      refine ⟨?_, ?_, by simp⟩
      · rw [List.all_append, i1]
        simp only [List.all_cons, List.all_nil, Bool.and_true, F.dgB, hn, Bool.and_eq_true, decide_eq_true_eq, Bool.true_and]; omega
      · rw [F.dvA_app, i2, F.dvA_cons, F.dvA_nil, hn]; omega

theorem F.dd_len : ∀ (k n : Nat), n < 10 ^ (k + 1) → (Lib.decDigits n).length ≤ k + 1
  | 0, n, h => by rw [F.dd_lt (by simpa using h)]; exact Nat.le_refl _
  | k + 1, n, h => by
    by_cases h1 : n < 10
    · rw [F.dd_lt h1, List.length_singleton]; omega
    · have := F.dd_len k (n / 10) (by rw [Nat.pow_succ] at h; omega)
      rw [F.dd_ge h1, List.length_append, List.length_singleton]; omega

theorem F.dd_head (n : Nat) : 1 ≤ n → ∃ c r, Lib.decDigits n = c :: r ∧ 49 ≤ c.toNat := by
  induction n using Nat.strongRecOn with
  | ind n ih =>
    intro h
    by_cases h1 : n < 10
    · exact ⟨_, _, F.dd_lt h1, by rw [F.u8_dg h1]; omega⟩
    · obtain ⟨c, r, e, hc⟩ := ih (n / 10) (by omega) (by omega)
      exact ⟨c, r ++ [_], by rw [F.dd_ge h1, e]; rfl, hc⟩

theorem F.itoa_n (n : Nat) : F.bs (F.itoa (n : Int)) = Lib.decDigits n := by
  unfold F.bs F.itoa
  rw [Lib.itoa_nonneg]

theorem F.num_itoa_k {n : Int} {w : Nat} (h0 : 0 ≤ n) (h1 : n < ((10 ^ (w + 1) : Nat) : Int)) : F.numOk (F.itoa n) ((w + 1 : Nat) : Int) = true ∧ F.numV (F.itoa n) ((w + 1 : Nat) : Int) = n := by
  obtain ⟨k, rfl⟩ := Int.eq_ofNat_of_zero_le h0
  have hb := F.itoa_n k
  have hl := F.bs_len (F.itoa (k : Int))
  obtain ⟨d1, d2, d3⟩ := F.dd_ok k
  have d4 := F.dd_len w k (by exact_mod_cast h1)
  rw [hb] at hl
  have hp := List.length_pos_iff.2 d3
  have hz : (decide (F.b0 (F.itoa (k : Int)) = 48) && decide (1 < (F.itoa (k : Int)).size)) = false := by
    by_cases hk : k < 10
    · rw [F.dd_lt hk, List.length_singleton] at hl
      rw [decide_eq_false (by omega : ¬ 1 < (F.itoa (k : Int)).size), Bool.and_false]
    · obtain ⟨c, r, e, hc⟩ := F.dd_head k (by omega)
      have : F.b0 (F.itoa (k : Int)) = (c.toNat : Int) := by unfold F.b0; rw [hb, e]; rfl
      rw [this, decide_eq_false (by omega : ¬ (c.toNat : Int) = 48), Bool.false_and]
  have hok : F.numOk (F.itoa (k : Int)) ((w + 1 : Nat) : Int) = true := by
    unfold F.numOk
    rw [hz, hb, d1, decide_eq_true (by omega : (F.itoa (k : Int)).size ≠ 0), decide_eq_true (by omega : ((F.itoa (k : Int)).size : Int) ≤ ((w + 1 : Nat) : Int))]
    rfl
  refine ⟨hok, ?_⟩
  unfold F.numV F.dv
  rw [hok, hb, d2]
  rfl

theorem F.num_itoa {n : Int} (h0 : 0 ≤ n) (h1 : n ≤ 10000000000) : F.numOk (F.itoa n) 11 = true ∧ F.numV (F.itoa n) 11 = n :=
  F.num_itoa_k (w := 10) h0 (by have : (10 : Nat) ^ (10 + 1) = 100000000000 := by decide
                                rw [this]; omega)

theorem F.dd_dv : ∀ (k : Nat) (l : List UInt8), l.length = k → l ≠ [] → l.all F.dgB = true → (l.length = 1 ∨ ∃ c r, l = c :: r ∧ c.toNat ≠ 48) → Lib.decDigits (F.dvA 0 l) = l := by
  intro k
  induction k with
  | zero => intro l h h0; exact absurd (List.length_eq_zero_iff.1 h) h0
  | succ k ih =>
    intro l h h0 ha hz
    obtain ⟨l', c, rfl⟩ : ∃ l' c, l = l' ++ [c] := ⟨l.dropLast, l.getLast h0, (List.dropLast_concat_getLast h0).symm⟩
    rw [List.all_append, Bool.and_eq_true] at ha
    have hc := ha.2
    simp only [List.all_cons, List.all_nil, Bool.and_true, F.dgB, Bool.and_eq_true, decide_eq_true_eq] at hc
    rw [F.dvA_app, F.dvA_cons, F.dvA_nil]
    have hcc : UInt8.ofNat (48 + (c.toNat - 48)) = c := by
      rw [show 48 + (c.toNat - 48) = c.toNat by omega]; simp
    cases l' with
    | nil =>
      rw [F.dvA_nil, F.dd_lt (by omega), Nat.zero_mul, Nat.zero_add, hcc]; rfl
    | cons d r =>
      have hd : d.toNat ≠ 48 := by
        rcases hz with hz | ⟨c', r', e, hz⟩
        · simp at hz
        · simp only [List.cons_append, List.cons.injEq] at e
          rw [e.1]; exact hz
      have hd1 := ha.1
      rw [List.all_cons, Bool.and_eq_true] at hd1
      have hd2 := hd1.1
      simp only [F.dgB, Bool.and_eq_true, decide_eq_true_eq] at hd2
      have hge : 1 ≤ F.dvA 0 (d :: r) := by
        rw [F.dvA_cons]
        have := F.dvA_le r (0 * 10 + (d.toNat - 48))
        omega
      rw [F.dd_ge (by omega), show (F.dvA 0 (d :: r) * 10 + (c.toNat - 48)) / 10 = F.dvA 0 (d :: r) by omega, show (F.dvA 0 (d :: r) * 10 + (c.toNat - 48)) % 10 = c.toNat - 48 by omega, hcc, ih (d :: r) (by simpa using h) (by simp) ha.1 (.inr ⟨d, r, rfl, hd⟩)]

theorem F.itoa_num {w : ByteArray} {k : Int} (h : F.numOk w k = true) : F.itoa (F.numV w k) = w := by
  apply F.bsx
  unfold F.numV
  rw [h, cond_true, F.itoa_n]
  unfold F.numOk at h
  simp only [Bool.and_eq_true, decide_eq_true_eq, Bool.not_eq_true', Bool.and_eq_false_iff, decide_eq_false_iff_not] at h
  obtain ⟨⟨⟨h1, h2⟩, h3⟩, h4⟩ := h
  have hl := F.bs_len w
  unfold F.dv
  refine F.dd_dv _ (F.bs w) rfl (fun e => by rw [e] at hl; simp at hl; omega) h4 ?_
  cases hb : F.bs w with
  | nil => rw [hb] at hl; simp at hl; omega
  | cons c r =>
    rcases h3 with h3 | h3
    · right
      refine ⟨c, r, rfl, ?_⟩
      intro e
      apply h3
      unfold F.b0
      rw [hb]
      show (c.toNat : Int) = 48
      omega
    · left
      rw [hb] at hl
      omega

end Go.Proofs.YtgkjfochkhiojaaDoor
