/- What is proved here: days of years one after another, on plain data (no statement of the seat). -/
import Derived.Test.YtgkjfochkhiojaaDoorE76
namespace Go.Proofs.YtgkjfochkhiojaaDoor
open Go Go.RowKit
set_option linter.unusedVariables false
set_option linter.unusedSimpArgs false

theorem F.ydays_one {y : Int} (h : 1 ≤ y) : F.ydays (y + 1) = F.ydays y + 365 + (bif F.leap y then 1 else 0) := by
  unfold F.ydays F.leap
  rw [show y + 1 - 1 = y by omega]
  simp only [Int.tdiv_eq_ediv_of_nonneg (show 0 ≤ y by omega), Int.tdiv_eq_ediv_of_nonneg (show 0 ≤ y - 1 by omega), Int.tmod_eq_emod_of_nonneg (show 0 ≤ y by omega)]
  have e : ∀ a : Int, (a == 0) = decide (a = 0) := fun a => by by_cases h : a = 0 <;> simp [h]
  simp only [e]
  by_cases h1 : y % 4 = 0 <;> by_cases h2 : y % 100 = 0 <;> by_cases h3 : y % 400 = 0 <;> simp only [h1, h2, h3, decide_true, decide_false, cond_true, cond_false, Bool.not_true, Bool.not_false] <;> omega

/-- Days of years one after another. -/
def F.ysum : Nat → Int → Int
  | 0, _ => 0
  | n + 1, y => 365 + (bif F.leap y then 1 else 0) + F.ysum n (y + 1)

theorem F.ysum_eq : ∀ (n : Nat) (y : Int), 1 ≤ y → F.ydays (y + n) = F.ydays y + F.ysum n y
  | 0, y, _ => by simp [F.ysum]
  | n + 1, y, h => by
    have h1 := F.ysum_eq n (y + 1) (by omega)
    have h2 := F.ydays_one h
    rw [F.ysum]
    rw [show y + ((n + 1 : Nat) : Int) = y + 1 + (n : Int) by omega, h1, h2]
    omega

theorem F.ydays_0 : F.ydays 1970 = 0 := by decide

theorem F.ysum_b : ∀ (n : Nat) (y : Int), 0 ≤ F.ysum n y ∧ F.ysum n y ≤ 366 * n
  | 0, y => by simp [F.ysum]
  | n + 1, y => by
    have h2 := F.ysum_b n (y + 1)
    rw [F.ysum]
    cases F.leap y
    · rw [cond_false]; omega
    · rw [cond_true]; omega

end Go.Proofs.YtgkjfochkhiojaaDoor
