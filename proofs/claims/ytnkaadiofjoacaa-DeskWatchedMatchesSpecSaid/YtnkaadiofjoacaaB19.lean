/- What is proved here: the order of beats is a weak order (no statement of the seat). -/
import Derived.Test.YtnkaadiofjoacaaB2
import Derived.Test.YtnkaadiofjoacaaSt
import Derived.Test.YtnkaadiofjoacaaM9
namespace Go.Proofs.Ytnkaadiofjoacaa
set_option linter.unusedVariables false
set_option linter.unusedSimpArgs false

def F.ltB (a b : Beat) : Bool := decide (F.border a b < 0)

namespace K

theorem cb_neg : ∀ (a b : List UInt8), Lib.compareBytes b a = - Lib.compareBytes a b
  | [], [] => by simp [Lib.compareBytes]
  | [], _ :: _ => by simp [Lib.compareBytes]
  | _ :: _, [] => by simp [Lib.compareBytes]
  | x :: a, y :: b => by
    have ih := cb_neg a b
    simp only [Lib.compareBytes]
    by_cases h1 : x < y
    · have h2 : ¬ y < x := by rw [UInt8.lt_iff_toNat_lt] at h1 ⊢; omega
      simp [h1, h2]
    · by_cases h2 : y < x
      · simp [h1, h2]
      · simp [h1, h2, ih]

theorem cb_refl : ∀ a : List UInt8, Lib.compareBytes a a = 0
  | [] => rfl
  | x :: a => by
    have h : ¬ x < x := by rw [UInt8.lt_iff_toNat_lt]; omega
    simp only [Lib.compareBytes, if_neg h]
    exact cb_refl a

theorem cb_zero : ∀ {a b : List UInt8}, Lib.compareBytes a b = 0 → a = b
  | [], [], _ => rfl
  | [], _ :: _, h => by simp [Lib.compareBytes] at h
  | _ :: _, [], h => by simp [Lib.compareBytes] at h
  | x :: a, y :: b, h => by
    simp only [Lib.compareBytes] at h
    by_cases h1 : x < y
    · simp [h1] at h
    · by_cases h2 : y < x
      · simp [h1, h2] at h
      · simp only [h1, h2, if_false] at h
        rw [cb_zero h]
        congr 1
        apply UInt8.toNat_inj.1
        rw [UInt8.lt_iff_toNat_lt] at h1 h2
        omega

theorem cb_trans : ∀ {a b c : List UInt8}, Lib.compareBytes a b = -1 → Lib.compareBytes b c = -1 → Lib.compareBytes a c = -1
  | [], [], _, h, _ => by simp [Lib.compareBytes] at h
  | [], y :: b, [], _, h => by simp [Lib.compareBytes] at h
  | [], _ :: _, _ :: _, _, _ => by simp [Lib.compareBytes]
  | _ :: _, [], _, h, _ => by simp [Lib.compareBytes] at h
  | x :: a, y :: b, [], _, h => by simp [Lib.compareBytes] at h
  | x :: a, y :: b, z :: c, h1, h2 => by
    simp only [Lib.compareBytes] at h1 h2 ⊢
    have k1 : x < y ∨ (x = y ∧ Lib.compareBytes a b = -1) := by
      by_cases q : x < y
      · exact .inl q
      · by_cases q2 : y < x
        · simp [q, q2] at h1
        · refine .inr ⟨?_, by simpa [q, q2] using h1⟩
          apply UInt8.toNat_inj.1; rw [UInt8.lt_iff_toNat_lt] at q q2; omega
    have k2 : y < z ∨ (y = z ∧ Lib.compareBytes b c = -1) := by
      by_cases q : y < z
      · exact .inl q
      · by_cases q2 : z < y
        · simp [q, q2] at h2
        · refine .inr ⟨?_, by simpa [q, q2] using h2⟩
          apply UInt8.toNat_inj.1; rw [UInt8.lt_iff_toNat_lt] at q q2; omega
    rcases k1 with k1 | ⟨rfl, k1⟩
    · rcases k2 with k2 | ⟨rfl, k2⟩
      · have : x < z := by rw [UInt8.lt_iff_toNat_lt] at *; omega
        simp [this]
      · simp [k1]
    · rcases k2 with k2 | ⟨rfl, k2⟩
      · simp [k2]
      · have : ¬ x < x := by rw [UInt8.lt_iff_toNat_lt]; omega
        simp [this, cb_trans k1 k2]

theorem ltB_iff {a b : Beat} : F.ltB a b = true ↔ F.cmp a.session b.session = -1 ∨ (F.cmp a.session b.session = 0 ∧ a.no < b.no) := by
  unfold F.ltB F.border F.cmp
  rcases M.cmp_range a.session.data.toList b.session.data.toList with h | h | h <;> rw [h] <;> simp
  by_cases h1 : a.no < b.no
  · simp [h1]
  · by_cases h2 : b.no < a.no <;> simp [h1, h2]

end K

theorem F.swB : K.SW F.ltB := by
  refine ⟨fun a b h => ?_, fun a b c h1 h2 => ?_⟩
  · cases h2 : F.ltB b a
    · rfl
    · exfalso
      rw [K.ltB_iff] at h h2
      unfold F.cmp at h h2
      rw [K.cb_neg] at h2
      rcases h with h | ⟨h, h3⟩ <;> rcases h2 with h2 | ⟨h2, h4⟩ <;> omega
  · cases h3 : F.ltB c a
    · rfl
    · exfalso
      have n1 : ¬ (F.cmp b.session a.session = -1 ∨ (F.cmp b.session a.session = 0 ∧ b.no < a.no)) := fun e => by rw [K.ltB_iff.2 e] at h1; cases h1
      have n2 : ¬ (F.cmp c.session b.session = -1 ∨ (F.cmp c.session b.session = 0 ∧ c.no < b.no)) := fun e => by rw [K.ltB_iff.2 e] at h2; cases h2
      rw [K.ltB_iff] at h3
      unfold F.cmp at *
      have hr := M.cmp_range b.session.data.toList a.session.data.toList
      have hn := K.cb_neg a.session.data.toList b.session.data.toList
      rcases h3 with h3 | ⟨h3, h4⟩
      · rcases hr with hr | hr | hr
        · exact n1 (.inl hr)
        · rw [K.cb_zero hr] at n2
          exact n2 (.inl h3)
        · exact n2 (.inl (K.cb_trans h3 (by omega)))
      · have e := K.cb_zero h3
        rcases hr with hr | hr | hr
        · exact n1 (.inl hr)
        · have e2 := K.cb_zero hr
          rw [e, ← e2] at n2
          have : ¬ b.no < a.no := fun q => n1 (.inr ⟨hr, q⟩)
          exact n2 (.inr ⟨K.cb_refl _, by omega⟩)
        · rw [e] at n2
          exact n2 (.inl (by omega))

end Go.Proofs.Ytnkaadiofjoacaa
