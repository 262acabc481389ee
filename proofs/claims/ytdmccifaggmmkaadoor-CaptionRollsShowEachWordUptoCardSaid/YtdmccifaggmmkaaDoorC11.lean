/- What is proved here: how a time is moved, of both (no statement of the seat). -/
import Derived.Test.YtdmccifaggmmkaaDoorC10
namespace Go.Proofs.YtdmccifaggmmkaaDoor
open Go Go.RowKit
set_option linter.unusedVariables false
set_option linter.unusedSimpArgs false

/-- A time. -/
def F.tm (n : Int) : Bool := !F.noTime n

theorem F.tm_iff {n : Int} : F.tm n = true ↔ 0 ≤ n ∧ n ≤ 359999999 := by
  unfold F.tm F.noTime F.out
  simp

def F.num (a b : Mch) (t : Int) : Int := 2 * (t - a.was) * (b.now - a.now) + (b.was - a.was)

def F.den (a b : Mch) : Int := 2 * (b.was - a.was)

/-- A time that is moved. -/
def F.strT (a b : Mch) (t : Int) : Int := a.now + F.num a b t / F.den a b

def F.mOK (a b : Mch) : Bool := F.tm a.was && F.tm a.now && F.tm b.was && F.tm b.now && F.lt a.was b.was && F.lt a.now b.now

theorem F.mOK_iff {a b : Mch} : F.mOK a b = true ↔ ((((F.tm a.was = true ∧ F.tm a.now = true) ∧ F.tm b.was = true) ∧ F.tm b.now = true) ∧ a.was < b.was) ∧ a.now < b.now := by
  simp [F.mOK, F.lt]

theorem F.mul_bd {M x y : Int} (h1 : -M ≤ x) (h2 : x ≤ M) (h3 : 0 ≤ y) (h4 : y ≤ M) : -(M * M) ≤ x * y ∧ x * y ≤ M * M := by
  have hM : 0 ≤ M := by omega
  have a1 := Int.mul_le_mul_of_nonneg_right h2 h3
  have a2 := Int.mul_le_mul_of_nonneg_left h4 hM
  have a3 := Int.mul_le_mul_of_nonneg_right h1 h3
  rw [Int.neg_mul] at a3
  omega

/-- The numbers are small. -/
theorem F.num_bd {a b : Mch} {t : Int} (h : F.mOK a b = true) (ht : F.tm t = true) :
    0 < b.was - a.was ∧ b.was - a.was ≤ 359999999 ∧ 0 < b.now - a.now ∧ b.now - a.now ≤ 359999999 ∧ -359999999 ≤ t - a.was ∧ t - a.was ≤ 359999999 ∧
    -300000000000000000 ≤ 2 * (t - a.was) * (b.now - a.now) ∧ 2 * (t - a.was) * (b.now - a.now) ≤ 300000000000000000 := by
  obtain ⟨⟨⟨⟨⟨h1, h2⟩, h3⟩, h4⟩, h5⟩, h6⟩ := F.mOK_iff.1 h
  rw [F.tm_iff] at h1 h2 h3 h4 ht
  have := F.mul_bd (M := 359999999) (x := t - a.was) (y := b.now - a.now) (by omega) (by omega) (by omega) (by omega)
  have e : 2 * (t - a.was) * (b.now - a.now) = 2 * ((t - a.was) * (b.now - a.now)) := Int.mul_assoc ..
  rw [e]
  generalize (t - a.was) * (b.now - a.now) = z at this ⊢
  refine ⟨?_, ?_, ?_, ?_, ?_, ?_, ?_, ?_⟩ <;> omega

/-- Rounded down, from what is rounded to zero. -/
theorem F.down {n d : Int} (hd : 0 < d) : (bif decide (n.tmod d < 0) then n.tdiv d - 1 else n.tdiv d) = n / d := by
  rw [Int.tdiv_eq_ediv, Int.tmod_eq_emod]
  have h0 := Int.emod_nonneg n (show d ≠ 0 by omega)
  have h1 := Int.emod_lt_of_pos n hd
  have hs : d.sign = 1 := Int.sign_eq_one_of_pos hd
  by_cases h : 0 ≤ n ∨ d ∣ n
  · rw [if_pos h, if_pos h, decide_eq_false (by omega), cond_false]; omega
  · rw [if_neg h, if_neg h, hs, decide_eq_true (by omega), cond_true]; omega

theorem F.down_neg {n d : Int} (hd : 0 < d) : 0 - (0 - n + d - 1) / d = n / d := by
  have h0 := Int.emod_nonneg n (show d ≠ 0 by omega)
  have h1 := Int.emod_lt_of_pos n hd
  have h2 := Int.emod_add_mul_ediv n d
  have e : 0 - n + d - 1 = (d - 1 - n % d) + d * (-(n / d)) := by
    rw [Int.mul_neg]; omega
  rw [e, Int.add_mul_ediv_left _ _ (by omega), Int.ediv_eq_zero_of_lt (by omega) (by omega)]
  omega

theorem F.tdiv_bd {n d M : Int} (hd : 0 < d) (h1 : -M ≤ n) (h2 : n ≤ M) : -M ≤ n.tdiv d ∧ n.tdiv d ≤ M := by
  have h := Int.natAbs_tdiv_le_natAbs n d
  omega

theorem F.ediv_bd {n d M : Int} (hd : 0 < d) (hM : 0 ≤ M) (h1 : -M ≤ n) (h2 : n ≤ M) : -M - 1 ≤ n / d ∧ n / d ≤ M := by
  have h := F.tdiv_bd hd h1 h2
  have k := F.down (n := n) hd
  rw [← k]
  cases decide (n.tmod d < 0)
  · simp only [cond_false]; omega
  · simp only [cond_true]; omega

def F.fdv (n d : Int) : Int := n / d

namespace M

def encCl1 (t : Int) (a : Mch) (b : Mch) (d : Int) : List AV := [vI t, .pel (eMch a) 0, .pel (eMch b) 0, .pel [vI d] 0]

def encCl (a : Int × Mch × Mch × Int) : List AV := encCl1 a.1 a.2.1 a.2.2.1 a.2.2.2

theorem encCl_inj (a a' : Int × Mch × Mch × Int) (h : encCl a = encCl a') : a = a' := by
  simp only [encCl, encCl1] at h
  try simp [strs_inj, ints_inj, bools_inj, eCaps_inj, eCap_iff, eL_eCaps_inj, eMchs_inj, eMch_iff, eWrds_inj, eWrd_iff, eFnds_inj, eFnd_iff, eRatios_inj, eRatio_iff, eWays_inj, eWay_iff] at h
  grind

theorem unCl (t : Int) (a : Mch) (b : Mch) (d : Int) : unenc encCl ([(vI t), AV.pel [(vI a.was), (vI a.now)] (0 : Nat), AV.pel [(vI b.was), (vI b.now)] (0 : Nat), AV.pel [(vI d)] (0 : Nat)]) = some (t, a, b, d) := unenc_of encCl_inj (t, a, b, d) rfl

theorem unClw (t : Int) (a_was : Int) (a_now : Int) (b_was : Int) (b_now : Int) (d : Int) : unenc encCl ([(vI t), AV.pel [(vI a_was), (vI a_now)] (0 : Nat), AV.pel [(vI b_was), (vI b_now)] (0 : Nat), AV.pel [(vI d)] (0 : Nat)]) = some (t, (Mch.mk a_was a_now), (Mch.mk b_was b_now), d) := unenc_of encCl_inj (t, (Mch.mk a_was a_now), (Mch.mk b_was b_now), d) rfl

def resCl1 (t : Int) (a : Mch) (b : Mch) (d : Int) : AV × Heap := (vI (F.strT a b t), [])

def preCl1 (t : Int) (a : Mch) (b : Mch) (d : Int) : Bool := F.mOK a b && F.tm t && (d == F.den a b)

def encFlo1 (n : Int) (d : Int) : List AV := [vI n, vI d]

def encFlo (a : Int × Int) : List AV := encFlo1 a.1 a.2

theorem encFlo_inj (a a' : Int × Int) (h : encFlo a = encFlo a') : a = a' := by
  simp only [encFlo, encFlo1] at h
  try simp [strs_inj, ints_inj, bools_inj, eCaps_inj, eCap_iff, eL_eCaps_inj, eMchs_inj, eMch_iff, eWrds_inj, eWrd_iff, eFnds_inj, eFnd_iff, eRatios_inj, eRatio_iff, eWays_inj, eWay_iff] at h
  grind

theorem unFlo (n : Int) (d : Int) : unenc encFlo ([(vI n), (vI d)]) = some (n, d) := unenc_of encFlo_inj (n, d) rfl

def resFlo1 (n : Int) (d : Int) : AV × Heap := (vI (F.fdv n d), [])

def preFlo1 (n : Int) (d : Int) : Bool := F.lt 0 d && F.le d 1000000000 && F.le (-1000000000000000000) n && F.le n 1000000000000000000

def encSd1 (t : Int) (a : Mch) (b : Mch) : List AV := [vI t, .agg (eMch a), .agg (eMch b)]

def encSd (a : Int × Mch × Mch) : List AV := encSd1 a.1 a.2.1 a.2.2

theorem encSd_inj (a a' : Int × Mch × Mch) (h : encSd a = encSd a') : a = a' := by
  simp only [encSd, encSd1] at h
  try simp [strs_inj, ints_inj, bools_inj, eCaps_inj, eCap_iff, eL_eCaps_inj, eMchs_inj, eMch_iff, eWrds_inj, eWrd_iff, eFnds_inj, eFnd_iff, eRatios_inj, eRatio_iff, eWays_inj, eWay_iff] at h
  grind

theorem unSd (t : Int) (a : Mch) (b : Mch) : unenc encSd ([(vI t), AV.agg [(vI a.was), (vI a.now)], AV.agg [(vI b.was), (vI b.now)]]) = some (t, a, b) := unenc_of encSd_inj (t, a, b) rfl

theorem unSdw (t : Int) (a_was : Int) (a_now : Int) (b_was : Int) (b_now : Int) : unenc encSd ([(vI t), AV.agg [(vI a_was), (vI a_now)], AV.agg [(vI b_was), (vI b_now)]]) = some (t, (Mch.mk a_was a_now), (Mch.mk b_was b_now)) := unenc_of encSd_inj (t, (Mch.mk a_was a_now), (Mch.mk b_was b_now)) rfl

def resSd1 (t : Int) (a : Mch) (b : Mch) : AV × Heap := (vI (F.strT a b t), [])

def preSd1 (t : Int) (a : Mch) (b : Mch) : Bool := F.mOK a b && F.tm t

end M
end Go.Proofs.YtdmccifaggmmkaaDoor
