/- What is proved here: the beginning of a segment in milliseconds by the reference is that of the program, and the first loop of headendref12.Keyed (no statement of the seat). -/
import Derived.Test.YtlemjphdhapfpaaGreatDoorD115
import Derived.Test.YtlemjphdhapfpaaGreatDoorD113
namespace Go.Proofs.YtlemjphdhapfpaaGreatDoor
open Go Go.RowKit
set_option linter.unusedVariables false
set_option linter.unusedSimpArgs false

theorem F.low_div {t b : Nat} (hb : 0 < b) : (t / Nat.gcd b t) / (b / Nat.gcd b t) = t / b ∧ (0 < (t / Nat.gcd b t) % (b / Nat.gcd b t) ↔ 0 < t % b) ∧ 0 < b / Nat.gcd b t := by
  have hg : 0 < Nat.gcd b t := Nat.gcd_pos_of_pos_left _ hb
  have e1 := Nat.mul_div_cancel' (Nat.gcd_dvd_right b t)
  have e2 := Nat.mul_div_cancel' (Nat.gcd_dvd_left b t)
  generalize Nat.gcd b t = g at *
  generalize t / g = t' at *
  generalize b / g = b' at *
  subst e1 e2
  refine ⟨(Nat.mul_div_mul_left _ _ hg).symm, ?_, Nat.pos_of_mul_pos_left hb⟩
  rw [Nat.mul_mod_mul_left]
  exact ⟨fun h => Nat.mul_pos hg h, fun h => Nat.pos_of_mul_pos_left h⟩

/-- Where a segment begins, or nought. -/
def F.brdAt (s : Seg) : Int := bif F.brdOk s then s.begin + s.lead else 0

/-- The beginning in milliseconds, by long numbers. -/
def F.mil (by_ : Int) (s : Seg) : Int :=
  F.whole 1 (decide (F.brdAt s < 0) && decide (0 < (F.brdAt s).natAbs * 1000)) ((F.brdAt s).natAbs * 1000 / Nat.gcd by_.natAbs ((F.brdAt s).natAbs * 1000)) (by_.natAbs / Nat.gcd by_.natAbs ((F.brdAt s).natAbs * 1000))

theorem F.brdAt_le (s : Seg) : (F.brdAt s).natAbs ≤ 1000000000000000 := by
  unfold F.brdAt
  cases h : F.brdOk s
  · simp
  · unfold F.brdOk at h
    simp only [Bool.not_eq_true', decide_eq_false_iff_not] at h
    simp only [cond_true]; omega

theorem F.whole_1 {xn : Bool} {t b : Nat} (hb : 0 < b) (ht : t ≤ 1000000000000000000) :
    F.whole 1 xn (t / Nat.gcd b t) (b / Nat.gcd b t) = F.sg xn (bif xn && decide (0 < t % b) then t / b + 1 else t / b) := by
  obtain ⟨h1, h2, h3⟩ := F.low_div (t := t) hb
  have hd : t / b ≤ t := Nat.div_le_self _ _
  have e : F.rndU 1 xn (t / Nat.gcd b t) (b / Nat.gcd b t) = bif xn && decide (0 < t % b) then t / b + 1 else t / b := by
    unfold F.rndU F.rndUp
    rw [h1]
    by_cases c : 0 < t % b
    · rw [decide_eq_true c, decide_eq_true (h2.2 c)]; rfl
    · rw [decide_eq_false c, decide_eq_false (fun h => c (h2.1 h))]; rfl
  unfold F.whole
  rw [e]
  have hle : (bif xn && decide (0 < t % b) then t / b + 1 else t / b) ≤ t + 1 := by
    cases xn && decide (0 < t % b)
    · simp only [cond_false]; omega
    · simp only [cond_true]; omega
  rw [decide_eq_false (by omega), cond_false]

theorem F.mil_ok {by_ : Int} (hby : 1 ≤ by_) (s : Seg) : (!F.brdOk s || decide (F.mil by_ s < 0)) = !F.bndOk s ∧ (F.bndOk s = true → F.mil by_ s = F.bnd s by_) := by
  have hle := F.brdAt_le s
  have hb : 0 < by_.natAbs := by omega
  have hw := F.whole_1 (xn := decide (F.brdAt s < 0) && decide (0 < (F.brdAt s).natAbs * 1000)) (t := (F.brdAt s).natAbs * 1000) hb (by omega)
  have hm : F.mil by_ s = _ := hw
  have hbk : F.bndOk s = (F.brdOk s && decide (0 ≤ s.begin + s.lead)) := by
    unfold F.bndOk F.brdOk F.isSum
    by_cases h1 : (1000000000000000 : Int) < ((s.begin + s.lead).natAbs : Int)
    · rw [decide_eq_true h1]
      by_cases h2 : 0 ≤ s.begin + s.lead
      · rw [decide_eq_false (by omega : ¬ s.begin + s.lead ≤ 1000000000000000)]; simp
      · rw [decide_eq_false h2]; simp
    · rw [decide_eq_false h1, decide_eq_true (by omega : -1000000000000000 ≤ s.begin + s.lead), decide_eq_true (by omega : s.begin + s.lead ≤ 1000000000000000)]
      simp
  rw [hm, hbk]
  cases hk : F.brdOk s
  · exact ⟨by simp, by simp⟩
  · have ha : F.brdAt s = s.begin + s.lead := by unfold F.brdAt; rw [hk]; rfl
    rw [ha] at hle ⊢
    clear hw hm hbk
    unfold F.sg
    by_cases hn : s.begin + s.lead < 0
    · have h1 : decide (0 < (s.begin + s.lead).natAbs * 1000) = true := decide_eq_true (by omega)
      have h2 : decide (0 ≤ s.begin + s.lead) = false := decide_eq_false (by omega)
      rw [decide_eq_true hn, h1, h2]
      refine ⟨?_, fun h => by simp at h⟩
      have hp : 0 < (s.begin + s.lead).natAbs * 1000 / by_.natAbs ∨ 0 < (s.begin + s.lead).natAbs * 1000 % by_.natAbs := by
        have := Nat.div_add_mod ((s.begin + s.lead).natAbs * 1000) by_.natAbs
        rcases Nat.eq_zero_or_pos ((s.begin + s.lead).natAbs * 1000 / by_.natAbs) with h | h
        · rw [h] at this; right; omega
        · exact Or.inl h
      generalize (s.begin + s.lead).natAbs * 1000 / by_.natAbs = q at hp ⊢
      by_cases hr : 0 < (s.begin + s.lead).natAbs * 1000 % by_.natAbs
      · rw [decide_eq_true hr]
        simp
        try omega
      · rw [decide_eq_false hr]
        have : 0 < q := hp.resolve_right hr
        simp
        try omega
    · have h2 : decide (0 ≤ s.begin + s.lead) = true := decide_eq_true (by omega)
      have hq : (s.begin + s.lead).natAbs * 1000 / by_.natAbs ≤ (s.begin + s.lead).natAbs * 1000 := Nat.div_le_self _ _
      rw [decide_eq_false hn, h2]
      simp only [Bool.false_and, cond_false, Bool.not_true, Bool.and_self, Bool.false_or]
      unfold F.bnd F.scl F.sclS F.sclP F.rnd F.sclQ
      rw [decide_eq_false hn]
      simp only [Bool.false_and, cond_false, beq_self_eq_true, cond_true]
      rw [show (1000 : Int).natAbs = 1000 from rfl]
      generalize (s.begin + s.lead).natAbs * 1000 / by_.natAbs = q at hq ⊢
      refine ⟨decide_eq_false (by omega), fun _ => ?_⟩
      rw [decide_eq_false (by omega), cond_false]

end Go.Proofs.YtlemjphdhapfpaaGreatDoor
