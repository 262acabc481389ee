/- What is proved here: the line of times, plain: both ways of reading say the same (no statement of the seat). -/
import Derived.Test.YthcfbeckhgngiaaGreatDoorC111
namespace Go.Proofs.YthcfbeckhgngiaaGreatDoor
open Go Go.RowKit
set_option linter.unusedVariables false
set_option linter.unusedSimpArgs false

namespace F

theorem clkA {s p : ByteArray} {q : UInt8} (hp : bs p = [q]) (hq : q ≠ 48) (h : 12 ≤ s.size) :
    (rdT s p).2.2 = (rcl (s.extract 0 12) p).2 ∧ ((rdT s p).2.2 = true → (rdT s p).1 = (rcl (s.extract 0 12) p).1 ∧ (rdT s p).2.1 = s.extract 12 s.size) := by
  rw [size_bs] at h
  match hl : bs s, h with
  | c0 :: c1 :: c2 :: c3 :: c4 :: c5 :: c6 :: c7 :: c8 :: c9 :: c10 :: c11 :: r, _ => exact clk12 hp hq hl

theorem rdT_short {s p : ByteArray} (h : s.size < 12) : rdT s p = (0, ⟨⟨[]⟩⟩, false) := by
  unfold rdT
  rw [decide_eq_true h]
  rfl

theorem bsx {a b : ByteArray} (h : bs a = bs b) : a = b := ByteArray.ext (Array.ext' h)

theorem hasP_take (s p : ByteArray) : hasP s p = ((bs s).take p.size == bs p) := by
  unfold hasP Lib.hasPrefix
  rw [Bool.eq_iff_iff, List.isPrefixOf_iff_prefix, List.prefix_iff_eq_take, beq_iff_eq, size_bs]
  exact eq_comm

theorem rt_eq {s p : ByteArray} {q : UInt8} (hp : bs p = [q]) (hq : q ≠ 48) : (rtP s p).2.2.2 = (rtm s p).2.2.2 ∧ ((rtm s p).2.2.2 = true → rtP s p = rtm s p) := by
  by_cases h12 : s.size < 12
  · have e1 : (rtP s p).2.2.2 = false := by unfold rtP; rw [rdT_short h12]; rfl
    have e2 : rtm s p = (0, 0, ⟨⟨[]⟩⟩, false) := by unfold rtm rtB; rw [decide_eq_true (show s.size < 29 by omega)]; rfl
    rw [e1, e2]
    exact ⟨rfl, fun h => by cases h⟩
  have hA := clkA hp hq (s := s) (by omega)
  cases ho : (rdT s p).2.2
  · rw [ho] at hA
    have e1 : (rtP s p).2.2.2 = false := by unfold rtP; rw [ho]; simp
    have e2 : (rtm s p).2.2.2 = false := by
      unfold rtm
      cases rtB s
      · rw [cond_false]; simp only []; rw [← hA.1]; rfl
      · rfl
    rw [e1, e2]
    exact ⟨rfl, fun h => by cases h⟩
  rw [ho] at hA
  obtain ⟨a1, a2⟩ := hA
  obtain ⟨a2, a3⟩ := a2 rfl
  have hc : hasP (s.extract 12 s.size) arrow = F.seq (s.extract 12 17) arrow := by
    rw [hasP_take, seq_bs, bs_ext, bs_ext, show arrow.size = 5 from rfl]
    rw [List.take_of_length_le (l := bs s) (by rw [size_bs]; exact Nat.le_refl _), List.drop_take]
  cases hs : F.seq (s.extract 12 17) arrow
  · rw [hs] at hc
    have e1 : (rtP s p).2.2.2 = false := by
      unfold rtP
      have : (cutP (rdT s p).2.1 arrow).2 = false := by rw [a3]; unfold cutP; rw [hc]; rfl
      simp only [this, Bool.and_false, Bool.false_and]
    have e2 : rtm s p = (0, 0, ⟨⟨[]⟩⟩, false) := by unfold rtm rtB; rw [hs]; simp
    rw [e1, e2]
    exact ⟨rfl, fun h => by cases h⟩
  rw [hs] at hc
  have hz : (s.extract 17 s.size).size = s.size - 17 := by rw [ByteArray.size_extract]; omega
  have hcx : (s.extract 12 s.size).extract 5 (s.extract 12 s.size).size = s.extract 17 s.size := by
    refine bsx ?_
    rw [bs_ext, bs_ext, bs_ext]
    have l1 : (List.take s.size (bs s)) = bs s := List.take_of_length_le (by rw [size_bs]; exact Nat.le_refl _)
    have l2 : (s.extract 12 s.size).size = s.size - 12 := by rw [ByteArray.size_extract]; omega
    rw [l1, l2, List.take_of_length_le (by rw [List.length_drop, ← size_bs]; exact Nat.le_refl _), List.drop_drop]
  have hcut : cutP (rdT s p).2.1 arrow = (s.extract 17 s.size, true) := by
    rw [a3]
    unfold cutP
    rw [hc, cond_true, show arrow.size = 5 from rfl, hcx]
  by_cases h29 : s.size < 29
  · have e1 : (rtP s p).2.2.2 = false := by
      unfold rtP
      rw [hcut, rdT_short (s := s.extract 17 s.size) (by omega)]
      simp
    have e2 : rtm s p = (0, 0, ⟨⟨[]⟩⟩, false) := by unfold rtm rtB; rw [decide_eq_true h29]; rfl
    rw [e1, e2]
    exact ⟨rfl, fun h => by cases h⟩
  have hB := clkA hp hq (s := s.extract 17 s.size) (by omega)
  have x1 : (s.extract 17 s.size).extract 0 12 = s.extract 17 29 := by
    refine bsx ?_
    rw [bs_ext, bs_ext, bs_ext, List.drop_zero, List.take_of_length_le (l := bs s) (by rw [size_bs]; exact Nat.le_refl _), List.drop_take]
  have x2 : (s.extract 17 s.size).extract 12 (s.extract 17 s.size).size = s.extract 29 s.size := by
    refine bsx ?_
    rw [bs_ext, bs_ext, bs_ext, hz, List.take_of_length_le (l := bs s) (by rw [size_bs]; exact Nat.le_refl _), List.take_of_length_le (by rw [List.length_drop, ← size_bs]; exact Nat.le_refl _), List.drop_drop]
  rw [x1, x2] at hB
  have eB : rtB s = false := by unfold rtB; rw [decide_eq_false h29, hs]; rfl
  have e1 : (rtP s p).2.2.2 = (rdT (s.extract 17 s.size) p).2.2 := by
    unfold rtP
    rw [hcut, ho]
    simp
  have e2 : rtm s p = ((rcl (s.extract 0 12) p).1, (rcl (s.extract 17 29) p).1, s.extract 29 s.size, (rcl (s.extract 0 12) p).2 && (rcl (s.extract 17 29) p).2) := by
    unfold rtm; rw [eB]; rfl
  rw [e1, e2]
  simp only []
  rw [← a1, Bool.true_and]
  refine ⟨hB.1, fun h => ?_⟩
  rw [← hB.1] at h
  obtain ⟨b1, b2⟩ := hB.2 h
  unfold rtP
  rw [hcut, ho]
  simp only [a2, b1, b2, Bool.true_and, h]
  rw [← hB.1, h]

end F
end Go.Proofs.YthcfbeckhgngiaaGreatDoor
