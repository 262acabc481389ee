/- What is proved here: what Follows returns, of the program and of the reference, and the law on it (chapter 6). -/
import Derived.Test.YtkfhfjcgegimbaaFollows3
namespace Go.Proofs.Ytkfhfjcgegimbaa
open Go.RowKit
set_option linter.unusedVariables false

theorem followsF_ok {a b : Lst} (h : first2 (checkF a) (checkF b) = 0) : followsF a b = followsIn a b := by unfold followsF; rw [if_pos h]
theorem followsF_no {a b : Lst} (h : ¬ first2 (checkF a) (checkF b) = 0) : followsF a b = first2 (checkF a) (checkF b) := by unfold followsF; rw [if_neg h]
set_option maxRecDepth 100000 in
set_option maxHeartbeats 8000000 in
theorem Follows_any (a b : Lst) (A A' : Option Addr) (c c' : Nat) (w : World) (hla : a.entries.length ≤ 9223372036854775807) (hlb : b.entries.length ≤ 9223372036854775807)
    (hA : SlR 7 entR w (In w) a.entries A) (hB : SlR 7 entR w (In w) b.entries A') :
    Calls Try.prog 23 #[.agg #[.int .i64 a.target, .int .i64 a.first, .int .i64 a.breaks, .slice A a.entries.length c, .bool a.ended], .agg #[.int .i64 b.target, .int .i64 b.first, .int .i64 b.breaks, .slice A' b.entries.length c', .bool b.ended]] w fun r w' => r = .returned (.int .i64 (followsF a b)) ∧ Ext w w' := by
  have hW2 : Ext w ((w.alloc (.cells #[.int .i64 a.target, .int .i64 a.first, .int .i64 a.breaks, .slice A a.entries.length c, .bool a.ended] 24)).alloc (.cells #[.int .i64 b.target, .int .i64 b.first, .int .i64 b.breaks, .slice A' b.entries.length c', .bool b.ended] 24)) := Ext.trans (Ext.new w _) (Ext.new _ _)
  have hA2 := hA.ext keeps_ent hW2
  have hB2 := hB.ext keeps_ent hW2
  go_enter Try.func23, Try.ntmps23
  go_wp2
  have tok1 : True := trivial
  go_region_held3 (fun wx => (wx.cell? ⟨w.heap.size, 0, none⟩ = some (.int .i64 a.target) ∧ wx.cell? ⟨w.heap.size, 1, none⟩ = some (.int .i64 a.first) ∧ wx.cell? ⟨w.heap.size, 2, none⟩ = some (.int .i64 a.breaks) ∧ wx.cell? ⟨w.heap.size, 3, none⟩ = some (.slice A a.entries.length c) ∧ wx.cell? ⟨w.heap.size, 4, none⟩ = some (.bool a.ended)) ∧ (wx.cell? ⟨w.heap.size + 1, 0, none⟩ = some (.int .i64 b.target) ∧ wx.cell? ⟨w.heap.size + 1, 1, none⟩ = some (.int .i64 b.first) ∧ wx.cell? ⟨w.heap.size + 1, 2, none⟩ = some (.int .i64 b.breaks) ∧ wx.cell? ⟨w.heap.size + 1, 3, none⟩ = some (.slice A' b.entries.length c') ∧ wx.cell? ⟨w.heap.size + 1, 4, none⟩ = some (.bool b.ended))) (first | exact two_box (Ext.same _) | exact two_box (Ext.one _) | exact two_box hw1 | exact two_box hw2 | exact two_box (Ext.trans hw2 (Ext.new _ _)))
    (first
      | (go_at_call 36; have _t := tok1; refine (check_any a A c _ hla ?_).mono ?_; (exact hA2); (rintro r w1 ⟨rfl, hw1⟩; replace hw1 : Ext ((w.alloc (.cells #[.int .i64 a.target, .int .i64 a.first, .int .i64 a.breaks, .slice A a.entries.length c, .bool a.ended] 24)).alloc (.cells #[.int .i64 b.target, .int .i64 b.first, .int .i64 b.breaks, .slice A' b.entries.length c', .bool b.ended] 24)) w1 := Ext.trans (Ext.one _) hw1; clear tok1))
      | (go_at_call 36; refine (check_any b A' c' _ hlb ?_).mono ?_; (exact hB2.ext keeps_ent hw1); (rintro r w2 ⟨rfl, hw2⟩; replace hw2 : Ext ((w.alloc (.cells #[.int .i64 a.target, .int .i64 a.first, .int .i64 a.breaks, .slice A a.entries.length c, .bool a.ended] 24)).alloc (.cells #[.int .i64 b.target, .int .i64 b.first, .int .i64 b.breaks, .slice A' b.entries.length c', .bool b.ended] 24)) w2 := Ext.trans hw1 hw2))
      | (go_at_call 49; refine (first2_any (checkF a) (checkF b) w2.heap.size 0 _ ?_ ?_).mono ?_; (simp); (simp); rintro r w3 ⟨rfl, rfl⟩))
  have hE3 := Ext.trans hw2 (Ext.new w2 (.cells #[.int .i64 (checkF a), .int .i64 (checkF b)] 25))
  generalize w2.alloc (.cells #[.int .i64 (checkF a), .int .i64 (checkF b)] 25) = w3 at hE3 ⊢
  clear hw1 hw2
  by_cases hf : first2 (checkF a) (checkF b) = 0
  · obtain ⟨ha0, hb0⟩ := first2_zero hf
    have HF := Lib.hid (followsF_ok hf)
    have HA0 := Lib.hid ha0
    have HB0 := Lib.hid hb0
    rw [hf]
    clear ha0 hb0 hf
    obtain ⟨⟨t0, t1, t2, t3, t4⟩, ⟨s0, s1, s2, s3, s4⟩⟩ := two_box hE3
    go_wp2_with fail
    refine (follows_any a b A A' c c' w3 HA0.out HB0.out (hA2.ext keeps_ent hE3) (hB2.ext keeps_ent hE3)).mono ?_
    rintro r w4 ⟨rfl, hw4⟩
    go_wp2
    go_ret
    exact ⟨ret_int HF.out.symm, Ext.trans hW2 (Ext.trans hE3 hw4)⟩
  · have HF := Lib.hid (followsF_no hf)
    have hne : (first2 (checkF a) (checkF b) != 0) = true := by simpa using hf
    clear hf
    go_wp2
    go_ret
    exact ⟨ret_int HF.out.symm, Ext.trans hW2 hE3⟩

set_option maxRecDepth 100000 in
set_option maxHeartbeats 8000000 in
theorem refFollows_any (a b : Lst) (A A' : Option Addr) (c c' : Nat) (w : World) (hla : a.entries.length ≤ 9223372036854775807) (hlb : b.entries.length ≤ 9223372036854775807)
    (hA : SlR 7 entR w (In w) a.entries A) (hB : SlR 7 entR w (In w) b.entries A') :
    Calls Try.prog 24 #[.agg #[.int .i64 a.target, .int .i64 a.first, .int .i64 a.breaks, .slice A a.entries.length c, .bool a.ended], .agg #[.int .i64 b.target, .int .i64 b.first, .int .i64 b.breaks, .slice A' b.entries.length c', .bool b.ended]] w fun r w' => r = .returned (.int .i64 (followsF a b)) ∧ Ext w w' := by
  have hW2 : Ext w ((w.alloc (.cells #[.int .i64 a.target, .int .i64 a.first, .int .i64 a.breaks, .slice A a.entries.length c, .bool a.ended] 24)).alloc (.cells #[.int .i64 b.target, .int .i64 b.first, .int .i64 b.breaks, .slice A' b.entries.length c', .bool b.ended] 24)) := Ext.trans (Ext.new w _) (Ext.new _ _)
  have hA2 := hA.ext keeps_ent hW2
  have hB2 := hB.ext keeps_ent hW2
  go_enter Try.func24, Try.ntmps24
  go_wp2_with fail
  refine (refCheck_any a A c _ hla hA2).mono ?_
  rintro r w1 ⟨rfl, hw1⟩
  by_cases ha0 : checkF a = 0
  · have HA0 := Lib.hid ha0
    rw [ha0]
    clear ha0
    obtain ⟨⟨t0, t1, t2, t3, t4⟩, ⟨s0, s1, s2, s3, s4⟩⟩ := two_box hw1
    go_wp2_with fail
    refine (refCheck_any b A' c' _ hlb (hB2.ext keeps_ent hw1)).mono ?_
    rintro r w2 ⟨rfl, hw2⟩
    have hE2 := Ext.trans hw1 hw2
    clear t0 t1 t2 t3 t4 s0 s1 s2 s3 s4 hw1 hw2
    by_cases hb0 : checkF b = 0
    · have HF := Lib.hid (followsF_ok (show first2 (checkF a) (checkF b) = 0 from by unfold first2; rw [if_pos HA0.out, hb0]))
      have HB0 := Lib.hid hb0
      rw [hb0]
      clear hb0
      obtain ⟨⟨t0, t1, t2, t3, t4⟩, ⟨s0, s1, s2, s3, s4⟩⟩ := two_box hE2
      go_wp2_with fail
      refine (refFollows_in a b A A' c c' w2 HA0.out HB0.out (hA2.ext keeps_ent hE2) (hB2.ext keeps_ent hE2)).mono ?_
      rintro r w4 ⟨rfl, hw4⟩
      go_wp2
      go_ret
      exact ⟨ret_int HF.out.symm, Ext.trans hW2 (Ext.trans hE2 hw4)⟩
    · have e1 : first2 (checkF a) (checkF b) = checkF b := by unfold first2; rw [if_pos HA0.out]
      have HF : Hid (followsF a b = checkF b) := (followsF_no (by rw [e1]; exact hb0)).trans e1
      have hne : (checkF b != 0) = true := by simpa using hb0
      clear hb0 e1
      go_wp2
      go_ret
      exact ⟨ret_int HF.out.symm, Ext.trans hW2 hE2⟩
  · have e1 : first2 (checkF a) (checkF b) = checkF a := by unfold first2; rw [if_neg ha0]
    have HF : Hid (followsF a b = checkF a) := (followsF_no (by rw [e1]; exact ha0)).trans e1
    have hne : (checkF a != 0) = true := by simpa using ha0
    clear ha0 e1
    go_wp2
    go_ret
    exact ⟨ret_int HF.out.symm, Ext.trans hW2 hw1⟩

set_option maxRecDepth 100000 in
set_option maxHeartbeats 8000000 in
theorem listFollows_walk (a b : Lst) (A A' : Option Addr) (c c' : Nat) (w : World) (hla : a.entries.length ≤ 9223372036854775807) (hlb : b.entries.length ≤ 9223372036854775807)
    (hA : SlR 7 entR w (In w) a.entries A) (hB : SlR 7 entR w (In w) b.entries A') :
    Calls Try.prog 5 #[.agg #[.int .i64 a.target, .int .i64 a.first, .int .i64 a.breaks, .slice A a.entries.length c, .bool a.ended], .agg #[.int .i64 b.target, .int .i64 b.first, .int .i64 b.breaks, .slice A' b.entries.length c', .bool b.ended]] w fun r w' => r = .returned (.bool true) ∧ Ext w w' := by
  have hW2 : Ext w ((w.alloc (.cells #[.int .i64 a.target, .int .i64 a.first, .int .i64 a.breaks, .slice A a.entries.length c, .bool a.ended] 24)).alloc (.cells #[.int .i64 b.target, .int .i64 b.first, .int .i64 b.breaks, .slice A' b.entries.length c', .bool b.ended] 24)) := Ext.trans (Ext.new w _) (Ext.new _ _)
  have hA2 := hA.ext keeps_ent hW2
  have hB2 := hB.ext keeps_ent hW2
  have heq : (followsF a b == followsF a b) = true := by simp
  go_enter Try.func5, Try.ntmps5
  go_wp2
  go_region_held3 (fun wx => (wx.cell? ⟨w.heap.size, 0, none⟩ = some (.int .i64 a.target) ∧ wx.cell? ⟨w.heap.size, 1, none⟩ = some (.int .i64 a.first) ∧ wx.cell? ⟨w.heap.size, 2, none⟩ = some (.int .i64 a.breaks) ∧ wx.cell? ⟨w.heap.size, 3, none⟩ = some (.slice A a.entries.length c) ∧ wx.cell? ⟨w.heap.size, 4, none⟩ = some (.bool a.ended)) ∧ (wx.cell? ⟨w.heap.size + 1, 0, none⟩ = some (.int .i64 b.target) ∧ wx.cell? ⟨w.heap.size + 1, 1, none⟩ = some (.int .i64 b.first) ∧ wx.cell? ⟨w.heap.size + 1, 2, none⟩ = some (.int .i64 b.breaks) ∧ wx.cell? ⟨w.heap.size + 1, 3, none⟩ = some (.slice A' b.entries.length c') ∧ wx.cell? ⟨w.heap.size + 1, 4, none⟩ = some (.bool b.ended))) (first | exact two_box (Ext.same _) | exact two_box (Ext.one _) | exact two_box hw1 | exact two_box hw2 | exact two_box hw3)
    (first
      | (go_at_call 23; refine (Follows_any a b A A' c c' _ hla hlb ?_ ?_).mono ?_; (exact hA2); (exact hB2); (rintro r w1 ⟨rfl, hw1⟩; replace hw1 : Ext ((w.alloc (.cells #[.int .i64 a.target, .int .i64 a.first, .int .i64 a.breaks, .slice A a.entries.length c, .bool a.ended] 24)).alloc (.cells #[.int .i64 b.target, .int .i64 b.first, .int .i64 b.breaks, .slice A' b.entries.length c', .bool b.ended] 24)) w1 := Ext.trans (Ext.one _) hw1))
      | (go_at_call 24; refine (refFollows_any a b A A' c c' _ hla hlb ?_ ?_).mono ?_; (exact hA2.ext keeps_ent hw1); (exact hB2.ext keeps_ent hw1); (rintro r w2 ⟨rfl, hw2⟩; replace hw2 : Ext ((w.alloc (.cells #[.int .i64 a.target, .int .i64 a.first, .int .i64 a.breaks, .slice A a.entries.length c, .bool a.ended] 24)).alloc (.cells #[.int .i64 b.target, .int .i64 b.first, .int .i64 b.breaks, .slice A' b.entries.length c', .bool b.ended] 24)) w2 := Ext.trans hw1 hw2))
      | (go_at_call 15; refine (awake_any _).mono ?_; (rintro r w3 ⟨rfl, hw3⟩; replace hw3 : Ext ((w.alloc (.cells #[.int .i64 a.target, .int .i64 a.first, .int .i64 a.breaks, .slice A a.entries.length c, .bool a.ended] 24)).alloc (.cells #[.int .i64 b.target, .int .i64 b.first, .int .i64 b.breaks, .slice A' b.entries.length c', .bool b.ended] 24)) w3 := Ext.trans hw2 hw3)))
  go_wp2
  go_ret
  exact ⟨rfl, Ext.trans hW2 hw3⟩
end Go.Proofs.Ytkfhfjcgegimbaa
