/- What is proved here: the comparisons of lists, of the program and of the reference (chapter 6). -/
import Derived.Test.YtkfhfjcgegimbaaSame2
import Derived.Test.YtkfhfjcgegimbaaSwitchLaws
namespace Go.Proofs.Ytkfhfjcgegimbaa
open Go.RowKit
set_option linter.unusedVariables false

/-- Lists are equal. -/
def eqLst (a b : Lst) : Bool := (a.target == b.target) && (a.first == b.first) && (a.breaks == b.breaks) && (a.ended == b.ended) && eqEs a.entries b.entries
theorem eqLst_iff {a b : Lst} : eqLst a b = true ↔ a = b := by
  rcases a with ⟨t, f, k, es, e⟩
  rcases b with ⟨t', f', k', es', e'⟩
  simp only [eqLst, Bool.and_eq_true, beq_iff_eq, eqEs_iff, Lst.mk.injEq]
  constructor
  · rintro ⟨⟨⟨⟨h1, h2⟩, h3⟩, h4⟩, h5⟩
    exact ⟨h1, h2, h3, h5, h4⟩
  · rintro ⟨rfl, rfl, rfl, rfl, rfl⟩
    simp

set_option maxHeartbeats 1600000 in
theorem sameList_any (a b : Lst) (A A' : Option Addr) (c c' : Nat) (w : World) (hl : a.entries.length ≤ 9223372036854775807) (hA : SlR 7 entR w (In w) a.entries A) (hB : SlR 7 entR w (In w) b.entries A') :
    Calls Try.prog 68 #[.agg #[.int .i64 a.target, .int .i64 a.first, .int .i64 a.breaks, .slice A a.entries.length c, .bool a.ended], .agg #[.int .i64 b.target, .int .i64 b.first, .int .i64 b.breaks, .slice A' b.entries.length c', .bool b.ended]] w fun r w' => r = .returned (.bool (eqLst a b)) ∧ Ext w w' := by
  cases h1 : (a.target == b.target)
  · have HF : Hid (eqLst a b = false) := by unfold Hid eqLst; simp [*]
    have nb : (a.target != b.target) = true := by simp [bne, *]
    go_enter Try.func68, Try.ntmps68
    go_wp2_with fail
    go_ret
    exact ⟨ret_bool HF.out.symm, Ext.trans (Ext.new _ _) (Ext.new _ _)⟩
  have n1 : (a.target != b.target) = false := by simp [bne, h1]
  cases h2 : (a.first == b.first)
  · have HF : Hid (eqLst a b = false) := by unfold Hid eqLst; simp [*]
    have nb : (a.first != b.first) = true := by simp [bne, *]
    go_enter Try.func68, Try.ntmps68
    go_wp2_with fail
    go_ret
    exact ⟨ret_bool HF.out.symm, Ext.trans (Ext.new _ _) (Ext.new _ _)⟩
  have n2 : (a.first != b.first) = false := by simp [bne, h2]
  cases h3 : (a.breaks == b.breaks)
  · have HF : Hid (eqLst a b = false) := by unfold Hid eqLst; simp [*]
    have nb : (a.breaks != b.breaks) = true := by simp [bne, *]
    go_enter Try.func68, Try.ntmps68
    go_wp2_with fail
    go_ret
    exact ⟨ret_bool HF.out.symm, Ext.trans (Ext.new _ _) (Ext.new _ _)⟩
  have n3 : (a.breaks != b.breaks) = false := by simp [bne, h3]
  cases h4 : (a.ended == b.ended)
  · have HF : Hid (eqLst a b = false) := by unfold Hid eqLst; simp [*]
    have nb : (a.ended != b.ended) = true := by simp [bne, *]
    go_enter Try.func68, Try.ntmps68
    go_wp2_with fail
    go_ret
    exact ⟨ret_bool HF.out.symm, Ext.trans (Ext.new _ _) (Ext.new _ _)⟩
  have n4 : (a.ended != b.ended) = false := by simp [bne, h4]
  have HF : Hid (eqLst a b = eqEs a.entries b.entries) := by unfold Hid eqLst; simp [*]
  go_enter Try.func68, Try.ntmps68
  go_wp2_with fail
  refine (equalFunc_any a.entries b.entries A A' c c' _ hl (hA.ext keeps_ent (Ext.trans (Ext.new _ _) (Ext.new _ _))) (hB.ext keeps_ent (Ext.trans (Ext.new _ _) (Ext.new _ _)))).mono ?_
  rintro r w1 ⟨rfl, hw⟩
  go_wp2
  go_ret
  exact ⟨ret_bool HF.out.symm, Ext.trans (Ext.trans (Ext.new _ _) (Ext.new _ _)) hw⟩

set_option maxRecDepth 100000 in
set_option maxHeartbeats 3200000 in
theorem refSameList_any (a b : Lst) (A A' : Option Addr) (c c' : Nat) (w : World) (hl : a.entries.length ≤ 9223372036854775807) (hA : SlR 7 entR w (In w) a.entries A) (hB : SlR 7 entR w (In w) b.entries A') :
    Calls Try.prog 18 #[.agg #[.int .i64 a.target, .int .i64 a.first, .int .i64 a.breaks, .slice A a.entries.length c, .bool a.ended], .agg #[.int .i64 b.target, .int .i64 b.first, .int .i64 b.breaks, .slice A' b.entries.length c', .bool b.ended]] w fun r w' => r = .returned (.bool (eqLst a b)) ∧ Ext w w' := by
  cases h1 : (a.target == b.target)
  · have HF : Hid (eqLst a b = false) := by unfold Hid eqLst; simp [*]
    have nb : (a.target != b.target) = true := by simp [bne, *]
    go_enter Try.func18, Try.ntmps18
    go_wp2_with fail
    go_ret
    exact ⟨ret_bool HF.out.symm, Ext.trans (Ext.new _ _) (Ext.new _ _)⟩
  have n1 : (a.target != b.target) = false := by simp [bne, h1]
  cases h2 : (a.first == b.first)
  · have HF : Hid (eqLst a b = false) := by unfold Hid eqLst; simp [*]
    have nb : (a.first != b.first) = true := by simp [bne, *]
    go_enter Try.func18, Try.ntmps18
    go_wp2_with fail
    go_ret
    exact ⟨ret_bool HF.out.symm, Ext.trans (Ext.new _ _) (Ext.new _ _)⟩
  have n2 : (a.first != b.first) = false := by simp [bne, h2]
  cases h3 : (a.breaks == b.breaks)
  · have HF : Hid (eqLst a b = false) := by unfold Hid eqLst; simp [*]
    have nb : (a.breaks != b.breaks) = true := by simp [bne, *]
    go_enter Try.func18, Try.ntmps18
    go_wp2_with fail
    go_ret
    exact ⟨ret_bool HF.out.symm, Ext.trans (Ext.new _ _) (Ext.new _ _)⟩
  have n3 : (a.breaks != b.breaks) = false := by simp [bne, h3]
  cases h4 : (a.ended == b.ended)
  · have HF : Hid (eqLst a b = false) := by unfold Hid eqLst; simp [*]
    have nb : (a.ended != b.ended) = true := by simp [bne, *]
    go_enter Try.func18, Try.ntmps18
    go_wp2_with fail
    go_ret
    exact ⟨ret_bool HF.out.symm, Ext.trans (Ext.new _ _) (Ext.new _ _)⟩
  have n4 : (a.ended != b.ended) = false := by simp [bne, h4]
  have HF : Hid (eqLst a b = eqEs a.entries b.entries) := by unfold Hid eqLst; simp [*]
  by_cases hll : a.entries.length = b.entries.length
  · have hlb : ((a.entries.length : Int) != (b.entries.length : Int)) = false := by simp; omega
    have HL := Lib.hid hll
    clear hll
    go_enter Try.func18, Try.ntmps18
    go_wp2
    go_loopw [5] (fun i wr => ∃ k : Nat, k ≤ a.entries.length ∧ i = .int .i64 k ∧ Ext ((w.alloc (.cells #[.int .i64 a.target, .int .i64 a.first, .int .i64 a.breaks, .slice A a.entries.length c, .bool a.ended] 24)).alloc (.cells #[.int .i64 b.target, .int .i64 b.first, .int .i64 b.breaks, .slice A' b.entries.length c', .bool b.ended] 24)) wr ∧ Hid (eqEs (a.entries.drop k) (b.entries.drop k) = eqEs a.entries b.entries)) (fun i wr => a.entries.length - (intOf i).toNat)
    case atStart => exact ⟨0, Nat.zero_le _, rfl, Ext.same _, rfl⟩
    case round =>
      obtain ⟨k, hk, rfl, hE, hv⟩ := hrel
      have hEw : Ext w wr := Ext.trans (Ext.trans (Ext.new _ _) (Ext.new _ _)) hE
      obtain ⟨⟨t0, t1, t2, t3, t4⟩, ⟨s0, s1, s2, s3, s4⟩⟩ := two_box hE
      by_cases hlt : k < a.entries.length
      · have hlt2 : k < b.entries.length := by rw [← HL.out]; exact hlt
        have hd := Lib.hid (drop_cons hlt)
        have hd2 := Lib.hid (drop_cons hlt2)
        obtain ⟨bb, off, X, cx, rfl, hin, c0, c1, c2, c3, c4, c5, c6, g1, g2, g3, g4, g5, g6, g7, g8⟩ := ent_at (hA.ext keeps_ent hEw) hlt
        obtain ⟨b', off', X', cx', rfl, hin2, d0, d1, d2, d3, d4, d5, d6, k1, k2, k3, k4, k5, k6, k7, k8⟩ := ent_at (hB.ext keeps_ent hEw) hlt2
        have i1 : (k : Int) < (a.entries.length : Int) := by omega
        have i2 : (k : Int) < (b.entries.length : Int) := by omega
        cases he : eqE a.entries[k] b.entries[k]
        · go_wp2_with fail
          go_still_tail 10, (by kernel_rfl)
          change wpList _ _ _ _ _ wr.drew
          go_wp2_with fail
          refine (refSameEntry_any a.entries[k] b.entries[k] X X' cx cx' wr.drew (by omega) g8 k8).mono ?_
          rintro r w1 ⟨rfl, hw⟩
          rw [he]
          go_wp2
          go_ret
          exact ⟨ret_bool (by rw [HF.out, ← hv.out, hd.out, hd2.out, eqEs, he]; rfl), Ext.trans hEw (Ext.trans (Ext.one _) hw)⟩
        · go_wp2_with fail
          go_still_tail 10, (by kernel_rfl)
          change wpList _ _ _ _ _ wr.drew
          go_wp2_with fail
          refine (refSameEntry_any a.entries[k] b.entries[k] X X' cx cx' wr.drew (by omega) g8 k8).mono ?_
          rintro r w1 ⟨rfl, hw⟩
          rw [he]
          go_wp2
          go_roundw
          case rel => exact ⟨k + 1, by omega, by go_num, Ext.trans hE (Ext.trans (Ext.one _) hw), Lib.hid (by have h := hv.out; rw [hd.out, hd2.out, eqEs, he] at h; simpa using h)⟩
          case measure => simp [intOf]; omega
      · go_wp2
        go_ret
        exact ⟨ret_bool (by rw [HF.out, ← hv.out, List.drop_eq_nil_of_le (by omega), List.drop_eq_nil_of_le (by have := HL.out; omega)]; rfl), hEw⟩
  · have hlb : ((a.entries.length : Int) != (b.entries.length : Int)) = true := by simp; omega
    have HF2 : Hid (eqLst a b = false) := HF.out.trans (eqEs_len hll)
    clear hll
    go_enter Try.func18, Try.ntmps18
    go_wp2_with fail
    go_ret
    exact ⟨ret_bool HF2.out.symm, Ext.trans (Ext.new _ _) (Ext.new _ _)⟩

/-- Follows, for lists that Check lets pass. -/
def cmpG : List Ent → List Int → List Ent → List Int → Int
  | e :: r, n :: ns, f :: s, m :: ms => if eqE e f = true then if n = m then cmpG r ns s ms else 3 else 12
  | _, _, _, _ => 0
def lastN (a : Lst) : Int := a.breaks + cntF a.entries
def followsIn (a b : Lst) : Int :=
  if a.target ≠ b.target then 6 else if a.ended = true ∧ eqLst a b = false then 11 else
  if b.first < a.first ∨ b.first + b.entries.length < a.first + a.entries.length then 8 else
  if cmpG (a.entries.drop (b.first - a.first).toNat) ((bnF a.breaks a.entries).drop (b.first - a.first).toNat) b.entries (bnF b.breaks b.entries) = 0 then
    if a.first + a.entries.length ≤ b.first ∧ b.breaks < lastN a then 8 else 0
  else cmpG (a.entries.drop (b.first - a.first).toNat) ((bnF a.breaks a.entries).drop (b.first - a.first).toNat) b.entries (bnF b.breaks b.entries)
def followsF (a b : Lst) : Int := if first2 (checkF a) (checkF b) = 0 then followsIn a b else first2 (checkF a) (checkF b)
end Go.Proofs.Ytkfhfjcgegimbaa
