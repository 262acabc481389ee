/- What is proved here: the comparison of entries of the reference; the comparisons of lists (chapter 6). -/
import Derived.Test.YtkfhfjcgegimbaaSame
namespace Go.Proofs.Ytkfhfjcgegimbaa
open Go.RowKit
set_option linter.unusedVariables false

set_option maxHeartbeats 3200000 in
theorem refSameEntry_any (a b : Ent) (X Y : Option Addr) (c d : Nat) (w : World) (hx : a.extra.length ≤ 9223372036854775807) (hX : SlR 1 strR w (In w) a.extra X) (hY : SlR 1 strR w (In w) b.extra Y) :
    Calls Try.prog 35 #[.agg #[.string a.uri, .int .i64 a.milli, .bool a.brk, .int .i64 a.date, .string a.key, .bool a.gap, .slice X a.extra.length c], .agg #[.string b.uri, .int .i64 b.milli, .bool b.brk, .int .i64 b.date, .string b.key, .bool b.gap, .slice Y b.extra.length d]] w fun r w' => r = .returned (.bool (eqE a b)) ∧ Ext w w' := by
  cases h1 : (a.uri.toList == b.uri.toList)
  · have HF : Hid (eqE a b = false) := by unfold Hid eqE; simp [*]
    have hb : (a.uri.toList != b.uri.toList) = true := by simp [bne, *]
    go_enter Try.func35, Try.ntmps35
    go_wp2_with fail
    go_ret
    exact ⟨ret_bool HF.out.symm, Ext.trans (Ext.new _ _) (Ext.new _ _)⟩
  have n1 : (a.uri.toList != b.uri.toList) = false := by simp [bne, h1]
  cases h2 : (a.milli == b.milli)
  · have HF : Hid (eqE a b = false) := by unfold Hid eqE; simp [*]
    have hb : (a.milli != b.milli) = true := by simp [bne, *]
    go_enter Try.func35, Try.ntmps35
    go_wp2_with fail
    go_ret
    exact ⟨ret_bool HF.out.symm, Ext.trans (Ext.new _ _) (Ext.new _ _)⟩
  have n2 : (a.milli != b.milli) = false := by simp [bne, h2]
  cases h3 : (a.brk == b.brk)
  · have HF : Hid (eqE a b = false) := by unfold Hid eqE; simp [*]
    have hb : (a.brk != b.brk) = true := by simp [bne, *]
    go_enter Try.func35, Try.ntmps35
    go_wp2_with fail
    go_ret
    exact ⟨ret_bool HF.out.symm, Ext.trans (Ext.new _ _) (Ext.new _ _)⟩
  have n3 : (a.brk != b.brk) = false := by simp [bne, h3]
  cases h4 : (a.date == b.date)
  · have HF : Hid (eqE a b = false) := by unfold Hid eqE; simp [*]
    have hb : (a.date != b.date) = true := by simp [bne, *]
    go_enter Try.func35, Try.ntmps35
    go_wp2_with fail
    go_ret
    exact ⟨ret_bool HF.out.symm, Ext.trans (Ext.new _ _) (Ext.new _ _)⟩
  have n4 : (a.date != b.date) = false := by simp [bne, h4]
  cases h5 : (a.key.toList == b.key.toList)
  · have HF : Hid (eqE a b = false) := by unfold Hid eqE; simp [*]
    have hb : (a.key.toList != b.key.toList) = true := by simp [bne, *]
    go_enter Try.func35, Try.ntmps35
    go_wp2_with fail
    go_ret
    exact ⟨ret_bool HF.out.symm, Ext.trans (Ext.new _ _) (Ext.new _ _)⟩
  have n5 : (a.key.toList != b.key.toList) = false := by simp [bne, h5]
  cases h6 : (a.gap == b.gap)
  · have HF : Hid (eqE a b = false) := by unfold Hid eqE; simp [*]
    have hb : (a.gap != b.gap) = true := by simp [bne, *]
    go_enter Try.func35, Try.ntmps35
    go_wp2_with fail
    go_ret
    exact ⟨ret_bool HF.out.symm, Ext.trans (Ext.new _ _) (Ext.new _ _)⟩
  have n6 : (a.gap != b.gap) = false := by simp [bne, h6]
  by_cases hl : a.extra.length = b.extra.length
  · have HF : Hid (eqE a b = eqS a.extra b.extra) := by unfold Hid eqE; simp [*]
    have hlb : ((a.extra.length : Int) != (b.extra.length : Int)) = false := by simp; omega
    have HL := Lib.hid hl
    clear hl
    go_enter Try.func35, Try.ntmps35
    go_wp2
    go_loopw [5] (fun i wr => ∃ k : Nat, k ≤ a.extra.length ∧ i = .int .i64 k ∧ Ext ((w.alloc (.cells #[.string a.uri, .int .i64 a.milli, .bool a.brk, .int .i64 a.date, .string a.key, .bool a.gap, .slice X a.extra.length c] 32)).alloc (.cells #[.string b.uri, .int .i64 b.milli, .bool b.brk, .int .i64 b.date, .string b.key, .bool b.gap, .slice Y b.extra.length d] 32)) wr ∧ Hid (eqS (a.extra.drop k) (b.extra.drop k) = eqS a.extra b.extra)) (fun i wr => a.extra.length - (intOf i).toNat)
    case atStart => exact ⟨0, Nat.zero_le _, rfl, Ext.same _, rfl⟩
    case round =>
      obtain ⟨k, hk, rfl, hE, hv⟩ := hrel
      have hEw := Ext.trans (Ext.trans (Ext.new w _) (Ext.new _ _)) hE
      have e6 : wr.cell? ⟨w.heap.size, 6, none⟩ = some (.slice X a.extra.length c) := box_cell (ext_box (Ext.trans (Ext.new _ _) hE)) 6
      have f6 : wr.cell? ⟨w.heap.size + 1, 6, none⟩ = some (.slice Y b.extra.length d) := by have h := box_cell (ext_box hE) 6; rw [World.size_alloc] at h; exact h
      by_cases hlt : k < a.extra.length
      · have hlt2 : k < b.extra.length := by rw [← HL.out]; exact hlt
        have hd := Lib.hid (drop_cons hlt)
        have hd2 := Lib.hid (drop_cons hlt2)
        obtain ⟨bb, off, rfl, hb, c1, _⟩ := str_at (hX.ext keeps_str hEw) hlt
        obtain ⟨b2, off2, rfl, hb2, c2, _⟩ := str_at (hY.ext keeps_str hEw) hlt2
        have i1 : (k : Int) < (a.extra.length : Int) := by omega
        have i2 : (k : Int) < (b.extra.length : Int) := by omega
        cases he : (a.extra[k].toList == b.extra[k].toList)
        · have hnb : (a.extra[k].toList != b.extra[k].toList) = true := by simpa using he
          go_wp2
          go_quiet (fail)
          go_wp2
          go_ret
          exact ⟨ret_bool (by rw [HF.out, ← hv.out, hd.out, hd2.out, eqS, he]; rfl), hEw.drewN _⟩
        · have hnb : (a.extra[k].toList != b.extra[k].toList) = false := by simpa using he
          go_wp2
          go_quiet (fail)
          go_wp2
          go_roundw
          case rel => exact ⟨k + 1, by omega, by go_num, hE.drewN _, Lib.hid (by have h := hv.out; rw [hd.out, hd2.out, eqS, he] at h; simpa using h)⟩
          case measure => simp [intOf]; omega
      · go_wp2
        go_ret
        exact ⟨ret_bool (by rw [HF.out, ← hv.out, List.drop_eq_nil_of_le (by omega), List.drop_eq_nil_of_le (by have := HL.out; omega)]; rfl), hEw⟩
  · have HF : Hid (eqE a b = false) := by unfold Hid eqE; rw [eqS_len hl]; simp
    have hlb : ((a.extra.length : Int) != (b.extra.length : Int)) = true := by simp; omega
    clear hl
    go_enter Try.func35, Try.ntmps35
    go_wp2_with fail
    go_ret
    exact ⟨ret_bool HF.out.symm, Ext.trans (Ext.new _ _) (Ext.new _ _)⟩

/-- Lists of entries are equal. -/
def eqEs : List Ent → List Ent → Bool
  | [], [] => true
  | x :: r, y :: s => eqE x y && eqEs r s
  | _, _ => false
theorem eqEs_iff : ∀ {xs ys : List Ent}, eqEs xs ys = true ↔ xs = ys
  | [], [] => by simp [eqEs]
  | [], y :: s => by simp [eqEs]
  | x :: r, [] => by simp [eqEs]
  | x :: r, y :: s => by rw [eqEs, Bool.and_eq_true, eqEs_iff, eqE_iff, List.cons.injEq]
theorem eqEs_len {xs ys : List Ent} (h : xs.length ≠ ys.length) : eqEs xs ys = false := by
  rw [Bool.eq_false_iff]; intro h1; exact h (by rw [eqEs_iff.1 h1])

set_option maxHeartbeats 3200000 in
theorem equalFunc_any (xs ys : List Ent) (A B : Option Addr) (c d : Nat) (w : World) (hx : xs.length ≤ 9223372036854775807) (hA : SlR 7 entR w (In w) xs A) (hB : SlR 7 entR w (In w) ys B) :
    Calls Try.prog 77 #[.slice A xs.length c, .slice B ys.length d, .func (.func 69) #[] #[]] w fun r w' => r = .returned (.bool (eqEs xs ys)) ∧ Ext w w' := by
  by_cases hl : xs.length = ys.length
  · have hlb : ((xs.length : Int) != (ys.length : Int)) = false := by simp; omega
    have HL := Lib.hid hl
    clear hl
    go_enter Try.func77, Try.ntmps77
    go_wp2
    go_loopw [17] (fun i wr => ∃ k : Nat, k ≤ xs.length ∧ i = .int .i64 k ∧ Ext w wr ∧ Hid (eqEs (xs.drop k) (ys.drop k) = eqEs xs ys)) (fun i wr => xs.length - (intOf i).toNat)
    case atStart => exact ⟨0, Nat.zero_le _, rfl, Ext.same _, rfl⟩
    case round =>
      obtain ⟨k, hk, rfl, hE, hv⟩ := hrel
      by_cases hlt : k < xs.length
      · have hlt2 : k < ys.length := by rw [← HL.out]; exact hlt
        have hd := Lib.hid (drop_cons hlt)
        have hd2 := Lib.hid (drop_cons hlt2)
        obtain ⟨b, off, X, cx, rfl, hin, c0, c1, c2, c3, c4, c5, c6, g1, g2, g3, g4, g5, g6, g7, g8⟩ := ent_at (hA.ext keeps_ent hE) hlt
        obtain ⟨b', off', X', cx', rfl, hin2, d0, d1, d2, d3, d4, d5, d6, k1, k2, k3, k4, k5, k6, k7, k8⟩ := ent_at (hB.ext keeps_ent hE) hlt2
        have hin' : b < wr.heap.size := hin
        have hin2' : b' < wr.heap.size := hin2
        cases he : eqE xs[k] ys[k]
        · go_wp2_with fail
          refine (sameEntry_any xs[k] ys[k] X X' cx cx' _ (by omega) (g8.ext keeps_str (Ext.trans (Ext.new _ _) (Ext.new _ _))) (k8.ext keeps_str (Ext.trans (Ext.new _ _) (Ext.new _ _)))).mono ?_
          rintro r w1 ⟨rfl, hw⟩
          rw [he]
          go_wp2
          go_ret
          exact ⟨ret_bool (by rw [← hv.out, hd.out, hd2.out, eqEs, he]; rfl), Ext.trans hE (Ext.trans (Ext.trans (Ext.new _ _) (Ext.new _ _)) hw)⟩
        · go_wp2_with fail
          refine (sameEntry_any xs[k] ys[k] X X' cx cx' _ (by omega) (g8.ext keeps_str (Ext.trans (Ext.new _ _) (Ext.new _ _))) (k8.ext keeps_str (Ext.trans (Ext.new _ _) (Ext.new _ _)))).mono ?_
          rintro r w1 ⟨rfl, hw⟩
          rw [he]
          go_wp2
          go_roundw
          case rel => exact ⟨k + 1, by omega, by go_num, Ext.trans hE (Ext.trans (Ext.trans (Ext.new _ _) (Ext.new _ _)) hw), Lib.hid (by have h := hv.out; rw [hd.out, hd2.out, eqEs, he] at h; simpa using h)⟩
          case measure => simp [intOf]; omega
      · go_wp2
        go_ret
        exact ⟨ret_bool (by rw [← hv.out, List.drop_eq_nil_of_le (by omega), List.drop_eq_nil_of_le (by have := HL.out; omega)]; rfl), hE⟩
  · have hlb : ((xs.length : Int) != (ys.length : Int)) = true := by simp; omega
    have HF := Lib.hid (eqEs_len hl)
    clear hl
    go_enter Try.func77, Try.ntmps77
    go_wp2
    go_ret
    exact ⟨ret_bool HF.out.symm, Ext.same _⟩
end Go.Proofs.Ytkfhfjcgegimbaa
