/- What is proved here: the comparisons of entries and lists, of the program and of the reference (chapter 6). -/
import Derived.Test.YtkfhfjcgegimbaaList3
import Derived.StillTailTactics
namespace Go.Proofs.Ytkfhfjcgegimbaa
open Go.RowKit
set_option linter.unusedVariables false

def eqS : List ByteArray → List ByteArray → Bool
  | [], [] => true
  | x :: r, y :: s => (x.toList == y.toList) && eqS r s
  | _, _ => false
theorem bytes_eq {a b : ByteArray} (h : a.toList = b.toList) : a = b := by
  rw [toList_eq, toList_eq] at h
  rcases a with ⟨⟨a⟩⟩
  rcases b with ⟨⟨b⟩⟩
  simp at h; rw [h]
theorem eqS_iff : ∀ {xs ys : List ByteArray}, eqS xs ys = true ↔ xs = ys
  | [], [] => by simp [eqS]
  | [], y :: s => by simp [eqS]
  | x :: r, [] => by simp [eqS]
  | x :: r, y :: s => by
    rw [eqS, Bool.and_eq_true, eqS_iff, beq_iff_eq, List.cons.injEq]
    exact ⟨fun ⟨h1, h2⟩ => ⟨bytes_eq h1, h2⟩, fun ⟨h1, h2⟩ => ⟨by rw [h1], h2⟩⟩
theorem eqS_len {xs ys : List ByteArray} (h : xs.length ≠ ys.length) : eqS xs ys = false := by
  rw [Bool.eq_false_iff]; intro h1; exact h (by rw [eqS_iff.1 h1])

set_option maxHeartbeats 1600000 in
theorem equalStr_any (xs ys : List ByteArray) (A B : Option Addr) (c d : Nat) (w : World) (hx : xs.length ≤ 9223372036854775807) (hA : SlR 1 strR w (In w) xs A) (hB : SlR 1 strR w (In w) ys B) :
    Calls Try.prog 78 #[.slice A xs.length c, .slice B ys.length d] w fun r w' => r = .returned (.bool (eqS xs ys)) ∧ Ext w w' := by
  by_cases hl : xs.length = ys.length
  · have hlb : ((xs.length : Int) != (ys.length : Int)) = false := by simp; omega
    have HL := Lib.hid hl
    clear hl
    go_enter Try.func78, Try.ntmps78
    go_wp2
    go_loopw [13] (fun i wr => ∃ k : Nat, k ≤ xs.length ∧ i = .int .i64 k ∧ Ext w wr ∧ Hid (eqS (xs.drop k) (ys.drop k) = eqS xs ys)) (fun i wr => xs.length - (intOf i).toNat)
    case atStart => exact ⟨0, Nat.zero_le _, rfl, Ext.same _, rfl⟩
    case round =>
      obtain ⟨k, hk, rfl, hE, hv⟩ := hrel
      by_cases hlt : k < xs.length
      · have hlt2 : k < ys.length := by rw [← HL.out]; exact hlt
        have hd := Lib.hid (drop_cons hlt)
        have hd2 := Lib.hid (drop_cons hlt2)
        obtain ⟨b, off, rfl, hb, c1, _⟩ := str_at (hA.ext keeps_str hE) hlt
        obtain ⟨b2, off2, rfl, hb2, c2, _⟩ := str_at (hB.ext keeps_str hE) hlt2
        have i1 : (k : Int) < (xs.length : Int) := by omega
        have i2 : (k : Int) < (ys.length : Int) := by omega
        cases he : (xs[k].toList == ys[k].toList)
        · have hnb : (xs[k].toList != ys[k].toList) = true := by simpa using he
          go_wp2
          go_quiet (fail)
          go_wp2
          go_ret
          exact ⟨ret_bool (by rw [← hv.out, hd.out, hd2.out, eqS, he]; rfl), hE.drewN _⟩
        · have hnb : (xs[k].toList != ys[k].toList) = false := by simpa using he
          go_wp2
          go_quiet (fail)
          go_wp2
          go_roundw
          case rel => exact ⟨k + 1, by omega, by go_num, hE.drewN _, Lib.hid (by have h := hv.out; rw [hd.out, hd2.out, eqS, he] at h; simpa using h)⟩
          case measure => simp [intOf]; omega
      · go_wp2
        go_ret
        exact ⟨ret_bool (by rw [← hv.out, List.drop_eq_nil_of_le (by omega), List.drop_eq_nil_of_le (by have := HL.out; omega)]; rfl), hE⟩
  · have hlb : ((xs.length : Int) != (ys.length : Int)) = true := by simp; omega
    have HF := Lib.hid (eqS_len hl)
    clear hl
    go_enter Try.func78, Try.ntmps78
    go_wp2
    go_ret
    exact ⟨ret_bool HF.out.symm, Ext.same _⟩

/-- Entries are equal. -/
def eqE (a b : Ent) : Bool := (a.uri.toList == b.uri.toList) && (a.milli == b.milli) && (a.brk == b.brk) && (a.date == b.date) && (a.key.toList == b.key.toList) && (a.gap == b.gap) && eqS a.extra b.extra
theorem eqE_iff {a b : Ent} : eqE a b = true ↔ a = b := by
  rcases a with ⟨u, m, k, d, y, g, x⟩
  rcases b with ⟨u', m', k', d', y', g', x'⟩
  simp only [eqE, Bool.and_eq_true, beq_iff_eq, eqS_iff, Ent.mk.injEq]
  constructor
  · rintro ⟨⟨⟨⟨⟨⟨h1, h2⟩, h3⟩, h4⟩, h5⟩, h6⟩, h7⟩
    exact ⟨bytes_eq h1, h2, h3, h4, bytes_eq h5, h6, h7⟩
  · rintro ⟨rfl, rfl, rfl, rfl, rfl, rfl, rfl⟩
    simp
set_option maxHeartbeats 3200000 in
theorem sameEntry_any (a b : Ent) (X Y : Option Addr) (c d : Nat) (w : World) (hx : a.extra.length ≤ 9223372036854775807) (hX : SlR 1 strR w (In w) a.extra X) (hY : SlR 1 strR w (In w) b.extra Y) :
    Calls Try.prog 69 #[.agg #[.string a.uri, .int .i64 a.milli, .bool a.brk, .int .i64 a.date, .string a.key, .bool a.gap, .slice X a.extra.length c], .agg #[.string b.uri, .int .i64 b.milli, .bool b.brk, .int .i64 b.date, .string b.key, .bool b.gap, .slice Y b.extra.length d]] w fun r w' => r = .returned (.bool (eqE a b)) ∧ Ext w w' := by
  cases h1 : (a.uri.toList == b.uri.toList)
  · have HF : Hid (eqE a b = false) := by unfold Hid eqE; simp [*]
    go_enter Try.func69, Try.ntmps69
    go_wp2_with fail
    go_ret
    exact ⟨ret_bool HF.out.symm, Ext.trans (Ext.new _ _) (Ext.new _ _)⟩
  cases h2 : (a.milli == b.milli)
  · have HF : Hid (eqE a b = false) := by unfold Hid eqE; simp [*]
    go_enter Try.func69, Try.ntmps69
    go_wp2_with fail
    go_ret
    exact ⟨ret_bool HF.out.symm, Ext.trans (Ext.new _ _) (Ext.new _ _)⟩
  cases h3 : (a.brk == b.brk)
  · have HF : Hid (eqE a b = false) := by unfold Hid eqE; simp [*]
    go_enter Try.func69, Try.ntmps69
    go_wp2_with fail
    go_ret
    exact ⟨ret_bool HF.out.symm, Ext.trans (Ext.new _ _) (Ext.new _ _)⟩
  cases h4 : (a.date == b.date)
  · have HF : Hid (eqE a b = false) := by unfold Hid eqE; simp [*]
    go_enter Try.func69, Try.ntmps69
    go_wp2_with fail
    go_ret
    exact ⟨ret_bool HF.out.symm, Ext.trans (Ext.new _ _) (Ext.new _ _)⟩
  cases h5 : (a.key.toList == b.key.toList)
  · have HF : Hid (eqE a b = false) := by unfold Hid eqE; simp [*]
    go_enter Try.func69, Try.ntmps69
    go_wp2_with fail
    go_ret
    exact ⟨ret_bool HF.out.symm, Ext.trans (Ext.new _ _) (Ext.new _ _)⟩
  cases h6 : (a.gap == b.gap)
  · have HF : Hid (eqE a b = false) := by unfold Hid eqE; simp [*]
    go_enter Try.func69, Try.ntmps69
    go_wp2_with fail
    go_ret
    exact ⟨ret_bool HF.out.symm, Ext.trans (Ext.new _ _) (Ext.new _ _)⟩
  have HF : Hid (eqE a b = eqS a.extra b.extra) := by unfold Hid eqE; simp [*]
  go_enter Try.func69, Try.ntmps69
  go_wp2_with fail
  refine (equalStr_any a.extra b.extra X Y c d _ hx (hX.ext keeps_str (Ext.trans (Ext.new _ _) (Ext.new _ _))) (hY.ext keeps_str (Ext.trans (Ext.new _ _) (Ext.new _ _)))).mono ?_
  rintro r w1 ⟨rfl, hw⟩
  go_wp2
  go_ret
  exact ⟨ret_bool HF.out.symm, Ext.trans (Ext.trans (Ext.new _ _) (Ext.new _ _)) hw⟩
end Go.Proofs.Ytkfhfjcgegimbaa
