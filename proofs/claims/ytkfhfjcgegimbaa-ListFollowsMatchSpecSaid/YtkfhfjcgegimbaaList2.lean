/- What is proved here: what Check, Length, At and StartAt of the program and of the reference return (chapter 6). -/
import Derived.Test.YtkfhfjcgegimbaaList
import Derived.StillTailTactics
namespace Go.Proofs.Ytkfhfjcgegimbaa
open Go.RowKit
set_option linter.unusedVariables false

def entsF (t : Int) : List Ent → Int
  | [] => 0
  | e :: r => if entF e t = 0 then entsF t r else entF e t
def headBad (l : Lst) : Prop := l.target < 1 ∨ 3600 < l.target ∨ l.first < 0 ∨ 999999999999000 < l.first ∨ l.breaks < 0 ∨ 1000000000000000 < l.breaks
instance (l : Lst) : Decidable (headBad l) := by unfold headBad; infer_instance
def checkF (l : Lst) : Int := if headBad l then 1 else if 1000 < l.entries.length then 2 else entsF l.target l.entries

/-- The box of a list, behind what came later. -/
theorem lst_box {w wr : World} {T F B : Int} {v : Value} {E : Bool} {t : TypeId} (hb : Below (w.heap.size + 1) (w.alloc (.cells #[.int .i64 T, .int .i64 F, .int .i64 B, v, .bool E] t)) wr) :
    wr.cell? ⟨w.heap.size, 0, none⟩ = some (.int .i64 T) ∧ wr.cell? ⟨w.heap.size, 1, none⟩ = some (.int .i64 F) ∧ wr.cell? ⟨w.heap.size, 2, none⟩ = some (.int .i64 B) ∧
    wr.cell? ⟨w.heap.size, 3, none⟩ = some v ∧ wr.cell? ⟨w.heap.size, 4, none⟩ = some (.bool E) ∧ w.heap.size < wr.heap.size :=
  ⟨box_cell hb 0, box_cell hb 1, box_cell hb 2, box_cell hb 3, box_cell hb 4, by have := hb.size; rw [World.size_alloc] at this; exact this⟩

set_option maxHeartbeats 1600000 in
theorem check_any (l : Lst) (A : Option Addr) (c : Nat) (w : World) (hl : l.entries.length ≤ 9223372036854775807) (hA : SlR 7 entR w (In w) l.entries A) :
    Calls Try.prog 36 #[.agg #[.int .i64 l.target, .int .i64 l.first, .int .i64 l.breaks, .slice A l.entries.length c, .bool l.ended]] w fun r w' => r = .returned (.int .i64 (checkF l)) ∧ Ext w w' := by
  obtain ⟨T, F, B, es, E⟩ := l
  simp only at hl hA ⊢
  by_cases h1 : headBad ⟨T, F, B, es, E⟩
  · have HF : Hid (checkF ⟨T, F, B, es, E⟩ = 1) := by unfold Hid checkF; rw [if_pos h1]
    unfold headBad at h1
    simp only at h1
    by_cases a1 : T < 1 ∨ 3600 < T
    · have o1 : outB T 1 3600 = true := outB_t a1
      clear h1 a1
      go_enter Try.func36, Try.ntmps36
      go_wp2_with (go_at_call 47; refine (out_any _ _ _ _).mono ?_; rintro r w' ⟨rfl, rfl⟩)
      go_ret
      exact ⟨ret_int HF.out.symm, Ext.new _ _⟩
    · have o1 : outB T 1 3600 = false := outB_f (by omega) (by omega)
      by_cases a2 : F < 0 ∨ 999999999999000 < F
      · have o2 : outB F 0 999999999999000 = true := outB_t a2
        clear h1 a1 a2
        go_enter Try.func36, Try.ntmps36
        go_wp2_with (go_at_call 47; refine (out_any _ _ _ _).mono ?_; rintro r w' ⟨rfl, rfl⟩)
        go_ret
        exact ⟨ret_int HF.out.symm, Ext.new _ _⟩
      · have o2 : outB F 0 999999999999000 = false := outB_f (by omega) (by omega)
        have o3 : outB B 0 1000000000000000 = true := outB_t (by omega)
        clear h1 a1 a2
        go_enter Try.func36, Try.ntmps36
        go_wp2_with (go_at_call 47; refine (out_any _ _ _ _).mono ?_; rintro r w' ⟨rfl, rfl⟩)
        go_ret
        exact ⟨ret_int HF.out.symm, Ext.new _ _⟩
  · have h1' := h1
    unfold headBad at h1'
    simp only at h1'
    have o1 : outB T 1 3600 = false := outB_f (by omega) (by omega)
    have o2 : outB F 0 999999999999000 = false := outB_f (by omega) (by omega)
    have o3 : outB B 0 1000000000000000 = false := outB_f (by omega) (by omega)
    by_cases h2 : 1000 < es.length
    · have HF : Hid (checkF ⟨T, F, B, es, E⟩ = 2) := by unfold Hid checkF; rw [if_neg h1, if_pos h2]
      clear h1 h1'
      go_enter Try.func36, Try.ntmps36
      go_wp2_with (go_at_call 47; refine (out_any _ _ _ _).mono ?_; rintro r w' ⟨rfl, rfl⟩)
      go_ret
      exact ⟨ret_int HF.out.symm, Ext.new _ _⟩
    · have HF : Hid (checkF ⟨T, F, B, es, E⟩ = entsF T es) := by unfold Hid checkF; rw [if_neg h1, if_neg h2]
      clear h1 h1'
      go_enter Try.func36, Try.ntmps36
      go_wp2_with (go_at_call 47; refine (out_any _ _ _ _).mono ?_; rintro r w' ⟨rfl, rfl⟩)
      go_loopw [28] (fun i wr => ∃ k : Nat, k ≤ es.length ∧ i = .int .i64 k ∧ Below (w.heap.size + 1) (w.alloc (.cells #[.int .i64 T, .int .i64 F, .int .i64 B, .slice A es.length c, .bool E] 24)) wr ∧ Hid (entsF T (es.drop k) = entsF T es)) (fun i wr => es.length - (intOf i).toNat)
      case atStart => exact ⟨0, Nat.zero_le _, rfl, Below.refl _ _, rfl⟩
      case round =>
        obtain ⟨k, hk, rfl, hb, hv⟩ := hrel
        have hsz : w.heap.size + 1 ≤ wr.heap.size := by have := hb.size; simpa using this
        obtain ⟨t0, t1, t2, t3, t4, hs1⟩ := lst_box hb
        by_cases hlt : k < es.length
        · have hd := Lib.hid (drop_cons hlt)
          obtain ⟨b, off, X, cx, rfl, hin, c0, c1, c2, c3, c4, c5, c6, g1, g2, g3, g4, g5, g6, g7, g8⟩ := ent_at (hA.ext keeps_ent (Ext.ofBox hb)) hlt
          have hin' : b < wr.heap.size := hin
          by_cases hf : entF es[k] T = 0
          · have hF := Lib.hid hf
            clear hf
            go_wp2_with (go_at_call 65; refine (entryFault_any es[k] _ X cx _ g1 g2 (by omega) ?_).mono ?_; (exact g8.ext keeps_str (Ext.new _ _)); (rintro r w' ⟨rfl, hw⟩; rw [hF.out]))
            go_roundw
            case rel => exact ⟨k + 1, by omega, by go_num, Below.call hb hsz (Ext.trans (Ext.new _ _) hw), Lib.hid (by have h := hv.out; rw [hd.out, entsF, if_pos hF.out] at h; exact h)⟩
            case measure => simp [intOf]; omega
          · have hF := Lib.hid hf
            have hne : (entF es[k] T != 0) = true := by simpa using hf
            clear hf
            go_wp2_with (go_at_call 65; refine (entryFault_any es[k] _ X cx _ g1 g2 (by omega) ?_).mono ?_; (exact g8.ext keeps_str (Ext.new _ _)); (rintro r w' ⟨rfl, hw⟩))
            go_ret
            exact ⟨ret_int (by rw [HF.out, ← hv.out, hd.out, entsF, if_neg hF.out]), Ext.trans (Ext.ofBox hb) (Ext.trans (Ext.new _ _) hw)⟩
        · go_wp2
          go_ret
          exact ⟨ret_int (by rw [HF.out, ← hv.out, List.drop_eq_nil_of_le (by omega), entsF]), Ext.ofBox hb⟩

set_option maxRecDepth 100000 in
set_option maxHeartbeats 1600000 in
theorem refCheck_any (l : Lst) (A : Option Addr) (c : Nat) (w : World) (hl : l.entries.length ≤ 9223372036854775807) (hA : SlR 7 entR w (In w) l.entries A) :
    Calls Try.prog 38 #[.agg #[.int .i64 l.target, .int .i64 l.first, .int .i64 l.breaks, .slice A l.entries.length c, .bool l.ended]] w fun r w' => r = .returned (.int .i64 (checkF l)) ∧ Ext w w' := by
  obtain ⟨T, F, B, es, E⟩ := l
  simp only at hl hA ⊢
  by_cases h1 : headBad ⟨T, F, B, es, E⟩
  · have HF : Hid (checkF ⟨T, F, B, es, E⟩ = 1) := by unfold Hid checkF; rw [if_pos h1]
    unfold headBad at h1
    simp only at h1
    by_cases a1 : T < 1 ∨ 3600 < T
    · have o1 : outB T 1 3600 = true := outB_t a1
      clear h1 a1
      go_enter Try.func38, Try.ntmps38
      go_wp2_with (go_at_call 42; refine (within_any _ _ _ _).mono ?_; rintro r w' ⟨rfl, rfl⟩)
      go_ret
      exact ⟨ret_int HF.out.symm, Ext.new _ _⟩
    · have o1 : outB T 1 3600 = false := outB_f (by omega) (by omega)
      by_cases a2 : F < 0 ∨ 999999999999000 < F
      · have o2 : outB F 0 999999999999000 = true := outB_t a2
        clear h1 a1 a2
        go_enter Try.func38, Try.ntmps38
        go_wp2_with (go_at_call 42; refine (within_any _ _ _ _).mono ?_; rintro r w' ⟨rfl, rfl⟩)
        go_ret
        exact ⟨ret_int HF.out.symm, Ext.new _ _⟩
      · have o2 : outB F 0 999999999999000 = false := outB_f (by omega) (by omega)
        have o3 : outB B 0 1000000000000000 = true := outB_t (by omega)
        clear h1 a1 a2
        go_enter Try.func38, Try.ntmps38
        go_wp2_with (go_at_call 42; refine (within_any _ _ _ _).mono ?_; rintro r w' ⟨rfl, rfl⟩)
        go_ret
        exact ⟨ret_int HF.out.symm, Ext.new _ _⟩
  · have h1' := h1
    unfold headBad at h1'
    simp only at h1'
    have o1 : outB T 1 3600 = false := outB_f (by omega) (by omega)
    have o2 : outB F 0 999999999999000 = false := outB_f (by omega) (by omega)
    have o3 : outB B 0 1000000000000000 = false := outB_f (by omega) (by omega)
    by_cases h2 : 1000 < es.length
    · have HF : Hid (checkF ⟨T, F, B, es, E⟩ = 2) := by unfold Hid checkF; rw [if_neg h1, if_pos h2]
      clear h1 h1'
      go_enter Try.func38, Try.ntmps38
      go_wp2_with (go_at_call 42; refine (within_any _ _ _ _).mono ?_; rintro r w' ⟨rfl, rfl⟩)
      go_ret
      exact ⟨ret_int HF.out.symm, Ext.new _ _⟩
    · have HF : Hid (checkF ⟨T, F, B, es, E⟩ = entsF T es) := by unfold Hid checkF; rw [if_neg h1, if_neg h2]
      clear h1 h1'
      go_enter Try.func38, Try.ntmps38
      go_wp2_with (go_at_call 42; refine (within_any _ _ _ _).mono ?_; rintro r w' ⟨rfl, rfl⟩)
      go_loopw [3] (fun i wr => ∃ k : Nat, k ≤ es.length ∧ i = .int .i64 k ∧ Below (w.heap.size + 1) (w.alloc (.cells #[.int .i64 T, .int .i64 F, .int .i64 B, .slice A es.length c, .bool E] 24)) wr ∧ Hid (entsF T (es.drop k) = entsF T es)) (fun i wr => es.length - (intOf i).toNat)
      case atStart => exact ⟨0, Nat.zero_le _, rfl, Below.refl _ _, rfl⟩
      case round =>
        obtain ⟨k, hk, rfl, hb, hv⟩ := hrel
        have hsz : w.heap.size + 1 ≤ wr.heap.size := by have := hb.size; simpa using this
        obtain ⟨t0, t1, t2, t3, t4, hs1⟩ := lst_box hb
        by_cases hlt : k < es.length
        · have hd := Lib.hid (drop_cons hlt)
          obtain ⟨b, off, X, cx, rfl, hin, c0, c1, c2, c3, c4, c5, c6, g1, g2, g3, g4, g5, g6, g7, g8⟩ := ent_at (hA.ext keeps_ent (Ext.ofBox hb)) hlt
          have hin' : b < wr.heap.size := hin
          by_cases hf : entF es[k] T = 0
          · have hF := Lib.hid hf
            clear hf
            go_wp2_with fail
            go_still_tail 7, (by kernel_rfl)
            change wpList _ _ _ _ _ wr.drew
            go_wp2_with (go_at_call 66; refine (checkEntry_any es[k] _ X cx _ g1 g2 (by omega) ?_).mono ?_; (exact g8); (rintro r w' ⟨rfl, hw⟩; rw [hF.out]))
            go_roundw
            case rel => exact ⟨k + 1, by omega, by go_num, Below.call hb hsz (Ext.trans (Ext.one _) hw), Lib.hid (by have h := hv.out; rw [hd.out, entsF, if_pos hF.out] at h; exact h)⟩
            case measure => simp [intOf]; omega
          · have hF := Lib.hid hf
            have hne : (entF es[k] T != 0) = true := by simpa using hf
            clear hf
            go_wp2_with fail
            go_still_tail 7, (by kernel_rfl)
            change wpList _ _ _ _ _ wr.drew
            go_wp2_with (go_at_call 66; refine (checkEntry_any es[k] _ X cx _ g1 g2 (by omega) ?_).mono ?_; (exact g8); (rintro r w' ⟨rfl, hw⟩))
            go_ret
            exact ⟨ret_int (by rw [HF.out, ← hv.out, hd.out, entsF, if_neg hF.out]), Ext.trans (Ext.ofBox hb) (Ext.trans (Ext.one _) hw)⟩
        · go_wp2
          go_ret
          exact ⟨ret_int (by rw [HF.out, ← hv.out, List.drop_eq_nil_of_le (by omega), entsF]), Ext.ofBox hb⟩
end Go.Proofs.Ytkfhfjcgegimbaa
