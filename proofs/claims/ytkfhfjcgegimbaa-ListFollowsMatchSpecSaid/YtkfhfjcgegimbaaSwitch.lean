/- What is proved here: break numbers and stretches of lists, of the program and of the reference (chapter 6). -/
import Derived.Test.YtkfhfjcgegimbaaList3
import Derived.Test.YtkfhfjcgegimbaaOwn
import Derived.Deep.RegionHeld3
namespace Go.Proofs.Ytkfhfjcgegimbaa
open Go.RowKit
set_option linter.unusedVariables false

theorem info_int : (Try.prog.info? 3).map (fun i => (i.zero, i.size, i.bytes)) = some (some (.int .i64 0), 1, 8) := by kernel_rfl

/-- The first of two faults. -/
def first2 (a b : Int) : Int := if a = 0 then b else a

set_option maxHeartbeats 800000 in
theorem first2_any (a b : Int) (g off : Nat) (w : World) (h0 : w.cell? ⟨g, off, none⟩ = some (.int .i64 a)) (h1 : w.cell? ⟨g, off + 1, none⟩ = some (.int .i64 b)) :
    Calls Try.prog 49 #[.slice (some ⟨g, off, none⟩) 2 2] w fun r w' => r = .returned (.int .i64 (first2 a b)) ∧ w = w' := by
  by_cases ha : a = 0
  · by_cases hb : b = 0
    · have HF := Lib.hid (show first2 a b = 0 from by unfold first2; rw [if_pos ha, hb])
      subst ha hb
      go_enter Try.func49, Try.ntmps49
      go_wp2
      go_rounds 3
      go_ret
      exact ⟨ret_int HF.out.symm, rfl⟩
    · have HF := Lib.hid (show first2 a b = b from by unfold first2; rw [if_pos ha])
      have hb' : (b != 0) = true := by simpa using hb
      subst ha
      go_enter Try.func49, Try.ntmps49
      go_wp2
      go_rounds 3
      go_ret
      exact ⟨ret_int HF.out.symm, rfl⟩
  · have HF := Lib.hid (show first2 a b = a from by unfold first2; rw [if_neg ha])
    have ha' : (a != 0) = true := by simpa using ha
    go_enter Try.func49, Try.ntmps49
    go_wp2
    go_rounds 3
    go_ret
    exact ⟨ret_int HF.out.symm, rfl⟩

def bnF (n : Int) : List Ent → List Int
  | [] => []
  | e :: r => if e.brk = true then (n + 1) :: bnF (n + 1) r else n :: bnF n r
theorem bnF_len : ∀ (es : List Ent) (n : Int), (bnF n es).length = es.length
  | [], n => rfl
  | e :: r, n => by unfold bnF; split <;> simp [bnF_len r]
def intsV (w : World) (xs : List Int) (v : Value) : Prop := SlV 1 8 intR w (In w) xs v

set_option maxHeartbeats 1600000 in
theorem breakNumbers_any (l : Lst) (A : Option Addr) (c : Nat) (w : World) (hn : l.entries.length ≤ 1000) (hb0 : 0 ≤ l.breaks) (hb1 : l.breaks ≤ 1000000000000000) (hA : SlR 7 entR w (In w) l.entries A) :
    Calls Try.prog 52 #[.agg #[.int .i64 l.target, .int .i64 l.first, .int .i64 l.breaks, .slice A l.entries.length c, .bool l.ended]] w fun r w' => ∃ v, r = .returned v ∧ intsV w' (bnF l.breaks l.entries) v ∧ Ext w w' := by
  obtain ⟨T, F, B, es, E⟩ := l
  simp only at hn hb0 hb1 hA ⊢
  go_enter Try.func52, Try.ntmps52
  go_wp2
  go_loopw [3, 4, 12] (fun s v i wr => ∃ (k : Nat) (n : Int) (xs : List Int), k ≤ es.length ∧ i = .int .i64 k ∧ s = .int .i64 n ∧ 0 ≤ n ∧ n ≤ 1000000000000000 + k ∧ Below (w.heap.size + 1) (w.alloc (.cells #[.int .i64 T, .int .i64 F, .int .i64 B, .slice A es.length c, .bool E] 24)) wr ∧
    OwnL 1 3 intR (w.heap.size + 1) wr v xs ∧ Hid (xs.length = k) ∧ Hid (xs ++ bnF n (es.drop k) = bnF B es)) (fun s v i wr => es.length - (intOf i).toNat)
  case atStart => exact ⟨0, B, [], Nat.zero_le _, rfl, rfl, hb0, by omega, Below.refl _ _, OwnL.nil, rfl, rfl⟩
  case round =>
    obtain ⟨k, n, xs, hk, rfl, rfl, hn0, hn1, hb, hown, hxl, hv⟩ := hrel
    obtain ⟨t0, t1, t2, t3, t4, hs1⟩ := lst_box hb
    by_cases hlt : k < es.length
    · have hd := Lib.hid (drop_cons hlt)
      obtain ⟨b, off, X, cx, rfl, hin, c0, c1, c2, c3, c4, c5, c6, g1, g2, g3, g4, g5, g6, g7, g8⟩ := ent_at (hA.ext keeps_ent (Ext.ofBox hb)) hlt
      have hin' : b < wr.heap.size := hin
      cases hbk : es[k].brk
      · have hd' := Lib.hid (show bnF n (es.drop k) = n :: bnF n (es.drop (k + 1)) from by rw [hd.out, bnF, if_neg (by simp [hbk])])
        go_wp2_with (at_builtin; go_must (refine wpList_app_one keeps_int _ rfl _ _ 44 3 rfl (w.heap.size + 1) info_int Try.underlying44 rfl (by decide) _ xs rfl (hown.keep keeps_int (Ext.new _ _)) (n) _ _ _ rfl ?_ ?_ rfl ?_ ?_ ?_ ?_ ?_; (· simp); (· exact ⟨rfl, by constructor <;> omega⟩); (· simp [Value.oneCell']); (· have := hxl.out; omega); (· have := hxl.out; simp only [maxLen]; omega); (· simp; omega); intro v' w' hown' hbl hsz hkp hob))
        go_roundw
        case rel =>
          refine ⟨k + 1, n, xs ++ [n], by omega, by go_num, rfl, by omega, by omega, ?_, hown', Lib.hid (by have := hxl.out; simp [this]), Lib.hid (by have h := hv.out; rw [hd'.out] at h; simpa using h)⟩
          exact (Below.call hb hs1 (Ext.new _ _)).trans hbl
        case measure => simp [intOf]; omega
      · have hd' := Lib.hid (show bnF n (es.drop k) = (n + 1) :: bnF (n + 1) (es.drop (k + 1)) from by rw [hd.out, bnF, if_pos hbk])
        go_wp2_with (at_builtin; go_must (refine wpList_app_one keeps_int _ rfl _ _ 44 3 rfl (w.heap.size + 1) info_int Try.underlying44 rfl (by decide) _ xs rfl (hown.keep keeps_int (Ext.new _ _)) (n + 1) _ _ _ rfl ?_ ?_ rfl ?_ ?_ ?_ ?_ ?_; (· simp); (· exact ⟨rfl, by constructor <;> omega⟩); (· simp [Value.oneCell']); (· have := hxl.out; omega); (· have := hxl.out; simp only [maxLen]; omega); (· simp; omega); intro v' w' hown' hbl hsz hkp hob))
        go_roundw
        case rel =>
          refine ⟨k + 1, n + 1, xs ++ [n + 1], by omega, by go_num, rfl, by omega, by omega, ?_, hown', Lib.hid (by have := hxl.out; simp [this]), Lib.hid (by have h := hv.out; rw [hd'.out] at h; simpa using h)⟩
          exact (Below.call hb hs1 (Ext.new _ _)).trans hbl
        case measure => simp [intOf]; omega
    · have hd := Lib.hid (show es.drop k = [] from List.drop_eq_nil_of_le (by omega))
      have hv' : Hid (xs = bnF B es) := by have h := hv.out; rw [hd.out, bnF, List.append_nil] at h; exact h
      go_wp2
      go_ret
      refine ⟨_, rfl, ?_, Ext.ofBox hb⟩
      rw [← hv'.out]
      exact hown.read keeps_int (by have := hxl.out; omega)
end Go.Proofs.Ytkfhfjcgegimbaa
