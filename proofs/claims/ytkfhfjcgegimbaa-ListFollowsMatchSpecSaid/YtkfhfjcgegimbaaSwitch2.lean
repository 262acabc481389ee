/- What is proved here: stretches between breaks, of the program and of the reference (chapter 6). -/
import Derived.Test.YtkfhfjcgegimbaaSwitch
namespace Go.Proofs.Ytkfhfjcgegimbaa
open Go.RowKit
set_option linter.unusedVariables false

theorem int_at {w : World} {S : Nat → Prop} {xs : List Int} {A : Option Addr} (h : SlR 1 intR w S xs A) {k : Nat} (hk : k < xs.length) :
    ∃ b off, A = some ⟨b, off, none⟩ ∧ S b ∧ w.cell? ⟨b, off + k, none⟩ = some (.int .i64 xs[k]) ∧ I64 xs[k] := by
  obtain ⟨b, off, cs, rfl, hb, ⟨rfl, h1⟩, _, hc⟩ := h.at hk
  exact ⟨b, off, rfl, hb, by simpa using hc 0 _ rfl, h1⟩

/-- The first entry with a number, and how many. -/
def stG (of i f m : Int) : List Int → Int × Int
  | [] => (f, m)
  | n :: r => if n = of then stG of (i + 1) (if m = 0 then i else f) (m + 1) r else stG of (i + 1) f m r

set_option maxHeartbeats 1600000 in
theorem stretch_any (xs : List Int) (of : Int) (A : Option Addr) (c : Nat) (w : World) (hn : xs.length ≤ 1000) (hA : SlR 1 intR w (In w) xs A) :
    Calls Try.prog 53 #[.slice A xs.length c, .int .i64 of] w fun r w' => r = .returned (.tuple #[.int .i64 (stG of 0 0 0 xs).1, .int .i64 (stG of 0 0 0 xs).2]) ∧ w = w' := by
  go_enter Try.func53, Try.ntmps53
  go_wp2
  go_loop [6, 7, 12] (fun sf sm i => ∃ (k : Nat) (f m : Int), k ≤ xs.length ∧ i = .int .i64 k ∧ sf = .int .i64 f ∧ sm = .int .i64 m ∧ 0 ≤ m ∧ m ≤ k ∧ Hid (stG of k f m (xs.drop k) = stG of 0 0 0 xs)) (fun sf sm i => xs.length - (intOf i).toNat)
  case atStart => exact ⟨0, 0, 0, Nat.zero_le _, rfl, rfl, rfl, by omega, by omega, rfl⟩
  case round =>
    obtain ⟨k, f, m, hk, rfl, rfl, rfl, hm0, hm1, hv⟩ := hrel
    by_cases hlt : k < xs.length
    · have hd := Lib.hid (drop_cons hlt)
      obtain ⟨b, off, rfl, hb, hc, hi⟩ := int_at hA hlt
      have hb' : b < w.heap.size := hb
      by_cases he : xs[k] = of
      · have hb1 : (xs[k] != of) = false := by simpa using he
        by_cases h0 : m = 0
        · have hz : (m == 0) = true := by simpa using h0
          have HV : Hid (stG of ((k : Int) + 1) k (m + 1) (xs.drop (k + 1)) = stG of 0 0 0 xs) := by have h := hv.out; rw [hd.out, stG, if_pos he, if_pos h0] at h; exact h
          clear he h0
          go_wp2
          go_round
          case rel => exact ⟨k + 1, k, m + 1, by omega, by go_num, rfl, rfl, by omega, by omega, Lib.hid (by simpa using HV.out)⟩
          case measure => simp [intOf]; omega
        · have hz : (m == 0) = false := by simpa using h0
          have HV : Hid (stG of ((k : Int) + 1) f (m + 1) (xs.drop (k + 1)) = stG of 0 0 0 xs) := by have h := hv.out; rw [hd.out, stG, if_pos he, if_neg h0] at h; exact h
          clear he h0
          go_wp2
          go_round
          case rel => exact ⟨k + 1, f, m + 1, by omega, by go_num, rfl, rfl, by omega, by omega, Lib.hid (by simpa using HV.out)⟩
          case measure => simp [intOf]; omega
      · have hb1 : (xs[k] != of) = true := by simpa using he
        have HV : Hid (stG of ((k : Int) + 1) f m (xs.drop (k + 1)) = stG of 0 0 0 xs) := by have h := hv.out; rw [hd.out, stG, if_neg he] at h; exact h
        clear he
        go_wp2
        go_round
        case rel => exact ⟨k + 1, f, m, by omega, by go_num, rfl, rfl, by omega, by omega, Lib.hid (by simpa using HV.out)⟩
        case measure => simp [intOf]; omega
    · have hd := Lib.hid (show xs.drop k = [] from List.drop_eq_nil_of_le (by omega))
      go_wp2
      go_ret2
      exact ⟨ret_2 (by rw [← hv.out, hd.out, stG]) (by rw [← hv.out, hd.out, stG]), rfl⟩

/-- How many breaks there are. -/
def cntF : List Ent → Int
  | [] => 0
  | e :: r => (if e.brk = true then 1 else 0) + cntF r
theorem cntF_bd : ∀ es : List Ent, 0 ≤ cntF es ∧ cntF es ≤ es.length
  | [] => by simp [cntF]
  | e :: r => by have := cntF_bd r; simp only [cntF, List.length_cons]; split <;> omega
theorem cntF_snoc : ∀ (es : List Ent) (e : Ent), cntF (es ++ [e]) = cntF es + if e.brk = true then 1 else 0
  | [], e => by simp [cntF]
  | x :: r, e => by simp only [List.cons_append, cntF, cntF_snoc r e]; omega
theorem bnF_at : ∀ (es : List Ent) (n : Int) (k : Nat), k < es.length → (bnF n es)[k]? = some (n + cntF (es.take (k + 1)))
  | [], n, k, h => by simp at h
  | e :: r, n, 0, h => by unfold bnF; simp [cntF]; split <;> simp
  | e :: r, n, k + 1, h => by
    have h1 := bnF_at r (n + 1) k (by simpa using h)
    have h2 := bnF_at r n k (by simpa using h)
    unfold bnF
    simp only [List.take_succ_cons, cntF]
    split
    · simp only [List.getElem?_cons_succ, h1]; congr 1; omega
    · simp only [List.getElem?_cons_succ, h2]; congr 1; omega
theorem take_snoc {α : Type} {xs : List α} {k : Nat} (hk : k < xs.length) : xs.take (k + 1) = xs.take k ++ [xs[k]] := by
  rw [List.take_succ_eq_append_getElem hk]

set_option maxHeartbeats 1600000 in
theorem breaks_any (l : Lst) (m : Int) (A : Option Addr) (c : Nat) (w : World) (hn : l.entries.length ≤ 1000) (hb0 : 0 ≤ l.breaks) (hb1 : l.breaks ≤ 1000000000000000) (hm0 : -1 ≤ m) (hm1 : m < l.entries.length) (hA : SlR 7 entR w (In w) l.entries A) :
    Calls Try.prog 57 #[.agg #[.int .i64 l.target, .int .i64 l.first, .int .i64 l.breaks, .slice A l.entries.length c, .bool l.ended], .int .i64 m] w fun r w' => r = .returned (.int .i64 (l.breaks + cntF (l.entries.take (m + 1).toNat))) ∧ Ext w w' := by
  obtain ⟨T, F, B, es, E⟩ := l
  simp only at hn hb0 hb1 hm1 hA ⊢
  obtain ⟨j, hj⟩ : ∃ j : Nat, m + 1 = j := ⟨(m + 1).toNat, by omega⟩
  obtain rfl : m = (j : Int) - 1 := by omega
  have hjn : j ≤ es.length := by omega
  have hjt : ((j : Int) - 1 + 1).toNat = j := by omega
  rw [hjt]
  clear hj hjt hm0 hm1
  go_enter Try.func57, Try.ntmps57
  go_wp2
  go_loopw [5, 6] (fun s i wr => ∃ (k : Nat) (n : Int), k ≤ j ∧ i = .int .i64 k ∧ s = .int .i64 n ∧ 0 ≤ n ∧ n ≤ 1000000000000000 + k ∧ Below (w.heap.size + 1) (w.alloc (.cells #[.int .i64 T, .int .i64 F, .int .i64 B, .slice A es.length c, .bool E] 24)) wr ∧ Hid (n = B + cntF (es.take k))) (fun s i wr => j - (intOf i).toNat)
  case atStart => exact ⟨0, B, Nat.zero_le _, rfl, rfl, hb0, by omega, Below.refl _ _, Lib.hid (by simp [cntF])⟩
  case round =>
    obtain ⟨k, n, hk, rfl, rfl, hn0, hn1, hb, hv⟩ := hrel
    obtain ⟨t0, t1, t2, t3, t4, hs1⟩ := lst_box hb
    by_cases hlt : k < j
    · have hlt' : k < es.length := by omega
      have ht := Lib.hid (take_snoc hlt')
      obtain ⟨b, off, X, cx, rfl, hin, c0, c1, c2, c3, c4, c5, c6, g1, g2, g3, g4, g5, g6, g7, g8⟩ := ent_at (hA.ext keeps_ent (Ext.ofBox hb)) hlt'
      have hin' : b < wr.heap.size := hin
      cases hbk : es[k].brk
      · go_wp2
        go_roundw
        case rel => exact ⟨k + 1, n, by omega, by go_num, rfl, by omega, by omega, hb, Lib.hid (by rw [hv.out, ht.out, cntF_snoc, if_neg (by simp [hbk])]; omega)⟩
        case measure => simp [intOf]; omega
      · go_wp2
        go_roundw
        case rel => exact ⟨k + 1, n + 1, by omega, by go_num, rfl, by omega, by omega, hb, Lib.hid (by rw [hv.out, ht.out, cntF_snoc, if_pos hbk]; omega)⟩
        case measure => simp [intOf]; omega
    · go_wp2
      go_ret
      have : k = j := by omega
      exact ⟨ret_int (by rw [hv.out, this]), Ext.ofBox hb⟩
end Go.Proofs.Ytkfhfjcgegimbaa
