/- What is proved here: what Length, At and StartAt of the program and of the reference return (chapter 6). -/
import Derived.Test.YtkfhfjcgegimbaaList2
namespace Go.Proofs.Ytkfhfjcgegimbaa
open Go.RowKit
set_option linter.unusedVariables false

theorem ext_box {w wr : World} {o : Obj} (h : Ext (w.alloc o) wr) : Below (w.heap.size + 1) (w.alloc o) wr := by
  unfold Ext at h; rwa [World.size_alloc] at h

/-- What Check lets pass. -/
def Good (es : List Ent) : Prop := es.length ≤ 1000 ∧ ∀ e ∈ es, 1 ≤ e.milli ∧ e.milli ≤ 3600000
theorem entF_ok {e : Ent} {t : Int} (h : entF e t = 0) : 1 ≤ e.milli ∧ e.milli ≤ 3600000 ∧ -1 ≤ e.date ∧ e.date ≤ 253402300799999 ∧ e.extra.length ≤ 20 ∧ t ≥ (e.milli + 500) / 1000 := by
  unfold entF at h
  split at h
  · cases h
  split at h
  · cases h
  split at h
  · cases h
  split at h
  · cases h
  split at h
  · cases h
  split at h
  · cases h
  omega
theorem entsF_ok {t : Int} : ∀ {es : List Ent}, entsF t es = 0 → ∀ e ∈ es, entF e t = 0
  | [], _, e, he => by simp at he
  | x :: r, h, e, he => by
    unfold entsF at h
    split at h
    · rename_i hx
      rcases List.mem_cons.1 he with rfl | hr
      · exact hx
      · exact entsF_ok h e hr
    · exact absurd h ‹_›
theorem checkF_ok {l : Lst} (h : checkF l = 0) : ¬ headBad l ∧ l.entries.length ≤ 1000 ∧ ∀ e ∈ l.entries, entF e l.target = 0 := by
  unfold checkF at h
  split at h
  · cases h
  split at h
  · cases h
  · exact ⟨‹_›, by omega, entsF_ok h⟩
theorem good_of {l : Lst} (h : checkF l = 0) : Good l.entries := by
  obtain ⟨_, h2, h3⟩ := checkF_ok h
  exact ⟨h2, fun e he => by have := entF_ok (h3 e he); omega⟩
def lenF : List Ent → Int
  | [] => 0
  | e :: r => e.milli + lenF r
theorem lenF_bd : ∀ {es : List Ent}, (∀ e ∈ es, 1 ≤ e.milli ∧ e.milli ≤ 3600000) → (es.length : Int) ≤ lenF es ∧ lenF es ≤ 3600000 * es.length
  | [], _ => by simp [lenF]
  | e :: r, h => by
    have h1 := lenF_bd (es := r) fun x hx => h x (by simp [hx])
    have h2 := h e (by simp)
    simp only [lenF, List.length_cons]
    omega
theorem mem_at {es : List Ent} {k : Nat} (hk : k < es.length) : es[k] ∈ es := List.getElem_mem hk
theorem Good.at {es : List Ent} (h : Good es) {k : Nat} (hk : k < es.length) : 1 ≤ es[k].milli ∧ es[k].milli ≤ 3600000 := h.2 _ (mem_at hk)
theorem Good.drop {es : List Ent} (h : Good es) (k : Nat) : ∀ e ∈ es.drop k, 1 ≤ e.milli ∧ e.milli ≤ 3600000 := fun e he => h.2 e (List.mem_of_mem_drop he)

set_option maxHeartbeats 1600000 in
theorem length_any (l : Lst) (A : Option Addr) (c : Nat) (w : World) (hg : Good l.entries) (hA : SlR 7 entR w (In w) l.entries A) :
    Calls Try.prog 48 #[.agg #[.int .i64 l.target, .int .i64 l.first, .int .i64 l.breaks, .slice A l.entries.length c, .bool l.ended]] w fun r w' => r = .returned (.int .i64 (lenF l.entries)) ∧ Ext w w' := by
  obtain ⟨T, F, B, es, E⟩ := l
  simp only at hg hA ⊢
  have hn := hg.1
  have HG := Lib.hid hg
  clear hg
  go_enter Try.func48, Try.ntmps48
  go_wp2
  go_loopw [3, 9] (fun s i wr => ∃ (k : Nat) (n : Int), k ≤ es.length ∧ i = .int .i64 k ∧ s = .int .i64 n ∧ 0 ≤ n ∧ n ≤ 3600000 * k ∧ Below (w.heap.size + 1) (w.alloc (.cells #[.int .i64 T, .int .i64 F, .int .i64 B, .slice A es.length c, .bool E] 24)) wr ∧ Hid (n + lenF (es.drop k) = lenF es)) (fun s i wr => es.length - (intOf i).toNat)
  case atStart => exact ⟨0, 0, Nat.zero_le _, rfl, rfl, by omega, by omega, Below.refl _ _, Lib.hid (by simp)⟩
  case round =>
    obtain ⟨k, n, hk, rfl, rfl, hn0, hn1, hb, hv⟩ := hrel
    obtain ⟨t0, t1, t2, t3, t4, hs1⟩ := lst_box hb
    by_cases hlt : k < es.length
    · have hd := Lib.hid (drop_cons hlt)
      obtain ⟨b, off, X, cx, rfl, hin, c0, c1, c2, c3, c4, c5, c6, g1, g2, g3, g4, g5, g6, g7, g8⟩ := ent_at (hA.ext keeps_ent (Ext.ofBox hb)) hlt
      obtain ⟨m1, m2⟩ := HG.out.at hlt
      have hin' : b < wr.heap.size := hin
      go_wp2
      go_roundw
      case rel => exact ⟨k + 1, _, by omega, by go_num, rfl, by omega, by omega, Below.call hb hs1 (Ext.new _ _), Lib.hid (by have h := hv.out; rw [hd.out, lenF] at h; omega)⟩
      case measure => simp [intOf]; omega
    · go_wp2
      go_ret
      exact ⟨ret_int (by rw [← hv.out, List.drop_eq_nil_of_le (by omega), lenF]; omega), Ext.ofBox hb⟩

set_option maxHeartbeats 1600000 in
theorem refLength_any (l : Lst) (A : Option Addr) (c : Nat) (w : World) (hg : Good l.entries) (hA : SlR 7 entR w (In w) l.entries A) :
    Calls Try.prog 39 #[.agg #[.int .i64 l.target, .int .i64 l.first, .int .i64 l.breaks, .slice A l.entries.length c, .bool l.ended]] w fun r w' => r = .returned (.int .i64 (lenF l.entries)) ∧ Ext w w' := by
  obtain ⟨T, F, B, es, E⟩ := l
  simp only at hg hA ⊢
  have hn := hg.1
  have HG := Lib.hid hg
  clear hg
  go_enter Try.func39, Try.ntmps39
  go_wp2
  go_loopw [3, 4] (fun s i wr => ∃ (k : Nat) (n : Int), k ≤ es.length ∧ i = .int .i64 k ∧ s = .int .i64 n ∧ 0 ≤ n ∧ n ≤ 3600000 * k ∧ Below (w.heap.size + 1) (w.alloc (.cells #[.int .i64 T, .int .i64 F, .int .i64 B, .slice A es.length c, .bool E] 24)) wr ∧ Hid (n + lenF (es.drop k) = lenF es)) (fun s i wr => es.length - (intOf i).toNat)
  case atStart => exact ⟨0, 0, Nat.zero_le _, rfl, rfl, by omega, by omega, Below.refl _ _, Lib.hid (by simp)⟩
  case round =>
    obtain ⟨k, n, hk, rfl, rfl, hn0, hn1, hb, hv⟩ := hrel
    obtain ⟨t0, t1, t2, t3, t4, hs1⟩ := lst_box hb
    by_cases hlt : k < es.length
    · have hd := Lib.hid (drop_cons hlt)
      obtain ⟨b, off, X, cx, rfl, hin, c0, c1, c2, c3, c4, c5, c6, g1, g2, g3, g4, g5, g6, g7, g8⟩ := ent_at (hA.ext keeps_ent (Ext.ofBox hb)) hlt
      obtain ⟨m1, m2⟩ := HG.out.at hlt
      have hin' : b < wr.heap.size := hin
      go_wp2
      go_roundw
      case rel => exact ⟨k + 1, _, by omega, by go_num, rfl, by omega, by omega, hb, Lib.hid (by have h := hv.out; rw [hd.out, lenF] at h; omega)⟩
      case measure => simp [intOf]; omega
    · go_wp2
      go_ret
      exact ⟨ret_int (by rw [← hv.out, List.drop_eq_nil_of_le (by omega), lenF]; omega), Ext.ofBox hb⟩

theorem ret_2 {a b c d : Int} (h : a = c) (k : b = d) : Ending.returned (.tuple #[.int .i64 a, .int .i64 b]) = .returned (.tuple #[.int .i64 c, .int .i64 d]) := by rw [h, k]
theorem ret_3 {a b c d e f : Int} (h : a = d) (k : b = e) (m : c = f) : Ending.returned (.tuple #[.int .i64 a, .int .i64 b, .int .i64 c]) = .returned (.tuple #[.int .i64 d, .int .i64 e, .int .i64 f]) := by rw [h, k, m]
def lengthF (l : Lst) : Int × Int := if checkF l = 0 then (lenF l.entries, 0) else (0, checkF l)

set_option maxHeartbeats 800000 in
theorem Length_any (l : Lst) (A : Option Addr) (c : Nat) (w : World) (hl : l.entries.length ≤ 9223372036854775807) (hA : SlR 7 entR w (In w) l.entries A) :
    Calls Try.prog 28 #[.agg #[.int .i64 l.target, .int .i64 l.first, .int .i64 l.breaks, .slice A l.entries.length c, .bool l.ended]] w fun r w' => r = .returned (.tuple #[.int .i64 (lengthF l).1, .int .i64 (lengthF l).2]) ∧ Ext w w' := by
  by_cases h : checkF l = 0
  · have HF := Lib.hid (show lengthF l = (lenF l.entries, 0) from by unfold lengthF; rw [if_pos h])
    have hg := good_of h
    have H := Lib.hid h
    have HG := Lib.hid hg
    clear h hg
    go_enter Try.func28, Try.ntmps28
    go_wp2_with fail
    refine (check_any l A c _ hl (hA.ext keeps_ent (Ext.new _ _))).mono ?_
    rintro r w1 ⟨rfl, hw⟩
    rw [H.out]
    obtain ⟨t0, t1, t2, t3, t4, hs1⟩ := lst_box (ext_box hw)
    go_wp2_with fail
    refine (length_any l A c _ HG.out (hA.ext keeps_ent (Ext.trans (Ext.new _ _) hw))).mono ?_
    rintro r w2 ⟨rfl, hw2⟩
    go_wp2
    go_ret2
    exact ⟨ret_2 (by rw [HF.out]) (by rw [HF.out]), Ext.trans (Ext.new _ _) (Ext.trans hw hw2)⟩
  · have HF := Lib.hid (show lengthF l = (0, checkF l) from by unfold lengthF; rw [if_neg h])
    have hne : (checkF l != 0) = true := by simpa using h
    clear h
    go_enter Try.func28, Try.ntmps28
    go_wp2_with fail
    refine (check_any l A c _ hl (hA.ext keeps_ent (Ext.new _ _))).mono ?_
    rintro r w1 ⟨rfl, hw⟩
    go_wp2
    go_ret2
    exact ⟨ret_2 (by rw [HF.out]) (by rw [HF.out]), Ext.trans (Ext.new _ _) hw⟩

/-- The list that 'awake' asks of. -/
def awL : Lst := ⟨4, 0, 0, [⟨⟨#[97]⟩, 7, false, -1, ⟨#[]⟩, false, []⟩], false⟩
theorem awL_check : checkF awL = 0 := by decide +kernel
theorem awL_len : lengthF awL = (7, 0) := by unfold lengthF; rw [if_pos awL_check]; rfl

set_option maxHeartbeats 800000 in
theorem awake_any (w : World) :
    Calls Try.prog 15 #[] w fun r w' => r = .returned (.bool true) ∧ Ext w w' := by
  go_enter Try.func15, Try.ntmps15
  go_wp2_with fail
  refine (Length_any awL (some ⟨w.heap.size, 0, none⟩) 1 _ (by decide) ?_).mono ?_
  · intro i x hx
    rcases i with _ | i
    · simp [awL] at hx
      subst hx
      refine ⟨w.heap.size, 0, _, rfl, by simp [In], ⟨_, rfl, by decide, by decide, by unfold I64; decide, by unfold I64; decide, none, 0, rfl, by decide, by decide, by decide, SlR.nil⟩, rfl, fun j v hv => ?_⟩
      simp only [Nat.zero_mul, Nat.zero_add]
      rw [World.cell?_alloc_new]
      simpa using hv
    · simp [awL] at hx
  · rintro r w1 ⟨rfl, hw⟩
    rw [awL_len]
    go_wp2
    go_ret
    exact ⟨rfl, Ext.trans (Ext.new _ _) hw⟩

def atG (m : Int) (i : Int) : List Ent → Int × Int
  | [] => (i, 0)
  | e :: r => if m < e.milli then (i, m) else atG (m - e.milli) (i + 1) r
theorem atG_end : ∀ {es : List Ent} {m i : Int}, (∀ e ∈ es, 1 ≤ e.milli ∧ e.milli ≤ 3600000) → lenF es ≤ m → atG m i es = (i + es.length, 0)
  | [], m, i, _, _ => by simp [atG]
  | e :: r, m, i, h, hm => by
    have h1 := lenF_bd (es := r) fun x hx => h x (by simp [hx])
    have h2 := h e (by simp)
    simp only [lenF] at hm
    rw [atG, if_neg (by omega), atG_end (fun x hx => h x (by simp [hx])) (by omega)]
    simp; omega
theorem atG_in : ∀ {es : List Ent} {m i : Int}, (∀ e ∈ es, 1 ≤ e.milli ∧ e.milli ≤ 3600000) → 0 ≤ m → m < lenF es → i ≤ (atG m i es).1 ∧ (atG m i es).1 < i + es.length
  | [], m, i, _, h0, hm => by simp [lenF] at hm; omega
  | e :: r, m, i, h, h0, hm => by
    have h2 := h e (by simp)
    simp only [lenF] at hm
    rw [atG]
    by_cases hlt : m < e.milli
    · rw [if_pos hlt]; simp; omega
    · rw [if_neg hlt]
      have := atG_in (es := r) (m := m - e.milli) (i := i + 1) (fun x hx => h x (by simp [hx])) (by omega) (by omega)
      simp only [List.length_cons]; omega

set_option maxHeartbeats 1600000 in
theorem entryAt_any (l : Lst) (m : Int) (A : Option Addr) (c : Nat) (w : World) (hg : Good l.entries) (hm0 : 0 ≤ m) (hm1 : m ≤ 9223372036854775807) (hA : SlR 7 entR w (In w) l.entries A) :
    Calls Try.prog 37 #[.agg #[.int .i64 l.target, .int .i64 l.first, .int .i64 l.breaks, .slice A l.entries.length c, .bool l.ended], .int .i64 m] w fun r w' => r = .returned (.tuple #[.int .i64 (atG m 0 l.entries).1, .int .i64 (atG m 0 l.entries).2]) ∧ Ext w w' := by
  obtain ⟨T, F, B, es, E⟩ := l
  simp only at hg hA ⊢
  have hn := hg.1
  have HG := Lib.hid hg
  clear hg
  go_enter Try.func37, Try.ntmps37
  go_wp2
  go_loopw [1, 11] (fun s i wr => ∃ (k : Nat) (n : Int), k ≤ es.length ∧ i = .int .i64 k ∧ s = .int .i64 n ∧ 0 ≤ n ∧ n ≤ 9223372036854775807 ∧ Below (w.heap.size + 1) (w.alloc (.cells #[.int .i64 T, .int .i64 F, .int .i64 B, .slice A es.length c, .bool E] 24)) wr ∧ Hid (atG n k (es.drop k) = atG m 0 es)) (fun s i wr => es.length - (intOf i).toNat)
  case atStart => exact ⟨0, m, Nat.zero_le _, rfl, rfl, hm0, hm1, Below.refl _ _, rfl⟩
  case round =>
    obtain ⟨k, n, hk, rfl, rfl, hn0, hn1, hb, hv⟩ := hrel
    obtain ⟨t0, t1, t2, t3, t4, hs1⟩ := lst_box hb
    by_cases hlt : k < es.length
    · have hd := Lib.hid (drop_cons hlt)
      obtain ⟨b, off, X, cx, rfl, hin, c0, c1, c2, c3, c4, c5, c6, g1, g2, g3, g4, g5, g6, g7, g8⟩ := ent_at (hA.ext keeps_ent (Ext.ofBox hb)) hlt
      obtain ⟨m1, m2⟩ := HG.out.at hlt
      have hin' : b < wr.heap.size := hin
      by_cases hc : n < es[k].milli
      · go_wp2
        go_ret2
        exact ⟨ret_2 (by rw [← hv.out, hd.out, atG, if_pos hc]) (by rw [← hv.out, hd.out, atG, if_pos hc]), Ext.trans (Ext.ofBox hb) (Ext.new _ _)⟩
      · go_wp2
        go_roundw
        case rel => exact ⟨k + 1, _, by omega, by go_num, rfl, by omega, by omega, Below.call hb hs1 (Ext.new _ _), Lib.hid (by have h := hv.out; rw [hd.out, atG, if_neg hc] at h; simpa using h)⟩
        case measure => simp [intOf]; omega
    · have hd := Lib.hid (show es.drop k = [] from List.drop_eq_nil_of_le (by omega))
      go_wp2
      go_ret2
      exact ⟨ret_2 (by rw [← hv.out, hd.out, atG]; show (es.length : Int) = k; omega) (by rw [← hv.out, hd.out, atG]), Ext.ofBox hb⟩

set_option maxHeartbeats 1600000 in
theorem place_any (l : Lst) (m : Int) (A : Option Addr) (c : Nat) (w : World) (hg : Good l.entries) (hm0 : 0 ≤ m) (hm1 : m < lenF l.entries) (hA : SlR 7 entR w (In w) l.entries A) :
    Calls Try.prog 40 #[.agg #[.int .i64 l.target, .int .i64 l.first, .int .i64 l.breaks, .slice A l.entries.length c, .bool l.ended], .int .i64 m] w fun r w' => r = .returned (.tuple #[.int .i64 (atG m 0 l.entries).1, .int .i64 (atG m 0 l.entries).2]) ∧ Ext w w' := by
  obtain ⟨T, F, B, es, E⟩ := l
  simp only at hg hA hm1 ⊢
  have hn := hg.1
  have HG := Lib.hid hg
  clear hg
  go_enter Try.func40, Try.ntmps40
  go_wp2
  go_loopw [1, 6] (fun s i wr => ∃ (k : Nat) (n : Int), k < es.length ∧ i = .int .i64 k ∧ s = .int .i64 n ∧ 0 ≤ n ∧ n < lenF (es.drop k) ∧ Below (w.heap.size + 1) (w.alloc (.cells #[.int .i64 T, .int .i64 F, .int .i64 B, .slice A es.length c, .bool E] 24)) wr ∧ Hid (atG n k (es.drop k) = atG m 0 es)) (fun s i wr => es.length - (intOf i).toNat)
  case atStart =>
    have hne : 0 < es.length := by
      rcases es with _ | ⟨e, r⟩
      · simp [lenF] at hm1; omega
      · simp
    exact ⟨0, m, hne, rfl, rfl, hm0, by simpa using hm1, Below.refl _ _, rfl⟩
  case round =>
    obtain ⟨k, n, hlt, rfl, rfl, hn0, hn1, hb, hv⟩ := hrel
    obtain ⟨t0, t1, t2, t3, t4, hs1⟩ := lst_box hb
    have hd := Lib.hid (drop_cons hlt)
    obtain ⟨b, off, X, cx, rfl, hin, c0, c1, c2, c3, c4, c5, c6, g1, g2, g3, g4, g5, g6, g7, g8⟩ := ent_at (hA.ext keeps_ent (Ext.ofBox hb)) hlt
    obtain ⟨m1, m2⟩ := HG.out.at hlt
    have hin' : b < wr.heap.size := hin
    have hrest := (lenF_bd (HG.out.drop (k + 1))).2
    have hle : n < es[k].milli + lenF (es.drop (k + 1)) := by have h := hn1; rw [hd.out, lenF] at h; exact h
    have hln : (es.drop (k + 1)).length ≤ 1000 := by simp; omega
    have hn2 : n ≤ 9223372036854775807 := by omega
    have HR := Lib.hid hrest
    have HL := Lib.hid hle
    clear hrest hle hn1
    by_cases hc : n < es[k].milli
    · go_wp2
      go_ret2
      exact ⟨ret_2 (by rw [← hv.out, hd.out, atG, if_pos hc]) (by rw [← hv.out, hd.out, atG, if_pos hc]), Ext.ofBox hb⟩
    · have hk1 : k + 1 < es.length := by
        rcases Nat.lt_or_ge (k + 1) es.length with h | h
        · exact h
        · have h2 := HL.out; rw [List.drop_eq_nil_of_le h, lenF] at h2; omega
      go_wp2
      go_roundw
      case rel => exact ⟨k + 1, _, hk1, by go_num, rfl, by omega, by have := HL.out; omega, hb, Lib.hid (by have h := hv.out; rw [hd.out, atG, if_neg hc] at h; simpa using h)⟩
      case measure => simp [intOf]; omega
end Go.Proofs.Ytkfhfjcgegimbaa
