/- What is proved here: stretches between breaks, of the reference; the beginning of a stretch (chapter 6). -/
import Derived.Test.YtkfhfjcgegimbaaSwitch2
namespace Go.Proofs.Ytkfhfjcgegimbaa
open Go.RowKit
set_option linter.unusedVariables false

def srG (of i f t : Int) : List Int → Int × Int
  | [] => (f, t)
  | n :: r => if n = of then srG of (i + 1) (if f = t then i else f) (i + 1) r else srG of (i + 1) f t r

set_option maxHeartbeats 1600000 in
theorem refStretch_any (l : Lst) (m : Int) (A : Option Addr) (c : Nat) (w : World) (hn : l.entries.length ≤ 1000) (hb0 : 0 ≤ l.breaks) (hb1 : l.breaks ≤ 1000000000000000) (hA : SlR 7 entR w (In w) l.entries A) :
    Calls Try.prog 56 #[.agg #[.int .i64 l.target, .int .i64 l.first, .int .i64 l.breaks, .slice A l.entries.length c, .bool l.ended], .int .i64 m] w fun r w' => r = .returned (.tuple #[.int .i64 (srG m 0 0 0 (bnF l.breaks l.entries)).1, .int .i64 (srG m 0 0 0 (bnF l.breaks l.entries)).2]) ∧ Ext w w' := by
  obtain ⟨T, F, B, es, E⟩ := l
  simp only at hn hb0 hb1 hA ⊢
  have hbl := Lib.hid (bnF_len es B)
  go_enter Try.func56, Try.ntmps56
  go_wp2
  go_loopw [6, 7, 8] (fun sf st i wr => ∃ (k : Nat) (f t : Int), k ≤ es.length ∧ i = .int .i64 k ∧ sf = .int .i64 f ∧ st = .int .i64 t ∧ Below (w.heap.size + 1) (w.alloc (.cells #[.int .i64 T, .int .i64 F, .int .i64 B, .slice A es.length c, .bool E] 24)) wr ∧ Hid (srG m k f t ((bnF B es).drop k) = srG m 0 0 0 (bnF B es))) (fun sf st i wr => es.length - (intOf i).toNat)
  case atStart => exact ⟨0, 0, 0, Nat.zero_le _, rfl, rfl, rfl, Below.refl _ _, rfl⟩
  case round =>
    obtain ⟨k, f, t, hk, rfl, rfl, rfl, hb, hv⟩ := hrel
    obtain ⟨t0, t1, t2, t3, t4, hs1⟩ := lst_box hb
    by_cases hlt : k < es.length
    · have hlt2 : k < (bnF B es).length := by rw [hbl.out]; exact hlt
      have hd := Lib.hid (drop_cons hlt2)
      have hat : Hid ((bnF B es)[k] = B + cntF (es.take (k + 1))) := by have h := bnF_at es B k hlt; rw [List.getElem?_eq_getElem hlt2] at h; injection h
      by_cases he : B + cntF (es.take (k + 1)) = m
      · have he' : Hid ((bnF B es)[k] = m) := hat.out.trans he
        have hb1' : ((B + cntF (es.take (k + 1))) != m) = false := by simpa using he
        by_cases h0 : f = t
        · have hz : (f == t) = true := by simpa using h0
          have HV : Hid (srG m ((k : Int) + 1) k ((k : Int) + 1) ((bnF B es).drop (k + 1)) = srG m 0 0 0 (bnF B es)) := by have h := hv.out; rw [hd.out, srG, if_pos he'.out, if_pos h0] at h; exact h
          clear he h0
          go_wp2_with fail
          refine (breaks_any ⟨T, F, B, es, E⟩ k A c _ hn hb0 hb1 (by omega) (by simp only; omega) (hA.ext keeps_ent (Ext.ofBox hb))).mono ?_
          rintro r w1 ⟨rfl, hw⟩
          rw [show ((k : Int) + 1).toNat = k + 1 from by omega]
          go_wp2
          go_roundw
          case rel => exact ⟨k + 1, k, k + 1, by omega, by go_num, rfl, rfl, Below.call hb hs1 hw, Lib.hid (by simpa using HV.out)⟩
          case measure => simp [intOf]; omega
        · have hz : (f == t) = false := by simpa using h0
          have HV : Hid (srG m ((k : Int) + 1) f ((k : Int) + 1) ((bnF B es).drop (k + 1)) = srG m 0 0 0 (bnF B es)) := by have h := hv.out; rw [hd.out, srG, if_pos he'.out, if_neg h0] at h; exact h
          clear he h0
          go_wp2_with fail
          refine (breaks_any ⟨T, F, B, es, E⟩ k A c _ hn hb0 hb1 (by omega) (by simp only; omega) (hA.ext keeps_ent (Ext.ofBox hb))).mono ?_
          rintro r w1 ⟨rfl, hw⟩
          rw [show ((k : Int) + 1).toNat = k + 1 from by omega]
          go_wp2
          go_roundw
          case rel => exact ⟨k + 1, f, k + 1, by omega, by go_num, rfl, rfl, Below.call hb hs1 hw, Lib.hid (by simpa using HV.out)⟩
          case measure => simp [intOf]; omega
      · have he' : Hid (¬ (bnF B es)[k] = m) := by rw [hat.out]; exact he
        have hb1' : ((B + cntF (es.take (k + 1))) != m) = true := by simpa using he
        have HV : Hid (srG m ((k : Int) + 1) f t ((bnF B es).drop (k + 1)) = srG m 0 0 0 (bnF B es)) := by have h := hv.out; rw [hd.out, srG, if_neg he'.out] at h; exact h
        clear he
        go_wp2_with fail
        refine (breaks_any ⟨T, F, B, es, E⟩ k A c _ hn hb0 hb1 (by omega) (by simp only; omega) (hA.ext keeps_ent (Ext.ofBox hb))).mono ?_
        rintro r w1 ⟨rfl, hw⟩
        rw [show ((k : Int) + 1).toNat = k + 1 from by omega]
        go_wp2
        go_roundw
        case rel => exact ⟨k + 1, f, t, by omega, by go_num, rfl, rfl, Below.call hb hs1 hw, Lib.hid (by simpa using HV.out)⟩
        case measure => simp [intOf]; omega
    · have hd := Lib.hid (show (bnF B es).drop k = [] from List.drop_eq_nil_of_le (by rw [hbl.out]; omega))
      go_wp2
      go_ret2
      exact ⟨ret_2 (by rw [← hv.out, hd.out, srG]) (by rw [← hv.out, hd.out, srG]), Ext.ofBox hb⟩

/-- The two agree where numbers do not fall. -/
theorem srG_above : ∀ (ns : List Int) (of i f t : Int), (∀ n ∈ ns, of < n) → srG of i f t ns = (f, t)
  | [], of, i, f, t, _ => rfl
  | n :: r, of, i, f, t, h => by
    have := h n (by simp)
    rw [srG, if_neg (by omega)]
    exact srG_above r of (i + 1) f t fun x hx => h x (by simp [hx])
theorem stG_above : ∀ (ns : List Int) (of i f m : Int), (∀ n ∈ ns, of < n) → stG of i f m ns = (f, m)
  | [], of, i, f, t, _ => rfl
  | n :: r, of, i, f, m, h => by
    have := h n (by simp)
    rw [stG, if_neg (by omega)]
    exact stG_above r of (i + 1) f m fun x hx => h x (by simp [hx])
theorem sr_st : ∀ (ns : List Int) (of i f m : Int), ns.Pairwise (· ≤ ·) → 0 ≤ m → (0 < m → i = f + m) → (0 < m → ∀ n ∈ ns, of ≤ n) →
    srG of i f (f + m) ns = ((stG of i f m ns).1, (stG of i f m ns).1 + (stG of i f m ns).2)
  | [], of, i, f, m, _, _, _, _ => rfl
  | n :: r, of, i, f, m, hp, hm, hi, hge => by
    obtain ⟨h1, h2⟩ := List.pairwise_cons.1 hp
    by_cases he : n = of
    · rw [srG, stG, if_pos he, if_pos he]
      have hr : ∀ x ∈ r, of ≤ x := fun x hx => by have := h1 x hx; omega
      by_cases h0 : m = 0
      · subst h0
        rw [if_pos (by omega), if_pos rfl]
        exact sr_st r of (i + 1) i (0 + 1) h2 (by omega) (by omega) (fun _ => hr)
      · rw [if_neg (by omega), if_neg h0]
        have := sr_st r of (i + 1) f (m + 1) h2 (by omega) (by omega) (fun _ => hr)
        rw [show f + (m + 1) = i + 1 from by omega] at this
        exact this
    · rw [srG, stG, if_neg he, if_neg he]
      by_cases hlt : of < n
      · rw [srG_above r of _ _ _ fun x hx => by have := h1 x hx; omega, stG_above r of _ _ _ fun x hx => by have := h1 x hx; omega]
      · by_cases h0 : m = 0
        · subst h0
          exact sr_st r of (i + 1) f 0 h2 hm (by omega) (by omega)
        · have := hge (by omega) n (by simp)
          omega
theorem bnF_ge : ∀ (es : List Ent) (n : Int), ∀ x ∈ bnF n es, n ≤ x
  | [], n, x, h => by simp [bnF] at h
  | e :: r, n, x, h => by
    unfold bnF at h
    split at h
    · rcases List.mem_cons.1 h with rfl | h
      · omega
      · have := bnF_ge r (n + 1) x h; omega
    · rcases List.mem_cons.1 h with rfl | h
      · omega
      · exact bnF_ge r n x h
theorem bnF_sorted : ∀ (es : List Ent) (n : Int), (bnF n es).Pairwise (· ≤ ·)
  | [], n => by simp [bnF]
  | e :: r, n => by
    unfold bnF
    split
    · exact List.pairwise_cons.2 ⟨bnF_ge r (n + 1), bnF_sorted r (n + 1)⟩
    · exact List.pairwise_cons.2 ⟨bnF_ge r n, bnF_sorted r n⟩
/-- Where a stretch lies. -/
def stF (l : Lst) (of : Int) : Int × Int := stG of 0 0 0 (bnF l.breaks l.entries)
theorem sr_eq (l : Lst) (of : Int) : srG of 0 0 0 (bnF l.breaks l.entries) = ((stF l of).1, (stF l of).1 + (stF l of).2) :=
  sr_st _ of 0 0 0 (bnF_sorted _ _) (by omega) (by omega) (by omega)
theorem stG_bd : ∀ (ns : List Int) (of i f m : Int), 0 ≤ f → 0 ≤ m → (0 < m → f + m ≤ i) → 0 ≤ i → 0 ≤ (stG of i f m ns).1 ∧ m ≤ (stG of i f m ns).2 ∧ (0 < (stG of i f m ns).2 → (stG of i f m ns).1 + (stG of i f m ns).2 ≤ i + ns.length)
  | [], of, i, f, m, h1, h2, h3, _ => by simp [stG]; omega
  | n :: r, of, i, f, m, h1, h2, h3, h4 => by
    unfold stG
    split
    · by_cases h0 : m = 0
      · rw [if_pos h0]
        have := stG_bd r of (i + 1) i (m + 1) h4 (by omega) (by omega) (by omega)
        simp only [List.length_cons]; omega
      · rw [if_neg h0]
        have := stG_bd r of (i + 1) f (m + 1) h1 (by omega) (by omega) (by omega)
        simp only [List.length_cons]; omega
    · have := stG_bd r of (i + 1) f m h1 h2 (by omega) (by omega)
      simp only [List.length_cons]; omega
theorem stF_bd (l : Lst) (of : Int) : 0 ≤ (stF l of).1 ∧ 0 ≤ (stF l of).2 ∧ (0 < (stF l of).2 → (stF l of).1 + (stF l of).2 ≤ l.entries.length) := by
  have := stG_bd (bnF l.breaks l.entries) of 0 0 0 (by omega) (by omega) (by omega) (by omega)
  rw [bnF_len] at this
  unfold stF; omega

/-- A list has the beginning of a stretch. -/
def begB (l : Lst) (e : Ent) (m : Int) : Bool := e.brk || (decide (m = 0) && decide (l.first = 0))

set_option maxHeartbeats 800000 in
theorem hasBeginning_any (l : Lst) (k : Nat) (A : Option Addr) (c : Nat) (w : World) (hn : l.entries.length ≤ 1000) (hk : k < l.entries.length) (hA : SlR 7 entR w (In w) l.entries A) :
    Calls Try.prog 55 #[.agg #[.int .i64 l.target, .int .i64 l.first, .int .i64 l.breaks, .slice A l.entries.length c, .bool l.ended], .int .i64 k] w fun r w' => r = .returned (.bool (begB l l.entries[k] k)) ∧ Ext w w' := by
  obtain ⟨b, off, X, cx, rfl, hin, c0, c1, c2, c3, c4, c5, c6, g1, g2, g3, g4, g5, g6, g7, g8⟩ := ent_at hA hk
  have hin' : b < w.heap.size := hin
  cases hb : l.entries[k].brk
  · by_cases h0 : k = 0
    · subst h0
      have HF := Lib.hid (show begB l l.entries[0] (0 : Nat) = decide (l.first = 0) from by simp [begB, hb])
      by_cases hf : l.first = 0
      · have hz : (l.first == 0) = true := by simpa using hf
        go_enter Try.func55, Try.ntmps55
        go_wp2
        go_ret
        exact ⟨ret_bool (by rw [HF.out]; simp [hf]), Ext.new _ _⟩
      · have hz : (l.first == 0) = false := by simpa using hf
        go_enter Try.func55, Try.ntmps55
        go_wp2
        go_ret
        exact ⟨ret_bool (by rw [HF.out]; simp [hf]), Ext.new _ _⟩
    · have HF := Lib.hid (show begB l l.entries[k] k = false from by simp [begB, hb]; omega)
      have hz : ((k : Int) == 0) = false := by simpa using h0
      go_enter Try.func55, Try.ntmps55
      go_wp2
      go_ret
      exact ⟨ret_bool HF.out.symm, Ext.new _ _⟩
  · have HF := Lib.hid (show begB l l.entries[k] k = true from by simp [begB, hb])
    go_enter Try.func55, Try.ntmps55
    go_wp2
    go_ret
    exact ⟨ret_bool HF.out.symm, Ext.new _ _⟩

set_option maxHeartbeats 800000 in
theorem beginning_any (l : Lst) (k : Nat) (A : Option Addr) (c : Nat) (w : World) (hn : l.entries.length ≤ 1000) (hk : k < l.entries.length) (hA : SlR 7 entR w (In w) l.entries A) :
    Calls Try.prog 59 #[.agg #[.int .i64 l.target, .int .i64 l.first, .int .i64 l.breaks, .slice A l.entries.length c, .bool l.ended], .int .i64 k] w fun r w' => r = .returned (.bool (begB l l.entries[k] k)) ∧ Ext w w' := by
  obtain ⟨b, off, X, cx, rfl, hin, c0, c1, c2, c3, c4, c5, c6, g1, g2, g3, g4, g5, g6, g7, g8⟩ := ent_at hA hk
  have hin' : b < w.heap.size := hin
  cases hb : l.entries[k].brk
  · by_cases h0 : k = 0
    · subst h0
      have HF := Lib.hid (show begB l l.entries[0] (0 : Nat) = decide (l.first = 0) from by simp [begB, hb])
      by_cases hf : l.first = 0
      · have hz : (l.first == 0) = true := by simpa using hf
        go_enter Try.func59, Try.ntmps59
        go_wp2
        go_ret
        exact ⟨ret_bool (by rw [HF.out]; simp [hf]), Ext.new _ _⟩
      · have hz : (l.first == 0) = false := by simpa using hf
        go_enter Try.func59, Try.ntmps59
        go_wp2
        go_ret
        exact ⟨ret_bool (by rw [HF.out]; simp [hf]), Ext.new _ _⟩
    · have HF := Lib.hid (show begB l l.entries[k] k = false from by simp [begB, hb]; omega)
      have hz : ((k : Int) == 0) = false := by simpa using h0
      go_enter Try.func59, Try.ntmps59
      go_wp2
      go_ret
      exact ⟨ret_bool HF.out.symm, Ext.new _ _⟩
  · have HF := Lib.hid (show begB l l.entries[k] k = true from by simp [begB, hb])
    go_enter Try.func59, Try.ntmps59
    go_wp2
    go_ret
    exact ⟨ret_bool HF.out.symm, Ext.new _ _⟩
end Go.Proofs.Ytkfhfjcgegimbaa
