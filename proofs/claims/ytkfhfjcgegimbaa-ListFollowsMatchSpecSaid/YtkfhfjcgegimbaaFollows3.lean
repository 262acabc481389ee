/- What is proved here: what follows of the reference returns (chapter 6). -/
import Derived.Test.YtkfhfjcgegimbaaFollows2
namespace Go.Proofs.Ytkfhfjcgegimbaa
open Go.RowKit
set_option linter.unusedVariables false

def cmpAt (a b : Lst) (i k : Nat) : Int := cmpG (a.entries.drop i) ((bnF a.breaks a.entries).drop i) (b.entries.drop k) ((bnF b.breaks b.entries).drop k)
theorem cmpAt_step {a b : Lst} {i k : Nat} (h1 : i < a.entries.length) (h3 : k < b.entries.length) :
    cmpAt a b i k = if eqE a.entries[i] b.entries[k] = true then if ownN a i = ownN b k then cmpAt a b (i + 1) (k + 1) else 3 else 12 := by
  have h2 : i < (bnF a.breaks a.entries).length := by rw [bnF_len]; exact h1
  have h4 : k < (bnF b.breaks b.entries).length := by rw [bnF_len]; exact h3
  have e1 : (bnF a.breaks a.entries)[i] = ownN a i := by have h := bnF_at a.entries a.breaks i h1; rw [List.getElem?_eq_getElem h2] at h; injection h
  have e2 : (bnF b.breaks b.entries)[k] = ownN b k := by have h := bnF_at b.entries b.breaks k h3; rw [List.getElem?_eq_getElem h4] at h; injection h
  unfold cmpAt
  rw [cmpG_step h1 h2 h3 h4, e1, e2]
theorem cmpAt_end {a b : Lst} {i k : Nat} (h : a.entries.length ≤ i) : cmpAt a b i k = 0 := cmpG_end (List.drop_eq_nil_of_le h)
theorem follows_4 {a b : Lst} (h : a.target = b.target) (h1 : a.ended = false ∨ eqLst a b = true) (h2 : ¬ (b.first < a.first ∨ b.first + b.entries.length < a.first + a.entries.length)) {k0 : Nat} (hk : b.first = a.first + k0) :
    followsIn a b = if cmpAt a b k0 0 = 0 then if a.first + a.entries.length ≤ b.first ∧ b.breaks < lastN a then 8 else 0 else cmpAt a b k0 0 := follows_3 h h1 h2 hk
theorem breaks_last (l : Lst) (A : Option Addr) (c : Nat) (w : World) (hn : l.entries.length ≤ 1000) (hb0 : 0 ≤ l.breaks) (hb1 : l.breaks ≤ 1000000000000000) (hA : SlR 7 entR w (In w) l.entries A) :
    Calls Try.prog 57 #[.agg #[.int .i64 l.target, .int .i64 l.first, .int .i64 l.breaks, .slice A l.entries.length c, .bool l.ended], .int .i64 ((l.entries.length : Int) - 1)] w fun r w' => r = .returned (.int .i64 (lastN l)) ∧ Ext w w' := by
  refine (breaks_any l _ A c w hn hb0 hb1 (by omega) (by omega) hA).mono fun r w' ⟨h1, h2⟩ => ⟨?_, h2⟩
  rw [h1, show ((l.entries.length : Int) - 1 + 1).toNat = l.entries.length from by omega, List.take_length]
  rfl

set_option maxRecDepth 100000 in
set_option maxHeartbeats 1000000 in
theorem refFollows_in (a b : Lst) (A A' : Option Addr) (c c' : Nat) (w : World) (hca : checkF a = 0) (hcb : checkF b = 0)
    (hA : SlR 7 entR w (In w) a.entries A) (hB : SlR 7 entR w (In w) b.entries A') :
    Calls Try.prog 51 #[.agg #[.int .i64 a.target, .int .i64 a.first, .int .i64 a.breaks, .slice A a.entries.length c, .bool a.ended], .agg #[.int .i64 b.target, .int .i64 b.first, .int .i64 b.breaks, .slice A' b.entries.length c', .bool b.ended]] w fun r w' => r = .returned (.int .i64 (followsIn a b)) ∧ Ext w w' := by
  have hW2 : Ext w ((w.alloc (.cells #[.int .i64 a.target, .int .i64 a.first, .int .i64 a.breaks, .slice A a.entries.length c, .bool a.ended] 24)).alloc (.cells #[.int .i64 b.target, .int .i64 b.first, .int .i64 b.breaks, .slice A' b.entries.length c', .bool b.ended] 24)) := Ext.trans (Ext.new w _) (Ext.new _ _)
  have hA2 := hA.ext keeps_ent hW2
  have hB2 := hB.ext keeps_ent hW2
  obtain ⟨f1, f2, f3, f4, f5⟩ := head_of hca
  obtain ⟨p1, p2, p3, p4, p5⟩ := head_of hcb
  clear hca hcb
  have q1 : IntKind.i64.wrap (a.first + (a.entries.length : Int)) = a.first + (a.entries.length : Int) := IntWalk.i64_in _ ⟨by omega, by omega⟩
  have q2 : IntKind.i64.wrap (b.first + (b.entries.length : Int)) = b.first + (b.entries.length : Int) := IntWalk.i64_in _ ⟨by omega, by omega⟩
  by_cases hT : a.target = b.target
  · have hTb : (a.target != b.target) = false := by simpa using hT
    have HT := Lib.hid hT
    clear hT
    rcases (show a.ended = false ∨ a.ended = true from by cases a.ended <;> simp) with hen | hen
    · have HE1 : Ext ((w.alloc (.cells #[.int .i64 a.target, .int .i64 a.first, .int .i64 a.breaks, .slice A a.entries.length c, .bool a.ended] 24)).alloc (.cells #[.int .i64 b.target, .int .i64 b.first, .int .i64 b.breaks, .slice A' b.entries.length c', .bool b.ended] 24)) ((w.alloc (.cells #[.int .i64 a.target, .int .i64 a.first, .int .i64 a.breaks, .slice A a.entries.length c, .bool false] 24)).alloc (.cells #[.int .i64 b.target, .int .i64 b.first, .int .i64 b.breaks, .slice A' b.entries.length c', .bool b.ended] 24)) := by rw [hen]; exact Ext.same _
      have HEN : Hid (a.ended = false ∨ eqLst a b = true) := .inl hen
      go_enter Try.func51, Try.ntmps51
      by_cases hr : b.first < a.first ∨ b.first + b.entries.length < a.first + a.entries.length
      · have HF := Lib.hid (follows_2 HT.out HEN.out hr)
        by_cases hr1 : b.first < a.first
        all_goals
          go_wp2_with fail
          go_ret
          exact ⟨ret_int HF.out.symm, Ext.trans hW2 HE1⟩
      · obtain ⟨k0, hk0⟩ : ∃ k0 : Nat, b.first = a.first + k0 := ⟨(b.first - a.first).toNat, by omega⟩
        have HF := Lib.hid (follows_4 HT.out HEN.out hr hk0)
        have r1 : a.first ≤ b.first := by omega
        have r2 : a.first + a.entries.length ≤ b.first + b.entries.length := by omega
        have HK0 := Lib.hid hk0
        clear hk0 hr
        go_wp2_with fail
        clear hen
        go_loopw [5, 6] (fun s5 s6 wr => ∃ (k i j : Nat) (cm : Bool), s5 = .bool cm ∧ s6 = .int .i64 k ∧ k ≤ a.entries.length ∧ Ext ((w.alloc (.cells #[.int .i64 a.target, .int .i64 a.first, .int .i64 a.breaks, .slice A a.entries.length c, .bool a.ended] 24)).alloc (.cells #[.int .i64 b.target, .int .i64 b.first, .int .i64 b.breaks, .slice A' b.entries.length c', .bool b.ended] 24)) wr ∧ Hid (i = k0 + j) ∧ ((k ≤ i ∧ j = 0 ∧ cm = false) ∨ (k = i ∧ cm = true ∧ 0 < j)) ∧ Hid (cmpAt a b i j = cmpAt a b k0 0)) (fun s5 s6 wr => a.entries.length - (intOf s6).toNat)
        case atStart => exact ⟨0, k0, 0, false, rfl, rfl, Nat.zero_le _, HE1, rfl, .inl ⟨Nat.zero_le _, rfl, rfl⟩, rfl⟩
        case round =>
          obtain ⟨k, i, j, cm, rfl, rfl, hk1, hEE, hi, hcs, hv⟩ := hrel
          obtain ⟨⟨t0, t1, t2, t3, t4⟩, ⟨s0, s1, s2, s3, s4⟩⟩ := two_box hEE
          by_cases hlt : k < a.entries.length
          · have i1 : (k : Int) < (a.entries.length : Int) := by omega
            by_cases hki : k < i
            · have hcm : cm = false := by rcases hcs with ⟨_, _, h⟩ | ⟨h, _, _⟩ <;> first | exact h | (exfalso; omega)
              have hj0 : j = 0 := by rcases hcs with ⟨_, h, _⟩ | ⟨h, _, _⟩ <;> first | exact h | (exfalso; omega)
              have z1 : a.first + (k : Int) - b.first < 0 := by have h1 := hi.out; have h2 := HK0.out; omega
              subst hcm hj0
              clear hcs
              go_wp2
              go_roundw
              case rel => exact ⟨k + 1, i, 0, false, rfl, by go_num, by omega, hEE, hi, .inl ⟨by omega, rfl, rfl⟩, hv⟩
              case measure => simp [intOf]; omega
            · have hki2 : k = i := by omega
              subst hki2
              clear hki hcs
              have hjb : j < b.entries.length := by have h1 := hi.out; have h2 := HK0.out; omega
              have z1 : a.first + (k : Int) - b.first = (j : Int) := by have h1 := hi.out; have h2 := HK0.out; omega
              have i2 : (j : Int) < (b.entries.length : Int) := by omega
              have hst := Lib.hid (cmpAt_step hlt hjb)
              obtain ⟨ba, oa, X, cx, rfl, hin, c0, c1', c2', c3, c4, c5, c6, g1, g2, g3, g4, g5, g6, g7, g8⟩ := ent_at (hA2.ext keeps_ent hEE) hlt
              obtain ⟨bb, ob, X', cx', rfl, hin2, d0, d1, d2, d3, d4, d5, d6, k1, k2, k3, k4, k5, k6, k7, k8⟩ := ent_at (hB2.ext keeps_ent hEE) hjb
              go_wp2_with fail
              go_still_tail 10, (by kernel_rfl)
              change wpList _ _ _ _ _ wr.drew
              go_wp2_with fail
              refine (refSameEntry_any a.entries[k] b.entries[j] X X' cx cx' wr.drew (by omega) g8 k8).mono ?_
              rintro r w6 ⟨rfl, hw6⟩
              have hE6b : Ext ((w.alloc (.cells #[.int .i64 a.target, .int .i64 a.first, .int .i64 a.breaks, .slice (some ⟨ba, oa, none⟩) a.entries.length c, .bool a.ended] 24)).alloc (.cells #[.int .i64 b.target, .int .i64 b.first, .int .i64 b.breaks, .slice (some ⟨bb, ob, none⟩) b.entries.length c', .bool b.ended] 24)) w6 := Ext.trans hEE (Ext.trans (Ext.one _) hw6)
              clear t0 t1 t2 t3 t4 s0 s1 s2 s3 s4 c0 c1' c2' c3 c4 c5 c6 d0 d1 d2 d3 d4 d5 d6 g8 k8 hEE hw6 hin hin2
              cases he : eqE a.entries[k] b.entries[j]
              · have HC : Hid (cmpAt a b k0 0 = 12) := by have h := hv.out; rw [hst.out, if_neg (by rw [he]; simp)] at h; exact h.symm
                have HR : Hid (followsIn a b = 12) := HF.out.trans (by rw [HC.out, if_neg (by decide)])
                go_wp2
                go_ret
                exact ⟨ret_int HR.out.symm, Ext.trans hW2 hE6b⟩
              · have hA4 := hA2.ext keeps_ent hE6b
                have tok2 : True := trivial
                go_wp2_with fail
                go_region_held3 (fun wx => (wx.cell? ⟨w.heap.size, 0, none⟩ = some (.int .i64 a.target) ∧ wx.cell? ⟨w.heap.size, 1, none⟩ = some (.int .i64 a.first) ∧ wx.cell? ⟨w.heap.size, 2, none⟩ = some (.int .i64 a.breaks) ∧ wx.cell? ⟨w.heap.size, 3, none⟩ = some (.slice (some ⟨ba, oa, none⟩) a.entries.length c) ∧ wx.cell? ⟨w.heap.size, 4, none⟩ = some (.bool a.ended)) ∧ (wx.cell? ⟨w.heap.size + 1, 0, none⟩ = some (.int .i64 b.target) ∧ wx.cell? ⟨w.heap.size + 1, 1, none⟩ = some (.int .i64 b.first) ∧ wx.cell? ⟨w.heap.size + 1, 2, none⟩ = some (.int .i64 b.breaks) ∧ wx.cell? ⟨w.heap.size + 1, 3, none⟩ = some (.slice (some ⟨bb, ob, none⟩) b.entries.length c') ∧ wx.cell? ⟨w.heap.size + 1, 4, none⟩ = some (.bool b.ended))) (first | exact two_box hE6b | exact two_box (Ext.trans hE6b (Ext.one _)) | exact two_box hE7 | exact two_box hE8)
                  (first
                    | (go_at_call 57; have _t := tok2; refine (breaks_own a k (some ⟨ba, oa, none⟩) c _ f5 f3 f4 hlt ?_).mono ?_; (exact hA4); (rintro r w7 ⟨rfl, hw7⟩; have hE7 : Ext ((w.alloc (.cells #[.int .i64 a.target, .int .i64 a.first, .int .i64 a.breaks, .slice (some ⟨ba, oa, none⟩) a.entries.length c, .bool a.ended] 24)).alloc (.cells #[.int .i64 b.target, .int .i64 b.first, .int .i64 b.breaks, .slice (some ⟨bb, ob, none⟩) b.entries.length c', .bool b.ended] 24)) w7 := Ext.trans (Ext.trans hE6b (Ext.one _)) hw7; clear tok2))
                    | (go_at_call 57; refine (breaks_own b j (some ⟨bb, ob, none⟩) c' _ p5 p3 p4 hjb ?_).mono ?_; (exact hB2.ext keeps_ent hE7); (rintro r w8 ⟨rfl, hw8⟩; have hE8 : Ext ((w.alloc (.cells #[.int .i64 a.target, .int .i64 a.first, .int .i64 a.breaks, .slice (some ⟨ba, oa, none⟩) a.entries.length c, .bool a.ended] 24)).alloc (.cells #[.int .i64 b.target, .int .i64 b.first, .int .i64 b.breaks, .slice (some ⟨bb, ob, none⟩) b.entries.length c', .bool b.ended] 24)) w8 := Ext.trans hE7 hw8)))
                clear hA4 hE6b hE7 hw7 hw8
                by_cases hnm : ownN a k = ownN b j
                · have hnb : (ownN a k != ownN b j) = false := by simpa using hnm
                  have HV3 : Hid (cmpAt a b (k + 1) (j + 1) = cmpAt a b k0 0) := by have h := hv.out; rw [hst.out, if_pos he, if_pos hnm] at h; exact h
                  clear hnm
                  go_wp2
                  go_roundw
                  case rel => exact ⟨k + 1, k + 1, j + 1, true, rfl, by go_num, by omega, hE8, Lib.hid (by have := hi.out; omega), .inr ⟨rfl, rfl, by omega⟩, HV3⟩
                  case measure => simp [intOf]; omega
                · have hnb : (ownN a k != ownN b j) = true := by simpa using hnm
                  have HC : Hid (cmpAt a b k0 0 = 3) := by have h := hv.out; rw [hst.out, if_pos he, if_neg hnm] at h; exact h.symm
                  have HR : Hid (followsIn a b = 3) := HF.out.trans (by rw [HC.out, if_neg (by decide)])
                  clear hnm
                  go_wp2
                  go_ret
                  exact ⟨ret_int HR.out.symm, Ext.trans hW2 hE8⟩
          · have HC : Hid (cmpAt a b k0 0 = 0) := hv.out.symm.trans (cmpAt_end (by omega))
            have HR : Hid (followsIn a b = if a.first + a.entries.length ≤ b.first ∧ b.breaks < lastN a then 8 else 0) := HF.out.trans (by rw [HC.out, if_pos rfl])
            by_cases hw1 : a.first + a.entries.length ≤ b.first
            · have hcm : cm = false := by have h1 := hi.out; have h2 := HK0.out; rcases hcs with ⟨_, _, h⟩ | ⟨_, _, _⟩ <;> first | exact h | (exfalso; omega)
              subst hcm
              have hA4 := hA2.ext keeps_ent hEE
              have hlw : IntKind.i64.wrap ((a.entries.length : Int) - 1) = (a.entries.length : Int) - 1 := IntWalk.i64_in _ ⟨by omega, by omega⟩
              go_wp2_with fail
              clear t0 t1 t2 t3 t4 s0 s1 s2 s3 s4
              go_region_held3 (fun wx => (wx.cell? ⟨w.heap.size, 0, none⟩ = some (.int .i64 a.target) ∧ wx.cell? ⟨w.heap.size, 1, none⟩ = some (.int .i64 a.first) ∧ wx.cell? ⟨w.heap.size, 2, none⟩ = some (.int .i64 a.breaks) ∧ wx.cell? ⟨w.heap.size, 3, none⟩ = some (.slice A a.entries.length c) ∧ wx.cell? ⟨w.heap.size, 4, none⟩ = some (.bool a.ended)) ∧ (wx.cell? ⟨w.heap.size + 1, 0, none⟩ = some (.int .i64 b.target) ∧ wx.cell? ⟨w.heap.size + 1, 1, none⟩ = some (.int .i64 b.first) ∧ wx.cell? ⟨w.heap.size + 1, 2, none⟩ = some (.int .i64 b.breaks) ∧ wx.cell? ⟨w.heap.size + 1, 3, none⟩ = some (.slice A' b.entries.length c') ∧ wx.cell? ⟨w.heap.size + 1, 4, none⟩ = some (.bool b.ended))) (first | exact two_box hEE | exact two_box (Ext.trans hEE (Ext.one _)) | exact two_box hE7)
                (first
                  | (go_at_call 57; refine (breaks_last a A c _ f5 f3 f4 ?_).mono ?_; (exact hA4); (rintro r w7 ⟨rfl, hw7⟩; have hE7 : Ext ((w.alloc (.cells #[.int .i64 a.target, .int .i64 a.first, .int .i64 a.breaks, .slice A a.entries.length c, .bool a.ended] 24)).alloc (.cells #[.int .i64 b.target, .int .i64 b.first, .int .i64 b.breaks, .slice A' b.entries.length c', .bool b.ended] 24)) w7 := Ext.trans (Ext.trans hEE (Ext.one _)) hw7)))
              by_cases hbb : b.breaks < lastN a
              · have HS : Hid (followsIn a b = 8) := HR.out.trans (by rw [if_pos ⟨hw1, hbb⟩])
                go_wp2
                go_ret
                exact ⟨ret_int HS.out.symm, Ext.trans hW2 hE7⟩
              · have HS : Hid (followsIn a b = 0) := HR.out.trans (by rw [if_neg (by rintro ⟨_, h⟩; omega)])
                go_wp2
                go_ret
                exact ⟨ret_int HS.out.symm, Ext.trans hW2 hE7⟩
            · have hcm : cm = true := by have h1 := hi.out; have h2 := HK0.out; rcases hcs with ⟨_, _, _⟩ | ⟨_, h, _⟩ <;> first | exact h | (exfalso; omega)
              subst hcm
              have HS : Hid (followsIn a b = 0) := HR.out.trans (by rw [if_neg (by rintro ⟨h, _⟩; omega)])
              go_wp2
              go_quiet (fail)
              go_wp2
              go_ret
              exact ⟨ret_int HS.out.symm, (Ext.trans hW2 hEE).drewN _⟩
    · have hcall := refSameList_any a b A A' c c' ((w.alloc (.cells #[.int .i64 a.target, .int .i64 a.first, .int .i64 a.breaks, .slice A a.entries.length c, .bool a.ended] 24)).alloc (.cells #[.int .i64 b.target, .int .i64 b.first, .int .i64 b.breaks, .slice A' b.entries.length c', .bool b.ended] 24)) (by omega) hA2 hB2
      rw [hen] at hcall
      have HCALL := Lib.hid hcall
      clear hcall
      cases hsl : eqLst a b
      · have HF := Lib.hid (follows_1 HT.out hen hsl)
        go_enter Try.func51, Try.ntmps51
        go_wp2_with fail
        refine HCALL.out.mono ?_
        rintro r w2 ⟨rfl, hw2⟩
        rw [hsl]
        go_wp2
        go_ret
        exact ⟨ret_int HF.out.symm, Ext.trans hW2 (by rw [hen]; exact hw2)⟩
      have HEN : Hid (a.ended = false ∨ eqLst a b = true) := .inr hsl
      go_enter Try.func51, Try.ntmps51
      go_wp2_with fail
      refine HCALL.out.mono ?_
      rintro r w2 ⟨rfl, hw2⟩
      have HE1 : Ext ((w.alloc (.cells #[.int .i64 a.target, .int .i64 a.first, .int .i64 a.breaks, .slice A a.entries.length c, .bool a.ended] 24)).alloc (.cells #[.int .i64 b.target, .int .i64 b.first, .int .i64 b.breaks, .slice A' b.entries.length c', .bool b.ended] 24)) w2 := by rw [hen]; exact hw2
      clear hw2
      rw [hsl]
      clear hsl HCALL hen
      obtain ⟨⟨t0, t1, t2, t3, t4⟩, ⟨s0, s1, s2, s3, s4⟩⟩ := two_box HE1
      by_cases hr : b.first < a.first ∨ b.first + b.entries.length < a.first + a.entries.length
      · have HF := Lib.hid (follows_2 HT.out HEN.out hr)
        by_cases hr1 : b.first < a.first
        all_goals
          go_wp2_with fail
          go_ret
          exact ⟨ret_int HF.out.symm, Ext.trans hW2 HE1⟩
      · obtain ⟨k0, hk0⟩ : ∃ k0 : Nat, b.first = a.first + k0 := ⟨(b.first - a.first).toNat, by omega⟩
        have HF := Lib.hid (follows_4 HT.out HEN.out hr hk0)
        have r1 : a.first ≤ b.first := by omega
        have r2 : a.first + a.entries.length ≤ b.first + b.entries.length := by omega
        have HK0 := Lib.hid hk0
        clear hk0 hr
        go_wp2_with fail
        clear t0 t1 t2 t3 t4 s0 s1 s2 s3 s4
        go_loopw [5, 6] (fun s5 s6 wr => ∃ (k i j : Nat) (cm : Bool), s5 = .bool cm ∧ s6 = .int .i64 k ∧ k ≤ a.entries.length ∧ Ext ((w.alloc (.cells #[.int .i64 a.target, .int .i64 a.first, .int .i64 a.breaks, .slice A a.entries.length c, .bool a.ended] 24)).alloc (.cells #[.int .i64 b.target, .int .i64 b.first, .int .i64 b.breaks, .slice A' b.entries.length c', .bool b.ended] 24)) wr ∧ Hid (i = k0 + j) ∧ ((k ≤ i ∧ j = 0 ∧ cm = false) ∨ (k = i ∧ cm = true ∧ 0 < j)) ∧ Hid (cmpAt a b i j = cmpAt a b k0 0)) (fun s5 s6 wr => a.entries.length - (intOf s6).toNat)
        case atStart => exact ⟨0, k0, 0, false, rfl, rfl, Nat.zero_le _, HE1, rfl, .inl ⟨Nat.zero_le _, rfl, rfl⟩, rfl⟩
        case round =>
          obtain ⟨k, i, j, cm, rfl, rfl, hk1, hEE, hi, hcs, hv⟩ := hrel
          obtain ⟨⟨t0, t1, t2, t3, t4⟩, ⟨s0, s1, s2, s3, s4⟩⟩ := two_box hEE
          by_cases hlt : k < a.entries.length
          · have i1 : (k : Int) < (a.entries.length : Int) := by omega
            by_cases hki : k < i
            · have hcm : cm = false := by rcases hcs with ⟨_, _, h⟩ | ⟨h, _, _⟩ <;> first | exact h | (exfalso; omega)
              have hj0 : j = 0 := by rcases hcs with ⟨_, h, _⟩ | ⟨h, _, _⟩ <;> first | exact h | (exfalso; omega)
              have z1 : a.first + (k : Int) - b.first < 0 := by have h1 := hi.out; have h2 := HK0.out; omega
              subst hcm hj0
              clear hcs
              go_wp2
              go_roundw
              case rel => exact ⟨k + 1, i, 0, false, rfl, by go_num, by omega, hEE, hi, .inl ⟨by omega, rfl, rfl⟩, hv⟩
              case measure => simp [intOf]; omega
            · have hki2 : k = i := by omega
              subst hki2
              clear hki hcs
              have hjb : j < b.entries.length := by have h1 := hi.out; have h2 := HK0.out; omega
              have z1 : a.first + (k : Int) - b.first = (j : Int) := by have h1 := hi.out; have h2 := HK0.out; omega
              have i2 : (j : Int) < (b.entries.length : Int) := by omega
              have hst := Lib.hid (cmpAt_step hlt hjb)
              obtain ⟨ba, oa, X, cx, rfl, hin, c0, c1', c2', c3, c4, c5, c6, g1, g2, g3, g4, g5, g6, g7, g8⟩ := ent_at (hA2.ext keeps_ent hEE) hlt
              obtain ⟨bb, ob, X', cx', rfl, hin2, d0, d1, d2, d3, d4, d5, d6, k1, k2, k3, k4, k5, k6, k7, k8⟩ := ent_at (hB2.ext keeps_ent hEE) hjb
              go_wp2_with fail
              go_still_tail 10, (by kernel_rfl)
              change wpList _ _ _ _ _ wr.drew
              go_wp2_with fail
              refine (refSameEntry_any a.entries[k] b.entries[j] X X' cx cx' wr.drew (by omega) g8 k8).mono ?_
              rintro r w6 ⟨rfl, hw6⟩
              have hE6b : Ext ((w.alloc (.cells #[.int .i64 a.target, .int .i64 a.first, .int .i64 a.breaks, .slice (some ⟨ba, oa, none⟩) a.entries.length c, .bool a.ended] 24)).alloc (.cells #[.int .i64 b.target, .int .i64 b.first, .int .i64 b.breaks, .slice (some ⟨bb, ob, none⟩) b.entries.length c', .bool b.ended] 24)) w6 := Ext.trans hEE (Ext.trans (Ext.one _) hw6)
              clear t0 t1 t2 t3 t4 s0 s1 s2 s3 s4 c0 c1' c2' c3 c4 c5 c6 d0 d1 d2 d3 d4 d5 d6 g8 k8 hEE hw6 hin hin2
              cases he : eqE a.entries[k] b.entries[j]
              · have HC : Hid (cmpAt a b k0 0 = 12) := by have h := hv.out; rw [hst.out, if_neg (by rw [he]; simp)] at h; exact h.symm
                have HR : Hid (followsIn a b = 12) := HF.out.trans (by rw [HC.out, if_neg (by decide)])
                go_wp2
                go_ret
                exact ⟨ret_int HR.out.symm, Ext.trans hW2 hE6b⟩
              · have hA4 := hA2.ext keeps_ent hE6b
                have tok2 : True := trivial
                go_wp2_with fail
                go_region_held3 (fun wx => (wx.cell? ⟨w.heap.size, 0, none⟩ = some (.int .i64 a.target) ∧ wx.cell? ⟨w.heap.size, 1, none⟩ = some (.int .i64 a.first) ∧ wx.cell? ⟨w.heap.size, 2, none⟩ = some (.int .i64 a.breaks) ∧ wx.cell? ⟨w.heap.size, 3, none⟩ = some (.slice (some ⟨ba, oa, none⟩) a.entries.length c) ∧ wx.cell? ⟨w.heap.size, 4, none⟩ = some (.bool a.ended)) ∧ (wx.cell? ⟨w.heap.size + 1, 0, none⟩ = some (.int .i64 b.target) ∧ wx.cell? ⟨w.heap.size + 1, 1, none⟩ = some (.int .i64 b.first) ∧ wx.cell? ⟨w.heap.size + 1, 2, none⟩ = some (.int .i64 b.breaks) ∧ wx.cell? ⟨w.heap.size + 1, 3, none⟩ = some (.slice (some ⟨bb, ob, none⟩) b.entries.length c') ∧ wx.cell? ⟨w.heap.size + 1, 4, none⟩ = some (.bool b.ended))) (first | exact two_box hE6b | exact two_box (Ext.trans hE6b (Ext.one _)) | exact two_box hE7 | exact two_box hE8)
                  (first
                    | (go_at_call 57; have _t := tok2; refine (breaks_own a k (some ⟨ba, oa, none⟩) c _ f5 f3 f4 hlt ?_).mono ?_; (exact hA4); (rintro r w7 ⟨rfl, hw7⟩; have hE7 : Ext ((w.alloc (.cells #[.int .i64 a.target, .int .i64 a.first, .int .i64 a.breaks, .slice (some ⟨ba, oa, none⟩) a.entries.length c, .bool a.ended] 24)).alloc (.cells #[.int .i64 b.target, .int .i64 b.first, .int .i64 b.breaks, .slice (some ⟨bb, ob, none⟩) b.entries.length c', .bool b.ended] 24)) w7 := Ext.trans (Ext.trans hE6b (Ext.one _)) hw7; clear tok2))
                    | (go_at_call 57; refine (breaks_own b j (some ⟨bb, ob, none⟩) c' _ p5 p3 p4 hjb ?_).mono ?_; (exact hB2.ext keeps_ent hE7); (rintro r w8 ⟨rfl, hw8⟩; have hE8 : Ext ((w.alloc (.cells #[.int .i64 a.target, .int .i64 a.first, .int .i64 a.breaks, .slice (some ⟨ba, oa, none⟩) a.entries.length c, .bool a.ended] 24)).alloc (.cells #[.int .i64 b.target, .int .i64 b.first, .int .i64 b.breaks, .slice (some ⟨bb, ob, none⟩) b.entries.length c', .bool b.ended] 24)) w8 := Ext.trans hE7 hw8)))
                clear hA4 hE6b hE7 hw7 hw8
                by_cases hnm : ownN a k = ownN b j
                · have hnb : (ownN a k != ownN b j) = false := by simpa using hnm
                  have HV3 : Hid (cmpAt a b (k + 1) (j + 1) = cmpAt a b k0 0) := by have h := hv.out; rw [hst.out, if_pos he, if_pos hnm] at h; exact h
                  clear hnm
                  go_wp2
                  go_roundw
                  case rel => exact ⟨k + 1, k + 1, j + 1, true, rfl, by go_num, by omega, hE8, Lib.hid (by have := hi.out; omega), .inr ⟨rfl, rfl, by omega⟩, HV3⟩
                  case measure => simp [intOf]; omega
                · have hnb : (ownN a k != ownN b j) = true := by simpa using hnm
                  have HC : Hid (cmpAt a b k0 0 = 3) := by have h := hv.out; rw [hst.out, if_pos he, if_neg hnm] at h; exact h.symm
                  have HR : Hid (followsIn a b = 3) := HF.out.trans (by rw [HC.out, if_neg (by decide)])
                  clear hnm
                  go_wp2
                  go_ret
                  exact ⟨ret_int HR.out.symm, Ext.trans hW2 hE8⟩
          · have HC : Hid (cmpAt a b k0 0 = 0) := hv.out.symm.trans (cmpAt_end (by omega))
            have HR : Hid (followsIn a b = if a.first + a.entries.length ≤ b.first ∧ b.breaks < lastN a then 8 else 0) := HF.out.trans (by rw [HC.out, if_pos rfl])
            by_cases hw1 : a.first + a.entries.length ≤ b.first
            · have hcm : cm = false := by have h1 := hi.out; have h2 := HK0.out; rcases hcs with ⟨_, _, h⟩ | ⟨_, _, _⟩ <;> first | exact h | (exfalso; omega)
              subst hcm
              have hA4 := hA2.ext keeps_ent hEE
              have hlw : IntKind.i64.wrap ((a.entries.length : Int) - 1) = (a.entries.length : Int) - 1 := IntWalk.i64_in _ ⟨by omega, by omega⟩
              go_wp2_with fail
              clear t0 t1 t2 t3 t4 s0 s1 s2 s3 s4
              go_region_held3 (fun wx => (wx.cell? ⟨w.heap.size, 0, none⟩ = some (.int .i64 a.target) ∧ wx.cell? ⟨w.heap.size, 1, none⟩ = some (.int .i64 a.first) ∧ wx.cell? ⟨w.heap.size, 2, none⟩ = some (.int .i64 a.breaks) ∧ wx.cell? ⟨w.heap.size, 3, none⟩ = some (.slice A a.entries.length c) ∧ wx.cell? ⟨w.heap.size, 4, none⟩ = some (.bool a.ended)) ∧ (wx.cell? ⟨w.heap.size + 1, 0, none⟩ = some (.int .i64 b.target) ∧ wx.cell? ⟨w.heap.size + 1, 1, none⟩ = some (.int .i64 b.first) ∧ wx.cell? ⟨w.heap.size + 1, 2, none⟩ = some (.int .i64 b.breaks) ∧ wx.cell? ⟨w.heap.size + 1, 3, none⟩ = some (.slice A' b.entries.length c') ∧ wx.cell? ⟨w.heap.size + 1, 4, none⟩ = some (.bool b.ended))) (first | exact two_box hEE | exact two_box (Ext.trans hEE (Ext.one _)) | exact two_box hE7)
                (first
                  | (go_at_call 57; refine (breaks_last a A c _ f5 f3 f4 ?_).mono ?_; (exact hA4); (rintro r w7 ⟨rfl, hw7⟩; have hE7 : Ext ((w.alloc (.cells #[.int .i64 a.target, .int .i64 a.first, .int .i64 a.breaks, .slice A a.entries.length c, .bool a.ended] 24)).alloc (.cells #[.int .i64 b.target, .int .i64 b.first, .int .i64 b.breaks, .slice A' b.entries.length c', .bool b.ended] 24)) w7 := Ext.trans (Ext.trans hEE (Ext.one _)) hw7)))
              by_cases hbb : b.breaks < lastN a
              · have HS : Hid (followsIn a b = 8) := HR.out.trans (by rw [if_pos ⟨hw1, hbb⟩])
                go_wp2
                go_ret
                exact ⟨ret_int HS.out.symm, Ext.trans hW2 hE7⟩
              · have HS : Hid (followsIn a b = 0) := HR.out.trans (by rw [if_neg (by rintro ⟨_, h⟩; omega)])
                go_wp2
                go_ret
                exact ⟨ret_int HS.out.symm, Ext.trans hW2 hE7⟩
            · have hcm : cm = true := by have h1 := hi.out; have h2 := HK0.out; rcases hcs with ⟨_, _, _⟩ | ⟨_, h, _⟩ <;> first | exact h | (exfalso; omega)
              subst hcm
              have HS : Hid (followsIn a b = 0) := HR.out.trans (by rw [if_neg (by rintro ⟨h, _⟩; omega)])
              go_wp2
              go_quiet (fail)
              go_wp2
              go_ret
              exact ⟨ret_int HS.out.symm, (Ext.trans hW2 hEE).drewN _⟩
  · have hTb : (a.target != b.target) = true := by simpa using hT
    have HF := Lib.hid (follows_0 hT)
    clear hT
    go_enter Try.func51, Try.ntmps51
    go_wp2_with fail
    go_ret
    exact ⟨ret_int HF.out.symm, hW2⟩
end Go.Proofs.Ytkfhfjcgegimbaa
