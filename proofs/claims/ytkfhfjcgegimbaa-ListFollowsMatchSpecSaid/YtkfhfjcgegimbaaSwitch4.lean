/- What is proved here: what Switch of the program and of the reference return (chapter 6). -/
import Derived.Test.YtkfhfjcgegimbaaSwitchF
import Derived.Test.YtkfhfjcgegimbaaRefDates2
import Derived.Deep.RegionHeld3
namespace Go.Proofs.Ytkfhfjcgegimbaa
open Go.RowKit
set_option linter.unusedVariables false

/-- Two lists in boxes, behind what came later. -/
theorem two_box {w wr : World} {T F B T' F' B' : Int} {v v' : Value} {E E' : Bool} {t : TypeId} (hb : Ext ((w.alloc (.cells #[.int .i64 T, .int .i64 F, .int .i64 B, v, .bool E] t)).alloc (.cells #[.int .i64 T', .int .i64 F', .int .i64 B', v', .bool E'] t)) wr) :
    (wr.cell? ⟨w.heap.size, 0, none⟩ = some (.int .i64 T) ∧ wr.cell? ⟨w.heap.size, 1, none⟩ = some (.int .i64 F) ∧ wr.cell? ⟨w.heap.size, 2, none⟩ = some (.int .i64 B) ∧
    wr.cell? ⟨w.heap.size, 3, none⟩ = some v ∧ wr.cell? ⟨w.heap.size, 4, none⟩ = some (.bool E)) ∧
    (wr.cell? ⟨w.heap.size + 1, 0, none⟩ = some (.int .i64 T') ∧ wr.cell? ⟨w.heap.size + 1, 1, none⟩ = some (.int .i64 F') ∧ wr.cell? ⟨w.heap.size + 1, 2, none⟩ = some (.int .i64 B') ∧
    wr.cell? ⟨w.heap.size + 1, 3, none⟩ = some v' ∧ wr.cell? ⟨w.heap.size + 1, 4, none⟩ = some (.bool E')) := by
  have h1 := lst_box (ext_box hb)
  have h0 := lst_box (ext_box (Ext.trans (Ext.new _ _) hb))
  simp only [World.size_alloc] at h1
  exact ⟨⟨h0.1, h0.2.1, h0.2.2.1, h0.2.2.2.1, h0.2.2.2.2.1⟩, ⟨h1.1, h1.2.1, h1.2.2.1, h1.2.2.2.1, h1.2.2.2.2.1⟩⟩

theorem head_of {l : Lst} (h : checkF l = 0) : 0 ≤ l.first ∧ l.first ≤ 999999999999000 ∧ 0 ≤ l.breaks ∧ l.breaks ≤ 1000000000000000 ∧ l.entries.length ≤ 1000 := by
  obtain ⟨h1, h2, _⟩ := checkF_ok h
  unfold headBad at h1
  omega
set_option maxRecDepth 100000 in
set_option maxHeartbeats 8000000 in
theorem switch_any (a b : Lst) (m : Int) (A A' : Option Addr) (c c' : Nat) (w : World) (hm : I64 m) (hla : a.entries.length ≤ 9223372036854775807) (hlb : b.entries.length ≤ 9223372036854775807)
    (hA : SlR 7 entR w (In w) a.entries A) (hB : SlR 7 entR w (In w) b.entries A') :
    Calls Try.prog 25 #[.agg #[.int .i64 a.target, .int .i64 a.first, .int .i64 a.breaks, .slice A a.entries.length c, .bool a.ended], .agg #[.int .i64 b.target, .int .i64 b.first, .int .i64 b.breaks, .slice A' b.entries.length c', .bool b.ended], .int .i64 m] w fun r w' => r = .returned (.tuple #[.int .i64 (switchF a b m).1, .int .i64 (switchF a b m).2]) ∧ Ext w w' := by
  have hA2 := hA.ext keeps_ent (Ext.trans (Ext.new w _) (Ext.new _ _) : Ext w ((w.alloc (.cells #[.int .i64 a.target, .int .i64 a.first, .int .i64 a.breaks, .slice A a.entries.length c, .bool a.ended] 24)).alloc (.cells #[.int .i64 b.target, .int .i64 b.first, .int .i64 b.breaks, .slice A' b.entries.length c', .bool b.ended] 24)))
  have hB2 := hB.ext keeps_ent (Ext.trans (Ext.new w _) (Ext.new _ _) : Ext w ((w.alloc (.cells #[.int .i64 a.target, .int .i64 a.first, .int .i64 a.breaks, .slice A a.entries.length c, .bool a.ended] 24)).alloc (.cells #[.int .i64 b.target, .int .i64 b.first, .int .i64 b.breaks, .slice A' b.entries.length c', .bool b.ended] 24)))
  have hW2 : Ext w ((w.alloc (.cells #[.int .i64 a.target, .int .i64 a.first, .int .i64 a.breaks, .slice A a.entries.length c, .bool a.ended] 24)).alloc (.cells #[.int .i64 b.target, .int .i64 b.first, .int .i64 b.breaks, .slice A' b.entries.length c', .bool b.ended] 24)) := Ext.trans (Ext.new w _) (Ext.new _ _)
  go_enter Try.func25, Try.ntmps25
  go_wp2
  have tok1 : True := trivial
  go_region_held3 (fun wx => (wx.cell? ⟨w.heap.size, 0, none⟩ = some (.int .i64 a.target) ∧ wx.cell? ⟨w.heap.size, 1, none⟩ = some (.int .i64 a.first) ∧ wx.cell? ⟨w.heap.size, 2, none⟩ = some (.int .i64 a.breaks) ∧ wx.cell? ⟨w.heap.size, 3, none⟩ = some (.slice A a.entries.length c) ∧ wx.cell? ⟨w.heap.size, 4, none⟩ = some (.bool a.ended)) ∧ (wx.cell? ⟨w.heap.size + 1, 0, none⟩ = some (.int .i64 b.target) ∧ wx.cell? ⟨w.heap.size + 1, 1, none⟩ = some (.int .i64 b.first) ∧ wx.cell? ⟨w.heap.size + 1, 2, none⟩ = some (.int .i64 b.breaks) ∧ wx.cell? ⟨w.heap.size + 1, 3, none⟩ = some (.slice A' b.entries.length c') ∧ wx.cell? ⟨w.heap.size + 1, 4, none⟩ = some (.bool b.ended))) (first | exact two_box (Ext.same _) | exact two_box (Ext.one _) | exact two_box hw1 | exact two_box hw2 | exact two_box (Ext.trans hw2 (Ext.new _ _)))
    (first
      | (go_at_call 36; have _t := tok1; refine (check_any a A c _ hla ?_).mono ?_; (exact hA2); (rintro r w1 ⟨rfl, hw1⟩; replace hw1 : Ext ((w.alloc (.cells #[.int .i64 a.target, .int .i64 a.first, .int .i64 a.breaks, .slice A a.entries.length c, .bool a.ended] 24)).alloc (.cells #[.int .i64 b.target, .int .i64 b.first, .int .i64 b.breaks, .slice A' b.entries.length c', .bool b.ended] 24)) w1 := Ext.trans (Ext.one _) hw1; clear tok1))
      | (go_at_call 36; refine (check_any b A' c' _ hlb ?_).mono ?_; (exact hB2.ext keeps_ent hw1); (rintro r w2 ⟨rfl, hw2⟩; replace hw2 : Ext ((w.alloc (.cells #[.int .i64 a.target, .int .i64 a.first, .int .i64 a.breaks, .slice A a.entries.length c, .bool a.ended] 24)).alloc (.cells #[.int .i64 b.target, .int .i64 b.first, .int .i64 b.breaks, .slice A' b.entries.length c', .bool b.ended] 24)) w2 := Ext.trans hw1 hw2))
      | (go_at_call 49; refine (first2_any (checkF a) (checkF b) w2.heap.size 0 _ ?_ ?_).mono ?_; (simp); (simp); rintro r w3 ⟨rfl, rfl⟩))
  have hE3 := Ext.trans hw2 (Ext.new w2 (.cells #[.int .i64 (checkF a), .int .i64 (checkF b)] 25))
  generalize w2.alloc (.cells #[.int .i64 (checkF a), .int .i64 (checkF b)] 25) = w3 at hE3 ⊢
  clear hw1 hw2
  by_cases hf : first2 (checkF a) (checkF b) = 0
  · obtain ⟨ha0, hb0⟩ := first2_zero hf
    obtain ⟨f1, f2, f3, f4, f5⟩ := head_of ha0
    obtain ⟨p1, p2, p3, p4, p5⟩ := head_of hb0
    have GA := Lib.hid (goodD_of ha0)
    have GB := Lib.hid (goodD_of hb0)
    have Hf := Lib.hid hf
    obtain ⟨⟨t0, t1, t2, t3, t4⟩, ⟨s0, s1, s2, s3, s4⟩⟩ := two_box hE3
    clear ha0 hb0
    by_cases hr : m < a.first ∨ a.first + a.entries.length ≤ m
    · have HF := Lib.hid (show switchF a b m = (0, 9) from by unfold switchF; rw [if_pos hf, if_pos hr])
      by_cases hr1 : m < a.first
      all_goals
        go_wp2
        go_ret2
        exact ⟨ret_2 (by rw [HF.out]) (by rw [HF.out]), Ext.trans hW2 hE3⟩
    · obtain ⟨i, rfl⟩ : ∃ i : Nat, m = a.first + i := ⟨(m - a.first).toNat, by omega⟩
      have hi : i < a.entries.length := by omega
      have HF := Lib.hid (show switchF a b (a.first + i) = switchIn a b i from by unfold switchF; rw [if_pos hf, if_neg hr, show (a.first + i - a.first).toNat = i from by omega])
      have hfb : (first2 (checkF a) (checkF b) != 0) = false := by simpa using hf
      have hsub : a.first + (i : Int) - a.first = i := by omega
      clear hr hf
      go_wp2_with fail
      have hA3 := hA2.ext keeps_ent hE3
      have hB3 := hB2.ext keeps_ent hE3
      have tok2 : True := trivial
      clear t0 t1 t2 t3 t4 s0 s1 s2 s3 s4
      go_region_held3 (fun wx => (wx.cell? ⟨w.heap.size, 0, none⟩ = some (.int .i64 a.target) ∧ wx.cell? ⟨w.heap.size, 1, none⟩ = some (.int .i64 a.first) ∧ wx.cell? ⟨w.heap.size, 2, none⟩ = some (.int .i64 a.breaks) ∧ wx.cell? ⟨w.heap.size, 3, none⟩ = some (.slice A a.entries.length c) ∧ wx.cell? ⟨w.heap.size, 4, none⟩ = some (.bool a.ended)) ∧ (wx.cell? ⟨w.heap.size + 1, 0, none⟩ = some (.int .i64 b.target) ∧ wx.cell? ⟨w.heap.size + 1, 1, none⟩ = some (.int .i64 b.first) ∧ wx.cell? ⟨w.heap.size + 1, 2, none⟩ = some (.int .i64 b.breaks) ∧ wx.cell? ⟨w.heap.size + 1, 3, none⟩ = some (.slice A' b.entries.length c') ∧ wx.cell? ⟨w.heap.size + 1, 4, none⟩ = some (.bool b.ended))) (first | exact two_box hE3 | exact two_box (Ext.trans hE3 (Ext.one _)) | exact two_box hE4 | exact two_box hE5)
        (first
          | (go_at_call 52; have _t := tok2; refine (breakNumbers_any a A c _ f5 f3 f4 ?_).mono ?_; (exact hA3); (rintro r w4 ⟨v1, rfl, ⟨A1, c1, rfl, l1, l2, l3, hI1⟩, hw4⟩; have hE4 : Ext ((w.alloc (.cells #[.int .i64 a.target, .int .i64 a.first, .int .i64 a.breaks, .slice A a.entries.length c, .bool a.ended] 24)).alloc (.cells #[.int .i64 b.target, .int .i64 b.first, .int .i64 b.breaks, .slice A' b.entries.length c', .bool b.ended] 24)) w4 := Ext.trans (Ext.trans hE3 (Ext.one _)) hw4; clear tok2))
          | (go_at_call 52; refine (breakNumbers_any b A' c' _ p5 p3 p4 ?_).mono ?_; (exact hB2.ext keeps_ent hE4); (rintro r w5 ⟨v2, rfl, ⟨A2, c2, rfl, l4, l5, l6, hI2⟩, hw5⟩; have hE5 : Ext ((w.alloc (.cells #[.int .i64 a.target, .int .i64 a.first, .int .i64 a.breaks, .slice A a.entries.length c, .bool a.ended] 24)).alloc (.cells #[.int .i64 b.target, .int .i64 b.first, .int .i64 b.breaks, .slice A' b.entries.length c', .bool b.ended] 24)) w5 := Ext.trans hE4 hw5)))
      have hI1' := hI1.ext keeps_int hw5
      have hbl1 : i < (bnF a.breaks a.entries).length := by rw [bnF_len]; exact hi
      have hbn2 : (bnF b.breaks b.entries).length ≤ 1000 := by rw [bnF_len]; exact p5
      have hbn1 : (bnF a.breaks a.entries).length ≤ 1000 := by rw [bnF_len]; exact f5
      obtain ⟨b1, o1, rfl, hin1, e1, _⟩ := int_at hI1' hbl1
      have hown : Hid ((bnF a.breaks a.entries)[i] = ownN a i) := by have h := bnF_at a.entries a.breaks i hi; rw [List.getElem?_eq_getElem hbl1] at h; injection h
      rw [hown.out] at e1
      clear hI1 hw4 hw5 hE3 hE4 hA3 hB3
      go_wp2_with fail
      refine (stretch_any (bnF b.breaks b.entries) (ownN a i) A2 c2 _ hbn2 hI2).mono ?_
      rintro r w6 ⟨rfl, rfl⟩
      rw [show stG (ownN a i) 0 0 0 (bnF b.breaks b.entries) = stF b (ownN a i) from rfl]
      obtain ⟨q1, q2, q3⟩ := stF_bd b (ownN a i)
      obtain ⟨f0, hf0⟩ := Int.eq_ofNat_of_zero_le q1
      obtain ⟨mn, hm0⟩ := Int.eq_ofNat_of_zero_le q2
      have Hst : Hid (stF b (ownN a i) = ((f0 : Int), (mn : Int))) := Prod.ext hf0 hm0
      rw [hf0, hm0] at q3 ⊢
      clear hf0 hm0 q1 q2
      by_cases hz : mn = 0
      · have HS := Lib.hid (show switchIn a b i = (0, 9) from by unfold switchIn; rw [Hst.out, if_pos (by simp [hz])])
        have hzb : ((mn : Int) == 0) = true := by simpa using hz
        clear hz
        go_wp2
        go_ret2
        exact ⟨ret_2 (by rw [HF.out, HS.out]) (by rw [HF.out, HS.out]), Ext.trans hW2 hE5⟩
      · have hzb : ((mn : Int) == 0) = false := by simpa using hz
        have hq4 : f0 + mn ≤ b.entries.length := by omega
        clear q3
        have Hz := Lib.hid hz
        clear hz
        obtain ⟨⟨t0, t1, t2, t3, t4⟩, ⟨s0, s1, s2, s3, s4⟩⟩ := two_box hE5
        go_wp2_with fail
        refine (dates_any a A c _ GA.out (hA2.ext keeps_ent hE5)).mono ?_
        rintro r w7 ⟨v3, rfl, ⟨A3, c3, rfl, l7, l8, l9, hI3⟩, hw7⟩
        have hE7 := Ext.trans hE5 hw7
        clear t0 t1 t2 t3 t4 s0 s1 s2 s3 s4
        obtain ⟨⟨t0, t1, t2, t3, t4⟩, ⟨s0, s1, s2, s3, s4⟩⟩ := two_box hE7
        go_wp2_with fail
        refine (dates_any b A' c' _ GB.out (hB2.ext keeps_ent hE7)).mono ?_
        rintro r w8 ⟨v4, rfl, ⟨A4, c4, rfl, l10, l11, l12, hI4⟩, hw8⟩
        have hE8 := Ext.trans hE7 hw8
        clear t0 t1 t2 t3 t4 s0 s1 s2 s3 s4
        go_wp2_with fail
        refine (first2_any (datesF a.entries).2 (datesF b.entries).2 w8.heap.size 0 _ (by simp) (by simp)).mono ?_
        rintro r w9 ⟨rfl, rfl⟩
        have hN8 := Ext.new w8 (.cells #[.int .i64 (datesF a.entries).2, .int .i64 (datesF b.entries).2] 25)
        have hI1'' := hI1'.ext keeps_int (Ext.trans (Ext.trans hw7 hw8) hN8)
        have hI3' := hI3.ext keeps_int (Ext.trans hw8 hN8)
        have hI4' := hI4.ext keeps_int hN8
        have hE9 := Ext.trans hE8 hN8
        clear hI1' hI3 hI4 hI2 hE5 hE7 hE8 hw7 hw8 e1 hin1
        generalize w8.alloc (.cells #[.int .i64 (datesF a.entries).2, .int .i64 (datesF b.entries).2] 25) = w9 at hE9 hI1'' hI3' hI4' ⊢
        clear hN8
        by_cases hd : first2 (datesF a.entries).2 (datesF b.entries).2 = 0
        · obtain ⟨da, db⟩ := first2_zero hd
          have HL3 := Lib.hid (datesF_len da)
          have HL4 := Lib.hid (datesF_len db)
          have hdb : (first2 (datesF a.entries).2 (datesF b.entries).2 != 0) = false := by simpa using hd
          have Hd := Lib.hid hd
          clear hd da db
          have hxi : i < (datesF a.entries).1.length := by rw [HL3.out]; exact hi
          have HX : Hid ((datesF a.entries).1[i]?.getD 0 = (datesF a.entries).1[i]) := by unfold Hid; rw [List.getElem?_eq_getElem hxi]; rfl
          have hyl : (datesF b.entries).1.length ≤ 1000 := by rw [HL4.out]; exact p5
          have hfy : f0 + mn ≤ (datesF b.entries).1.length := by rw [HL4.out]; exact hq4
          obtain ⟨b3, o3, rfl, hin3, e3, _⟩ := int_at hI3' hxi
          have H3 : Hid (∀ wr, Ext w9 wr → wr.cell? ⟨b3, o3 + i, none⟩ = some (.int .i64 (datesF a.entries).1[i])) := fun wr h => (h.cell (p := ⟨b3, o3 + i, none⟩) hin3).trans e3
          have HL : Hid (loopF a b i = swG (datesF a.entries).1[i] f0 false (-1) (cutL (datesF b.entries).1 ((f0 : Int), (mn : Int)))) := by unfold Hid loopF; rw [Hst.out, HX.out]
          have HSI : Hid (switchIn a b i = if 0 ≤ (datesF a.entries).1[i] ∧ (loopF a b i).1 = true then dateF a b i else placeF a b i) := by unfold Hid switchIn; rw [Hst.out, if_neg (by simpa using Hz.out), if_pos Hd.out, HX.out]
          generalize (datesF a.entries).1[i] = x at H3 HL HSI HX e3
          clear e3 hI3' HX
          go_wp2
          go_loopw [18, 19, 20] (fun sd sb sk wr => ∃ (k : Nat) (dt : Bool) (best : Int), f0 ≤ k ∧ k ≤ f0 + mn ∧ sd = .bool dt ∧ sb = .int .i64 best ∧ sk = .int .i64 k ∧ -1 ≤ best ∧ best < k ∧ Ext w9 wr ∧ Hid (swG x k dt best ((cutL (datesF b.entries).1 ((f0 : Int), (mn : Int))).drop (k - f0)) = loopF a b i)) (fun sd sb sk wr => f0 + mn - (intOf sk).toNat)
          case atStart => exact ⟨f0, false, -1, Nat.le_refl _, by omega, rfl, rfl, rfl, by omega, by omega, Ext.same _, by rw [HL.out]; unfold Hid; simp⟩
          case round =>
            obtain ⟨k, dt, best, hk1, hk2, rfl, rfl, rfl, hb1, hb2, hE, hv⟩ := hrel
            by_cases hlt : k < f0 + mn
            · have hky : k < (datesF b.entries).1.length := by omega
              have hcut := Lib.hid (cut_at hk1 hlt hky)
              obtain ⟨b4, o4, rfl, hin4, e4, _⟩ := int_at (hI4'.ext keeps_int hE) hky
              have e3 := H3.out wr hE
              have HV : Hid (swG x (k + 1) (dt || decide (0 ≤ (datesF b.entries).1[k])) (if 0 ≤ (datesF b.entries).1[k] ∧ (datesF b.entries).1[k] ≤ x then k else best) ((cutL (datesF b.entries).1 ((f0 : Int), (mn : Int))).drop (k + 1 - f0)) = loopF a b i) := by
                have h := hv.out; rw [hcut.out, swG] at h; exact h
              generalize (datesF b.entries).1[k] = y at e4 HV
              have i1 : (0 : Int) ≤ (k : Int) := by omega
              have i2 : (k : Int) < ((datesF b.entries).1.length : Int) := by omega
              have i3 : (i : Int) < ((datesF a.entries).1.length : Int) := by omega
              clear hv hcut
              by_cases hy : 0 ≤ y
              · by_cases hyx : y ≤ x
                · have HV2 : Hid (swG x (k + 1) true k ((cutL (datesF b.entries).1 ((f0 : Int), (mn : Int))).drop (k + 1 - f0)) = loopF a b i) := by have h := HV.out; rw [if_pos ⟨hy, hyx⟩, decide_eq_true hy, Bool.or_true] at h; exact h
                  cases dt
                  all_goals
                    go_wp2
                    go_quiet (fail)
                    go_wp2
                    go_roundw
                    case rel => exact ⟨k + 1, true, k, by omega, by omega, rfl, rfl, by go_num, by omega, by omega, hE.drewN _, by have h := HV2.out; unfold Hid; simpa using h⟩
                    case measure => simp [intOf]; omega
                · have HV2 : Hid (swG x (k + 1) true best ((cutL (datesF b.entries).1 ((f0 : Int), (mn : Int))).drop (k + 1 - f0)) = loopF a b i) := by have h := HV.out; rw [if_neg (by omega), decide_eq_true hy, Bool.or_true] at h; exact h
                  cases dt
                  all_goals
                    go_wp2
                    go_quiet (fail)
                    go_wp2
                    go_roundw
                    case rel => exact ⟨k + 1, true, best, by omega, by omega, rfl, rfl, by go_num, by omega, by omega, hE.drewN _, by have h := HV2.out; unfold Hid; simpa using h⟩
                    case measure => simp [intOf]; omega
              · have hyf : decide (0 ≤ y) = false := by simpa using hy
                have HV2 : Hid (swG x (k + 1) dt best ((cutL (datesF b.entries).1 ((f0 : Int), (mn : Int))).drop (k + 1 - f0)) = loopF a b i) := by have h := HV.out; rw [if_neg (by omega), hyf, Bool.or_false] at h; exact h
                cases dt
                all_goals
                  go_wp2
                  go_quiet (fail)
                  go_wp2
                  go_roundw
                  case rel => exact ⟨k + 1, _, best, by omega, by omega, rfl, rfl, by go_num, by omega, by omega, hE.drewN _, by have h := HV2.out; unfold Hid; simpa using h⟩
                  case measure => simp [intOf]; omega
            · have HV : Hid (loopF a b i = (dt, best)) := by have h := hv.out; rw [cut_end (by omega), swG] at h; exact h.symm
              clear hv
              have e3 := H3.out wr hE
              have hJ1 := hI1''.ext keeps_int hE
              obtain ⟨b1', o1', hbo, hin1, e1, _⟩ := int_at hJ1 hbl1
              obtain ⟨rfl, rfl⟩ : b1 = b1' ∧ o1 = o1' := by injection hbo with h; injection h with h1 h2; exact ⟨h1, h2⟩
              rw [hown.out] at e1
              clear hbo
              obtain ⟨⟨t0, t1, t2, t3, t4⟩, ⟨s0, s1, s2, s3, s4⟩⟩ := two_box (Ext.trans hE9 hE)
              obtain ⟨u1, u2⟩ := own_in a i hi
              obtain ⟨u3, u4, _⟩ := stF_bd a (ownN a i)
              obtain ⟨g0, hg1⟩ := Int.eq_ofNat_of_zero_le u3
              obtain ⟨gm, hg2⟩ := Int.eq_ofNat_of_zero_le u4
              have hg0 : stF a (ownN a i) = ((g0 : Int), (gm : Int)) := Prod.ext hg1 hg2
              have hg0i : g0 ≤ i := by rw [hg1] at u1; omega
              have HG0 := Lib.hid hg0
              clear u1 u2 u3 u4 hg1 hg2 hg0
              have hg0n : g0 < a.entries.length := by omega
              have hf0n : f0 < b.entries.length := by have := Hz.out; omega
              by_cases hx : 0 ≤ x
              · cases dt
                · have HPL : Hid (switchIn a b i = placeF a b i) := by have h := HSI.out; rw [HV.out, if_neg (by simp)] at h; exact h
                  have hg0 := HG0.out
                  clear HSI HV
                  go_wp2_with fail
                  refine (stretch_any (bnF a.breaks a.entries) (ownN a i) _ c1 _ hbn1 hJ1).mono ?_
                  rintro r w10 ⟨rfl, rfl⟩
                  rw [show stG (ownN a i) 0 0 0 (bnF a.breaks a.entries) = stF a (ownN a i) from rfl, hg0]
                  by_cases hkk : (f0 : Int) + i - g0 < f0 + mn
                  · cases hbA : begB a a.entries[g0] g0
                    · have HS : Hid (switchIn a b i = (0, 11)) := HPL.out.trans (by unfold placeF; rw [Hst.out, hg0, if_neg (by rw [begI_of hg0n, hbA]; simp)])
                      go_wp2_with fail
                      refine (hasBeginning_any a g0 A c _ f5 hg0n (hA2.ext keeps_ent (Ext.trans hE9 hE))).mono ?_
                      rintro r w11 ⟨rfl, hw11⟩
                      rw [hbA]
                      go_wp2
                      go_ret2
                      exact ⟨ret_2 (by rw [HF.out, HS.out]) (by rw [HF.out, HS.out]), Ext.trans hW2 (Ext.trans (Ext.trans hE9 hE) hw11)⟩
                    · cases hbB : begB b b.entries[f0] f0
                      · have HS : Hid (switchIn a b i = (0, 11)) := HPL.out.trans (by unfold placeF; rw [Hst.out, hg0, if_neg (by simp only [begI_of hf0n, hbB]; simp)])
                        go_wp2_with fail
                        refine (hasBeginning_any a g0 A c _ f5 hg0n (hA2.ext keeps_ent (Ext.trans hE9 hE))).mono ?_
                        rintro r w11 ⟨rfl, hw11⟩
                        rw [hbA]
                        obtain ⟨⟨t0, t1, t2, t3, t4⟩, ⟨s0, s1, s2, s3, s4⟩⟩ := two_box (Ext.trans (Ext.trans hE9 hE) hw11)
                        go_wp2_with fail
                        refine (hasBeginning_any b f0 A' c' _ p5 hf0n (hB2.ext keeps_ent (Ext.trans (Ext.trans hE9 hE) hw11))).mono ?_
                        rintro r w12 ⟨rfl, hw12⟩
                        rw [hbB]
                        go_wp2
                        go_ret2
                        exact ⟨ret_2 (by rw [HF.out, HS.out]) (by rw [HF.out, HS.out]), Ext.trans hW2 (Ext.trans (Ext.trans (Ext.trans hE9 hE) hw11) hw12)⟩
                      · have HS : Hid (switchIn a b i = (b.first + ((f0 : Int) + i - g0), 0)) := HPL.out.trans (by unfold placeF; rw [Hst.out, hg0, if_pos ⟨hkk, by simp only [begI_of hg0n, hbA], by simp only [begI_of hf0n, hbB]⟩])
                        go_wp2_with fail
                        refine (hasBeginning_any a g0 A c _ f5 hg0n (hA2.ext keeps_ent (Ext.trans hE9 hE))).mono ?_
                        rintro r w11 ⟨rfl, hw11⟩
                        rw [hbA]
                        obtain ⟨⟨t0, t1, t2, t3, t4⟩, ⟨s0, s1, s2, s3, s4⟩⟩ := two_box (Ext.trans (Ext.trans hE9 hE) hw11)
                        go_wp2_with fail
                        refine (hasBeginning_any b f0 A' c' _ p5 hf0n (hB2.ext keeps_ent (Ext.trans (Ext.trans hE9 hE) hw11))).mono ?_
                        rintro r w12 ⟨rfl, hw12⟩
                        rw [hbB]
                        clear t0 t1 t2 t3 t4 s0 s1 s2 s3 s4
                        obtain ⟨⟨t0, t1, t2, t3, t4⟩, ⟨s0, s1, s2, s3, s4⟩⟩ := two_box (Ext.trans (Ext.trans (Ext.trans hE9 hE) hw11) hw12)
                        go_wp2
                        go_ret2
                        exact ⟨ret_2 (by rw [HF.out, HS.out]) (by rw [HF.out, HS.out]), Ext.trans hW2 (Ext.trans (Ext.trans (Ext.trans hE9 hE) hw11) hw12)⟩
                  · have HS : Hid (switchIn a b i = (0, 11)) := HPL.out.trans (by unfold placeF; rw [Hst.out, hg0, if_neg (by intro h; exact hkk h.1)])
                    go_wp2
                    go_ret2
                    exact ⟨ret_2 (by rw [HF.out, HS.out]) (by rw [HF.out, HS.out]), Ext.trans hW2 (Ext.trans hE9 hE)⟩
                · have HDT : Hid (switchIn a b i = if best < 0 then (0, 11) else (b.first + best, 0)) := by have h := HSI.out; unfold dateF at h; rw [HV.out, if_pos ⟨hx, rfl⟩] at h; exact h
                  clear HSI HV
                  by_cases hbn : best < 0
                  · have HS : Hid (switchIn a b i = (0, 11)) := by have h := HDT.out; rw [if_pos hbn] at h; exact h
                    go_wp2
                    go_ret2
                    exact ⟨ret_2 (by rw [HF.out, HS.out]) (by rw [HF.out, HS.out]), Ext.trans hW2 (Ext.trans hE9 hE)⟩
                  · have HS : Hid (switchIn a b i = (b.first + best, 0)) := by have h := HDT.out; rw [if_neg hbn] at h; exact h
                    go_wp2
                    go_ret2
                    exact ⟨ret_2 (by rw [HF.out, HS.out]) (by rw [HF.out, HS.out]), Ext.trans hW2 (Ext.trans hE9 hE)⟩
              · have HPL : Hid (switchIn a b i = placeF a b i) := by have h := HSI.out; rw [if_neg (by intro h2; exact hx h2.1)] at h; exact h
                have hg0 := HG0.out
                clear HSI HV
                go_wp2_with fail
                refine (stretch_any (bnF a.breaks a.entries) (ownN a i) _ c1 _ hbn1 hJ1).mono ?_
                rintro r w10 ⟨rfl, rfl⟩
                rw [show stG (ownN a i) 0 0 0 (bnF a.breaks a.entries) = stF a (ownN a i) from rfl, hg0]
                by_cases hkk : (f0 : Int) + i - g0 < f0 + mn
                · cases hbA : begB a a.entries[g0] g0
                  · have HS : Hid (switchIn a b i = (0, 11)) := HPL.out.trans (by unfold placeF; rw [Hst.out, hg0, if_neg (by rw [begI_of hg0n, hbA]; simp)])
                    go_wp2_with fail
                    refine (hasBeginning_any a g0 A c _ f5 hg0n (hA2.ext keeps_ent (Ext.trans hE9 hE))).mono ?_
                    rintro r w11 ⟨rfl, hw11⟩
                    rw [hbA]
                    go_wp2
                    go_ret2
                    exact ⟨ret_2 (by rw [HF.out, HS.out]) (by rw [HF.out, HS.out]), Ext.trans hW2 (Ext.trans (Ext.trans hE9 hE) hw11)⟩
                  · cases hbB : begB b b.entries[f0] f0
                    · have HS : Hid (switchIn a b i = (0, 11)) := HPL.out.trans (by unfold placeF; rw [Hst.out, hg0, if_neg (by simp only [begI_of hf0n, hbB]; simp)])
                      go_wp2_with fail
                      refine (hasBeginning_any a g0 A c _ f5 hg0n (hA2.ext keeps_ent (Ext.trans hE9 hE))).mono ?_
                      rintro r w11 ⟨rfl, hw11⟩
                      rw [hbA]
                      obtain ⟨⟨t0, t1, t2, t3, t4⟩, ⟨s0, s1, s2, s3, s4⟩⟩ := two_box (Ext.trans (Ext.trans hE9 hE) hw11)
                      go_wp2_with fail
                      refine (hasBeginning_any b f0 A' c' _ p5 hf0n (hB2.ext keeps_ent (Ext.trans (Ext.trans hE9 hE) hw11))).mono ?_
                      rintro r w12 ⟨rfl, hw12⟩
                      rw [hbB]
                      go_wp2
                      go_ret2
                      exact ⟨ret_2 (by rw [HF.out, HS.out]) (by rw [HF.out, HS.out]), Ext.trans hW2 (Ext.trans (Ext.trans (Ext.trans hE9 hE) hw11) hw12)⟩
                    · have HS : Hid (switchIn a b i = (b.first + ((f0 : Int) + i - g0), 0)) := HPL.out.trans (by unfold placeF; rw [Hst.out, hg0, if_pos ⟨hkk, by simp only [begI_of hg0n, hbA], by simp only [begI_of hf0n, hbB]⟩])
                      go_wp2_with fail
                      refine (hasBeginning_any a g0 A c _ f5 hg0n (hA2.ext keeps_ent (Ext.trans hE9 hE))).mono ?_
                      rintro r w11 ⟨rfl, hw11⟩
                      rw [hbA]
                      obtain ⟨⟨t0, t1, t2, t3, t4⟩, ⟨s0, s1, s2, s3, s4⟩⟩ := two_box (Ext.trans (Ext.trans hE9 hE) hw11)
                      go_wp2_with fail
                      refine (hasBeginning_any b f0 A' c' _ p5 hf0n (hB2.ext keeps_ent (Ext.trans (Ext.trans hE9 hE) hw11))).mono ?_
                      rintro r w12 ⟨rfl, hw12⟩
                      rw [hbB]
                      clear t0 t1 t2 t3 t4 s0 s1 s2 s3 s4
                      obtain ⟨⟨t0, t1, t2, t3, t4⟩, ⟨s0, s1, s2, s3, s4⟩⟩ := two_box (Ext.trans (Ext.trans (Ext.trans hE9 hE) hw11) hw12)
                      go_wp2
                      go_ret2
                      exact ⟨ret_2 (by rw [HF.out, HS.out]) (by rw [HF.out, HS.out]), Ext.trans hW2 (Ext.trans (Ext.trans (Ext.trans hE9 hE) hw11) hw12)⟩
                · have HS : Hid (switchIn a b i = (0, 11)) := HPL.out.trans (by unfold placeF; rw [Hst.out, hg0, if_neg (by intro h; exact hkk h.1)])
                  go_wp2
                  go_ret2
                  exact ⟨ret_2 (by rw [HF.out, HS.out]) (by rw [HF.out, HS.out]), Ext.trans hW2 (Ext.trans hE9 hE)⟩
        · have HS := Lib.hid (show switchIn a b i = (0, first2 (datesF a.entries).2 (datesF b.entries).2) from by unfold switchIn; rw [Hst.out, if_neg (by simpa using Hz.out), if_neg hd])
          have hdb : (first2 (datesF a.entries).2 (datesF b.entries).2 != 0) = true := by simpa using hd
          clear hd
          go_wp2
          go_ret2
          exact ⟨ret_2 (by rw [HF.out, HS.out]) (by rw [HF.out, HS.out]), Ext.trans hW2 hE9⟩
  · have HF := Lib.hid (show switchF a b m = (0, first2 (checkF a) (checkF b)) from by unfold switchF; rw [if_neg hf])
    have hfb : (first2 (checkF a) (checkF b) != 0) = true := by simpa using hf
    clear hf
    go_wp2
    go_ret2
    exact ⟨ret_2 (by rw [HF.out]) (by rw [HF.out]), Ext.trans hW2 hE3⟩
end Go.Proofs.Ytkfhfjcgegimbaa
