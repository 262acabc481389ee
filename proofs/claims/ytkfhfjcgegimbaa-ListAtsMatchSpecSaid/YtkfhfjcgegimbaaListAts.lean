/- What is proved here: At and StartAt of the program and of the reference return the same (chapter 6). -/
import Derived.Test.YtkfhfjcgegimbaaList3
namespace Go.Proofs.Ytkfhfjcgegimbaa
open Go.RowKit
set_option linter.unusedVariables false

def atF (l : Lst) (m : Int) : Int × Int × Int :=
  if checkF l = 0 then if m < 0 then (0, 0, 1) else if lenF l.entries ≤ m then (0, 0, 9) else ((atG m 0 l.entries).1, (atG m 0 l.entries).2, 0) else (0, 0, checkF l)
def startG (l : Lst) (m : Int) : Int × Int :=
  if l.ended = true ∨ lenF l.entries < m then (0, 0) else if m = 0 then (l.entries.length - 1, (l.entries[l.entries.length - 1]?.map Ent.milli).getD 0) else atG (lenF l.entries - m) 0 l.entries
def startF (l : Lst) (m : Int) : Int × Int × Int :=
  if m < 0 ∨ 1000000000000000 < m then (0, 0, 1) else if l.entries.length = 0 then (0, 0, 9) else ((startG l m).1, (startG l m).2, 0)
def startAtF (l : Lst) (m : Int) : Int × Int × Int := if checkF l = 0 then startF l m else (0, 0, checkF l)

set_option maxHeartbeats 1600000 in
theorem at_any (l : Lst) (m : Int) (A : Option Addr) (c : Nat) (w : World) (hm : I64 m) (hl : l.entries.length ≤ 9223372036854775807) (hA : SlR 7 entR w (In w) l.entries A) :
    Calls Try.prog 11 #[.agg #[.int .i64 l.target, .int .i64 l.first, .int .i64 l.breaks, .slice A l.entries.length c, .bool l.ended], .int .i64 m] w fun r w' => r = .returned (.tuple #[.int .i64 (atF l m).1, .int .i64 (atF l m).2.1, .int .i64 (atF l m).2.2]) ∧ Ext w w' := by
  by_cases h : checkF l = 0
  · have hg := good_of h
    have H := Lib.hid h
    have HG := Lib.hid hg
    by_cases hm0 : m < 0
    · have HF := Lib.hid (show atF l m = (0, 0, 1) from by unfold atF; rw [if_pos h, if_pos hm0])
      clear h hg
      go_enter Try.func11, Try.ntmps11
      go_wp2_with fail
      refine (check_any l A c _ hl (hA.ext keeps_ent (Ext.new _ _))).mono ?_
      rintro r w1 ⟨rfl, hw⟩
      rw [H.out]
      go_wp2
      go_ret3
      exact ⟨ret_3 (by rw [HF.out]) (by rw [HF.out]) (by rw [HF.out]), Ext.trans (Ext.new _ _) hw⟩
    · by_cases hm1 : lenF l.entries ≤ m
      · have HF := Lib.hid (show atF l m = (0, 0, 9) from by unfold atF; rw [if_pos h, if_neg hm0, if_pos hm1])
        have HE := Lib.hid (atG_end (i := 0) hg.2 hm1)
        clear h hg hm1
        go_enter Try.func11, Try.ntmps11
        go_wp2_with fail
        refine (check_any l A c _ hl (hA.ext keeps_ent (Ext.new _ _))).mono ?_
        rintro r w1 ⟨rfl, hw⟩
        rw [H.out]
        obtain ⟨t0, t1, t2, t3, t4, hs1⟩ := lst_box (ext_box hw)
        go_wp2_with fail
        refine (entryAt_any l m A c _ HG.out (by omega) hm.2 (hA.ext keeps_ent (Ext.trans (Ext.new _ _) hw))).mono ?_
        rintro r w2 ⟨rfl, hw2⟩
        rw [HE.out]
        obtain ⟨t0, t1, t2, t3, t4, hs1⟩ := lst_box (ext_box (Ext.trans hw hw2))
        go_wp2
        go_ret3
        exact ⟨ret_3 (by rw [HF.out]) (by rw [HF.out]) (by rw [HF.out]), Ext.trans (Ext.new _ _) (Ext.trans hw hw2)⟩
      · have HF := Lib.hid (show atF l m = ((atG m 0 l.entries).1, (atG m 0 l.entries).2, 0) from by unfold atF; rw [if_pos h, if_neg hm0, if_neg hm1])
        have hI := atG_in (i := 0) hg.2 (by omega) (by omega : m < lenF l.entries)
        have hne : ((atG m 0 l.entries).1 == (l.entries.length : Int)) = false := by simp; omega
        clear h hg hm1 hI
        go_enter Try.func11, Try.ntmps11
        go_wp2_with fail
        refine (check_any l A c _ hl (hA.ext keeps_ent (Ext.new _ _))).mono ?_
        rintro r w1 ⟨rfl, hw⟩
        rw [H.out]
        obtain ⟨t0, t1, t2, t3, t4, hs1⟩ := lst_box (ext_box hw)
        go_wp2_with fail
        refine (entryAt_any l m A c _ HG.out (by omega) hm.2 (hA.ext keeps_ent (Ext.trans (Ext.new _ _) hw))).mono ?_
        rintro r w2 ⟨rfl, hw2⟩
        obtain ⟨t0, t1, t2, t3, t4, hs1⟩ := lst_box (ext_box (Ext.trans hw hw2))
        go_wp2
        go_ret3
        exact ⟨ret_3 (by rw [HF.out]) (by rw [HF.out]) (by rw [HF.out]), Ext.trans (Ext.new _ _) (Ext.trans hw hw2)⟩
  · have HF := Lib.hid (show atF l m = (0, 0, checkF l) from by unfold atF; rw [if_neg h])
    have hne : (checkF l != 0) = true := by simpa using h
    clear h
    go_enter Try.func11, Try.ntmps11
    go_wp2_with fail
    refine (check_any l A c _ hl (hA.ext keeps_ent (Ext.new _ _))).mono ?_
    rintro r w1 ⟨rfl, hw⟩
    go_wp2
    go_ret3
    exact ⟨ret_3 (by rw [HF.out]) (by rw [HF.out]) (by rw [HF.out]), Ext.trans (Ext.new _ _) hw⟩

set_option maxHeartbeats 1600000 in
theorem refAt_any (l : Lst) (m : Int) (A : Option Addr) (c : Nat) (w : World) (hm : I64 m) (hl : l.entries.length ≤ 9223372036854775807) (hA : SlR 7 entR w (In w) l.entries A) :
    Calls Try.prog 12 #[.agg #[.int .i64 l.target, .int .i64 l.first, .int .i64 l.breaks, .slice A l.entries.length c, .bool l.ended], .int .i64 m] w fun r w' => r = .returned (.tuple #[.int .i64 (atF l m).1, .int .i64 (atF l m).2.1, .int .i64 (atF l m).2.2]) ∧ Ext w w' := by
  by_cases h : checkF l = 0
  · have hg := good_of h
    have H := Lib.hid h
    have HG := Lib.hid hg
    by_cases hm0 : m < 0
    · have HF := Lib.hid (show atF l m = (0, 0, 1) from by unfold atF; rw [if_pos h, if_pos hm0])
      clear h hg
      go_enter Try.func12, Try.ntmps12
      go_wp2_with fail
      refine (refCheck_any l A c _ hl (hA.ext keeps_ent (Ext.new _ _))).mono ?_
      rintro r w1 ⟨rfl, hw⟩
      rw [H.out]
      go_wp2
      go_ret3
      exact ⟨ret_3 (by rw [HF.out]) (by rw [HF.out]) (by rw [HF.out]), Ext.trans (Ext.new _ _) hw⟩
    · by_cases hm1 : lenF l.entries ≤ m
      · have HF := Lib.hid (show atF l m = (0, 0, 9) from by unfold atF; rw [if_pos h, if_neg hm0, if_pos hm1])
        clear h hg
        go_enter Try.func12, Try.ntmps12
        go_wp2_with fail
        refine (refCheck_any l A c _ hl (hA.ext keeps_ent (Ext.new _ _))).mono ?_
        rintro r w1 ⟨rfl, hw⟩
        rw [H.out]
        obtain ⟨t0, t1, t2, t3, t4, hs1⟩ := lst_box (ext_box hw)
        go_wp2_with fail
        refine (refLength_any l A c _ HG.out (hA.ext keeps_ent (Ext.trans (Ext.new _ _) hw))).mono ?_
        rintro r w2 ⟨rfl, hw2⟩
        go_wp2
        go_ret3
        exact ⟨ret_3 (by rw [HF.out]) (by rw [HF.out]) (by rw [HF.out]), Ext.trans (Ext.new _ _) (Ext.trans hw hw2)⟩
      · have HF := Lib.hid (show atF l m = ((atG m 0 l.entries).1, (atG m 0 l.entries).2, 0) from by unfold atF; rw [if_pos h, if_neg hm0, if_neg hm1])
        clear h hg
        go_enter Try.func12, Try.ntmps12
        go_wp2_with fail
        refine (refCheck_any l A c _ hl (hA.ext keeps_ent (Ext.new _ _))).mono ?_
        rintro r w1 ⟨rfl, hw⟩
        rw [H.out]
        obtain ⟨t0, t1, t2, t3, t4, hs1⟩ := lst_box (ext_box hw)
        go_wp2_with fail
        refine (refLength_any l A c _ HG.out (hA.ext keeps_ent (Ext.trans (Ext.new _ _) hw))).mono ?_
        rintro r w2 ⟨rfl, hw2⟩
        obtain ⟨t0, t1, t2, t3, t4, hs1⟩ := lst_box (ext_box (Ext.trans hw hw2))
        go_wp2_with fail
        refine (place_any l m A c _ HG.out (by omega) (by omega) (hA.ext keeps_ent (Ext.trans (Ext.trans (Ext.new _ _) hw) hw2))).mono ?_
        rintro r w3 ⟨rfl, hw3⟩
        go_wp2
        go_ret3
        exact ⟨ret_3 (by rw [HF.out]) (by rw [HF.out]) (by rw [HF.out]), Ext.trans (Ext.new _ _) (Ext.trans (Ext.trans hw hw2) hw3)⟩
  · have HF := Lib.hid (show atF l m = (0, 0, checkF l) from by unfold atF; rw [if_neg h])
    have hne : (checkF l != 0) = true := by simpa using h
    clear h
    go_enter Try.func12, Try.ntmps12
    go_wp2_with fail
    refine (refCheck_any l A c _ hl (hA.ext keeps_ent (Ext.new _ _))).mono ?_
    rintro r w1 ⟨rfl, hw⟩
    go_wp2
    go_ret3
    exact ⟨ret_3 (by rw [HF.out]) (by rw [HF.out]) (by rw [HF.out]), Ext.trans (Ext.new _ _) hw⟩

theorem startG_1 {l : Lst} {m : Int} (h : l.ended = true ∨ lenF l.entries < m) : startG l m = (0, 0) := by unfold startG; rw [if_pos h]
theorem startG_2 {l : Lst} {m : Int} (h : l.ended = false) (h2 : ¬ lenF l.entries < m) (h0 : m = 0) (hp : l.entries.length - 1 < l.entries.length) : startG l m = ((l.entries.length : Int) - 1, (l.entries[l.entries.length - 1]'hp).milli) := by
  unfold startG; rw [if_neg (by simp [h]; omega), if_pos h0, List.getElem?_eq_getElem hp]; rfl
theorem startG_3 {l : Lst} {m : Int} (h : l.ended = false) (h2 : ¬ lenF l.entries < m) (h0 : ¬ m = 0) : startG l m = atG (lenF l.entries - m) 0 l.entries := by
  unfold startG; rw [if_neg (by simp [h]; omega), if_neg h0]
theorem startF_1 {l : Lst} {m : Int} (h : m < 0 ∨ 1000000000000000 < m) : startF l m = (0, 0, 1) := by unfold startF; rw [if_pos h]
theorem startF_2 {l : Lst} {m : Int} (h : ¬ (m < 0 ∨ 1000000000000000 < m)) (h2 : l.entries.length = 0) : startF l m = (0, 0, 9) := by unfold startF; rw [if_neg h, if_pos h2]
theorem startF_3 {l : Lst} {m : Int} (h : ¬ (m < 0 ∨ 1000000000000000 < m)) (h2 : ¬ l.entries.length = 0) : startF l m = ((startG l m).1, (startG l m).2, 0) := by unfold startF; rw [if_neg h, if_neg h2]

set_option maxHeartbeats 1600000 in
theorem startAt_in (l : Lst) (m : Int) (A : Option Addr) (c : Nat) (w : World) (hg : Good l.entries) (hA : SlR 7 entR w (In w) l.entries A) :
    Calls Try.prog 41 #[.agg #[.int .i64 l.target, .int .i64 l.first, .int .i64 l.breaks, .slice A l.entries.length c, .bool l.ended], .int .i64 m] w fun r w' => r = .returned (.tuple #[.int .i64 (startF l m).1, .int .i64 (startF l m).2.1, .int .i64 (startF l m).2.2]) ∧ Ext w w' := by
  have hn := hg.1
  have HG := Lib.hid hg
  have hb := lenF_bd hg.2
  have hl0 : 0 ≤ lenF l.entries := by omega
  have hl1 : lenF l.entries ≤ 3600000000 := by omega
  clear hb hg
  by_cases h1 : m < 0 ∨ 1000000000000000 < m
  · have HF := Lib.hid (startF_1 (l := l) h1)
    have ho : outB m 0 1000000000000000 = true := outB_t h1
    go_enter Try.func41, Try.ntmps41
    go_wp2_with (first | (go_at_call 47; refine (out_any _ _ _ _).mono ?_; rintro r w' ⟨rfl, rfl⟩))
    go_ret3
    exact ⟨ret_3 (by rw [HF.out]) (by rw [HF.out]) (by rw [HF.out]), Ext.new _ _⟩
  · have ho : outB m 0 1000000000000000 = false := outB_f (by omega) (by omega)
    by_cases h2 : l.entries.length = 0
    · have HF := Lib.hid (startF_2 h1 h2)
      have hz : ((l.entries.length : Int) == 0) = true := by simp; exact List.eq_nil_of_length_eq_zero h2
      clear h2
      go_enter Try.func41, Try.ntmps41
      go_wp2_with (first | (go_at_call 47; refine (out_any _ _ _ _).mono ?_; rintro r w' ⟨rfl, rfl⟩))
      go_ret3
      exact ⟨ret_3 (by rw [HF.out]) (by rw [HF.out]) (by rw [HF.out]), Ext.new _ _⟩
    · have hz : ((l.entries.length : Int) == 0) = false := by simpa using h2
      have HF := Lib.hid (startF_3 h1 h2)
      have hp : l.entries.length - 1 < l.entries.length := by omega
      obtain ⟨T, F, B, es, E⟩ := l
      simp only at hn HG hl0 hl1 h2 hz hA hp
      cases E
      · by_cases h3 : lenF es < m
        · have HS := Lib.hid (startG_1 (l := ⟨T, F, B, es, false⟩) (.inr h3))
          go_enter Try.func41, Try.ntmps41
          go_wp2_with (first | (go_at_call 47; refine (out_any _ _ _ _).mono ?_; rintro r w' ⟨rfl, rfl⟩))
          refine (length_any ⟨T, F, B, es, false⟩ A c _ HG.out (hA.ext keeps_ent (Ext.new _ _))).mono ?_
          rintro r w1 ⟨rfl, hw⟩
          obtain ⟨t0, t1, t2, t3, t4, hs1⟩ := lst_box (ext_box hw)
          go_wp2
          go_ret3
          exact ⟨ret_3 (by rw [HF.out, HS.out]) (by rw [HF.out, HS.out]) (by rw [HF.out]), Ext.trans (Ext.new _ _) hw⟩
        · by_cases h0 : m = 0
          · have HS := Lib.hid (startG_2 (l := ⟨T, F, B, es, false⟩) rfl h3 h0 hp)
            subst h0
            go_enter Try.func41, Try.ntmps41
            go_wp2_with (first | (go_at_call 47; refine (out_any _ _ _ _).mono ?_; rintro r w' ⟨rfl, rfl⟩))
            refine (length_any ⟨T, F, B, es, false⟩ A c _ HG.out (hA.ext keeps_ent (Ext.new _ _))).mono ?_
            rintro r w1 ⟨rfl, hw⟩
            obtain ⟨t0, t1, t2, t3, t4, hs1⟩ := lst_box (ext_box hw)
            obtain ⟨b, off, X, cx, rfl, hin, c0, c1, c2, c3, c4, c5, c6, g1, g2, g3, g4, g5, g6, g7, g8⟩ := ent_at (hA.ext keeps_ent (Ext.trans (Ext.new _ _) hw)) hp
            have i0 : (0 : Int) ≤ (es.length : Int) - 1 := by omega
            have i1 : (es.length : Int) - 1 < (es.length : Int) := by omega
            have i2 : ((es.length : Int) - 1).toNat = es.length - 1 := by omega
            go_wp2
            go_quiet (fail)
            go_wp2
            go_ret3
            exact ⟨ret_3 (by rw [HF.out, HS.out]) (by rw [HF.out, HS.out]) (by rw [HF.out]), (Ext.trans (Ext.new _ _) hw).drewN _⟩
          · have HS := Lib.hid (startG_3 (l := ⟨T, F, B, es, false⟩) rfl h3 h0)
            have h0b : (m == 0) = false := by simpa using h0
            go_enter Try.func41, Try.ntmps41
            go_wp2_with (first | (go_at_call 47; refine (out_any _ _ _ _).mono ?_; rintro r w' ⟨rfl, rfl⟩))
            refine (length_any ⟨T, F, B, es, false⟩ A c _ HG.out (hA.ext keeps_ent (Ext.new _ _))).mono ?_
            rintro r w1 ⟨rfl, hw⟩
            obtain ⟨t0, t1, t2, t3, t4, hs1⟩ := lst_box (ext_box hw)
            go_wp2_with fail
            refine (entryAt_any ⟨T, F, B, es, false⟩ _ A c _ HG.out (by omega) (by omega) (hA.ext keeps_ent (Ext.trans (Ext.new _ _) hw))).mono ?_
            rintro r w2 ⟨rfl, hw2⟩
            go_wp2
            go_ret3
            exact ⟨ret_3 (by rw [HF.out, HS.out]) (by rw [HF.out, HS.out]) (by rw [HF.out]), Ext.trans (Ext.trans (Ext.new _ _) hw) hw2⟩
      · have HS := Lib.hid (startG_1 (l := ⟨T, F, B, es, true⟩) (m := m) (.inl rfl))
        go_enter Try.func41, Try.ntmps41
        go_wp2_with (first | (go_at_call 47; refine (out_any _ _ _ _).mono ?_; rintro r w' ⟨rfl, rfl⟩))
        refine (length_any ⟨T, F, B, es, true⟩ A c _ HG.out (hA.ext keeps_ent (Ext.new _ _))).mono ?_
        rintro r w1 ⟨rfl, hw⟩
        obtain ⟨t0, t1, t2, t3, t4, hs1⟩ := lst_box (ext_box hw)
        go_wp2
        go_ret3
        exact ⟨ret_3 (by rw [HF.out, HS.out]) (by rw [HF.out, HS.out]) (by rw [HF.out]), Ext.trans (Ext.new _ _) hw⟩

set_option maxHeartbeats 1600000 in
theorem refStartAt_in (l : Lst) (m : Int) (A : Option Addr) (c : Nat) (w : World) (hg : Good l.entries) (hm0 : 0 ≤ m) (hm1 : m ≤ 1000000000000000) (h2 : ¬ l.entries.length = 0) (hA : SlR 7 entR w (In w) l.entries A) :
    Calls Try.prog 43 #[.agg #[.int .i64 l.target, .int .i64 l.first, .int .i64 l.breaks, .slice A l.entries.length c, .bool l.ended], .int .i64 m] w fun r w' => r = .returned (.tuple #[.int .i64 (startG l m).1, .int .i64 (startG l m).2]) ∧ Ext w w' := by
  have hn := hg.1
  have HG := Lib.hid hg
  have hb := lenF_bd hg.2
  have hl0 : 0 ≤ lenF l.entries := by omega
  have hl1 : lenF l.entries ≤ 3600000000 := by omega
  clear hb hg
  have hp : l.entries.length - 1 < l.entries.length := by omega
  obtain ⟨T, F, B, es, E⟩ := l
  simp only at hn HG hl0 hl1 h2 hA hp
  cases E
  · by_cases h3 : lenF es < m
    · have HS := Lib.hid (startG_1 (l := ⟨T, F, B, es, false⟩) (.inr h3))
      go_enter Try.func43, Try.ntmps43
      go_wp2_with fail
      refine (refLength_any ⟨T, F, B, es, false⟩ A c _ HG.out (hA.ext keeps_ent (Ext.new _ _))).mono ?_
      rintro r w1 ⟨rfl, hw⟩
      obtain ⟨t0, t1, t2, t3, t4, hs1⟩ := lst_box (ext_box hw)
      go_wp2
      go_ret2
      exact ⟨ret_2 (by rw [HS.out]) (by rw [HS.out]), Ext.trans (Ext.new _ _) hw⟩
    · by_cases h0 : m = 0
      · have HS := Lib.hid (startG_2 (l := ⟨T, F, B, es, false⟩) rfl h3 h0 hp)
        subst h0
        go_enter Try.func43, Try.ntmps43
        go_wp2_with fail
        refine (refLength_any ⟨T, F, B, es, false⟩ A c _ HG.out (hA.ext keeps_ent (Ext.new _ _))).mono ?_
        rintro r w1 ⟨rfl, hw⟩
        obtain ⟨t0, t1, t2, t3, t4, hs1⟩ := lst_box (ext_box hw)
        obtain ⟨b, off, X, cx, rfl, hin, c0, c1, c2, c3, c4, c5, c6, g1, g2, g3, g4, g5, g6, g7, g8⟩ := ent_at (hA.ext keeps_ent (Ext.trans (Ext.new _ _) hw)) hp
        have i0 : (0 : Int) ≤ (es.length : Int) - 1 := by omega
        have i1 : (es.length : Int) - 1 < (es.length : Int) := by omega
        have i2 : ((es.length : Int) - 1).toNat = es.length - 1 := by omega
        go_wp2
        go_quiet (fail)
        go_wp2
        go_ret2
        exact ⟨ret_2 (by rw [HS.out]) (by rw [HS.out]), (Ext.trans (Ext.new _ _) hw).drewN _⟩
      · have HS := Lib.hid (startG_3 (l := ⟨T, F, B, es, false⟩) rfl h3 h0)
        have h0b : (m == 0) = false := by simpa using h0
        go_enter Try.func43, Try.ntmps43
        go_wp2_with fail
        refine (refLength_any ⟨T, F, B, es, false⟩ A c _ HG.out (hA.ext keeps_ent (Ext.new _ _))).mono ?_
        rintro r w1 ⟨rfl, hw⟩
        obtain ⟨t0, t1, t2, t3, t4, hs1⟩ := lst_box (ext_box hw)
        go_wp2_with fail
        refine (place_any ⟨T, F, B, es, false⟩ _ A c _ HG.out (by omega) (by simp only; omega) (hA.ext keeps_ent (Ext.trans (Ext.new _ _) hw))).mono ?_
        rintro r w2 ⟨rfl, hw2⟩
        go_wp2
        go_ret2
        exact ⟨ret_2 (by rw [HS.out]) (by rw [HS.out]), Ext.trans (Ext.trans (Ext.new _ _) hw) hw2⟩
  · have HS := Lib.hid (startG_1 (l := ⟨T, F, B, es, true⟩) (m := m) (.inl rfl))
    go_enter Try.func43, Try.ntmps43
    go_wp2_with fail
    refine (refLength_any ⟨T, F, B, es, true⟩ A c _ HG.out (hA.ext keeps_ent (Ext.new _ _))).mono ?_
    rintro r w1 ⟨rfl, hw⟩
    obtain ⟨t0, t1, t2, t3, t4, hs1⟩ := lst_box (ext_box hw)
    go_wp2
    go_ret2
    exact ⟨ret_2 (by rw [HS.out]) (by rw [HS.out]), Ext.trans (Ext.new _ _) hw⟩

set_option maxHeartbeats 1600000 in
theorem startAt_any (l : Lst) (m : Int) (A : Option Addr) (c : Nat) (w : World) (hl : l.entries.length ≤ 9223372036854775807) (hA : SlR 7 entR w (In w) l.entries A) :
    Calls Try.prog 13 #[.agg #[.int .i64 l.target, .int .i64 l.first, .int .i64 l.breaks, .slice A l.entries.length c, .bool l.ended], .int .i64 m] w fun r w' => r = .returned (.tuple #[.int .i64 (startAtF l m).1, .int .i64 (startAtF l m).2.1, .int .i64 (startAtF l m).2.2]) ∧ Ext w w' := by
  by_cases h : checkF l = 0
  · have HF := Lib.hid (show startAtF l m = startF l m from by unfold startAtF; rw [if_pos h])
    have H := Lib.hid h
    have HG := Lib.hid (good_of h)
    clear h
    go_enter Try.func13, Try.ntmps13
    go_wp2_with fail
    refine (check_any l A c _ hl (hA.ext keeps_ent (Ext.new _ _))).mono ?_
    rintro r w1 ⟨rfl, hw⟩
    rw [H.out]
    obtain ⟨t0, t1, t2, t3, t4, hs1⟩ := lst_box (ext_box hw)
    go_wp2_with fail
    refine (startAt_in l m A c _ HG.out (hA.ext keeps_ent (Ext.trans (Ext.new _ _) hw))).mono ?_
    rintro r w2 ⟨rfl, hw2⟩
    go_wp2
    go_ret3
    exact ⟨ret_3 (by rw [HF.out]) (by rw [HF.out]) (by rw [HF.out]), Ext.trans (Ext.trans (Ext.new _ _) hw) hw2⟩
  · have HF := Lib.hid (show startAtF l m = (0, 0, checkF l) from by unfold startAtF; rw [if_neg h])
    have hne : (checkF l != 0) = true := by simpa using h
    clear h
    go_enter Try.func13, Try.ntmps13
    go_wp2_with fail
    refine (check_any l A c _ hl (hA.ext keeps_ent (Ext.new _ _))).mono ?_
    rintro r w1 ⟨rfl, hw⟩
    go_wp2
    go_ret3
    exact ⟨ret_3 (by rw [HF.out]) (by rw [HF.out]) (by rw [HF.out]), Ext.trans (Ext.new _ _) hw⟩

set_option maxHeartbeats 1600000 in
theorem refStartAt_any (l : Lst) (m : Int) (A : Option Addr) (c : Nat) (w : World) (hl : l.entries.length ≤ 9223372036854775807) (hA : SlR 7 entR w (In w) l.entries A) :
    Calls Try.prog 14 #[.agg #[.int .i64 l.target, .int .i64 l.first, .int .i64 l.breaks, .slice A l.entries.length c, .bool l.ended], .int .i64 m] w fun r w' => r = .returned (.tuple #[.int .i64 (startAtF l m).1, .int .i64 (startAtF l m).2.1, .int .i64 (startAtF l m).2.2]) ∧ Ext w w' := by
  by_cases h : checkF l = 0
  · have HF := Lib.hid (show startAtF l m = startF l m from by unfold startAtF; rw [if_pos h])
    have H := Lib.hid h
    have HG := Lib.hid (good_of h)
    clear h
    by_cases h1 : m < 0 ∨ 1000000000000000 < m
    · have HS := Lib.hid (startF_1 (l := l) h1)
      have ho : outB m 0 1000000000000000 = true := outB_t h1
      go_enter Try.func14, Try.ntmps14
      go_wp2_with fail
      refine (refCheck_any l A c _ hl (hA.ext keeps_ent (Ext.new _ _))).mono ?_
      rintro r w1 ⟨rfl, hw⟩
      rw [H.out]
      go_wp2_with (go_at_call 42; refine (within_any _ _ _ _).mono ?_; rintro r w' ⟨rfl, rfl⟩)
      go_ret3
      exact ⟨ret_3 (by rw [HF.out, HS.out]) (by rw [HF.out, HS.out]) (by rw [HF.out, HS.out]), Ext.trans (Ext.new _ _) hw⟩
    · have ho : outB m 0 1000000000000000 = false := outB_f (by omega) (by omega)
      by_cases h2 : l.entries.length = 0
      · have HS := Lib.hid (startF_2 h1 h2)
        have hz : ((l.entries.length : Int) == 0) = true := by simp; exact List.eq_nil_of_length_eq_zero h2
        clear h2
        go_enter Try.func14, Try.ntmps14
        go_wp2_with fail
        refine (refCheck_any l A c _ hl (hA.ext keeps_ent (Ext.new _ _))).mono ?_
        rintro r w1 ⟨rfl, hw⟩
        rw [H.out]
        obtain ⟨t0, t1, t2, t3, t4, hs1⟩ := lst_box (ext_box hw)
        go_wp2_with (go_at_call 42; refine (within_any _ _ _ _).mono ?_; rintro r w' ⟨rfl, rfl⟩)
        go_ret3
        exact ⟨ret_3 (by rw [HF.out, HS.out]) (by rw [HF.out, HS.out]) (by rw [HF.out, HS.out]), Ext.trans (Ext.new _ _) hw⟩
      · have hz : ((l.entries.length : Int) == 0) = false := by simpa using h2
        have HS := Lib.hid (startF_3 h1 h2)
        go_enter Try.func14, Try.ntmps14
        go_wp2_with fail
        refine (refCheck_any l A c _ hl (hA.ext keeps_ent (Ext.new _ _))).mono ?_
        rintro r w1 ⟨rfl, hw⟩
        rw [H.out]
        obtain ⟨t0, t1, t2, t3, t4, hs1⟩ := lst_box (ext_box hw)
        go_wp2_with (go_at_call 42; refine (within_any _ _ _ _).mono ?_; rintro r w' ⟨rfl, rfl⟩)
        refine (refStartAt_in l m A c _ HG.out (by omega) (by omega) h2 (hA.ext keeps_ent (Ext.trans (Ext.new _ _) hw))).mono ?_
        rintro r w2 ⟨rfl, hw2⟩
        go_wp2
        go_ret3
        exact ⟨ret_3 (by rw [HF.out, HS.out]) (by rw [HF.out, HS.out]) (by rw [HF.out, HS.out]), Ext.trans (Ext.trans (Ext.new _ _) hw) hw2⟩
  · have HF := Lib.hid (show startAtF l m = (0, 0, checkF l) from by unfold startAtF; rw [if_neg h])
    have hne : (checkF l != 0) = true := by simpa using h
    clear h
    go_enter Try.func14, Try.ntmps14
    go_wp2_with fail
    refine (refCheck_any l A c _ hl (hA.ext keeps_ent (Ext.new _ _))).mono ?_
    rintro r w1 ⟨rfl, hw⟩
    go_wp2
    go_ret3
    exact ⟨ret_3 (by rw [HF.out]) (by rw [HF.out]) (by rw [HF.out]), Ext.trans (Ext.new _ _) hw⟩

set_option maxHeartbeats 1600000 in
theorem listAts_walk (l : Lst) (m k : Int) (A : Option Addr) (c : Nat) (w : World) (hm : I64 m) (hl : l.entries.length ≤ 9223372036854775807) (hA : SlR 7 entR w (In w) l.entries A) :
    Calls Try.prog 3 #[.agg #[.int .i64 l.target, .int .i64 l.first, .int .i64 l.breaks, .slice A l.entries.length c, .bool l.ended], .int .i64 m, .int .i64 k] w
      fun r w' => r = .returned (.bool true) ∧ Ext w w' := by
  go_enter Try.func3, Try.ntmps3
  go_wp2_with fail
  refine (at_any l m A c _ hm hl (hA.ext keeps_ent (Ext.new _ _))).mono ?_
  rintro r w1 ⟨rfl, hw⟩
  obtain ⟨t0, t1, t2, t3, t4, hs1⟩ := lst_box (ext_box hw)
  go_wp2_with fail
  refine (refAt_any l m A c _ hm hl (hA.ext keeps_ent (Ext.trans (Ext.new _ _) hw))).mono ?_
  rintro r w2 ⟨rfl, hw2⟩
  replace hw2 := Ext.trans hw hw2
  clear hw t0 t1 t2 t3 t4 hs1
  obtain ⟨t0, t1, t2, t3, t4, hs1⟩ := lst_box (ext_box hw2)
  go_wp2_with fail
  refine (startAt_any l k A c _ hl (hA.ext keeps_ent (Ext.trans (Ext.new _ _) hw2))).mono ?_
  rintro r w3 ⟨rfl, hw3⟩
  replace hw3 := Ext.trans hw2 hw3
  clear hw2 t0 t1 t2 t3 t4 hs1
  obtain ⟨t0, t1, t2, t3, t4, hs1⟩ := lst_box (ext_box hw3)
  go_wp2_with fail
  refine (refStartAt_any l k A c _ hl (hA.ext keeps_ent (Ext.trans (Ext.new _ _) hw3))).mono ?_
  rintro r w4 ⟨rfl, hw4⟩
  replace hw4 := Ext.trans hw3 hw4
  clear hw3 t0 t1 t2 t3 t4 hs1
  go_wp2_with fail
  refine (awake_any _).mono ?_
  rintro r w5 ⟨rfl, hw5⟩
  go_wp2
  go_ret
  exact ⟨rfl, Ext.trans (Ext.trans (Ext.new _ _) hw4) hw5⟩
end Go.Proofs.Ytkfhfjcgegimbaa
