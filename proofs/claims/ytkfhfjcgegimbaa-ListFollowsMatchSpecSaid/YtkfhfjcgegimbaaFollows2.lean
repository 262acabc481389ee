/- What is proved here: what follows of the program returns (chapter 6). -/
import Derived.Test.YtkfhfjcgegimbaaFollows
namespace Go.Proofs.Ytkfhfjcgegimbaa
open Go.RowKit
set_option linter.unusedVariables false

theorem follows_0 {a b : Lst} (h : ¬ a.target = b.target) : followsIn a b = 6 := by unfold followsIn; rw [if_pos h]
theorem follows_1 {a b : Lst} (h : a.target = b.target) (h1 : a.ended = true) (h2 : eqLst a b = false) : followsIn a b = 11 := by unfold followsIn; rw [if_neg (by simp [h]), if_pos ⟨h1, h2⟩]
theorem follows_2 {a b : Lst} (h : a.target = b.target) (h1 : a.ended = false ∨ eqLst a b = true) (h2 : b.first < a.first ∨ b.first + b.entries.length < a.first + a.entries.length) : followsIn a b = 8 := by
  unfold followsIn; rw [if_neg (by simp [h]), if_neg (by rintro ⟨h3, h4⟩; rcases h1 with h1 | h1 <;> simp_all), if_pos h2]
theorem follows_3 {a b : Lst} (h : a.target = b.target) (h1 : a.ended = false ∨ eqLst a b = true) (h2 : ¬ (b.first < a.first ∨ b.first + b.entries.length < a.first + a.entries.length)) {k0 : Nat} (hk : b.first = a.first + k0) :
    followsIn a b = if cmpG (a.entries.drop k0) ((bnF a.breaks a.entries).drop k0) b.entries (bnF b.breaks b.entries) = 0 then if a.first + a.entries.length ≤ b.first ∧ b.breaks < lastN a then 8 else 0 else cmpG (a.entries.drop k0) ((bnF a.breaks a.entries).drop k0) b.entries (bnF b.breaks b.entries) := by
  unfold followsIn; rw [if_neg (by simp [h]), if_neg (by rintro ⟨h3, h4⟩; rcases h1 with h1 | h1 <;> simp_all), if_neg h2, show (b.first - a.first).toNat = k0 from by omega]
theorem cmpG_step {es fs : List Ent} {ns ms : List Int} {i k : Nat} (h1 : i < es.length) (h2 : i < ns.length) (h3 : k < fs.length) (h4 : k < ms.length) :
    cmpG (es.drop i) (ns.drop i) (fs.drop k) (ms.drop k) = if eqE es[i] fs[k] = true then if ns[i] = ms[k] then cmpG (es.drop (i + 1)) (ns.drop (i + 1)) (fs.drop (k + 1)) (ms.drop (k + 1)) else 3 else 12 := by
  rw [drop_cons h1, drop_cons h2, drop_cons h3, drop_cons h4, cmpG]
theorem cmpG_end {es fs : List Ent} {ns ms : List Int} (h : es = []) : cmpG es ns fs ms = 0 := by subst h; unfold cmpG; rfl
theorem lastN_of {a : Lst} (h : 0 < a.entries.length) : (bnF a.breaks a.entries)[a.entries.length - 1]? = some (lastN a) := by
  rw [bnF_at _ _ _ (by omega), show a.entries.length - 1 + 1 = a.entries.length from by omega, List.take_length]; rfl
theorem lastN_nil {a : Lst} (h : a.entries.length = 0) : lastN a = a.breaks := by
  have : a.entries = [] := List.eq_nil_of_length_eq_zero h
  unfold lastN; rw [this]; simp [cntF]

set_option maxRecDepth 100000 in
set_option maxHeartbeats 8000000 in
theorem follows_any (a b : Lst) (A A' : Option Addr) (c c' : Nat) (w : World) (hca : checkF a = 0) (hcb : checkF b = 0)
    (hA : SlR 7 entR w (In w) a.entries A) (hB : SlR 7 entR w (In w) b.entries A') :
    Calls Try.prog 50 #[.agg #[.int .i64 a.target, .int .i64 a.first, .int .i64 a.breaks, .slice A a.entries.length c, .bool a.ended], .agg #[.int .i64 b.target, .int .i64 b.first, .int .i64 b.breaks, .slice A' b.entries.length c', .bool b.ended]] w fun r w' => r = .returned (.int .i64 (followsIn a b)) ∧ Ext w w' := by
  have hW2 : Ext w ((w.alloc (.cells #[.int .i64 a.target, .int .i64 a.first, .int .i64 a.breaks, .slice A a.entries.length c, .bool a.ended] 24)).alloc (.cells #[.int .i64 b.target, .int .i64 b.first, .int .i64 b.breaks, .slice A' b.entries.length c', .bool b.ended] 24)) := Ext.trans (Ext.new w _) (Ext.new _ _)
  have hA2 := hA.ext keeps_ent hW2
  have hB2 := hB.ext keeps_ent hW2
  obtain ⟨f1, f2, f3, f4, f5⟩ := head_of hca
  obtain ⟨p1, p2, p3, p4, p5⟩ := head_of hcb
  clear hca hcb
  have q1 : IntKind.i64.wrap (a.first + (a.entries.length : Int)) = a.first + (a.entries.length : Int) := IntWalk.i64_in _ ⟨by omega, by omega⟩
  have q2 : IntKind.i64.wrap (b.first + (b.entries.length : Int)) = b.first + (b.entries.length : Int) := IntWalk.i64_in _ ⟨by omega, by omega⟩
  by_cases hT : a.target = b.target
  · have hTb : (a.target != b.target) = false := by simpa using hT
    have HT := Lib.hid hT
    clear hT
    go_enter Try.func50, Try.ntmps50
    go_wp2
    go_quiet (fail)
    rename_i nq
    have hE1 : Ext ((w.alloc (.cells #[.int .i64 a.target, .int .i64 a.first, .int .i64 a.breaks, .slice A a.entries.length c, .bool a.ended] 24)).alloc (.cells #[.int .i64 b.target, .int .i64 b.first, .int .i64 b.breaks, .slice A' b.entries.length c', .bool b.ended] 24)) ((((w.alloc (.cells #[.int .i64 a.target, .int .i64 a.first, .int .i64 a.breaks, .slice A a.entries.length c, .bool a.ended] 24)).alloc (.cells #[.int .i64 b.target, .int .i64 b.first, .int .i64 b.breaks, .slice A' b.entries.length c', .bool b.ended] 24))).drewN nq) := (Ext.same _).drewN nq
    generalize (((w.alloc (.cells #[.int .i64 a.target, .int .i64 a.first, .int .i64 a.breaks, .slice A a.entries.length c, .bool a.ended] 24)).alloc (.cells #[.int .i64 b.target, .int .i64 b.first, .int .i64 b.breaks, .slice A' b.entries.length c', .bool b.ended] 24))).drewN nq = w1 at hE1 ⊢
    clear q1 q2
    obtain ⟨⟨t0, t1, t2, t3, t4⟩, ⟨s0, s1, s2, s3, s4⟩⟩ := two_box hE1
    cases hen : a.ended
    · rw [hen] at t4
      have HEN : Hid (a.ended = false ∨ eqLst a b = true) := .inl hen
      clear hen
      by_cases hr : b.first < a.first ∨ b.first + b.entries.length < a.first + a.entries.length
      · have HF := Lib.hid (follows_2 HT.out HEN.out hr)
        by_cases hr1 : b.first < a.first
        all_goals
          go_wp2_with fail
          go_ret
          exact ⟨ret_int HF.out.symm, Ext.trans hW2 hE1⟩
      · obtain ⟨k0, hk0⟩ : ∃ k0 : Nat, b.first = a.first + k0 := ⟨(b.first - a.first).toNat, by omega⟩
        have HF := Lib.hid (follows_3 HT.out HEN.out hr hk0)
        have r1 : a.first ≤ b.first := by omega
        have r2 : a.first + a.entries.length ≤ b.first + b.entries.length := by omega
        have HK0 := Lib.hid hk0
        clear hk0 hr
        go_wp2_with fail
        have hA3 := hA2.ext keeps_ent hE1
        have tok2 : True := trivial
        clear t0 t1 t2 t3 t4 s0 s1 s2 s3 s4
        go_region_held3 (fun wx => (wx.cell? ⟨w.heap.size, 0, none⟩ = some (.int .i64 a.target) ∧ wx.cell? ⟨w.heap.size, 1, none⟩ = some (.int .i64 a.first) ∧ wx.cell? ⟨w.heap.size, 2, none⟩ = some (.int .i64 a.breaks) ∧ wx.cell? ⟨w.heap.size, 3, none⟩ = some (.slice A a.entries.length c) ∧ wx.cell? ⟨w.heap.size, 4, none⟩ = some (.bool a.ended)) ∧ (wx.cell? ⟨w.heap.size + 1, 0, none⟩ = some (.int .i64 b.target) ∧ wx.cell? ⟨w.heap.size + 1, 1, none⟩ = some (.int .i64 b.first) ∧ wx.cell? ⟨w.heap.size + 1, 2, none⟩ = some (.int .i64 b.breaks) ∧ wx.cell? ⟨w.heap.size + 1, 3, none⟩ = some (.slice A' b.entries.length c') ∧ wx.cell? ⟨w.heap.size + 1, 4, none⟩ = some (.bool b.ended))) (first | exact two_box hE1 | exact two_box (Ext.trans hE1 (Ext.one _)) | exact two_box hE4 | exact two_box hE5)
          (first
            | (go_at_call 52; have _t := tok2; refine (breakNumbers_any a A c _ f5 f3 f4 ?_).mono ?_; (exact hA3); (rintro r w4 ⟨v1, rfl, ⟨A1, c1, rfl, l1, l2, l3, hI1⟩, hw4⟩; have hE4 : Ext ((w.alloc (.cells #[.int .i64 a.target, .int .i64 a.first, .int .i64 a.breaks, .slice A a.entries.length c, .bool a.ended] 24)).alloc (.cells #[.int .i64 b.target, .int .i64 b.first, .int .i64 b.breaks, .slice A' b.entries.length c', .bool b.ended] 24)) w4 := Ext.trans (Ext.trans hE1 (Ext.one _)) hw4; clear tok2))
            | (go_at_call 52; refine (breakNumbers_any b A' c' _ p5 p3 p4 ?_).mono ?_; (exact hB2.ext keeps_ent hE4); (rintro r w5 ⟨v2, rfl, ⟨A2, c2, rfl, l4, l5, l6, hI2⟩, hw5⟩; have hE5 : Ext ((w.alloc (.cells #[.int .i64 a.target, .int .i64 a.first, .int .i64 a.breaks, .slice A a.entries.length c, .bool a.ended] 24)).alloc (.cells #[.int .i64 b.target, .int .i64 b.first, .int .i64 b.breaks, .slice A' b.entries.length c', .bool b.ended] 24)) w5 := Ext.trans hE4 hw5)))
        have hI1' := hI1.ext keeps_int hw5
        have hbl1 : (bnF a.breaks a.entries).length ≤ 1000 := by rw [bnF_len]; exact f5
        have hbl2 : (bnF b.breaks b.entries).length ≤ 1000 := by rw [bnF_len]; exact p5
        clear hI1 hw4 hw5 hE1 hE4 hA3
        obtain ⟨⟨t0, t1, t2, t3, t4⟩, ⟨s0, s1, s2, s3, s4⟩⟩ := two_box hE5
        go_wp2_with fail
        clear t0 t1 t2 t3 t4 s0 s1 s2 s3 s4
        go_loopw [9] (fun sn wr => ∃ (k i : Nat), sn = .int .i64 (b.first + k) ∧ (k = 0 ∨ i ≤ a.entries.length) ∧ k ≤ 1000 ∧ Ext w5 wr ∧ Hid (i = k0 + k) ∧ Hid (cmpG (a.entries.drop i) ((bnF a.breaks a.entries).drop i) (b.entries.drop k) ((bnF b.breaks b.entries).drop k) = cmpG (a.entries.drop k0) ((bnF a.breaks a.entries).drop k0) b.entries (bnF b.breaks b.entries))) (fun sn wr => (a.first + a.entries.length - intOf sn).toNat)
        case atStart => exact ⟨0, k0, by simp, .inl rfl, by omega, Ext.same _, rfl, rfl⟩
        case round =>
          obtain ⟨k, i, rfl, hki, hk1, hE, hi, hv⟩ := hrel
          have hEE := Ext.trans hE5 hE
          obtain ⟨⟨t0, t1, t2, t3, t4⟩, ⟨s0, s1, s2, s3, s4⟩⟩ := two_box hEE
          by_cases hlt : b.first + k < a.first + a.entries.length
          · have hia : i < a.entries.length := by have h1 := hi.out; have h2 := HK0.out; omega
            have hkb : k < b.entries.length := by omega
            have hia2 : i < (bnF a.breaks a.entries).length := by rw [bnF_len]; exact hia
            have hkb2 : k < (bnF b.breaks b.entries).length := by rw [bnF_len]; exact hkb
            have hst := Lib.hid (cmpG_step hia hia2 hkb hkb2)
            obtain ⟨ba, oa, X, cx, rfl, hin, c0, c1', c2', c3, c4, c5, c6, g1, g2, g3, g4, g5, g6, g7, g8⟩ := ent_at (hA2.ext keeps_ent hEE) hia
            obtain ⟨bb, ob, X', cx', rfl, hin2, d0, d1, d2, d3, d4, d5, d6, k1, k2, k3, k4, k5, k6, k7, k8⟩ := ent_at (hB2.ext keeps_ent hEE) hkb
            obtain ⟨b1, o1, rfl, hin3, e1, _⟩ := int_at (hI1'.ext keeps_int hE) hia2
            obtain ⟨b2, o2, rfl, hin4, e2, _⟩ := int_at (hI2.ext keeps_int hE) hkb2
            have z1 : IntKind.i64.wrap (b.first + (k : Int) - a.first) = (i : Int) := by rw [IntWalk.i64_in _ ⟨by omega, by omega⟩]; have h1 := hi.out; have h2 := HK0.out; omega
            have z2 : IntKind.i64.wrap (b.first + (k : Int) - b.first) = (k : Int) := by rw [IntWalk.i64_in _ ⟨by omega, by omega⟩]; omega
            have z3 : IntKind.i64.wrap (k : Int) = (k : Int) := IntWalk.i64_in _ ⟨by omega, by omega⟩
            have i1 : (i : Int) < (a.entries.length : Int) := by omega
            have i2 : (k : Int) < (b.entries.length : Int) := by omega
            have i3 : (i : Int) < ((bnF a.breaks a.entries).length : Int) := by omega
            have i4 : (k : Int) < ((bnF b.breaks b.entries).length : Int) := by omega
            go_wp2
            go_quiet (fail)
            clear z1 z2 z3
            rename_i nq
            have hEq : Ext w5 (wr.drewN nq) := hE.drewN nq
            obtain ⟨⟨t0', t1', t2', t3', t4'⟩, ⟨s0', s1', s2', s3', s4'⟩⟩ := two_box (Ext.trans hE5 hEq)
            have c0q : (wr.drewN nq).cell? ⟨ba, oa + i * 7, none⟩ = some (.string a.entries[i].uri) := c0
            have c1q : (wr.drewN nq).cell? ⟨ba, oa + i * 7 + 1, none⟩ = some (.int .i64 a.entries[i].milli) := c1'
            have c2q : (wr.drewN nq).cell? ⟨ba, oa + i * 7 + 2, none⟩ = some (.bool a.entries[i].brk) := c2'
            have c3q : (wr.drewN nq).cell? ⟨ba, oa + i * 7 + 3, none⟩ = some (.int .i64 a.entries[i].date) := c3
            have c4q : (wr.drewN nq).cell? ⟨ba, oa + i * 7 + 4, none⟩ = some (.string a.entries[i].key) := c4
            have c5q : (wr.drewN nq).cell? ⟨ba, oa + i * 7 + 5, none⟩ = some (.bool a.entries[i].gap) := c5
            have c6q : (wr.drewN nq).cell? ⟨ba, oa + i * 7 + 6, none⟩ = some (.slice X a.entries[i].extra.length cx) := c6
            have d0q : (wr.drewN nq).cell? ⟨bb, ob + k * 7, none⟩ = some (.string b.entries[k].uri) := d0
            have d1q : (wr.drewN nq).cell? ⟨bb, ob + k * 7 + 1, none⟩ = some (.int .i64 b.entries[k].milli) := d1
            have d2q : (wr.drewN nq).cell? ⟨bb, ob + k * 7 + 2, none⟩ = some (.bool b.entries[k].brk) := d2
            have d3q : (wr.drewN nq).cell? ⟨bb, ob + k * 7 + 3, none⟩ = some (.int .i64 b.entries[k].date) := d3
            have d4q : (wr.drewN nq).cell? ⟨bb, ob + k * 7 + 4, none⟩ = some (.string b.entries[k].key) := d4
            have d5q : (wr.drewN nq).cell? ⟨bb, ob + k * 7 + 5, none⟩ = some (.bool b.entries[k].gap) := d5
            have d6q : (wr.drewN nq).cell? ⟨bb, ob + k * 7 + 6, none⟩ = some (.slice X' b.entries[k].extra.length cx') := d6
            have g8q : SlR 1 strR (wr.drewN nq) (In (wr.drewN nq)) a.entries[i].extra X := g8
            have k8q : SlR 1 strR (wr.drewN nq) (In (wr.drewN nq)) b.entries[k].extra X' := k8
            clear t0 t1 t2 t3 t4 s0 s1 s2 s3 s4 c0 c1' c2' c3 c4 c5 c6 d0 d1 d2 d3 d4 d5 d6 g8 k8 hE hEE e1 e2 hin hin2 hin3 hin4
            generalize wr.drewN nq = W at t0' t1' t2' t3' t4' s0' s1' s2' s3' s4' c0q c1q c2q c3q c4q c5q c6q d0q d1q d2q d3q d4q d5q d6q g8q k8q hEq ⊢
            go_wp2_with fail
            go_still_tail 10, (by kernel_rfl)
            change wpList _ _ _ _ _ W.drew
            go_wp2_with fail
            refine (sameEntry_any a.entries[i] b.entries[k] X X' cx cx' W.drew (by omega) g8q k8q).mono ?_
            rintro r w6 ⟨rfl, hw6⟩
            have hE6 := Ext.trans hEq (Ext.trans (Ext.one _) hw6)
            clear t0' t1' t2' t3' t4' s0' s1' s2' s3' s4' c0q c1q c2q c3q c4q c5q c6q d0q d1q d2q d3q d4q d5q d6q g8q k8q hEq hw6
            obtain ⟨b1', o1', hbo, hin3, e1, _⟩ := int_at (hI1'.ext keeps_int hE6) hia2
            obtain ⟨rfl, rfl⟩ : b1 = b1' ∧ o1 = o1' := by injection hbo with h; injection h with h1 h2; exact ⟨h1, h2⟩
            obtain ⟨b2', o2', hbo2, hin4, e2, _⟩ := int_at (hI2.ext keeps_int hE6) hkb2
            obtain ⟨rfl, rfl⟩ : b2 = b2' ∧ o2 = o2' := by injection hbo2 with h; injection h with h1 h2; exact ⟨h1, h2⟩
            clear hbo hbo2
            cases he : eqE a.entries[i] b.entries[k]
            · have HC : Hid (cmpG (a.entries.drop k0) ((bnF a.breaks a.entries).drop k0) b.entries (bnF b.breaks b.entries) = 12) := by have h := hv.out; rw [hst.out, if_neg (by rw [he]; simp)] at h; exact h.symm
              have HR : Hid (followsIn a b = 12) := HF.out.trans (by rw [HC.out, if_neg (by decide)])
              go_wp2
              go_ret
              exact ⟨ret_int HR.out.symm, Ext.trans hW2 (Ext.trans hE5 hE6)⟩
            · by_cases hnm : (bnF a.breaks a.entries)[i] = (bnF b.breaks b.entries)[k]
              · have hnb : ((bnF a.breaks a.entries)[i] != (bnF b.breaks b.entries)[k]) = false := by simpa using hnm
                have HV3 : Hid (cmpG (a.entries.drop (i + 1)) ((bnF a.breaks a.entries).drop (i + 1)) (b.entries.drop (k + 1)) ((bnF b.breaks b.entries).drop (k + 1)) = cmpG (a.entries.drop k0) ((bnF a.breaks a.entries).drop k0) b.entries (bnF b.breaks b.entries)) := by have h := hv.out; rw [hst.out, if_pos he, if_pos hnm] at h; exact h
                clear hnm
                go_wp2
                go_quiet (fail)
                go_wp2
                go_roundw
                case rel => exact ⟨k + 1, i + 1, by congr 1; omega, .inr (by omega), by omega, hE6.drewN _, Lib.hid (by have := hi.out; omega), HV3⟩
                case measure => simp [intOf]; omega
              · have hnb : ((bnF a.breaks a.entries)[i] != (bnF b.breaks b.entries)[k]) = true := by simpa using hnm
                have HC : Hid (cmpG (a.entries.drop k0) ((bnF a.breaks a.entries).drop k0) b.entries (bnF b.breaks b.entries) = 3) := by have h := hv.out; rw [hst.out, if_pos he, if_neg hnm] at h; exact h.symm
                have HR : Hid (followsIn a b = 3) := HF.out.trans (by rw [HC.out, if_neg (by decide)])
                clear hnm
                go_wp2
                go_quiet (fail)
                go_wp2
                go_ret
                exact ⟨ret_int HR.out.symm, (Ext.trans hW2 (Ext.trans hE5 hE6)).drewN _⟩
          · have HC : Hid (cmpG (a.entries.drop k0) ((bnF a.breaks a.entries).drop k0) b.entries (bnF b.breaks b.entries) = 0) := hv.out.symm.trans (cmpG_end (List.drop_eq_nil_of_le (by have h1 := hi.out; have h2 := HK0.out; omega)))
            have HR : Hid (followsIn a b = if a.first + a.entries.length ≤ b.first ∧ b.breaks < lastN a then 8 else 0) := HF.out.trans (by rw [HC.out, if_pos rfl])
            by_cases hn0 : a.entries.length = 0
            · have hl0 : ¬ (0 < (bnF a.breaks a.entries).length) := by rw [bnF_len]; omega
              have hl1 := Lib.hid (lastN_nil hn0)
              by_cases hw1 : a.first + a.entries.length ≤ b.first
              · by_cases hbb : b.breaks < a.breaks
                · have HS : Hid (followsIn a b = 8) := HR.out.trans (by rw [if_pos ⟨hw1, by rw [hl1.out]; exact hbb⟩])
                  go_wp2
                  go_ret
                  exact ⟨ret_int HS.out.symm, Ext.trans hW2 hEE⟩
                · have HS : Hid (followsIn a b = 0) := HR.out.trans (by rw [if_neg (by rintro ⟨_, h⟩; rw [hl1.out] at h; omega)])
                  go_wp2
                  go_ret
                  exact ⟨ret_int HS.out.symm, Ext.trans hW2 hEE⟩
              · omega
            · have hl0 : 0 < (bnF a.breaks a.entries).length := by rw [bnF_len]; omega
              have hll : a.entries.length - 1 < (bnF a.breaks a.entries).length := by rw [bnF_len]; omega
              have hlen2 : Hid ((bnF a.breaks a.entries).length = a.entries.length) := bnF_len _ _
              have hv1 : Hid ((bnF a.breaks a.entries)[a.entries.length - 1] = lastN a) := by have h := lastN_of (a := a) (by omega); rw [List.getElem?_eq_getElem hll] at h; injection h
              obtain ⟨b1, o1, rfl, hin3, e1, _⟩ := int_at (hI1'.ext keeps_int hE) hll
              rw [hv1.out] at e1
              have x0 : (((bnF a.breaks a.entries).length : Int) - 1).toNat = a.entries.length - 1 := by have := hlen2.out; omega
              have x1 : (0 : Int) ≤ ((bnF a.breaks a.entries).length : Int) - 1 := by omega
              by_cases hw1 : a.first + a.entries.length ≤ b.first
              · by_cases hbb : b.breaks < lastN a
                · have HS : Hid (followsIn a b = 8) := HR.out.trans (by rw [if_pos ⟨hw1, hbb⟩])
                  go_wp2
                  go_ret
                  exact ⟨ret_int HS.out.symm, Ext.trans hW2 hEE⟩
                · have HS : Hid (followsIn a b = 0) := HR.out.trans (by rw [if_neg (by rintro ⟨_, h⟩; omega)])
                  go_wp2
                  go_ret
                  exact ⟨ret_int HS.out.symm, Ext.trans hW2 hEE⟩
              · have HS : Hid (followsIn a b = 0) := HR.out.trans (by rw [if_neg (by rintro ⟨h, _⟩; omega)])
                go_wp2
                go_ret
                exact ⟨ret_int HS.out.symm, Ext.trans hW2 hEE⟩
    · rw [hen] at t4
      cases hsl : eqLst a b
      · have HF := Lib.hid (follows_1 HT.out hen hsl)
        have hcall := sameList_any a b A A' c c' w1 (by omega) (hA2.ext keeps_ent hE1) (hB2.ext keeps_ent hE1)
        rw [hen] at hcall
        have HCALL := Lib.hid hcall
        clear hen hcall
        go_wp2_with fail
        refine HCALL.out.mono ?_
        rintro r w2 ⟨rfl, hw2⟩
        rw [hsl]
        go_wp2
        go_ret
        exact ⟨ret_int HF.out.symm, Ext.trans hW2 (Ext.trans hE1 hw2)⟩
      have HEN : Hid (a.ended = false ∨ eqLst a b = true) := .inr hsl
      have hcall := sameList_any a b A A' c c' w1 (by omega) (hA2.ext keeps_ent hE1) (hB2.ext keeps_ent hE1)
      rw [hen] at hcall
      have HCALL := Lib.hid hcall
      clear hen hcall
      go_wp2_with fail
      refine HCALL.out.mono ?_
      rintro r w2 ⟨rfl, hw2⟩
      rw [hsl]
      replace hE1 := Ext.trans hE1 hw2
      clear t0 t1 t2 t3 t4 s0 s1 s2 s3 s4 hw2 hsl
      obtain ⟨⟨t0, t1, t2, t3, t4⟩, ⟨s0, s1, s2, s3, s4⟩⟩ := two_box hE1
      by_cases hr : b.first < a.first ∨ b.first + b.entries.length < a.first + a.entries.length
      · have HF := Lib.hid (follows_2 HT.out HEN.out hr)
        by_cases hr1 : b.first < a.first
        all_goals
          go_wp2_with fail
          go_ret
          exact ⟨ret_int HF.out.symm, Ext.trans hW2 hE1⟩
      · obtain ⟨k0, hk0⟩ : ∃ k0 : Nat, b.first = a.first + k0 := ⟨(b.first - a.first).toNat, by omega⟩
        have HF := Lib.hid (follows_3 HT.out HEN.out hr hk0)
        have r1 : a.first ≤ b.first := by omega
        have r2 : a.first + a.entries.length ≤ b.first + b.entries.length := by omega
        have HK0 := Lib.hid hk0
        clear hk0 hr
        go_wp2_with fail
        have hA3 := hA2.ext keeps_ent hE1
        have tok2 : True := trivial
        clear t0 t1 t2 t3 t4 s0 s1 s2 s3 s4
        go_region_held3 (fun wx => (wx.cell? ⟨w.heap.size, 0, none⟩ = some (.int .i64 a.target) ∧ wx.cell? ⟨w.heap.size, 1, none⟩ = some (.int .i64 a.first) ∧ wx.cell? ⟨w.heap.size, 2, none⟩ = some (.int .i64 a.breaks) ∧ wx.cell? ⟨w.heap.size, 3, none⟩ = some (.slice A a.entries.length c) ∧ wx.cell? ⟨w.heap.size, 4, none⟩ = some (.bool a.ended)) ∧ (wx.cell? ⟨w.heap.size + 1, 0, none⟩ = some (.int .i64 b.target) ∧ wx.cell? ⟨w.heap.size + 1, 1, none⟩ = some (.int .i64 b.first) ∧ wx.cell? ⟨w.heap.size + 1, 2, none⟩ = some (.int .i64 b.breaks) ∧ wx.cell? ⟨w.heap.size + 1, 3, none⟩ = some (.slice A' b.entries.length c') ∧ wx.cell? ⟨w.heap.size + 1, 4, none⟩ = some (.bool b.ended))) (first | exact two_box hE1 | exact two_box (Ext.trans hE1 (Ext.one _)) | exact two_box hE4 | exact two_box hE5)
          (first
            | (go_at_call 52; have _t := tok2; refine (breakNumbers_any a A c _ f5 f3 f4 ?_).mono ?_; (exact hA3); (rintro r w4 ⟨v1, rfl, ⟨A1, c1, rfl, l1, l2, l3, hI1⟩, hw4⟩; have hE4 : Ext ((w.alloc (.cells #[.int .i64 a.target, .int .i64 a.first, .int .i64 a.breaks, .slice A a.entries.length c, .bool a.ended] 24)).alloc (.cells #[.int .i64 b.target, .int .i64 b.first, .int .i64 b.breaks, .slice A' b.entries.length c', .bool b.ended] 24)) w4 := Ext.trans (Ext.trans hE1 (Ext.one _)) hw4; clear tok2))
            | (go_at_call 52; refine (breakNumbers_any b A' c' _ p5 p3 p4 ?_).mono ?_; (exact hB2.ext keeps_ent hE4); (rintro r w5 ⟨v2, rfl, ⟨A2, c2, rfl, l4, l5, l6, hI2⟩, hw5⟩; have hE5 : Ext ((w.alloc (.cells #[.int .i64 a.target, .int .i64 a.first, .int .i64 a.breaks, .slice A a.entries.length c, .bool a.ended] 24)).alloc (.cells #[.int .i64 b.target, .int .i64 b.first, .int .i64 b.breaks, .slice A' b.entries.length c', .bool b.ended] 24)) w5 := Ext.trans hE4 hw5)))
        have hI1' := hI1.ext keeps_int hw5
        have hbl1 : (bnF a.breaks a.entries).length ≤ 1000 := by rw [bnF_len]; exact f5
        have hbl2 : (bnF b.breaks b.entries).length ≤ 1000 := by rw [bnF_len]; exact p5
        clear hI1 hw4 hw5 hE1 hE4 hA3
        obtain ⟨⟨t0, t1, t2, t3, t4⟩, ⟨s0, s1, s2, s3, s4⟩⟩ := two_box hE5
        go_wp2_with fail
        clear t0 t1 t2 t3 t4 s0 s1 s2 s3 s4
        go_loopw [9] (fun sn wr => ∃ (k i : Nat), sn = .int .i64 (b.first + k) ∧ (k = 0 ∨ i ≤ a.entries.length) ∧ k ≤ 1000 ∧ Ext w5 wr ∧ Hid (i = k0 + k) ∧ Hid (cmpG (a.entries.drop i) ((bnF a.breaks a.entries).drop i) (b.entries.drop k) ((bnF b.breaks b.entries).drop k) = cmpG (a.entries.drop k0) ((bnF a.breaks a.entries).drop k0) b.entries (bnF b.breaks b.entries))) (fun sn wr => (a.first + a.entries.length - intOf sn).toNat)
        case atStart => exact ⟨0, k0, by simp, .inl rfl, by omega, Ext.same _, rfl, rfl⟩
        case round =>
          obtain ⟨k, i, rfl, hki, hk1, hE, hi, hv⟩ := hrel
          have hEE := Ext.trans hE5 hE
          obtain ⟨⟨t0, t1, t2, t3, t4⟩, ⟨s0, s1, s2, s3, s4⟩⟩ := two_box hEE
          by_cases hlt : b.first + k < a.first + a.entries.length
          · have hia : i < a.entries.length := by have h1 := hi.out; have h2 := HK0.out; omega
            have hkb : k < b.entries.length := by omega
            have hia2 : i < (bnF a.breaks a.entries).length := by rw [bnF_len]; exact hia
            have hkb2 : k < (bnF b.breaks b.entries).length := by rw [bnF_len]; exact hkb
            have hst := Lib.hid (cmpG_step hia hia2 hkb hkb2)
            obtain ⟨ba, oa, X, cx, rfl, hin, c0, c1', c2', c3, c4, c5, c6, g1, g2, g3, g4, g5, g6, g7, g8⟩ := ent_at (hA2.ext keeps_ent hEE) hia
            obtain ⟨bb, ob, X', cx', rfl, hin2, d0, d1, d2, d3, d4, d5, d6, k1, k2, k3, k4, k5, k6, k7, k8⟩ := ent_at (hB2.ext keeps_ent hEE) hkb
            obtain ⟨b1, o1, rfl, hin3, e1, _⟩ := int_at (hI1'.ext keeps_int hE) hia2
            obtain ⟨b2, o2, rfl, hin4, e2, _⟩ := int_at (hI2.ext keeps_int hE) hkb2
            have z1 : IntKind.i64.wrap (b.first + (k : Int) - a.first) = (i : Int) := by rw [IntWalk.i64_in _ ⟨by omega, by omega⟩]; have h1 := hi.out; have h2 := HK0.out; omega
            have z2 : IntKind.i64.wrap (b.first + (k : Int) - b.first) = (k : Int) := by rw [IntWalk.i64_in _ ⟨by omega, by omega⟩]; omega
            have z3 : IntKind.i64.wrap (k : Int) = (k : Int) := IntWalk.i64_in _ ⟨by omega, by omega⟩
            have i1 : (i : Int) < (a.entries.length : Int) := by omega
            have i2 : (k : Int) < (b.entries.length : Int) := by omega
            have i3 : (i : Int) < ((bnF a.breaks a.entries).length : Int) := by omega
            have i4 : (k : Int) < ((bnF b.breaks b.entries).length : Int) := by omega
            go_wp2
            go_quiet (fail)
            clear z1 z2 z3
            rename_i nq
            have hEq : Ext w5 (wr.drewN nq) := hE.drewN nq
            obtain ⟨⟨t0', t1', t2', t3', t4'⟩, ⟨s0', s1', s2', s3', s4'⟩⟩ := two_box (Ext.trans hE5 hEq)
            have c0q : (wr.drewN nq).cell? ⟨ba, oa + i * 7, none⟩ = some (.string a.entries[i].uri) := c0
            have c1q : (wr.drewN nq).cell? ⟨ba, oa + i * 7 + 1, none⟩ = some (.int .i64 a.entries[i].milli) := c1'
            have c2q : (wr.drewN nq).cell? ⟨ba, oa + i * 7 + 2, none⟩ = some (.bool a.entries[i].brk) := c2'
            have c3q : (wr.drewN nq).cell? ⟨ba, oa + i * 7 + 3, none⟩ = some (.int .i64 a.entries[i].date) := c3
            have c4q : (wr.drewN nq).cell? ⟨ba, oa + i * 7 + 4, none⟩ = some (.string a.entries[i].key) := c4
            have c5q : (wr.drewN nq).cell? ⟨ba, oa + i * 7 + 5, none⟩ = some (.bool a.entries[i].gap) := c5
            have c6q : (wr.drewN nq).cell? ⟨ba, oa + i * 7 + 6, none⟩ = some (.slice X a.entries[i].extra.length cx) := c6
            have d0q : (wr.drewN nq).cell? ⟨bb, ob + k * 7, none⟩ = some (.string b.entries[k].uri) := d0
            have d1q : (wr.drewN nq).cell? ⟨bb, ob + k * 7 + 1, none⟩ = some (.int .i64 b.entries[k].milli) := d1
            have d2q : (wr.drewN nq).cell? ⟨bb, ob + k * 7 + 2, none⟩ = some (.bool b.entries[k].brk) := d2
            have d3q : (wr.drewN nq).cell? ⟨bb, ob + k * 7 + 3, none⟩ = some (.int .i64 b.entries[k].date) := d3
            have d4q : (wr.drewN nq).cell? ⟨bb, ob + k * 7 + 4, none⟩ = some (.string b.entries[k].key) := d4
            have d5q : (wr.drewN nq).cell? ⟨bb, ob + k * 7 + 5, none⟩ = some (.bool b.entries[k].gap) := d5
            have d6q : (wr.drewN nq).cell? ⟨bb, ob + k * 7 + 6, none⟩ = some (.slice X' b.entries[k].extra.length cx') := d6
            have g8q : SlR 1 strR (wr.drewN nq) (In (wr.drewN nq)) a.entries[i].extra X := g8
            have k8q : SlR 1 strR (wr.drewN nq) (In (wr.drewN nq)) b.entries[k].extra X' := k8
            clear t0 t1 t2 t3 t4 s0 s1 s2 s3 s4 c0 c1' c2' c3 c4 c5 c6 d0 d1 d2 d3 d4 d5 d6 g8 k8 hE hEE e1 e2 hin hin2 hin3 hin4
            generalize wr.drewN nq = W at t0' t1' t2' t3' t4' s0' s1' s2' s3' s4' c0q c1q c2q c3q c4q c5q c6q d0q d1q d2q d3q d4q d5q d6q g8q k8q hEq ⊢
            go_wp2_with fail
            go_still_tail 10, (by kernel_rfl)
            change wpList _ _ _ _ _ W.drew
            go_wp2_with fail
            refine (sameEntry_any a.entries[i] b.entries[k] X X' cx cx' W.drew (by omega) g8q k8q).mono ?_
            rintro r w6 ⟨rfl, hw6⟩
            have hE6 := Ext.trans hEq (Ext.trans (Ext.one _) hw6)
            clear t0' t1' t2' t3' t4' s0' s1' s2' s3' s4' c0q c1q c2q c3q c4q c5q c6q d0q d1q d2q d3q d4q d5q d6q g8q k8q hEq hw6
            obtain ⟨b1', o1', hbo, hin3, e1, _⟩ := int_at (hI1'.ext keeps_int hE6) hia2
            obtain ⟨rfl, rfl⟩ : b1 = b1' ∧ o1 = o1' := by injection hbo with h; injection h with h1 h2; exact ⟨h1, h2⟩
            obtain ⟨b2', o2', hbo2, hin4, e2, _⟩ := int_at (hI2.ext keeps_int hE6) hkb2
            obtain ⟨rfl, rfl⟩ : b2 = b2' ∧ o2 = o2' := by injection hbo2 with h; injection h with h1 h2; exact ⟨h1, h2⟩
            clear hbo hbo2
            cases he : eqE a.entries[i] b.entries[k]
            · have HC : Hid (cmpG (a.entries.drop k0) ((bnF a.breaks a.entries).drop k0) b.entries (bnF b.breaks b.entries) = 12) := by have h := hv.out; rw [hst.out, if_neg (by rw [he]; simp)] at h; exact h.symm
              have HR : Hid (followsIn a b = 12) := HF.out.trans (by rw [HC.out, if_neg (by decide)])
              go_wp2
              go_ret
              exact ⟨ret_int HR.out.symm, Ext.trans hW2 (Ext.trans hE5 hE6)⟩
            · by_cases hnm : (bnF a.breaks a.entries)[i] = (bnF b.breaks b.entries)[k]
              · have hnb : ((bnF a.breaks a.entries)[i] != (bnF b.breaks b.entries)[k]) = false := by simpa using hnm
                have HV3 : Hid (cmpG (a.entries.drop (i + 1)) ((bnF a.breaks a.entries).drop (i + 1)) (b.entries.drop (k + 1)) ((bnF b.breaks b.entries).drop (k + 1)) = cmpG (a.entries.drop k0) ((bnF a.breaks a.entries).drop k0) b.entries (bnF b.breaks b.entries)) := by have h := hv.out; rw [hst.out, if_pos he, if_pos hnm] at h; exact h
                clear hnm
                go_wp2
                go_quiet (fail)
                go_wp2
                go_roundw
                case rel => exact ⟨k + 1, i + 1, by congr 1; omega, .inr (by omega), by omega, hE6.drewN _, Lib.hid (by have := hi.out; omega), HV3⟩
                case measure => simp [intOf]; omega
              · have hnb : ((bnF a.breaks a.entries)[i] != (bnF b.breaks b.entries)[k]) = true := by simpa using hnm
                have HC : Hid (cmpG (a.entries.drop k0) ((bnF a.breaks a.entries).drop k0) b.entries (bnF b.breaks b.entries) = 3) := by have h := hv.out; rw [hst.out, if_pos he, if_neg hnm] at h; exact h.symm
                have HR : Hid (followsIn a b = 3) := HF.out.trans (by rw [HC.out, if_neg (by decide)])
                clear hnm
                go_wp2
                go_quiet (fail)
                go_wp2
                go_ret
                exact ⟨ret_int HR.out.symm, (Ext.trans hW2 (Ext.trans hE5 hE6)).drewN _⟩
          · have HC : Hid (cmpG (a.entries.drop k0) ((bnF a.breaks a.entries).drop k0) b.entries (bnF b.breaks b.entries) = 0) := hv.out.symm.trans (cmpG_end (List.drop_eq_nil_of_le (by have h1 := hi.out; have h2 := HK0.out; omega)))
            have HR : Hid (followsIn a b = if a.first + a.entries.length ≤ b.first ∧ b.breaks < lastN a then 8 else 0) := HF.out.trans (by rw [HC.out, if_pos rfl])
            by_cases hn0 : a.entries.length = 0
            · have hl0 : ¬ (0 < (bnF a.breaks a.entries).length) := by rw [bnF_len]; omega
              have hl1 := Lib.hid (lastN_nil hn0)
              by_cases hw1 : a.first + a.entries.length ≤ b.first
              · by_cases hbb : b.breaks < a.breaks
                · have HS : Hid (followsIn a b = 8) := HR.out.trans (by rw [if_pos ⟨hw1, by rw [hl1.out]; exact hbb⟩])
                  go_wp2
                  go_ret
                  exact ⟨ret_int HS.out.symm, Ext.trans hW2 hEE⟩
                · have HS : Hid (followsIn a b = 0) := HR.out.trans (by rw [if_neg (by rintro ⟨_, h⟩; rw [hl1.out] at h; omega)])
                  go_wp2
                  go_ret
                  exact ⟨ret_int HS.out.symm, Ext.trans hW2 hEE⟩
              · omega
            · have hl0 : 0 < (bnF a.breaks a.entries).length := by rw [bnF_len]; omega
              have hll : a.entries.length - 1 < (bnF a.breaks a.entries).length := by rw [bnF_len]; omega
              have hlen2 : Hid ((bnF a.breaks a.entries).length = a.entries.length) := bnF_len _ _
              have hv1 : Hid ((bnF a.breaks a.entries)[a.entries.length - 1] = lastN a) := by have h := lastN_of (a := a) (by omega); rw [List.getElem?_eq_getElem hll] at h; injection h
              obtain ⟨b1, o1, rfl, hin3, e1, _⟩ := int_at (hI1'.ext keeps_int hE) hll
              rw [hv1.out] at e1
              have x0 : (((bnF a.breaks a.entries).length : Int) - 1).toNat = a.entries.length - 1 := by have := hlen2.out; omega
              have x1 : (0 : Int) ≤ ((bnF a.breaks a.entries).length : Int) - 1 := by omega
              by_cases hw1 : a.first + a.entries.length ≤ b.first
              · by_cases hbb : b.breaks < lastN a
                · have HS : Hid (followsIn a b = 8) := HR.out.trans (by rw [if_pos ⟨hw1, hbb⟩])
                  go_wp2
                  go_ret
                  exact ⟨ret_int HS.out.symm, Ext.trans hW2 hEE⟩
                · have HS : Hid (followsIn a b = 0) := HR.out.trans (by rw [if_neg (by rintro ⟨_, h⟩; omega)])
                  go_wp2
                  go_ret
                  exact ⟨ret_int HS.out.symm, Ext.trans hW2 hEE⟩
              · have HS : Hid (followsIn a b = 0) := HR.out.trans (by rw [if_neg (by rintro ⟨h, _⟩; omega)])
                go_wp2
                go_ret
                exact ⟨ret_int HS.out.symm, Ext.trans hW2 hEE⟩
  · have hTb : (a.target != b.target) = true := by simpa using hT
    have HF := Lib.hid (follows_0 hT)
    clear hT
    go_enter Try.func50, Try.ntmps50
    go_wp2
    go_quiet (fail)
    go_wp2_with fail
    go_ret
    exact ⟨ret_int HF.out.symm, hW2.drewN _⟩
end Go.Proofs.Ytkfhfjcgegimbaa
