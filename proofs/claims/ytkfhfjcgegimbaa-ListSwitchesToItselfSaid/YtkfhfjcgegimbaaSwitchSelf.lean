/- What is proved here: the law on Switch from a list to itself returns true (chapter 6). -/
import Derived.Test.YtkfhfjcgegimbaaSwitchLaws
namespace Go.Proofs.Ytkfhfjcgegimbaa
open Go.RowKit
set_option linter.unusedVariables false

set_option maxRecDepth 100000 in
set_option maxHeartbeats 3200000 in
theorem listSwitchSelf_walk (l : Lst) (m : Int) (A : Option Addr) (c : Nat) (w : World) (hm : I64 m) (hl : l.entries.length ≤ 9223372036854775807) (hA : SlR 7 entR w (In w) l.entries A) :
    Calls Try.prog 7 #[.agg #[.int .i64 l.target, .int .i64 l.first, .int .i64 l.breaks, .slice A l.entries.length c, .bool l.ended], .int .i64 m] w fun r w' => r = .returned (.bool true) ∧ Ext w w' := by
  go_enter Try.func7, Try.ntmps7
  go_wp2_with fail
  refine (switch_any l l m A A c c _ hm hl hl (hA.ext keeps_ent (Ext.new _ _)) (hA.ext keeps_ent (Ext.new _ _))).mono ?_
  rintro r w1 ⟨rfl, hw⟩
  obtain ⟨t0, t1, t2, t3, t4, hs1⟩ := lst_box (ext_box hw)
  by_cases h0 : (switchF l l m).2 = 0
  · obtain ⟨hc0, i, rfl, hi, hcase⟩ := switch_self l m h0
    obtain ⟨f1, f2, f3, f4, f5⟩ := head_of hc0
    rw [h0]
    have HFF : Hid (datesFF l = datesF l.entries) := by unfold Hid datesFF; rw [if_pos hc0]
    clear hc0 h0
    by_cases hn : (switchF l l (l.first + i)).1 = l.first + i
    · rw [hn]
      clear hcase hn
      go_wp2_with fail
      refine (awake_any _).mono ?_
      rintro r w5 ⟨rfl, hw5⟩
      go_wp2
      go_ret
      exact ⟨rfl, Ext.trans (Ext.trans (Ext.new _ _) hw) hw5⟩
    · rcases hcase with h | ⟨k, hk, hkn, hd0, x, y, hx, hy, hx0, hy0, hyx⟩
      · exact absurd h hn
      · have hki : ¬ k = i := by intro h; apply hn; rw [hk, h]
        rw [hk]
        clear hn hk
        have hnb : (l.first + (k : Int) == l.first + (i : Int)) = false := by simp; omega
        go_wp2_with fail
        refine (Dates_any l A c _ hl (hA.ext keeps_ent (Ext.trans (Ext.new _ _) hw))).mono ?_
        rintro r w2 ⟨v, rfl, hI, hw2⟩
        rw [HFF.out] at hI ⊢
        rw [hd0]
        obtain ⟨A3, c3, rfl, l7, l8, l9, hS⟩ := hI
        have hlen := datesF_len hd0
        clear hd0 t0 t1 t2 t3 t4 hs1
        obtain ⟨t0, t1, t2, t3, t4, hs1⟩ := lst_box (ext_box (Ext.trans hw hw2))
        have hxi : i < (datesF l.entries).1.length := by omega
        have hyk : k < (datesF l.entries).1.length := by omega
        obtain ⟨b3, o3, rfl, hin3, e3, _⟩ := int_at hS hxi
        obtain ⟨b4, o4, hbo, hin4, e4, _⟩ := int_at hS hyk
        obtain ⟨rfl, rfl⟩ : b3 = b4 ∧ o3 = o4 := by injection hbo with h; injection h with h1 h2; exact ⟨h1, h2⟩
        rw [(List.getElem?_eq_some_iff.1 hx).2] at e3
        rw [(List.getElem?_eq_some_iff.1 hy).2] at e4
        have HLEN := Lib.hid hlen
        clear hbo hx hy hlen
        have z1 : l.first + (i : Int) - l.first = i := by omega
        have z2 : l.first + (k : Int) - l.first = k := by omega
        have z3 : IntKind.i64.wrap (i : Int) = i := IntWalk.i64_in _ ⟨by omega, by omega⟩
        have z4 : IntKind.i64.wrap (k : Int) = k := IntWalk.i64_in _ ⟨by omega, by omega⟩
        go_wp2_with fail
        go_quiet (fail)
        clear z1 z2 z3 z4
        rename_i nq
        have e3' : (w2.drewN nq).cell? ⟨b3, o3 + i, none⟩ = some (.int .i64 x) := e3
        have e4' : (w2.drewN nq).cell? ⟨b3, o3 + k, none⟩ = some (.int .i64 y) := e4
        have hE : Ext w (w2.drewN nq) := (Ext.trans (Ext.trans (Ext.new _ _) hw) hw2).drewN nq
        generalize w2.drewN nq = W at e3' e4' hE ⊢
        clear e3 e4
        have y1 : (0 : Int) ≤ (k : Int) := by omega
        have y2 : (k : Int) < ((datesF l.entries).1.length : Int) := by omega
        have y3 : (i : Int) < ((datesF l.entries).1.length : Int) := by omega
        have y4 : ((k : Int) != (i : Int)) = true := by simp; omega
        go_wp2_with fail
        go_still_tail 43, (by kernel_rfl)
        change wpList _ _ _ _ _ W.drew
        go_wp2_with fail
        refine (awake_any _).mono ?_
        rintro r w5 ⟨rfl, hw5⟩
        go_wp2
        go_ret
        exact ⟨rfl, Ext.trans (Ext.trans hE (Ext.one _)) hw5⟩
  · have hz := switch_err l l m h0
    have hnb : ((switchF l l m).2 != 0) = true := by simpa using h0
    rw [hz]
    clear h0
    go_wp2_with fail
    refine (awake_any _).mono ?_
    rintro r w5 ⟨rfl, hw5⟩
    go_wp2
    go_ret
    exact ⟨rfl, Ext.trans (Ext.trans (Ext.new _ _) hw) hw5⟩
end Go.Proofs.Ytkfhfjcgegimbaa
