/- What is proved here: the laws on Switch return true (chapter 6). -/
import Derived.Test.YtkfhfjcgegimbaaSwitch5
namespace Go.Proofs.Ytkfhfjcgegimbaa
open Go.RowKit
set_option linter.unusedVariables false

set_option maxHeartbeats 1600000 in
theorem listSwitches_walk (a b : Lst) (m : Int) (A A' : Option Addr) (c c' : Nat) (w : World) (hm : I64 m) (hla : a.entries.length ≤ 9223372036854775807) (hlb : b.entries.length ≤ 9223372036854775807)
    (hA : SlR 7 entR w (In w) a.entries A) (hB : SlR 7 entR w (In w) b.entries A') :
    Calls Try.prog 6 #[.agg #[.int .i64 a.target, .int .i64 a.first, .int .i64 a.breaks, .slice A a.entries.length c, .bool a.ended], .agg #[.int .i64 b.target, .int .i64 b.first, .int .i64 b.breaks, .slice A' b.entries.length c', .bool b.ended], .int .i64 m] w fun r w' => r = .returned (.bool true) ∧ Ext w w' := by
  go_enter Try.func6, Try.ntmps6
  go_wp2_with fail
  refine (switch_any a b m A A' c c' _ hm hla hlb (hA.ext keeps_ent (Ext.trans (Ext.new _ _) (Ext.new _ _))) (hB.ext keeps_ent (Ext.trans (Ext.new _ _) (Ext.new _ _)))).mono ?_
  rintro r w1 ⟨rfl, hw⟩
  obtain ⟨⟨t0, t1, t2, t3, t4⟩, ⟨s0, s1, s2, s3, s4⟩⟩ := two_box hw
  go_wp2_with fail
  refine (refSwitch_any a b m A A' c c' _ hm hla hlb (hA.ext keeps_ent (Ext.trans (Ext.trans (Ext.new _ _) (Ext.new _ _)) hw)) (hB.ext keeps_ent (Ext.trans (Ext.trans (Ext.new _ _) (Ext.new _ _)) hw))).mono ?_
  rintro r w2 ⟨rfl, hw2⟩
  go_wp2_with fail
  refine (awake_any _).mono ?_
  rintro r w5 ⟨rfl, hw5⟩
  go_wp2
  go_ret
  exact ⟨rfl, Ext.trans (Ext.trans (Ext.trans (Ext.trans (Ext.new _ _) (Ext.new _ _)) hw) hw2) hw5⟩

/-- Dates. -/
def datesFF (l : Lst) : List Int × Int := if checkF l = 0 then datesF l.entries else ([], checkF l)

set_option maxHeartbeats 800000 in
theorem Dates_any (l : Lst) (A : Option Addr) (c : Nat) (w : World) (hl : l.entries.length ≤ 9223372036854775807) (hA : SlR 7 entR w (In w) l.entries A) :
    Calls Try.prog 27 #[.agg #[.int .i64 l.target, .int .i64 l.first, .int .i64 l.breaks, .slice A l.entries.length c, .bool l.ended]] w fun r w' => ∃ v, r = .returned (.tuple #[v, .int .i64 (datesFF l).2]) ∧ intsV w' (datesFF l).1 v ∧ Ext w w' := by
  by_cases h : checkF l = 0
  · have HF := Lib.hid (show datesFF l = datesF l.entries from by unfold datesFF; rw [if_pos h])
    have HG := Lib.hid (goodD_of h)
    have H := Lib.hid h
    clear h
    go_enter Try.func27, Try.ntmps27
    go_wp2_with fail
    refine (check_any l A c _ hl (hA.ext keeps_ent (Ext.new _ _))).mono ?_
    rintro r w1 ⟨rfl, hw⟩
    rw [H.out]
    obtain ⟨t0, t1, t2, t3, t4, hs1⟩ := lst_box (ext_box hw)
    go_wp2_with fail
    refine (dates_any l A c _ HG.out (hA.ext keeps_ent (Ext.trans (Ext.new _ _) hw))).mono ?_
    rintro r w2 ⟨v, rfl, hI, hw2⟩
    go_wp2
    go_ret2
    exact ⟨v, ret_vi (by rw [HF.out]), by rw [HF.out]; exact hI, Ext.trans (Ext.new _ _) (Ext.trans hw hw2)⟩
  · have HF := Lib.hid (show datesFF l = ([], checkF l) from by unfold datesFF; rw [if_neg h])
    have hne : (checkF l != 0) = true := by simpa using h
    clear h
    go_enter Try.func27, Try.ntmps27
    go_wp2_with fail
    refine (check_any l A c _ hl (hA.ext keeps_ent (Ext.new _ _))).mono ?_
    rintro r w1 ⟨rfl, hw⟩
    go_wp2
    go_ret2
    exact ⟨_, ret_vi (by rw [HF.out]), by rw [HF.out]; exact intsV_nil _, Ext.trans (Ext.new _ _) hw⟩

theorem swG_in : ∀ (ys : List Int) (x k : Int) (dt : Bool) (best : Int), (swG x k dt best ys).2 = best ∨ ∃ (j : Nat) (y : Int), ys[j]? = some y ∧ 0 ≤ y ∧ y ≤ x ∧ (swG x k dt best ys).2 = k + j
  | [], x, k, dt, best => .inl rfl
  | y :: r, x, k, dt, best => by
    unfold swG
    split
    · rename_i h
      rcases swG_in r x (k + 1) (dt || decide (0 ≤ y)) k with h1 | ⟨j, z, h1, h2, h3, h4⟩
      · exact .inr ⟨0, y, rfl, h.1, h.2, by rw [h1]; simp⟩
      · exact .inr ⟨j + 1, z, by simpa using h1, h2, h3, by rw [h4]; simp; omega⟩
    · rcases swG_in r x (k + 1) (dt || decide (0 ≤ y)) best with h1 | ⟨j, z, h1, h2, h3, h4⟩
      · exact .inl h1
      · exact .inr ⟨j + 1, z, by simpa using h1, h2, h3, by rw [h4]; simp; omega⟩
/-- The plain law: from a list to itself. -/
theorem switch_self (l : Lst) (m : Int) (h : (switchF l l m).2 = 0) : checkF l = 0 ∧ ∃ i : Nat, m = l.first + i ∧ i < l.entries.length ∧ ((switchF l l m).1 = m ∨
    ∃ k : Nat, (switchF l l m).1 = l.first + k ∧ k < l.entries.length ∧ (datesF l.entries).2 = 0 ∧ ∃ x y, (datesF l.entries).1[i]? = some x ∧ (datesF l.entries).1[k]? = some y ∧ 0 ≤ x ∧ 0 ≤ y ∧ y ≤ x) := by
  unfold switchF at h ⊢
  by_cases h0 : first2 (checkF l) (checkF l) = 0
  · rw [if_pos h0] at h ⊢
    refine ⟨(first2_zero h0).1, ?_⟩
    by_cases h1 : m < l.first ∨ l.first + l.entries.length ≤ m
    · rw [if_pos h1] at h; simp at h
    · rw [if_neg h1] at h ⊢
      obtain ⟨i, rfl⟩ : ∃ i : Nat, m = l.first + i := ⟨(m - l.first).toNat, by omega⟩
      rw [show (l.first + i - l.first).toNat = i from by omega] at h ⊢
      have hi : i < l.entries.length := by omega
      refine ⟨i, rfl, hi, ?_⟩
      unfold switchIn at h ⊢
      by_cases h2 : (stF l (ownN l i)).2 = 0
      · rw [if_pos h2] at h; simp at h
      · rw [if_neg h2] at h ⊢
        by_cases h3 : first2 (datesF l.entries).2 (datesF l.entries).2 = 0
        · rw [if_pos h3] at h ⊢
          by_cases h4 : 0 ≤ (datesF l.entries).1[i]?.getD 0 ∧ (loopF l l i).1 = true
          · rw [if_pos h4] at h ⊢
            unfold dateF at h ⊢
            by_cases h5 : (loopF l l i).2 < 0
            · rw [if_pos h5] at h; simp at h
            · rw [if_neg h5]
              right
              have hd := (first2_zero h3).1
              have hl := datesF_len hd
              have hq := stF_bd l (ownN l i)
              rcases swG_in (cutL (datesF l.entries).1 (stF l (ownN l i))) ((datesF l.entries).1[i]?.getD 0) (stF l (ownN l i)).1 false (-1) with h6 | ⟨j, y, h6, h7, h8, h9⟩
              · unfold loopF at h5; rw [h6] at h5; omega
              · have h10 : (loopF l l i).2 = (stF l (ownN l i)).1 + j := h9
                obtain ⟨f0, hf0⟩ := Int.eq_ofNat_of_zero_le hq.1
                have hlen : j < (cutL (datesF l.entries).1 (stF l (ownN l i))).length := (List.getElem?_eq_some_iff.1 h6).1
                have hy : (datesF l.entries).1[f0 + j]? = some y := by
                  unfold cutL at h6
                  rw [List.getElem?_take] at h6
                  split at h6
                  · rw [List.getElem?_drop, hf0] at h6; simpa using h6
                  · cases h6
                have hlt := (List.getElem?_eq_some_iff.1 hy).1
                refine ⟨f0 + j, by simp only; rw [h10, hf0]; simp, by omega, hd, (datesF l.entries).1[i]?.getD 0, y, ?_, hy, h4.1, h7, h8⟩
                rw [List.getElem?_eq_getElem (by omega)]; rfl
          · rw [if_neg h4] at h ⊢
            left
            unfold placeF at h ⊢
            split
            · simp only; omega
            · rename_i h5; rw [if_neg h5] at h; simp at h
        · rw [if_neg h3] at h; simp at h; exact absurd h h3
  · rw [if_neg h0] at h; simp at h; exact absurd h h0
theorem switch_err (a b : Lst) (m : Int) (h : ¬ (switchF a b m).2 = 0) : (switchF a b m).1 = 0 := by
  unfold switchF at h ⊢
  split
  · rename_i h0
    rw [if_pos h0] at h
    split
    · rfl
    · rename_i h1
      rw [if_neg h1] at h
      unfold switchIn at h ⊢
      split
      · rfl
      · rename_i h2
        rw [if_neg h2] at h
        split
        · rename_i h3
          rw [if_pos h3] at h
          split
          · rename_i h4
            rw [if_pos h4] at h
            unfold dateF at h ⊢
            split
            · rfl
            · rename_i h5; rw [if_neg h5] at h; simp at h
          · rename_i h4
            rw [if_neg h4] at h
            unfold placeF at h ⊢
            split
            · rename_i h5; rw [if_pos h5] at h; simp at h
            · rfl
        · rfl
  · rfl
end Go.Proofs.Ytkfhfjcgegimbaa
