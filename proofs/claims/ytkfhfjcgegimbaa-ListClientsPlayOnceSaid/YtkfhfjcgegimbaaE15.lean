/- What is proved here: Follows of the program and of the reference agree; copies of clients, on plain data (no statement of the seat). -/
import Derived.Test.YtkfhfjcgegimbaaE14
namespace Go.Proofs.Ytkfhfjcgegimbaa
open Go Go.RowKit
set_option linter.unusedVariables false
set_option linter.unusedSimpArgs false

theorem F.ffI_app {α : Type} {g : α → Int} : ∀ (a b : List α), M.ffI g a = 0 → M.ffI g (a ++ b) = M.ffI g b
  | [], b, _ => rfl
  | y :: a, b, h => by
    simp only [M.ffI] at h
    simp only [List.cons_append, M.ffI]
    split at h
    · rename_i h0
      rw [if_pos h0]
      exact F.ffI_app a b h
    · exact absurd h ‹_›

theorem F.ffI_congr {α β : Type} {g : α → Int} {h : β → Int} : ∀ (xs : List α) (ys : List β), xs.length = ys.length → (∀ (k : Nat) x y, xs[k]? = some x → ys[k]? = some y → g x = h y) → M.ffI g xs = M.ffI h ys
  | [], [], _, _ => rfl
  | [], _ :: _, hl, _ => by simp at hl
  | _ :: _, [], hl, _ => by simp at hl
  | x :: xs, y :: ys, hl, hh => by
    simp only [M.ffI]
    rw [hh 0 x y rfl rfl, F.ffI_congr xs ys (by simpa using hl) fun k a b ha hb => hh (k + 1) a b (by simpa using ha) (by simpa using hb)]

theorem F.last_eq {l : Lst} (hc : F.check l = 0) : F.brkAt l ((l.entries.length : Int) - 1) = F.last l := by
  rw [F.brkAt_eq hc]
  have hb := F.bn_len l
  unfold F.last
  cases h0 : F.lt 0 (F.bn l).length
  · simp only [F.lt, decide_eq_false_iff_not] at h0
    have : ((l.entries.length : Int) - 1 + 1).toNat = 0 := by omega
    rw [this]
    simp [F.cnt]
  · simp only [F.lt, decide_eq_true_eq] at h0
    simp only [cond_true]
    have hg : (F.bn l)[(F.bn l).length - 1]? = some ((F.bn l).getD ((F.bn l).length - 1) 0) := by
      rw [List.getD_eq_getElem?_getD, List.getElem?_eq_getElem (by omega)]; rfl
    rw [F.bn_at hc hg]
    rw [show ((l.entries.length : Int) - 1 + 1).toNat = (F.bn l).length - 1 + 1 by omega]

theorem F.rfol_eq {old now : Lst} (c1 : F.check old = 0) (c2 : F.check now = 0) : F.rfol old now = F.fol old now := by
  obtain ⟨o1, _, _, o2, o3⟩ := F.check_ok c1
  obtain ⟨n1, _, _, n2, n3⟩ := F.check_ok c2
  have eo := F.endN_eq c1
  have en := F.endN_eq c2
  unfold F.rfol F.fol
  rw [F.last_eq c1]
  by_cases hF : now.first < old.first ∨ F.endN now < F.endN old
  · have : (F.lt now.first old.first || F.lt (F.endN now) (F.endN old)) = true := by simp [F.lt]; exact hF
    rw [this]; rfl
  · have hK : ∀ i : Nat, i < old.entries.length → F.rfK old now i = old.first + i - now.first := by
      intro i hi
      unfold F.rfK
      rw [M.wrap_id (n := old.first + (i : Int)) (by omega) (by omega), M.wrap_id (by omega) (by omega)]
    have hC : F.rfC old now 0 = F.folL old now now.first := by
      unfold F.rfC F.folL
      rw [List.drop_zero, show (now.first - now.first).toNat = 0 by omega, List.drop_zero]
      have hsp : List.range old.entries.length = (List.range old.entries.length).take (now.first - old.first).toNat ++ (List.range old.entries.length).drop (now.first - old.first).toNat := (List.take_append_drop _ _).symm
      rw [hsp, F.ffI_app]
      · refine F.ffI_congr _ _ ?_ ?_
        · rw [F.folX_len, List.length_drop, List.length_range]
          omega
        · intro k x y hx hy
          rw [List.getElem?_drop] at hx
          have hlt := M.lt_at hx
          rw [List.length_range] at hlt
          rw [List.getElem?_range hlt] at hx
          obtain rfl := Option.some.inj hx
          obtain ⟨a1, a2, a3, a4⟩ := F.folX_at hy
          have hk : F.rfK old now ((now.first - old.first).toNat + k) = (k : Int) := by rw [hK _ hlt]; omega
          have hkl := M.lt_at a2
          have hO : F.rfO old now ((now.first - old.first).toNat + k) = false := by
            simp only [F.rfO, hk, F.lt, F.le, Bool.or_eq_false_iff, decide_eq_false_iff_not]
            omega
          have b1 : F.brkAt old (((now.first - old.first).toNat + k : Nat) : Int) = y.2.1 := by
            rw [F.brkAt_eq c1, F.bn_at c1 a3, show ((((now.first - old.first).toNat + k : Nat) : Int) + 1).toNat = (now.first - old.first).toNat + k + 1 by omega]
          have b2 : F.brkAt now (k : Int) = y.2.2 := by
            rw [F.brkAt_eq c2, F.bn_at c2 a4, show ((k : Int) + 1).toNat = k + 1 by omega]
          simp only [F.rfG, hO, cond_false, hk, Int.toNat_natCast, M.getD_at a1, M.getD_at a2, b1, b2, F.folG]
          cases F.sameE y.1.1 y.1.2
          · rfl
          · by_cases hb : y.2.1 = y.2.2
            · simp [hb]
            · have : (y.2.1 != y.2.2) = true := by simp [hb]
              simp [hb, this]
      · refine F.ffI_all fun i hi => ?_
        obtain ⟨k, hk, e⟩ := List.getElem_of_mem hi
        simp only [List.length_take, List.length_range] at hk
        simp only [List.getElem_take, List.getElem_range] at e
        subst e
        have : F.rfO old now k = true := by
          simp only [F.rfO, hK k (by omega), F.lt, Bool.or_eq_true, decide_eq_true_eq]
          omega
        simp only [F.rfG, this, cond_true]
    have hA : (!F.rfA old now false 0) = F.le (F.endN old) now.first := by
      unfold F.rfA
      rw [List.drop_zero, Bool.false_or]
      by_cases h : F.endN old ≤ now.first
      · have : ((List.range old.entries.length).any fun i => !F.rfO old now i) = false := by
          rw [List.any_eq_false]
          intro i hi
          rw [List.mem_range] at hi
          have : F.rfO old now i = true := by
            simp only [F.rfO, hK i hi, F.lt, Bool.or_eq_true, decide_eq_true_eq]
            omega
          simp [this]
        rw [this]
        simp [F.le, h]
      · have : ((List.range old.entries.length).any fun i => !F.rfO old now i) = true := by
          rw [List.any_eq_true]
          refine ⟨(now.first - old.first).toNat, by rw [List.mem_range]; omega, ?_⟩
          have : F.rfO old now (now.first - old.first).toNat = false := by
            simp only [F.rfO, hK _ (by omega : (now.first - old.first).toNat < old.entries.length), F.lt, F.le, Bool.or_eq_false_iff, decide_eq_false_iff_not]
            omega
          simp [this]
        rw [this]
        simp [F.le, h]
    rw [hC, hA]

end Go.Proofs.Ytkfhfjcgegimbaa
