/- What is proved here: the reference's way through the lines of a list of all renditions is that of the program, on plain data (no statement of the seat). -/
import Derived.Test.YtipngpndgniagaaGreatDoorE62
namespace Go.Proofs.YtipngpndgniagaaGreatDoor
open Go Go.RowKit
set_option linter.unusedVariables false
set_option linter.unusedSimpArgs false

theorem F.rrS_no {ls : List ByteArray} {op : Bool} {a : Nat} (m : Mas) (h : F.mor ls op a = false) : F.rrS ls op a m = (false, a, m) := by
  rw [F.rrS, dif_neg (by rw [h]; decide)]

theorem F.rrS_bad {ls : List ByteArray} {op : Bool} {a : Nat} {m : Mas} (h : F.mor ls op a = true) (hb : F.rBad (F.lW ls a) m = true) : F.rrS ls op a m = (false, a, m) := by
  rw [F.rrS, dif_pos h, if_pos hb]

theorem F.rrS_uri {ls : List ByteArray} {op : Bool} {a : Nat} {m : Mas} (h : F.mor ls op a = true) (hb : F.rBad (F.lW ls a) m = false) (hu : F.ruri ls op (a + 1) = false) : F.rrS ls op a m = (false, a + 1, m) := by
  rw [F.rrS, dif_pos h, if_neg (by rw [hb]; decide), if_pos hu]

theorem F.rrS_end {ls : List ByteArray} {op : Bool} {a : Nat} {m : Mas} (h : F.mor ls op a = true) (hb : F.rBad (F.lW ls a) m = false) (hu : F.ruri ls op (a + 1) = true) (he : a + 2 = ls.length) :
    F.rrS ls op a m = (true, a + 2, F.rAdd (F.lW ls a) (F.lAt ls (a + 1)) m) := by
  rw [F.rrS, dif_pos h, if_neg (by rw [hb]; decide), if_neg (by rw [hu]; decide), if_pos he]

theorem F.rrS_go {ls : List ByteArray} {op : Bool} {a : Nat} {m : Mas} (h : F.mor ls op a = true) (hb : F.rBad (F.lW ls a) m = false) (hu : F.ruri ls op (a + 1) = true) (he : ¬ a + 2 = ls.length) :
    F.rrS ls op a m = F.rrS ls op (a + 2) (F.rAdd (F.lW ls a) (F.lAt ls (a + 1)) m) := by
  rw [F.rrS, dif_pos h, if_neg (by rw [hb]; decide), if_neg (by rw [hu]; decide), if_neg he]

theorem F.cutF_nil {s : ByteArray} (h : s.size = 0) : F.cutF s F.nl = false := by
  have hb : F.bs s = [] := List.length_eq_zero_iff.1 (by rw [F.bs_len, h])
  unfold F.cutF
  rw [hb]; rfl

/-- Where a text stands in the lines. -/
structure F.At (ls : List ByteArray) (op : Bool) (a : Nat) (s : ByteArray) : Prop where
  drop : ls.drop a = F.lnL s
  len : a ≤ ls.length
  op : s.size ≠ 0 → op = F.opA false s

theorem F.At.nil {ls : List ByteArray} {op : Bool} {a : Nat} {s : ByteArray} (h : F.At ls op a s) (h0 : s.size = 0) : ls.length = a ∧ F.mor ls op a = false := by
  have hd := h.drop
  rw [F.lnL_nil h0] at hd
  have h1 := List.drop_eq_nil_iff.1 hd
  have h2 := h.len
  have e : ls.length = a := by omega
  refine ⟨e, ?_⟩
  unfold F.mor
  rw [decide_eq_false (by omega)]
  rfl

theorem F.At.cons {ls : List ByteArray} {op : Bool} {a : Nat} {s : ByteArray} (h : F.At ls op a s) (h0 : s.size ≠ 0) :
    a < ls.length ∧ F.lAt ls a = F.cutH s F.nl ∧ F.mor ls op a = F.cutF s F.nl ∧ F.At ls op (a + 1) (F.cutT s F.nl) := by
  have hd := h.drop
  rw [F.lnL_cons h0] at hd
  have hlt : a < ls.length := by
    rcases Nat.lt_or_ge a ls.length with h1 | h1
    · exact h1
    · rw [List.drop_eq_nil_of_le h1] at hd; cases hd
  rw [List.drop_eq_getElem_cons hlt] at hd
  injection hd with e1 e2
  have hA : F.At ls op (a + 1) (F.cutT s F.nl) := ⟨e2, hlt, fun h1 => by
    rw [h.op h0, F.opA_cons h0, F.opA_cons h1, F.opA_cons h1]⟩
  refine ⟨hlt, ?_, ?_, hA⟩
  · unfold F.lAt
    simp only [List.getD, List.getElem?_eq_getElem hlt, Option.getD_some]
    exact e1
  · unfold F.mor
    rw [decide_eq_true hlt, Bool.true_and]
    by_cases h1 : (F.cutT s F.nl).size = 0
    · have hl := (hA.nil h1).1
      rw [decide_eq_true (by omega : a + 1 = ls.length), Bool.and_true, h.op h0, F.opA_cons h0, F.opA_nil h1, Bool.not_not]
    · have hf : F.cutF s F.nl = true := by
        cases hc : F.cutF s F.nl
        · exact absurd (F.cutT_end hc) h1
        · rfl
      have h2 : F.lnL (F.cutT s F.nl) ≠ [] := by rw [F.lnL_cons h1]; simp
      have h3 : ¬ a + 1 = ls.length := fun e => h2 (by rw [← hA.drop, e, List.drop_length])
      rw [decide_eq_false h3, Bool.and_false, hf]
      rfl

theorem F.at_ruri {ls : List ByteArray} {op : Bool} {a : Nat} {s : ByteArray} (h : F.At ls op a s) : F.ruri ls op a = F.ptU s := by
  unfold F.ruri F.ptU
  by_cases h0 : s.size = 0
  · rw [(h.nil h0).2, F.cutF_nil h0]; rfl
  · obtain ⟨_, e1, e2, _⟩ := h.cons h0
    rw [e1, e2]

theorem F.snd_str {w : List ByteArray} (h1 : F.isSnd w = true) (h2 : F.isStr w = true) : False := by
  unfold F.isSnd at h1
  unfold F.isStr at h2
  simp only [Bool.and_eq_true, Bool.or_eq_true, decide_eq_true_eq] at h1 h2
  omega

theorem F.ptK_bad (s : ByteArray) (m : Mas) : decide (F.ptK s m = 0) = (!F.cutF s F.nl || F.rBad (F.wds (F.cutH s F.nl)) m) := by
  unfold F.ptK F.rBad
  have hz : decide (0 < m.streams.length) = !decide (m.streams.length = 0) := by by_cases h : m.streams.length = 0 <;> simp [h]; omega
  rw [hz]
  generalize F.wds (F.cutH s F.nl) = w
  cases F.cutF s F.nl <;> cases F.wOk w <;> cases F.isSnd w <;> cases decide (m.streams.length = 0) <;> cases F.isStr w <;> cases F.numsOk w <;> rfl

theorem F.ptM_add {s : ByteArray} {m : Mas} (ho : F.ptOk s m = true) : F.ptM s m = F.rAdd (F.wds (F.cutH s F.nl)) (F.cutH (F.cutT s F.nl) F.nl) m := by
  unfold F.ptM F.ptSt F.ptSo
  rw [ho]
  unfold F.ptOk at ho
  rw [Bool.and_eq_true, decide_eq_true_eq] at ho
  have hk := ho.1
  have h2 : F.isSnd (F.wds (F.cutH s F.nl)) = true → F.isStr (F.wds (F.cutH s F.nl)) = true → False := F.snd_str
  unfold F.ptK at hk ⊢
  unfold F.rAdd
  generalize F.wds (F.cutH s F.nl) = w at *
  obtain ⟨st, so⟩ := m
  simp only at hk ⊢
  generalize decide (st.length = 0) = z at hk
  generalize F.cutF s F.nl = c at hk
  generalize F.wOk w = o at hk
  cases h1 : F.isSnd w <;> cases h3 : F.isStr w <;> cases h4 : F.numsOk w <;> cases c <;> cases o <;> cases z <;> simp [h1, h3, h4] at hk h2 ⊢

theorem F.rr_rd (ls : List ByteArray) (op : Bool) : ∀ (k : Nat) (s : ByteArray) (a : Nat) (m : Mas), s.size ≤ k → s.size ≠ 0 → F.At ls op a s →
    (F.rdS s a m).1 = (F.rrS ls op a m).1 ∧ ((F.rdS s a m).1 = true → (F.rrS ls op a m).2.2 = (F.rdS s a m).2.2) ∧ ((F.rdS s a m).1 = false → (F.rdS s a m).2.1 = ((F.rrS ls op a m).2.1 : Int) + 1) := by
  intro k
  induction k with
  | zero => intro s a m h1 h2; omega
  | succ k ih =>
    intro s a m h1 h0 hA
    obtain ⟨hlt, e1, e2, hA1⟩ := hA.cons h0
    have hkb := F.ptK_bad s m
    have hW : F.lW ls a = F.wds (F.cutH s F.nl) := by unfold F.lW; rw [e1]
    have hru := F.at_ruri hA1
    by_cases hk : F.ptK s m = 0
    · have ho : F.ptOk s m = false := by unfold F.ptOk; rw [decide_eq_false (by simpa using hk)]; rfl
      have hN : F.ptN s m = 1 := by unfold F.ptN; rw [decide_eq_true hk]; rfl
      have hr : F.rrS ls op a m = (false, a, m) := by
        rw [decide_eq_true hk] at hkb
        by_cases hm : F.mor ls op a = true
        · refine F.rrS_bad hm ?_
          rw [hW]
          rw [e2] at hm
          rw [hm] at hkb
          simpa using hkb.symm
        · exact F.rrS_no m (by cases h : F.mor ls op a <;> simp_all)
      rw [F.rdS_bad h0 ho, hN, hr]
      exact ⟨rfl, fun h => (by cases h), fun _ => rfl⟩
    · rw [decide_eq_false hk] at hkb
      have hkc := Bool.or_eq_false_iff.1 hkb.symm
      have hc : F.cutF s F.nl = true := (by simpa using hkc.1)
      have hb : F.rBad (F.wds (F.cutH s F.nl)) m = false := hkc.2
      have hm : F.mor ls op a = true := by rw [e2, hc]
      rw [← hW] at hb
      have hN : F.ptN s m = 2 := by unfold F.ptN; rw [decide_eq_false hk]; rfl
      cases hu : F.ptU (F.cutT s F.nl)
      · have ho : F.ptOk s m = false := by unfold F.ptOk; rw [hu, Bool.and_false]
        rw [F.rdS_bad h0 ho, hN, F.rrS_uri hm hb (by rw [hru, hu])]
        exact ⟨rfl, fun h => (by cases h), fun _ => (by simp only; omega)⟩
      · have ho : F.ptOk s m = true := by unfold F.ptOk; rw [hu, decide_eq_true hk]; rfl
        have hR : F.ptR s m = F.cutT (F.cutT s F.nl) F.nl := by unfold F.ptR; rw [decide_eq_false hk]; rfl
        have h1s : (F.cutT s F.nl).size ≠ 0 := fun e => by
          unfold F.ptU at hu
          rw [F.cutF_nil e] at hu; cases hu
        obtain ⟨hlt1, e3, e4, hA2⟩ := hA1.cons h1s
        have hadd := F.ptM_add ho
        rw [← e3, ← hW] at hadd
        rw [F.rdS_go h0 ho, hN, hR, hadd]
        have hz1 := F.cutT_lt (p := F.nl) (by decide) h0
        have hz2 := F.cutT_lt (p := F.nl) (by decide) h1s
        by_cases h2 : (F.cutT (F.cutT s F.nl) F.nl).size = 0
        · have hl := (hA2.nil h2).1
          rw [F.rdS_end h2, F.rrS_end hm hb (by rw [hru, hu]) (by omega)]
          exact ⟨rfl, fun _ => rfl, fun h => (by cases h)⟩
        · obtain ⟨hlt2, _, _, _⟩ := hA2.cons h2
          rw [F.rrS_go hm hb (by rw [hru, hu]) (by omega)]
          exact ih _ (a + 2) _ (by omega) h2 hA2

end Go.Proofs.YtipngpndgniagaaGreatDoor
