/- What is proved here: the reference's way through the lines of a list's text is that of the program, on plain data (no statement of the seat). -/
import Derived.Test.YtllagmepnmdeoaaDoorE94
namespace Go.Proofs.YtllagmepnmdeoaaDoor
open Go Go.RowKit
set_option linter.unusedVariables false
set_option linter.unusedSimpArgs false
set_option maxHeartbeats 1000000

theorem F.cutF_nil {s : ByteArray} (h : s.size = 0) : F.cutF s F.nl = false := by
  have hb : F.bs s = [] := List.length_eq_zero_iff.1 (by rw [F.bs_len, h])
  unfold F.cutF
  rw [hb]; rfl

/-- Where a text stands in the lines. -/
structure F.At (ls : List ByteArray) (op : Bool) (a : Nat) (s : ByteArray) : Prop where
  drop : ls.drop a = F.lnL s
  len : a ≤ ls.length
  op : s.size ≠ 0 → op = F.opA false s

theorem F.At.nil {ls : List ByteArray} {op : Bool} {a : Nat} {s : ByteArray} (h : F.At ls op a s) (h0 : s.size = 0) : ls.length = a ∧ F.mor ls op a = false := by
  have hd := h.drop
  rw [F.lnL_nil h0] at hd
  have h1 := List.drop_eq_nil_iff.1 hd
  have h2 := h.len
  have e : ls.length = a := by omega
  refine ⟨e, ?_⟩
  unfold F.mor
  rw [decide_eq_false (by omega)]
  rfl

theorem F.At.cons {ls : List ByteArray} {op : Bool} {a : Nat} {s : ByteArray} (h : F.At ls op a s) (h0 : s.size ≠ 0) :
    a < ls.length ∧ F.lAt ls a = F.cutH s F.nl ∧ F.mor ls op a = F.cutF s F.nl ∧ F.At ls op (a + 1) (F.cutT s F.nl) := by
  have hd := h.drop
  rw [F.lnL_cons h0] at hd
  have hlt : a < ls.length := by
    rcases Nat.lt_or_ge a ls.length with h1 | h1
    · exact h1
    · rw [List.drop_eq_nil_of_le h1] at hd; cases hd
  rw [List.drop_eq_getElem_cons hlt] at hd
  injection hd with e1 e2
  have hA : F.At ls op (a + 1) (F.cutT s F.nl) := ⟨e2, hlt, fun h1 => by
    rw [h.op h0, F.opA_cons h0, F.opA_cons h1, F.opA_cons h1]⟩
  refine ⟨hlt, ?_, ?_, hA⟩
  · unfold F.lAt
    simp only [List.getD, List.getElem?_eq_getElem hlt, Option.getD_some]
    exact e1
  · unfold F.mor
    rw [decide_eq_true hlt, Bool.true_and]
    by_cases h1 : (F.cutT s F.nl).size = 0
    · have hl := (hA.nil h1).1
      rw [decide_eq_true (by omega : a + 1 = ls.length), Bool.and_true, h.op h0, F.opA_cons h0, F.opA_nil h1, Bool.not_not]
    · have hf : F.cutF s F.nl = true := by
        cases hc : F.cutF s F.nl
        · exact absurd (F.cutT_end hc) h1
        · rfl
      have h2 : F.lnL (F.cutT s F.nl) ≠ [] := by rw [F.lnL_cons h1]; simp
      have h3 : ¬ a + 1 = ls.length := fun e => h2 (by rw [← hA.drop, e, List.drop_length])
      rw [decide_eq_false h3, Bool.and_false, hf]
      rfl

theorem F.at_mor {ls : List ByteArray} {op : Bool} {a : Nat} {s : ByteArray} (h : F.At ls op a s) : F.mor ls op a = F.cutF s F.nl := by
  by_cases h0 : s.size = 0
  · rw [(h.nil h0).2, F.cutF_nil h0]
  · exact (h.cons h0).2.2.1

theorem F.at_line {ls : List ByteArray} {op : Bool} {a : Nat} {s : ByteArray} (h : F.At ls op a s) (hc : F.cutF s F.nl = true) : F.lAt ls a = F.cutH s F.nl ∧ F.At ls op (a + 1) (F.cutT s F.nl) := by
  obtain ⟨_, h1, _, h2⟩ := h.cons (F.cutF_ne hc)
  exact ⟨h1, h2⟩

/-- A line that begins with a word and a blank. -/
theorem F.cut_at (s : ByteArray) : Lib.cut (F.bs s) (F.bs F.sp) = if Lib.indexByte (F.bs s) 32 ≥ 0 then ((F.bs s).take (Lib.indexByte (F.bs s) 32).toNat, (F.bs s).drop ((Lib.indexByte (F.bs s) 32).toNat + 1), true) else (F.bs s, [], false) := by
  have h : Lib.index (F.bs s) (F.bs F.sp) = Lib.indexByte (F.bs s) 32 := Lib.index_one ..
  unfold Lib.cut
  rw [h]
  rfl

theorem F.pre_iff {s p : ByteArray} : F.hasPrefix s p = true ↔ ∃ r, F.bs s = F.bs p ++ r := by
  unfold F.hasPrefix
  rw [Bool.and_eq_true, decide_eq_true_eq, F.seq_iff]
  constructor
  · rintro ⟨h1, h2⟩
    refine ⟨(F.bs s).drop p.size, ?_⟩
    have h3 := congrArg F.bs h2
    rw [F.sub_bs, List.drop_zero, Nat.sub_zero] at h3
    rw [← h3, List.take_append_drop]
  · rintro ⟨r, hr⟩
    have h1 : p.size ≤ s.size := by rw [← F.bs_len, ← F.bs_len, hr, List.length_append]; omega
    refine ⟨h1, F.bsx ?_⟩
    rw [F.sub_bs, hr, List.drop_zero, Nat.sub_zero, ← F.bs_len p, List.take_left]

theorem F.cut_word {line w : ByteArray} (hw : (32 : UInt8) ∉ F.bs w) :
    (F.seq (F.cutH line F.sp) w && F.cutF line F.sp) = F.hasPrefix line (w ++ F.sp) ∧ (F.hasPrefix line (w ++ F.sp) = true → F.cutT line F.sp = line.extract (w ++ F.sp).size line.size) := by
  have hb : F.bs (w ++ F.sp) = F.bs w ++ [32] := by rw [F.bs_app]; rfl
  have hz : (w ++ F.sp).size = (F.bs w).length + 1 := by rw [← F.bs_len, hb, List.length_append]; rfl
  have e := F.cut_at line
  by_cases hp : F.hasPrefix line (w ++ F.sp) = true
  · obtain ⟨r, hr⟩ := F.pre_iff.1 hp
    rw [hb, List.append_assoc, List.singleton_append] at hr
    rw [hr, F.index_first hw, if_pos (by omega)] at e
    have e1 : F.cutF line F.sp = true := by unfold F.cutF; rw [hr, e]
    have e2 : F.cutH line F.sp = w := F.bsx (by unfold F.cutH; rw [hr, e, F.bs_mk]; simp)
    have e3 : F.cutT line F.sp = line.extract (w ++ F.sp).size line.size := F.bsx (by
      rw [F.sub_bs, hz]
      unfold F.cutT
      rw [hr, e, F.bs_mk (List.drop _ _)]
      rw [show (((F.bs w).length : Nat) : Int).toNat + 1 = (F.bs w).length + 1 by omega]
      have hl : line.size = (F.bs w ++ 32 :: r).length := by rw [← F.bs_len, hr]
      rw [hl, List.take_of_length_le (by rw [List.length_drop]; exact Nat.le_refl _)])
    rw [e1, e2, hp]
    exact ⟨by rw [F.seq_iff.2 rfl]; rfl, fun _ => e3⟩
  · have hp' : F.hasPrefix line (w ++ F.sp) = false := by cases h : F.hasPrefix line (w ++ F.sp) <;> simp_all
    rw [hp']
    refine ⟨?_, fun h => by cases h⟩
    cases hc : F.cutF line F.sp
    · rw [Bool.and_false]
    · rw [Bool.and_true]
      cases hs : F.seq (F.cutH line F.sp) w
      · rfl
      · exfalso
        have hw2 := F.seq_iff.1 hs
        apply hp
        apply F.pre_iff.2
        unfold F.cutF at hc
        split at e
        · rename_i hi
          have h1 := F.indexByte_at (l := F.bs line) (c := 32) (i := (Lib.indexByte (F.bs line) 32).toNat) (by omega)
          have h2 := congrArg F.bs hw2
          unfold F.cutH at h2
          rw [e, F.bs_mk] at h2
          refine ⟨(F.bs line).drop ((Lib.indexByte (F.bs line) 32).toNat + 1), ?_⟩
          rw [hb, ← h2, List.append_assoc, List.singleton_append]
          exact h1
        · rw [e] at hc; cases hc

/-- Which line of an entry a line is. -/
def F.kd (line : ByteArray) : Nat := F.elK line 0

theorem F.elK_kd (line : ByteArray) {r : Int} (h : r ≠ 5) : F.elK line r = F.kd line := by
  unfold F.kd F.elK
  rw [show (r == 5) = false by simp [h], show ((0 : Int) == 5) = false by rfl]

theorem F.sb_pre {s p : ByteArray} (h : F.hasPrefix s p = true) (h2 : 2 ≤ p.size) : (F.bs s)[1]? = (F.bs p)[1]? := by
  obtain ⟨r, hr⟩ := F.pre_iff.1 h
  rw [hr, List.getElem?_append_left (by rw [F.bs_len]; omega)]

theorem F.sb_seq {s p : ByteArray} (h : F.seq s p = true) : (F.bs s)[1]? = (F.bs p)[1]? := by rw [F.seq_iff.1 h]

theorem F.kd_eq (line : ByteArray) : F.hasPrefix line F.kX = Nat.beq (F.kd line) 0 ∧ F.seq line F.kBrk = Nat.beq (F.kd line) 1 ∧ F.hasPrefix line F.kDatS = Nat.beq (F.kd line) 2 ∧ F.hasPrefix line F.kKeyS = Nat.beq (F.kd line) 3 ∧ F.seq line F.kGap = Nat.beq (F.kd line) 4 ∧ F.hasPrefix line F.kTimS = Nat.beq (F.kd line) 5 ∧ Nat.beq (F.kd line) 6 = false := by
  have cD := (F.cut_word (line := line) (w := F.kDat) (by decide)).1
  have cK := (F.cut_word (line := line) (w := F.kKey) (by decide)).1
  have cT := (F.cut_word (line := line) (w := F.kTim) (by decide)).1
  have wD : F.kDat ++ F.sp = F.kDatS := F.bsx (by rw [F.bs_app]; rfl)
  have wK : F.kKey ++ F.sp = F.kKeyS := F.bsx (by rw [F.bs_app]; rfl)
  have wT : F.kTim ++ F.sp = F.kTimS := F.bsx (by rw [F.bs_app]; rfl)
  rw [wD] at cD
  rw [wK] at cK
  rw [wT] at cT
  have h0 : F.hasPrefix line F.kX = true → (F.bs line)[1]? = some 88 := fun h => F.sb_pre h (by decide)
  have h1 : F.seq line F.kBrk = true → (F.bs line)[1]? = some 66 := fun h => F.sb_seq h
  have h2 : F.hasPrefix line F.kDatS = true → (F.bs line)[1]? = some 68 := fun h => F.sb_pre h (by decide)
  have h3 : F.hasPrefix line F.kKeyS = true → (F.bs line)[1]? = some 75 := fun h => F.sb_pre h (by decide)
  have h4 : F.seq line F.kGap = true → (F.bs line)[1]? = some 71 := fun h => F.sb_seq h
  have h5 : F.hasPrefix line F.kTimS = true → (F.bs line)[1]? = some 84 := fun h => F.sb_pre h (by decide)
  unfold F.kd F.elK
  rw [cD, cK, cT, show ((0 : Int) == 5) = false from rfl, cond_false]
  generalize F.hasPrefix line F.kX = t0 at *
  generalize F.seq line F.kBrk = t1 at *
  generalize F.hasPrefix line F.kDatS = t2 at *
  generalize F.hasPrefix line F.kKeyS = t3 at *
  generalize F.seq line F.kGap = t4 at *
  generalize F.hasPrefix line F.kTimS = t5 at *
  clear cD cK cT
  generalize (F.bs line)[1]? = b at *
  cases t0
  · cases t1
    · cases t4
      · cases t2
        · cases t3
          · cases t5 <;> decide
          · cases t5
            · decide
            · exact absurd ((h3 rfl).symm.trans (h5 rfl)) (by decide)
        · cases t3
          · cases t5
            · decide
            · exact absurd ((h2 rfl).symm.trans (h5 rfl)) (by decide)
          · exact absurd ((h2 rfl).symm.trans (h3 rfl)) (by decide)
      · cases t2
        · cases t3
          · cases t5
            · decide
            · exact absurd ((h4 rfl).symm.trans (h5 rfl)) (by decide)
          · exact absurd ((h4 rfl).symm.trans (h3 rfl)) (by decide)
        · exact absurd ((h4 rfl).symm.trans (h2 rfl)) (by decide)
    · cases t4
      · cases t2
        · cases t3
          · cases t5
            · decide
            · exact absurd ((h1 rfl).symm.trans (h5 rfl)) (by decide)
          · exact absurd ((h1 rfl).symm.trans (h3 rfl)) (by decide)
        · exact absurd ((h1 rfl).symm.trans (h2 rfl)) (by decide)
      · exact absurd ((h1 rfl).symm.trans (h4 rfl)) (by decide)
  · cases t1
    · cases t4
      · cases t2
        · cases t3
          · cases t5
            · decide
            · exact absurd ((h0 rfl).symm.trans (h5 rfl)) (by decide)
          · exact absurd ((h0 rfl).symm.trans (h3 rfl)) (by decide)
        · exact absurd ((h0 rfl).symm.trans (h2 rfl)) (by decide)
      · exact absurd ((h0 rfl).symm.trans (h4 rfl)) (by decide)
    · exact absurd ((h0 rfl).symm.trans (h1 rfl)) (by decide)

theorem F.beq_iff (a b : Nat) : Nat.beq a b = decide (a = b) := by
  by_cases h : a = b
  · rw [decide_eq_true h, h]; exact Nat.beq_refl b
  · rw [decide_eq_false h]
    cases hb : Nat.beq a b
    · rfl
    · exact absurd (Nat.eq_of_beq_eq_true hb) h

end Go.Proofs.YtllagmepnmdeoaaDoor
