/- What is proved here: which line of an entry a line is, and the program's way through lines, on plain data (no statement of the seat). -/
import Derived.Test.YtgkjfochkhiojaaDoorE86
import Derived.Test.YtgkjfochkhiojaaDoorE57
namespace Go.Proofs.YtgkjfochkhiojaaDoor
open Go Go.RowKit
set_option linter.unusedVariables false
set_option linter.unusedSimpArgs false
set_option maxHeartbeats 1000000

/-- A line that begins with a word and a blank. -/
theorem F.cut_at (s : ByteArray) : Lib.cut (F.bs s) (F.bs F.sp) = if Lib.indexByte (F.bs s) 32 ≥ 0 then ((F.bs s).take (Lib.indexByte (F.bs s) 32).toNat, (F.bs s).drop ((Lib.indexByte (F.bs s) 32).toNat + 1), true) else (F.bs s, [], false) := by
  have h : Lib.index (F.bs s) (F.bs F.sp) = Lib.indexByte (F.bs s) 32 := Lib.index_one ..
  unfold Lib.cut
  rw [h]
  rfl

theorem F.pre_iff {s p : ByteArray} : F.hasPrefix s p = true ↔ ∃ r, F.bs s = F.bs p ++ r := by
  unfold F.hasPrefix
  rw [Bool.and_eq_true, decide_eq_true_eq, F.seq_iff]
  constructor
  · rintro ⟨h1, h2⟩
    refine ⟨(F.bs s).drop p.size, ?_⟩
    have h3 := congrArg F.bs h2
    rw [F.sub_bs, List.drop_zero, Nat.sub_zero] at h3
    rw [← h3, List.take_append_drop]
  · rintro ⟨r, hr⟩
    have h1 : p.size ≤ s.size := by rw [← F.bs_len, ← F.bs_len, hr, List.length_append]; omega
    refine ⟨h1, F.bsx ?_⟩
    rw [F.sub_bs, hr, List.drop_zero, Nat.sub_zero, ← F.bs_len p, List.take_left]

theorem F.cut_word {line w : ByteArray} (hw : (32 : UInt8) ∉ F.bs w) :
    (F.seq (F.cutH line F.sp) w && F.cutF line F.sp) = F.hasPrefix line (w ++ F.sp) ∧ (F.hasPrefix line (w ++ F.sp) = true → F.cutT line F.sp = line.extract (w ++ F.sp).size line.size) := by
  have hb : F.bs (w ++ F.sp) = F.bs w ++ [32] := by rw [F.bs_app]; rfl
  have hz : (w ++ F.sp).size = (F.bs w).length + 1 := by rw [← F.bs_len, hb, List.length_append]; rfl
  have e := F.cut_at line
  by_cases hp : F.hasPrefix line (w ++ F.sp) = true
  · obtain ⟨r, hr⟩ := F.pre_iff.1 hp
    rw [hb, List.append_assoc, List.singleton_append] at hr
    rw [hr, F.index_first hw, if_pos (by omega)] at e
    have e1 : F.cutF line F.sp = true := by unfold F.cutF; rw [hr, e]
    have e2 : F.cutH line F.sp = w := F.bsx (by unfold F.cutH; rw [hr, e, F.bs_mk]; simp)
    have e3 : F.cutT line F.sp = line.extract (w ++ F.sp).size line.size := F.bsx (by
      rw [F.sub_bs, hz]
      unfold F.cutT
      rw [hr, e, F.bs_mk (List.drop _ _)]
      rw [show (((F.bs w).length : Nat) : Int).toNat + 1 = (F.bs w).length + 1 by omega]
      have hl : line.size = (F.bs w ++ 32 :: r).length := by rw [← F.bs_len, hr]
      rw [hl, List.take_of_length_le (by rw [List.length_drop]; exact Nat.le_refl _)])
    rw [e1, e2, hp]
    exact ⟨by rw [F.seq_iff.2 rfl]; rfl, fun _ => e3⟩
  · have hp' : F.hasPrefix line (w ++ F.sp) = false := by cases h : F.hasPrefix line (w ++ F.sp) <;> simp_all
    rw [hp']
    refine ⟨?_, fun h => by cases h⟩
    cases hc : F.cutF line F.sp
    · rw [Bool.and_false]
    · rw [Bool.and_true]
      cases hs : F.seq (F.cutH line F.sp) w
      · rfl
      · exfalso
        have hw2 := F.seq_iff.1 hs
        apply hp
        apply F.pre_iff.2
        unfold F.cutF at hc
        split at e
        · rename_i hi
          have h1 := F.indexByte_at (l := F.bs line) (c := 32) (i := (Lib.indexByte (F.bs line) 32).toNat) (by omega)
          have h2 := congrArg F.bs hw2
          unfold F.cutH at h2
          rw [e, F.bs_mk] at h2
          refine ⟨(F.bs line).drop ((Lib.indexByte (F.bs line) 32).toNat + 1), ?_⟩
          rw [hb, ← h2, List.append_assoc, List.singleton_append]
          exact h1
        · rw [e] at hc; cases hc

/-- Which line of an entry a line is. -/
def F.kd (line : ByteArray) : Nat := F.elK line 0

theorem F.elK_kd (line : ByteArray) {r : Int} (h : r ≠ 5) : F.elK line r = F.kd line := by
  unfold F.kd F.elK
  rw [show (r == 5) = false by simp [h], show ((0 : Int) == 5) = false by rfl]

theorem F.sb_pre {s p : ByteArray} (h : F.hasPrefix s p = true) (h2 : 2 ≤ p.size) : (F.bs s)[1]? = (F.bs p)[1]? := by
  obtain ⟨r, hr⟩ := F.pre_iff.1 h
  rw [hr, List.getElem?_append_left (by rw [F.bs_len]; omega)]

theorem F.sb_seq {s p : ByteArray} (h : F.seq s p = true) : (F.bs s)[1]? = (F.bs p)[1]? := by rw [F.seq_iff.1 h]

theorem F.kd_eq (line : ByteArray) : F.hasPrefix line F.kX = Nat.beq (F.kd line) 0 ∧ F.seq line F.kBrk = Nat.beq (F.kd line) 1 ∧ F.hasPrefix line F.kDatS = Nat.beq (F.kd line) 2 ∧ F.hasPrefix line F.kKeyS = Nat.beq (F.kd line) 3 ∧ F.seq line F.kGap = Nat.beq (F.kd line) 4 ∧ F.hasPrefix line F.kTimS = Nat.beq (F.kd line) 5 ∧ Nat.beq (F.kd line) 6 = false := by
  have cD := (F.cut_word (line := line) (w := F.kDat) (by decide)).1
  have cK := (F.cut_word (line := line) (w := F.kKey) (by decide)).1
  have cT := (F.cut_word (line := line) (w := F.kTim) (by decide)).1
  have wD : F.kDat ++ F.sp = F.kDatS := F.bsx (by rw [F.bs_app]; rfl)
  have wK : F.kKey ++ F.sp = F.kKeyS := F.bsx (by rw [F.bs_app]; rfl)
  have wT : F.kTim ++ F.sp = F.kTimS := F.bsx (by rw [F.bs_app]; rfl)
  rw [wD] at cD
  rw [wK] at cK
  rw [wT] at cT
  have h0 : F.hasPrefix line F.kX = true → (F.bs line)[1]? = some 88 := fun h => F.sb_pre h (by decide)
  have h1 : F.seq line F.kBrk = true → (F.bs line)[1]? = some 66 := fun h => F.sb_seq h
  have h2 : F.hasPrefix line F.kDatS = true → (F.bs line)[1]? = some 68 := fun h => F.sb_pre h (by decide)
  have h3 : F.hasPrefix line F.kKeyS = true → (F.bs line)[1]? = some 75 := fun h => F.sb_pre h (by decide)
  have h4 : F.seq line F.kGap = true → (F.bs line)[1]? = some 71 := fun h => F.sb_seq h
  have h5 : F.hasPrefix line F.kTimS = true → (F.bs line)[1]? = some 84 := fun h => F.sb_pre h (by decide)
  unfold F.kd F.elK
  rw [cD, cK, cT, show ((0 : Int) == 5) = false from rfl, cond_false]
  generalize F.hasPrefix line F.kX = t0 at *
  generalize F.seq line F.kBrk = t1 at *
  generalize F.hasPrefix line F.kDatS = t2 at *
  generalize F.hasPrefix line F.kKeyS = t3 at *
  generalize F.seq line F.kGap = t4 at *
  generalize F.hasPrefix line F.kTimS = t5 at *
  clear cD cK cT
  generalize (F.bs line)[1]? = b at *
  cases t0
  · cases t1
    · cases t4
      · cases t2
        · cases t3
          · cases t5 <;> decide
          · cases t5
            · decide
            · exact absurd ((h3 rfl).symm.trans (h5 rfl)) (by decide)
        · cases t3
          · cases t5
            · decide
            · exact absurd ((h2 rfl).symm.trans (h5 rfl)) (by decide)
          · exact absurd ((h2 rfl).symm.trans (h3 rfl)) (by decide)
      · cases t2
        · cases t3
          · cases t5
            · decide
            · exact absurd ((h4 rfl).symm.trans (h5 rfl)) (by decide)
          · exact absurd ((h4 rfl).symm.trans (h3 rfl)) (by decide)
        · exact absurd ((h4 rfl).symm.trans (h2 rfl)) (by decide)
    · cases t4
      · cases t2
        · cases t3
          · cases t5
            · decide
            · exact absurd ((h1 rfl).symm.trans (h5 rfl)) (by decide)
          · exact absurd ((h1 rfl).symm.trans (h3 rfl)) (by decide)
        · exact absurd ((h1 rfl).symm.trans (h2 rfl)) (by decide)
      · exact absurd ((h1 rfl).symm.trans (h4 rfl)) (by decide)
  · cases t1
    · cases t4
      · cases t2
        · cases t3
          · cases t5
            · decide
            · exact absurd ((h0 rfl).symm.trans (h5 rfl)) (by decide)
          · exact absurd ((h0 rfl).symm.trans (h3 rfl)) (by decide)
        · exact absurd ((h0 rfl).symm.trans (h2 rfl)) (by decide)
      · exact absurd ((h0 rfl).symm.trans (h4 rfl)) (by decide)
    · exact absurd ((h0 rfl).symm.trans (h1 rfl)) (by decide)

theorem F.beq_iff (a b : Nat) : Nat.beq a b = decide (a = b) := by
  by_cases h : a = b
  · rw [decide_eq_true h, h]; exact Nat.beq_refl b
  · rw [decide_eq_false h]
    cases hb : Nat.beq a b
    · rfl
    · exact absurd (Nat.eq_of_beq_eq_true hb) h

/-- The program's way from a line that is not taken yet. -/
def F.pt (r : Int) (s : ByteArray) (n : Int) (e : Ent) (key : ByteArray) : Bool × ByteArray × Int × Ent :=
  bif F.cutF s F.nl then F.enL (F.cutT s F.nl) (n + 1) e (F.cutH s F.nl) key r else (false, F.cutT s F.nl, n + 1, e)

theorem F.enL_pt {s : ByteArray} {n : Int} {e : Ent} {line key : ByteArray} {rank : Int} {r : Int} (hr : F.elR line rank key = r) (h1 : 0 ≤ r) (h2 : r ≠ 6) : F.enL s n e line key rank = F.pt r s n (F.elE e line (F.elK line rank)) key := by
  subst hr
  unfold F.pt
  cases h3 : F.cutF s F.nl
  · rw [F.enL_open (by omega) h2 h3]; rfl
  · rw [F.enL_go (by omega) h2 h3]; rfl

theorem F.enL_congr {s : ByteArray} {n : Int} {e : Ent} {line key : ByteArray} {r r' : Int} (h1 : F.elR line r key = F.elR line r' key) (h2 : F.elK line r = F.elK line r') : F.enL s n e line key r = F.enL s n e line key r' := by
  rw [F.enL, h1, h2]
  conv => rhs; rw [F.enL]

theorem F.elR_kd (line key : ByteArray) {r : Int} (h : r ≠ 5) : F.elR line r key = bif !F.elO line key (F.kd line) || decide ((F.kd line : Int) < r) || (((F.kd line : Int) == r) && !Nat.beq (F.kd line) 0) then -1 else (F.kd line : Int) := by
  unfold F.elR
  rw [F.elK_kd line h]

/-- A line of another kind is not there for one rank more. -/
theorem F.pt_skip {s : ByteArray} {n : Int} {e : Ent} {key : ByteArray} {r : Int} (h0 : 0 ≤ r) (h3 : r ≤ 3) (hk : (F.kd (F.cutH s F.nl) : Int) ≠ r + 1) (hz : r = 0 → F.kd (F.cutH s F.nl) ≠ 0) : F.pt r s n e key = F.pt (r + 1) s n e key := by
  unfold F.pt
  cases F.cutF s F.nl
  · rfl
  · rw [cond_true, cond_true]
    refine F.enL_congr ?_ ?_
    · rw [F.elR_kd _ _ (by omega), F.elR_kd _ _ (by omega)]
      generalize F.kd (F.cutH s F.nl) = k at *
      cases F.elO (F.cutH s F.nl) key k
      · rfl
      · rcases Int.lt_trichotomy (k : Int) r with h | h | h
        · rw [decide_eq_true h, decide_eq_true (by omega : (k : Int) < r + 1)]
          simp
        · have hk0 : Nat.beq k 0 = false := by
            rw [F.beq_iff, decide_eq_false]
            intro e
            exact hz (by omega) e
          rw [decide_eq_false (by omega : ¬ (k : Int) < r), show ((k : Int) == r) = true by simp [h], hk0, decide_eq_true (by omega : (k : Int) < r + 1)]
          simp
        · rw [decide_eq_false (by omega : ¬ (k : Int) < r), show ((k : Int) == r) = false by simp; omega, decide_eq_false (by omega : ¬ (k : Int) < r + 1), show ((k : Int) == r + 1) = false by simp; omega]
    · rw [F.elK_kd _ (by omega), F.elK_kd _ (by omega)]

/-- What a line does that can be there. -/
theorem F.pt_go {s : ByteArray} {n : Int} {e : Ent} {key : ByteArray} {r : Int} {k : Nat} (hc : F.cutF s F.nl = true) (hr : r ≠ 5) (hk : F.kd (F.cutH s F.nl) = k) (hk5 : k ≤ 5) (hrk : r < k ∨ (k = 0 ∧ r = 0)) (ho : F.elO (F.cutH s F.nl) key k = true) :
    F.pt r s n e key = F.pt k (F.cutT s F.nl) (n + 1) (F.elE e (F.cutH s F.nl) k) key := by
  have hR : F.elR (F.cutH s F.nl) r key = (k : Int) := by
    rw [F.elR_kd _ _ hr, hk, ho, decide_eq_false (by omega : ¬ (k : Int) < r)]
    rcases hrk with h | ⟨h1, h2⟩
    · rw [show ((k : Int) == r) = false by simp; omega]; rfl
    · subst h1; simp
  have h1 : F.pt r s n e key = F.enL (F.cutT s F.nl) (n + 1) e (F.cutH s F.nl) key r := by unfold F.pt; rw [hc]; rfl
  rw [h1, F.enL_pt hR (by omega) (by omega), F.elK_kd _ hr, hk]

theorem F.pt_bad {s : ByteArray} {n : Int} {e : Ent} {key : ByteArray} {r : Int} (hc : F.cutF s F.nl = true) (hr : r ≠ 5) (h : F.elR (F.cutH s F.nl) r key < 0) : F.pt r s n e key = (false, F.cutT s F.nl, n + 1, F.elE e (F.cutH s F.nl) (F.kd (F.cutH s F.nl))) := by
  have h1 : F.pt r s n e key = F.enL (F.cutT s F.nl) (n + 1) e (F.cutH s F.nl) key r := by unfold F.pt; rw [hc]; rfl
  rw [h1, F.enL_bad h, F.elK_kd _ hr]

theorem F.pt_no {s : ByteArray} {n : Int} {e : Ent} {key : ByteArray} {r : Int} (hc : F.cutF s F.nl = false) : F.pt r s n e key = (false, F.cutT s F.nl, n + 1, e) := by unfold F.pt; rw [hc]; rfl

theorem F.tim_word {line : ByteArray} (h : F.hasPrefix line F.kTimS = true) : F.cutT line F.sp = line.extract F.kTimS.size line.size := by
  have hw : F.kTim ++ F.sp = F.kTimS := F.bsx (by rw [F.bs_app]; rfl)
  have := (F.cut_word (line := line) (w := F.kTim) (by decide)).2
  rw [hw] at this
  exact this h

theorem F.key_word {line : ByteArray} (h : F.hasPrefix line F.kKeyS = true) : F.cutT line F.sp = line.extract F.kKeyS.size line.size := by
  have hw : F.kKey ++ F.sp = F.kKeyS := F.bsx (by rw [F.bs_app]; rfl)
  have := (F.cut_word (line := line) (w := F.kKey) (by decide)).2
  rw [hw] at this
  exact this h

theorem F.dat_word {line : ByteArray} (h : F.hasPrefix line F.kDatS = true) : F.cutT line F.sp = line.extract F.kDatS.size line.size := by
  have hw : F.kDat ++ F.sp = F.kDatS := F.bsx (by rw [F.bs_app]; rfl)
  have := (F.cut_word (line := line) (w := F.kDat) (by decide)).2
  rw [hw] at this
  exact this h

end Go.Proofs.YtgkjfochkhiojaaDoor
