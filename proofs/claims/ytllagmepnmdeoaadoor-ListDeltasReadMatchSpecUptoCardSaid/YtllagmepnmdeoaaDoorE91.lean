/- What is proved here: an entry of a list's text is the same for the program and for the reference, on plain data (no statement of the seat). -/
import Derived.Test.YtllagmepnmdeoaaDoorE94
namespace Go.Proofs.YtllagmepnmdeoaaDoor
open Go Go.RowKit
set_option linter.unusedVariables false
set_option linter.unusedSimpArgs false
set_option maxHeartbeats 1000000

theorem F.cutF_nil {s : ByteArray} (h : s.size = 0) : F.cutF s F.nl = false := by
  have hb : F.bs s = [] := List.length_eq_zero_iff.1 (by rw [F.bs_len, h])
  unfold F.cutF
  rw [hb]; rfl

/-- Where a text stands in the lines. -/
structure F.At (ls : List ByteArray) (op : Bool) (a : Nat) (s : ByteArray) : Prop where
  drop : ls.drop a = F.lnL s
  len : a ≤ ls.length
  op : s.size ≠ 0 → op = F.opA false s

theorem F.At.nil {ls : List ByteArray} {op : Bool} {a : Nat} {s : ByteArray} (h : F.At ls op a s) (h0 : s.size = 0) : ls.length = a ∧ F.mor ls op a = false := by
  have hd := h.drop
  rw [F.lnL_nil h0] at hd
  have h1 := List.drop_eq_nil_iff.1 hd
  have h2 := h.len
  have e : ls.length = a := by omega
  refine ⟨e, ?_⟩
  unfold F.mor
  rw [decide_eq_false (by omega)]
  rfl

theorem F.At.cons {ls : List ByteArray} {op : Bool} {a : Nat} {s : ByteArray} (h : F.At ls op a s) (h0 : s.size ≠ 0) :
    a < ls.length ∧ F.lAt ls a = F.cutH s F.nl ∧ F.mor ls op a = F.cutF s F.nl ∧ F.At ls op (a + 1) (F.cutT s F.nl) := by
  have hd := h.drop
  rw [F.lnL_cons h0] at hd
  have hlt : a < ls.length := by
    rcases Nat.lt_or_ge a ls.length with h1 | h1
    · exact h1
    · rw [List.drop_eq_nil_of_le h1] at hd; cases hd
  rw [List.drop_eq_getElem_cons hlt] at hd
  injection hd with e1 e2
  have hA : F.At ls op (a + 1) (F.cutT s F.nl) := ⟨e2, hlt, fun h1 => by
    rw [h.op h0, F.opA_cons h0, F.opA_cons h1, F.opA_cons h1]⟩
  refine ⟨hlt, ?_, ?_, hA⟩
  · unfold F.lAt
    simp only [List.getD, List.getElem?_eq_getElem hlt, Option.getD_some]
    exact e1
  · unfold F.mor
    rw [decide_eq_true hlt, Bool.true_and]
    by_cases h1 : (F.cutT s F.nl).size = 0
    · have hl := (hA.nil h1).1
      rw [decide_eq_true (by omega : a + 1 = ls.length), Bool.and_true, h.op h0, F.opA_cons h0, F.opA_nil h1, Bool.not_not]
    · have hf : F.cutF s F.nl = true := by
        cases hc : F.cutF s F.nl
        · exact absurd (F.cutT_end hc) h1
        · rfl
      have h2 : F.lnL (F.cutT s F.nl) ≠ [] := by rw [F.lnL_cons h1]; simp
      have h3 : ¬ a + 1 = ls.length := fun e => h2 (by rw [← hA.drop, e, List.drop_length])
      rw [decide_eq_false h3, Bool.and_false, hf]
      rfl

theorem F.at_mor {ls : List ByteArray} {op : Bool} {a : Nat} {s : ByteArray} (h : F.At ls op a s) : F.mor ls op a = F.cutF s F.nl := by
  by_cases h0 : s.size = 0
  · rw [(h.nil h0).2, F.cutF_nil h0]
  · exact (h.cons h0).2.2.1

theorem F.at_line {ls : List ByteArray} {op : Bool} {a : Nat} {s : ByteArray} (h : F.At ls op a s) (hc : F.cutF s F.nl = true) : F.lAt ls a = F.cutH s F.nl ∧ F.At ls op (a + 1) (F.cutT s F.nl) := by
  obtain ⟨_, h1, _, h2⟩ := h.cons (F.cutF_ne hc)
  exact ⟨h1, h2⟩

/-- A line that begins with a word and a blank. -/
theorem F.cut_at (s : ByteArray) : Lib.cut (F.bs s) (F.bs F.sp) = if Lib.indexByte (F.bs s) 32 ≥ 0 then ((F.bs s).take (Lib.indexByte (F.bs s) 32).toNat, (F.bs s).drop ((Lib.indexByte (F.bs s) 32).toNat + 1), true) else (F.bs s, [], false) := by
  have h : Lib.index (F.bs s) (F.bs F.sp) = Lib.indexByte (F.bs s) 32 := Lib.index_one ..
  unfold Lib.cut
  rw [h]
  rfl

theorem F.pre_iff {s p : ByteArray} : F.hasPrefix s p = true ↔ ∃ r, F.bs s = F.bs p ++ r := by
  unfold F.hasPrefix
  rw [Bool.and_eq_true, decide_eq_true_eq, F.seq_iff]
  constructor
  · rintro ⟨h1, h2⟩
    refine ⟨(F.bs s).drop p.size, ?_⟩
    have h3 := congrArg F.bs h2
    rw [F.sub_bs, List.drop_zero, Nat.sub_zero] at h3
    rw [← h3, List.take_append_drop]
  · rintro ⟨r, hr⟩
    have h1 : p.size ≤ s.size := by rw [← F.bs_len, ← F.bs_len, hr, List.length_append]; omega
    refine ⟨h1, F.bsx ?_⟩
    rw [F.sub_bs, hr, List.drop_zero, Nat.sub_zero, ← F.bs_len p, List.take_left]

theorem F.cut_word {line w : ByteArray} (hw : (32 : UInt8) ∉ F.bs w) :
    (F.seq (F.cutH line F.sp) w && F.cutF line F.sp) = F.hasPrefix line (w ++ F.sp) ∧ (F.hasPrefix line (w ++ F.sp) = true → F.cutT line F.sp = line.extract (w ++ F.sp).size line.size) := by
  have hb : F.bs (w ++ F.sp) = F.bs w ++ [32] := by rw [F.bs_app]; rfl
  have hz : (w ++ F.sp).size = (F.bs w).length + 1 := by rw [← F.bs_len, hb, List.length_append]; rfl
  have e := F.cut_at line
  by_cases hp : F.hasPrefix line (w ++ F.sp) = true
  · obtain ⟨r, hr⟩ := F.pre_iff.1 hp
    rw [hb, List.append_assoc, List.singleton_append] at hr
    rw [hr, F.index_first hw, if_pos (by omega)] at e
    have e1 : F.cutF line F.sp = true := by unfold F.cutF; rw [hr, e]
    have e2 : F.cutH line F.sp = w := F.bsx (by unfold F.cutH; rw [hr, e, F.bs_mk]; simp)
    have e3 : F.cutT line F.sp = line.extract (w ++ F.sp).size line.size := F.bsx (by
      rw [F.sub_bs, hz]
      unfold F.cutT
      rw [hr, e, F.bs_mk (List.drop _ _)]
      rw [show (((F.bs w).length : Nat) : Int).toNat + 1 = (F.bs w).length + 1 by omega]
      have hl : line.size = (F.bs w ++ 32 :: r).length := by rw [← F.bs_len, hr]
      rw [hl, List.take_of_length_le (by rw [List.length_drop]; exact Nat.le_refl _)])
    rw [e1, e2, hp]
    exact ⟨by rw [F.seq_iff.2 rfl]; rfl, fun _ => e3⟩
  · have hp' : F.hasPrefix line (w ++ F.sp) = false := by cases h : F.hasPrefix line (w ++ F.sp) <;> simp_all
    rw [hp']
    refine ⟨?_, fun h => by cases h⟩
    cases hc : F.cutF line F.sp
    · rw [Bool.and_false]
    · rw [Bool.and_true]
      cases hs : F.seq (F.cutH line F.sp) w
      · rfl
      · exfalso
        have hw2 := F.seq_iff.1 hs
        apply hp
        apply F.pre_iff.2
        unfold F.cutF at hc
        split at e
        · rename_i hi
          have h1 := F.indexByte_at (l := F.bs line) (c := 32) (i := (Lib.indexByte (F.bs line) 32).toNat) (by omega)
          have h2 := congrArg F.bs hw2
          unfold F.cutH at h2
          rw [e, F.bs_mk] at h2
          refine ⟨(F.bs line).drop ((Lib.indexByte (F.bs line) 32).toNat + 1), ?_⟩
          rw [hb, ← h2, List.append_assoc, List.singleton_append]
          exact h1
        · rw [e] at hc; cases hc

/-- Which line of an entry a line is. -/
def F.kd (line : ByteArray) : Nat := F.elK line 0

theorem F.elK_kd (line : ByteArray) {r : Int} (h : r ≠ 5) : F.elK line r = F.kd line := by
  unfold F.kd F.elK
  rw [show (r == 5) = false by simp [h], show ((0 : Int) == 5) = false by rfl]

theorem F.sb_pre {s p : ByteArray} (h : F.hasPrefix s p = true) (h2 : 2 ≤ p.size) : (F.bs s)[1]? = (F.bs p)[1]? := by
  obtain ⟨r, hr⟩ := F.pre_iff.1 h
  rw [hr, List.getElem?_append_left (by rw [F.bs_len]; omega)]

theorem F.sb_seq {s p : ByteArray} (h : F.seq s p = true) : (F.bs s)[1]? = (F.bs p)[1]? := by rw [F.seq_iff.1 h]

theorem F.kd_eq (line : ByteArray) : F.hasPrefix line F.kX = Nat.beq (F.kd line) 0 ∧ F.seq line F.kBrk = Nat.beq (F.kd line) 1 ∧ F.hasPrefix line F.kDatS = Nat.beq (F.kd line) 2 ∧ F.hasPrefix line F.kKeyS = Nat.beq (F.kd line) 3 ∧ F.seq line F.kGap = Nat.beq (F.kd line) 4 ∧ F.hasPrefix line F.kTimS = Nat.beq (F.kd line) 5 ∧ Nat.beq (F.kd line) 6 = false := by
  have cD := (F.cut_word (line := line) (w := F.kDat) (by decide)).1
  have cK := (F.cut_word (line := line) (w := F.kKey) (by decide)).1
  have cT := (F.cut_word (line := line) (w := F.kTim) (by decide)).1
  have wD : F.kDat ++ F.sp = F.kDatS := F.bsx (by rw [F.bs_app]; rfl)
  have wK : F.kKey ++ F.sp = F.kKeyS := F.bsx (by rw [F.bs_app]; rfl)
  have wT : F.kTim ++ F.sp = F.kTimS := F.bsx (by rw [F.bs_app]; rfl)
  rw [wD] at cD
  rw [wK] at cK
  rw [wT] at cT
  have h0 : F.hasPrefix line F.kX = true → (F.bs line)[1]? = some 88 := fun h => F.sb_pre h (by decide)
  have h1 : F.seq line F.kBrk = true → (F.bs line)[1]? = some 66 := fun h => F.sb_seq h
  have h2 : F.hasPrefix line F.kDatS = true → (F.bs line)[1]? = some 68 := fun h => F.sb_pre h (by decide)
  have h3 : F.hasPrefix line F.kKeyS = true → (F.bs line)[1]? = some 75 := fun h => F.sb_pre h (by decide)
  have h4 : F.seq line F.kGap = true → (F.bs line)[1]? = some 71 := fun h => F.sb_seq h
  have h5 : F.hasPrefix line F.kTimS = true → (F.bs line)[1]? = some 84 := fun h => F.sb_pre h (by decide)
  unfold F.kd F.elK
  rw [cD, cK, cT, show ((0 : Int) == 5) = false from rfl, cond_false]
  generalize F.hasPrefix line F.kX = t0 at *
  generalize F.seq line F.kBrk = t1 at *
  generalize F.hasPrefix line F.kDatS = t2 at *
  generalize F.hasPrefix line F.kKeyS = t3 at *
  generalize F.seq line F.kGap = t4 at *
  generalize F.hasPrefix line F.kTimS = t5 at *
  clear cD cK cT
  generalize (F.bs line)[1]? = b at *
  cases t0
  · cases t1
    · cases t4
      · cases t2
        · cases t3
          · cases t5 <;> decide
          · cases t5
            · decide
            · exact absurd ((h3 rfl).symm.trans (h5 rfl)) (by decide)
        · cases t3
          · cases t5
            · decide
            · exact absurd ((h2 rfl).symm.trans (h5 rfl)) (by decide)
          · exact absurd ((h2 rfl).symm.trans (h3 rfl)) (by decide)
      · cases t2
        · cases t3
          · cases t5
            · decide
            · exact absurd ((h4 rfl).symm.trans (h5 rfl)) (by decide)
          · exact absurd ((h4 rfl).symm.trans (h3 rfl)) (by decide)
        · exact absurd ((h4 rfl).symm.trans (h2 rfl)) (by decide)
    · cases t4
      · cases t2
        · cases t3
          · cases t5
            · decide
            · exact absurd ((h1 rfl).symm.trans (h5 rfl)) (by decide)
          · exact absurd ((h1 rfl).symm.trans (h3 rfl)) (by decide)
        · exact absurd ((h1 rfl).symm.trans (h2 rfl)) (by decide)
      · exact absurd ((h1 rfl).symm.trans (h4 rfl)) (by decide)
  · cases t1
    · cases t4
      · cases t2
        · cases t3
          · cases t5
            · decide
            · exact absurd ((h0 rfl).symm.trans (h5 rfl)) (by decide)
          · exact absurd ((h0 rfl).symm.trans (h3 rfl)) (by decide)
        · exact absurd ((h0 rfl).symm.trans (h2 rfl)) (by decide)
      · exact absurd ((h0 rfl).symm.trans (h4 rfl)) (by decide)
    · exact absurd ((h0 rfl).symm.trans (h1 rfl)) (by decide)

theorem F.beq_iff (a b : Nat) : Nat.beq a b = decide (a = b) := by
  by_cases h : a = b
  · rw [decide_eq_true h, h]; exact Nat.beq_refl b
  · rw [decide_eq_false h]
    cases hb : Nat.beq a b
    · rfl
    · exact absurd (Nat.eq_of_beq_eq_true hb) h

/-- An entry of which a time out of bounds is cut. -/
def F.capE (e : Ent) : Ent := { e with milli := min e.milli 3600001 }

/-- The program's way from a line that is not taken yet. -/
def F.pt (r : Int) (s : ByteArray) (n : Int) (e : Ent) (key : ByteArray) : Bool × ByteArray × Int × Ent :=
  bif F.cutF s F.nl then F.enL (F.cutT s F.nl) (n + 1) e (F.cutH s F.nl) key r else (false, F.cutT s F.nl, n + 1, e)

theorem F.enL_pt {s : ByteArray} {n : Int} {e : Ent} {line key : ByteArray} {rank : Int} {r : Int} (hr : F.elR line rank key = r) (h1 : 0 ≤ r) (h2 : r ≠ 6) : F.enL s n e line key rank = F.pt r s n (F.elE e line (F.elK line rank)) key := by
  subst hr
  unfold F.pt
  cases h3 : F.cutF s F.nl
  · rw [F.enL_open (by omega) h2 h3]; rfl
  · rw [F.enL_go (by omega) h2 h3]; rfl

theorem F.enL_congr {s : ByteArray} {n : Int} {e : Ent} {line key : ByteArray} {r r' : Int} (h1 : F.elR line r key = F.elR line r' key) (h2 : F.elK line r = F.elK line r') : F.enL s n e line key r = F.enL s n e line key r' := by
  rw [F.enL, h1, h2]
  conv => rhs; rw [F.enL]

/-- What the program and the reference say of an entry agree. -/
structure F.Rel (ls : List ByteArray) (op : Bool) (P : Bool × ByteArray × Int × Ent) (Q : Bool × Nat × Ent) : Prop where
  ok : P.1 = Q.1
  good : Q.1 = true → P.2.2.1 = (Q.2.1 : Int) ∧ F.At ls op Q.2.1 P.2.1 ∧ F.capE P.2.2.2 = F.capE Q.2.2
  bad : Q.1 = false → P.2.2.1 = (Q.2.1 : Int) + 1

theorem F.Rel.no {ls : List ByteArray} {op : Bool} {a : Nat} (s : ByteArray) {n : Int} (e e' : Ent) (h : n = (a : Int) + 1) : F.Rel ls op (false, s, n, e) (false, a, e') := ⟨rfl, fun h => (by cases h), fun _ => h⟩

theorem F.cap_eq {e e' : Ent} (h : F.capE e = F.capE e') : e.uri = e'.uri ∧ min e.milli 3600001 = min e'.milli 3600001 ∧ e.brk = e'.brk ∧ e.date = e'.date ∧ e.key = e'.key ∧ e.gap = e'.gap ∧ e.extra = e'.extra := by
  unfold F.capE at h
  obtain ⟨u, m, b, d, k, g, x⟩ := e
  obtain ⟨u', m', b', d', k', g', x'⟩ := e'
  simp only [Ent.mk.injEq] at h
  exact h

theorem F.cap_of {e e' : Ent} (h1 : e.uri = e'.uri) (h2 : min e.milli 3600001 = min e'.milli 3600001) (h3 : e.brk = e'.brk) (h4 : e.date = e'.date) (h5 : e.key = e'.key) (h6 : e.gap = e'.gap) (h7 : e.extra = e'.extra) : F.capE e = F.capE e' := by
  unfold F.capE
  obtain ⟨u, m, b, d, k, g, x⟩ := e
  obtain ⟨u', m', b', d', k', g', x'⟩ := e'
  simp only at h1 h2 h3 h4 h5 h6 h7 ⊢
  rw [h1, h2, h3, h4, h5, h6, h7]

theorem F.no_beh {ls : List ByteArray} {op : Bool} {a : Nat} {w : ByteArray} (h : F.mor ls op a = false) : F.beh ls op a w = false := by unfold F.beh; rw [h]; rfl

theorem F.no_exa {ls : List ByteArray} {op : Bool} {a : Nat} {w : ByteArray} (h : F.mor ls op a = false) : F.exa ls op a w = false := by unfold F.exa; rw [h]; rfl

theorem F.no_s6 {ls : List ByteArray} {op : Bool} {a : Nat} (e : Ent) (h : F.mor ls op a = false) : F.s6 ls op a e = (false, a, e) := by
  unfold F.s6 F.ruri; rw [h]; rfl

theorem F.no_s5 {ls : List ByteArray} {op : Bool} {a : Nat} (e : Ent) (h : F.mor ls op a = false) : F.s5 ls op a e = (false, a, e) := by
  unfold F.s5 F.rtm; rw [F.no_beh h]; rfl

theorem F.no_s4 {ls : List ByteArray} {op : Bool} {a : Nat} (e : Ent) (h : F.mor ls op a = false) : F.s4 ls op a e = (false, a, e) := by
  unfold F.s4; rw [F.no_exa h, F.no_s5 _ h]; rfl

theorem F.no_s3 {ls : List ByteArray} {op : Bool} {a : Nat} (key : ByteArray) (e : Ent) (h : F.mor ls op a = false) : F.s3 key ls op a e = (false, a, e) := by
  unfold F.s3; rw [F.no_beh h, F.no_s4 _ h]; rfl

theorem F.no_s2 {ls : List ByteArray} {op : Bool} {a : Nat} (key : ByteArray) (e : Ent) (h : F.mor ls op a = false) : F.s2 key ls op a e = (false, a, e) := by
  unfold F.s2; rw [F.no_beh h, F.no_s3 _ _ h]; rfl

theorem F.no_s1 {ls : List ByteArray} {op : Bool} {a : Nat} (key : ByteArray) (e : Ent) (h : F.mor ls op a = false) : F.s1 key ls op a e = (false, a, e) := by
  unfold F.s1; rw [F.no_exa h, F.no_s2 _ _ h]; rfl

theorem F.elR_kd (line key : ByteArray) {r : Int} (h : r ≠ 5) : F.elR line r key = bif !F.elO line key (F.kd line) || decide ((F.kd line : Int) < r) || (((F.kd line : Int) == r) && !Nat.beq (F.kd line) 0) then -1 else (F.kd line : Int) := by
  unfold F.elR
  rw [F.elK_kd line h]

/-- A line of another kind is not there for one rank more. -/
theorem F.pt_skip {s : ByteArray} {n : Int} {e : Ent} {key : ByteArray} {r : Int} (h0 : 0 ≤ r) (h3 : r ≤ 3) (hk : (F.kd (F.cutH s F.nl) : Int) ≠ r + 1) (hz : r = 0 → F.kd (F.cutH s F.nl) ≠ 0) : F.pt r s n e key = F.pt (r + 1) s n e key := by
  unfold F.pt
  cases F.cutF s F.nl
  · rfl
  · rw [cond_true, cond_true]
    refine F.enL_congr ?_ ?_
    · rw [F.elR_kd _ _ (by omega), F.elR_kd _ _ (by omega)]
      generalize F.kd (F.cutH s F.nl) = k at *
      cases F.elO (F.cutH s F.nl) key k
      · rfl
      · rcases Int.lt_trichotomy (k : Int) r with h | h | h
        · rw [decide_eq_true h, decide_eq_true (by omega : (k : Int) < r + 1)]
          simp
        · have hk0 : Nat.beq k 0 = false := by
            rw [F.beq_iff, decide_eq_false]
            intro e
            exact hz (by omega) e
          rw [decide_eq_false (by omega : ¬ (k : Int) < r), show ((k : Int) == r) = true by simp [h], hk0, decide_eq_true (by omega : (k : Int) < r + 1)]
          simp
        · rw [decide_eq_false (by omega : ¬ (k : Int) < r), show ((k : Int) == r) = false by simp; omega, decide_eq_false (by omega : ¬ (k : Int) < r + 1), show ((k : Int) == r + 1) = false by simp; omega]
    · rw [F.elK_kd _ (by omega), F.elK_kd _ (by omega)]

/-- What a line does that can be there. -/
theorem F.pt_go {s : ByteArray} {n : Int} {e : Ent} {key : ByteArray} {r : Int} {k : Nat} (hc : F.cutF s F.nl = true) (hr : r ≠ 5) (hk : F.kd (F.cutH s F.nl) = k) (hk5 : k ≤ 5) (hrk : r < k ∨ (k = 0 ∧ r = 0)) (ho : F.elO (F.cutH s F.nl) key k = true) :
    F.pt r s n e key = F.pt k (F.cutT s F.nl) (n + 1) (F.elE e (F.cutH s F.nl) k) key := by
  have hR : F.elR (F.cutH s F.nl) r key = (k : Int) := by
    rw [F.elR_kd _ _ hr, hk, ho, decide_eq_false (by omega : ¬ (k : Int) < r)]
    rcases hrk with h | ⟨h1, h2⟩
    · rw [show ((k : Int) == r) = false by simp; omega]; rfl
    · subst h1; simp
  have h1 : F.pt r s n e key = F.enL (F.cutT s F.nl) (n + 1) e (F.cutH s F.nl) key r := by unfold F.pt; rw [hc]; rfl
  rw [h1, F.enL_pt hR (by omega) (by omega), F.elK_kd _ hr, hk]

theorem F.pt_bad {s : ByteArray} {n : Int} {e : Ent} {key : ByteArray} {r : Int} (hc : F.cutF s F.nl = true) (hr : r ≠ 5) (h : F.elR (F.cutH s F.nl) r key < 0) : F.pt r s n e key = (false, F.cutT s F.nl, n + 1, F.elE e (F.cutH s F.nl) (F.kd (F.cutH s F.nl))) := by
  have h1 : F.pt r s n e key = F.enL (F.cutT s F.nl) (n + 1) e (F.cutH s F.nl) key r := by unfold F.pt; rw [hc]; rfl
  rw [h1, F.enL_bad h, F.elK_kd _ hr]

theorem F.pt_no {s : ByteArray} {n : Int} {e : Ent} {key : ByteArray} {r : Int} (hc : F.cutF s F.nl = false) : F.pt r s n e key = (false, F.cutT s F.nl, n + 1, e) := by unfold F.pt; rw [hc]; rfl

theorem F.L5 {ls : List ByteArray} {op : Bool} {a : Nat} {s : ByteArray} (hA : F.At ls op a s) (e e' : Ent) (h : F.capE e = F.capE e') (key : ByteArray) : F.Rel ls op (F.pt 5 s a e key) (F.s6 ls op a e') := by
  have hm := F.at_mor hA
  cases hc : F.cutF s F.nl
  · rw [hc] at hm
    rw [F.pt_no hc, F.no_s6 _ hm]
    exact F.Rel.no _ _ _ rfl
  · rw [hc] at hm
    obtain ⟨hl, hA1⟩ := F.at_line hA hc
    have h1 : F.pt 5 s a e key = F.enL (F.cutT s F.nl) ((a : Int) + 1) e (F.cutH s F.nl) key 5 := by unfold F.pt; rw [hc]; rfl
    have hk : F.elK (F.cutH s F.nl) 5 = 6 := rfl
    have hR : F.elR (F.cutH s F.nl) 5 key = bif F.uriL (F.cutH s F.nl) then 6 else -1 := by
      unfold F.elR
      rw [hk]
      show (bif !F.uriL (F.cutH s F.nl) || false || false then (-1 : Int) else 6) = _
      cases F.uriL (F.cutH s F.nl) <;> rfl
    rw [h1]
    unfold F.s6 F.ruri
    rw [hm, hl]
    cases hu : F.uriL (F.cutH s F.nl)
    · rw [hu] at hR
      rw [F.enL_bad (by rw [hR]; decide)]
      exact F.Rel.no _ _ _ rfl
    · rw [hu] at hR
      rw [F.enL_end hR, hk]
      refine ⟨rfl, fun _ => ⟨rfl, hA1, ?_⟩, fun h => (by cases h)⟩
      obtain ⟨e1, e2, e3, e4, e5, e6, e7⟩ := F.cap_eq h
      exact F.cap_of rfl e2 e3 e4 e5 e6 e7

theorem F.tim_word {line : ByteArray} (h : F.hasPrefix line F.kTimS = true) : F.cutT line F.sp = line.extract F.kTimS.size line.size := by
  have hw : F.kTim ++ F.sp = F.kTimS := F.bsx (by rw [F.bs_app]; rfl)
  have := (F.cut_word (line := line) (w := F.kTim) (by decide)).2
  rw [hw] at this
  exact this h

theorem F.key_word {line : ByteArray} (h : F.hasPrefix line F.kKeyS = true) : F.cutT line F.sp = line.extract F.kKeyS.size line.size := by
  have hw : F.kKey ++ F.sp = F.kKeyS := F.bsx (by rw [F.bs_app]; rfl)
  have := (F.cut_word (line := line) (w := F.kKey) (by decide)).2
  rw [hw] at this
  exact this h

theorem F.dat_word {line : ByteArray} (h : F.hasPrefix line F.kDatS = true) : F.cutT line F.sp = line.extract F.kDatS.size line.size := by
  have hw : F.kDat ++ F.sp = F.kDatS := F.bsx (by rw [F.bs_app]; rfl)
  have := (F.cut_word (line := line) (w := F.kDat) (by decide)).2
  rw [hw] at this
  exact this h

theorem F.mil_cap {v : ByteArray} (h : F.milOk v = true) : min (F.milV v) 3600001 = min (F.rmV v) 3600001 := by
  unfold F.milV F.rmV
  rw [h, cond_true]
  generalize (F.numV (F.cutH v F.dot) 16) = n
  generalize F.dv (F.cutT v F.dot) = d
  omega

theorem F.L4 {ls : List ByteArray} {op : Bool} {a : Nat} {s : ByteArray} (hA : F.At ls op a s) (e e' : Ent) (h : F.capE e = F.capE e') (key : ByteArray) : F.Rel ls op (F.pt 4 s a e key) (F.s5 ls op a e') := by
  have hm := F.at_mor hA
  cases hc : F.cutF s F.nl
  · rw [hc] at hm
    rw [F.pt_no hc, F.no_s5 _ hm]
    exact F.Rel.no _ _ _ rfl
  · rw [hc] at hm
    obtain ⟨hl, hA1⟩ := F.at_line hA hc
    obtain ⟨k0, k1, k2, k3, k4, k5, k6⟩ := F.kd_eq (F.cutH s F.nl)
    have hbe : F.beh ls op a F.kTimS = Nat.beq (F.kd (F.cutH s F.nl)) 5 := by unfold F.beh; rw [hm, hl, Bool.true_and, k5]
    unfold F.s5 F.rtm
    rw [hbe]
    by_cases hk : F.kd (F.cutH s F.nl) = 5
    · have hp : F.hasPrefix (F.cutH s F.nl) F.kTimS = true := by rw [k5, hk]; rfl
      have hv : F.cutT (F.cutH s F.nl) F.sp = F.behV ls a F.kTimS := by unfold F.behV; rw [hl]; exact F.tim_word hp
      rw [hk, show Nat.beq 5 5 = true from rfl, Bool.true_and, ← hv]
      cases ho : F.milOk (F.cutT (F.cutH s F.nl) F.sp)
      · rw [F.pt_bad hc (by decide) (by rw [F.elR_kd _ _ (by decide), hk, show F.elO (F.cutH s F.nl) key 5 = F.milOk (F.cutT (F.cutH s F.nl) F.sp) from rfl, ho]; decide)]
        exact F.Rel.no _ _ _ rfl
      · rw [F.pt_go hc (by decide) hk (by decide) (Or.inl (by decide)) ho]
        refine F.L5 hA1 _ _ ?_ key
        obtain ⟨e1, e2, e3, e4, e5, e6, e7⟩ := F.cap_eq h
        exact F.cap_of e1 (F.mil_cap ho) e3 e4 e5 e6 e7
    · rw [F.beq_iff, decide_eq_false hk, Bool.false_and, cond_false]
      rw [F.pt_bad hc (by decide) ?_]
      · exact F.Rel.no _ _ _ rfl
      · rw [F.elR_kd _ _ (by decide)]
        have h7 := F.elK_le (F.cutH s F.nl) 0
        have h6 : F.kd (F.cutH s F.nl) ≠ 6 := fun e6 => by rw [e6] at k6; cases k6
        have h7 : F.kd (F.cutH s F.nl) ≤ 7 := h7
        generalize F.kd (F.cutH s F.nl) = k at *
        by_cases k7 : k = 7
        · subst k7
          rw [show F.elO (F.cutH s F.nl) key 7 = false from rfl]
          decide
        · by_cases k4' : k = 4
          · subst k4'
            cases F.elO (F.cutH s F.nl) key 4 <;> decide
          · rw [decide_eq_true (by omega : (k : Int) < 4), Bool.or_true, Bool.true_or]
            show (-1 : Int) < 0
            decide

theorem F.L3 {ls : List ByteArray} {op : Bool} {a : Nat} {s : ByteArray} (hA : F.At ls op a s) (e e' : Ent) (h : F.capE e = F.capE e') (key : ByteArray) : F.Rel ls op (F.pt 3 s a e key) (F.s4 ls op a e') := by
  have hm := F.at_mor hA
  cases hc : F.cutF s F.nl
  · rw [hc] at hm
    rw [F.pt_no hc, F.no_s4 _ hm]
    exact F.Rel.no _ _ _ rfl
  · rw [hc] at hm
    obtain ⟨hl, hA1⟩ := F.at_line hA hc
    obtain ⟨k0, k1, k2, k3, k4, k5, k6⟩ := F.kd_eq (F.cutH s F.nl)
    have hbe : F.exa ls op a F.kGap = Nat.beq (F.kd (F.cutH s F.nl)) 4 := by unfold F.exa; rw [hm, hl, Bool.true_and, k4]
    unfold F.s4
    rw [hbe]
    by_cases hk : F.kd (F.cutH s F.nl) = 4
    · rw [hk, show Nat.beq 4 4 = true from rfl, cond_true, F.pt_go hc (by decide) hk (by decide) (Or.inl (by decide)) rfl]
      refine F.L4 hA1 _ _ ?_ key
      obtain ⟨e1, e2, e3, e4, e5, e6, e7⟩ := F.cap_eq h
      exact F.cap_of e1 e2 e3 e4 e5 rfl e7
    · rw [F.beq_iff, decide_eq_false hk, cond_false, F.pt_skip (by decide) (by decide) (by omega) (fun h => absurd h (by decide))]
      exact F.L4 hA e e' h key

theorem F.L2 {ls : List ByteArray} {op : Bool} {a : Nat} {s : ByteArray} (hA : F.At ls op a s) (e e' : Ent) (h : F.capE e = F.capE e') (key : ByteArray) : F.Rel ls op (F.pt 2 s a e key) (F.s3 key ls op a e') := by
  have hm := F.at_mor hA
  cases hc : F.cutF s F.nl
  · rw [hc] at hm
    rw [F.pt_no hc, F.no_s3 _ _ hm]
    exact F.Rel.no _ _ _ rfl
  · rw [hc] at hm
    obtain ⟨hl, hA1⟩ := F.at_line hA hc
    obtain ⟨k0, k1, k2, k3, k4, k5, k6⟩ := F.kd_eq (F.cutH s F.nl)
    have hbe : F.beh ls op a F.kKeyS = Nat.beq (F.kd (F.cutH s F.nl)) 3 := by unfold F.beh; rw [hm, hl, Bool.true_and, k3]
    unfold F.s3
    rw [hbe]
    by_cases hk : F.kd (F.cutH s F.nl) = 3
    · have hp : F.hasPrefix (F.cutH s F.nl) F.kKeyS = true := by rw [k3, hk]; rfl
      have hv : F.cutT (F.cutH s F.nl) F.sp = F.behV ls a F.kKeyS := by unfold F.behV; rw [hl]; exact F.key_word hp
      rw [hk, show Nat.beq 3 3 = true from rfl, cond_true, ← hv]
      cases ho : F.keyB (F.cutT (F.cutH s F.nl) F.sp) key
      · rw [F.pt_bad hc (by decide) (by rw [F.elR_kd _ _ (by decide), hk, show F.elO (F.cutH s F.nl) key 3 = F.keyB (F.cutT (F.cutH s F.nl) F.sp) key from rfl, ho]; decide)]
        exact F.Rel.no _ _ _ rfl
      · rw [F.pt_go hc (by decide) hk (by decide) (Or.inl (by decide)) ho]
        refine F.L3 hA1 _ _ ?_ key
        obtain ⟨e1, e2, e3, e4, e5, e6, e7⟩ := F.cap_eq h
        exact F.cap_of e1 e2 e3 e4 rfl e6 e7
    · rw [F.beq_iff, decide_eq_false hk, cond_false, F.pt_skip (by decide) (by decide) (by omega) (fun h => absurd h (by decide))]
      exact F.L3 hA e e' h key

theorem F.L1 {ls : List ByteArray} {op : Bool} {a : Nat} {s : ByteArray} (hA : F.At ls op a s) (e e' : Ent) (h : F.capE e = F.capE e') (key : ByteArray) : F.Rel ls op (F.pt 1 s a e key) (F.s2 key ls op a e') := by
  have hm := F.at_mor hA
  cases hc : F.cutF s F.nl
  · rw [hc] at hm
    rw [F.pt_no hc, F.no_s2 _ _ hm]
    exact F.Rel.no _ _ _ rfl
  · rw [hc] at hm
    obtain ⟨hl, hA1⟩ := F.at_line hA hc
    obtain ⟨k0, k1, k2, k3, k4, k5, k6⟩ := F.kd_eq (F.cutH s F.nl)
    have hbe : F.beh ls op a F.kDatS = Nat.beq (F.kd (F.cutH s F.nl)) 2 := by unfold F.beh; rw [hm, hl, Bool.true_and, k2]
    unfold F.s2
    rw [hbe]
    by_cases hk : F.kd (F.cutH s F.nl) = 2
    · have hp : F.hasPrefix (F.cutH s F.nl) F.kDatS = true := by rw [k2, hk]; rfl
      have hv : F.cutT (F.cutH s F.nl) F.sp = F.behV ls a F.kDatS := by unfold F.behV; rw [hl]; exact F.dat_word hp
      rw [hk, show Nat.beq 2 2 = true from rfl, cond_true, ← hv]
      cases ho : F.dtOk (F.cutT (F.cutH s F.nl) F.sp)
      · rw [F.pt_bad hc (by decide) (by rw [F.elR_kd _ _ (by decide), hk, show F.elO (F.cutH s F.nl) key 2 = F.dtOk (F.cutT (F.cutH s F.nl) F.sp) from rfl, ho]; decide)]
        exact F.Rel.no _ _ _ rfl
      · rw [F.pt_go hc (by decide) hk (by decide) (Or.inl (by decide)) ho]
        refine F.L2 hA1 _ _ ?_ key
        obtain ⟨e1, e2, e3, e4, e5, e6, e7⟩ := F.cap_eq h
        exact F.cap_of e1 e2 e3 rfl e5 e6 e7
    · rw [F.beq_iff, decide_eq_false hk, cond_false, F.pt_skip (by decide) (by decide) (by omega) (fun h => absurd h (by decide))]
      exact F.L2 hA e e' h key

theorem F.L0 {ls : List ByteArray} {op : Bool} {a : Nat} {s : ByteArray} (hA : F.At ls op a s) (e e' : Ent) (h : F.capE e = F.capE e') (key : ByteArray) (hx : F.kd (F.cutH s F.nl) ≠ 0) : F.Rel ls op (F.pt 0 s a e key) (F.s1 key ls op a e') := by
  have hm := F.at_mor hA
  cases hc : F.cutF s F.nl
  · rw [hc] at hm
    rw [F.pt_no hc, F.no_s1 _ _ hm]
    exact F.Rel.no _ _ _ rfl
  · rw [hc] at hm
    obtain ⟨hl, hA1⟩ := F.at_line hA hc
    obtain ⟨k0, k1, k2, k3, k4, k5, k6⟩ := F.kd_eq (F.cutH s F.nl)
    have hbe : F.exa ls op a F.kBrk = Nat.beq (F.kd (F.cutH s F.nl)) 1 := by unfold F.exa; rw [hm, hl, Bool.true_and, k1]
    unfold F.s1
    rw [hbe]
    by_cases hk : F.kd (F.cutH s F.nl) = 1
    · rw [hk, show Nat.beq 1 1 = true from rfl, cond_true, F.pt_go hc (by decide) hk (by decide) (Or.inl (by decide)) rfl]
      refine F.L1 hA1 _ _ ?_ key
      obtain ⟨e1, e2, e3, e4, e5, e6, e7⟩ := F.cap_eq h
      exact F.cap_of e1 e2 rfl e4 e5 e6 e7
    · rw [F.beq_iff, decide_eq_false hk, cond_false, F.pt_skip (by decide) (by decide) (by omega) (fun _ => hx)]
      exact F.L1 hA e e' h key

theorem F.LX {ls : List ByteArray} {op : Bool} (key : ByteArray) : ∀ (k a : Nat) (s : ByteArray) (e e' : Ent), s.size ≤ k → F.At ls op a s → F.capE e = F.capE e' → F.Rel ls op (F.pt 0 s a e key) (F.s0 key ls op a e') := by
  intro k
  induction k with
  | zero =>
    intro a s e e' h0 hA h
    have hc : F.cutF s F.nl = false := by
      cases hc : F.cutF s F.nl
      · rfl
      · exact absurd (by omega) (F.cutF_ne hc)
    have hm := F.at_mor hA
    rw [hc] at hm
    unfold F.s0
    rw [F.pt_no hc, F.xs_no (F.no_beh hm), F.no_s1 _ _ (by simpa using hm)]
    exact F.Rel.no _ _ _ (by simp)
  | succ k ih =>
    intro a s e e' h0 hA h
    have hm := F.at_mor hA
    cases hc : F.cutF s F.nl
    · rw [hc] at hm
      unfold F.s0
      rw [F.pt_no hc, F.xs_no (F.no_beh hm), F.no_s1 _ _ (by simpa using hm)]
      exact F.Rel.no _ _ _ (by simp)
    · rw [hc] at hm
      obtain ⟨hl, hA1⟩ := F.at_line hA hc
      obtain ⟨k0, k1, k2, k3, k4, k5, k6⟩ := F.kd_eq (F.cutH s F.nl)
      have hbe : F.beh ls op a F.kX = Nat.beq (F.kd (F.cutH s F.nl)) 0 := by unfold F.beh; rw [hm, hl, Bool.true_and, k0]
      have hz := F.cutT_lt F.nl_one (F.cutF_ne hc)
      by_cases hk : F.kd (F.cutH s F.nl) = 0
      · rw [hk] at hbe
        have hbe : F.beh ls op a F.kX = true := hbe
        have hs : F.s0 key ls op a e' = F.s0 key ls op (a + 1) { e' with extra := e'.extra ++ [F.cutH s F.nl] } := by
          unfold F.s0
          rw [F.xs_go hbe, hl, List.length_cons, show a + ((F.xs ls op (a + 1)).length + 1) = a + 1 + (F.xs ls op (a + 1)).length by omega]
          simp only [List.append_assoc, List.singleton_append]
        rw [hs, F.pt_go hc (by decide) hk (by decide) (Or.inr ⟨rfl, rfl⟩) rfl]
        refine ih (a + 1) _ _ _ (by omega) hA1 ?_
        obtain ⟨e1, e2, e3, e4, e5, e6, e7⟩ := F.cap_eq h
        exact F.cap_of e1 e2 e3 e4 e5 e6 (by show e.extra ++ [_] = e'.extra ++ [_]; rw [e7])
      · rw [F.beq_iff, decide_eq_false hk] at hbe
        have hs : F.s0 key ls op a e' = F.s1 key ls op a e' := by
          unfold F.s0
          rw [F.xs_no hbe, List.append_nil, List.length_nil, Nat.add_zero]
        rw [hs]
        exact F.L0 hA e e' h key hk

end Go.Proofs.YtllagmepnmdeoaaDoor
