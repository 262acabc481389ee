/- What is proved here: the lines of a list's text, as the program and as the reference take them, on plain data (no statement of the seat). -/
import Derived.Test.YtgkjfochkhiojaaDoorE76
namespace Go.Proofs.YtgkjfochkhiojaaDoor
open Go Go.RowKit
set_option linter.unusedVariables false
set_option linter.unusedSimpArgs false

def F.kX : ByteArray := ⟨⟨[35, 88]⟩⟩

def F.kBrk : ByteArray := ⟨⟨[35, 66, 82, 69, 65, 75]⟩⟩

def F.kGap : ByteArray := ⟨⟨[35, 71, 65, 80]⟩⟩

def F.kDat : ByteArray := ⟨⟨[35, 68, 65, 84, 69]⟩⟩

def F.kKey : ByteArray := ⟨⟨[35, 75, 69, 89]⟩⟩

def F.kTim : ByteArray := ⟨⟨[35, 84, 73, 77, 69]⟩⟩

def F.kLst : ByteArray := ⟨⟨[35, 76, 73, 83, 84]⟩⟩

def F.kEnd : ByteArray := ⟨⟨[35, 69, 78, 68]⟩⟩

def F.dash : ByteArray := ⟨⟨[45]⟩⟩

/-- Which line of an entry a line is, behind one of a rank. -/
def F.elK (line : ByteArray) (rank : Int) : Nat :=
  bif rank == 5 then 6 else bif F.hasPrefix line F.kX then 0 else bif F.seq line F.kBrk then 1 else bif F.seq line F.kGap then 4 else
  bif F.seq (F.cutH line F.sp) F.kDat && F.cutF line F.sp then 2 else bif F.seq (F.cutH line F.sp) F.kKey && F.cutF line F.sp then 3 else
  bif F.seq (F.cutH line F.sp) F.kTim && F.cutF line F.sp then 5 else 7

/-- A key's name can stand here. -/
def F.keyB (v key : ByteArray) : Bool := decide (v.size ≠ 0) && F.vis v 33 && !F.seq (F.undash v) key

def F.elO (line key : ByteArray) (k : Nat) : Bool :=
  bif Nat.beq k 6 then F.uriL line else bif Nat.beq k 2 then F.dtOk (F.cutT line F.sp) else bif Nat.beq k 3 then F.keyB (F.cutT line F.sp) key else
  bif Nat.beq k 5 then F.milOk (F.cutT line F.sp) else !Nat.beq k 7

/-- The rank of a line, -1 if it cannot be there. -/
def F.elR (line : ByteArray) (rank : Int) (key : ByteArray) : Int :=
  bif !F.elO line key (F.elK line rank) || decide ((F.elK line rank : Int) < rank) || (((F.elK line rank : Int) == rank) && !Nat.beq (F.elK line rank) 0) then -1 else (F.elK line rank : Int)

/-- The entry behind a line. -/
def F.elE (e : Ent) (line : ByteArray) (k : Nat) : Ent :=
  ⟨bif Nat.beq k 6 then line else e.uri, bif Nat.beq k 5 then F.milV (F.cutT line F.sp) else e.milli, bif Nat.beq k 1 then true else e.brk, bif Nat.beq k 2 then F.dtV (F.cutT line F.sp) else e.date,
   bif Nat.beq k 3 then F.undash (F.cutT line F.sp) else e.key, bif Nat.beq k 4 then true else e.gap, bif Nat.beq k 0 then e.extra ++ [line] else e.extra⟩

theorem F.cutF_ne {s : ByteArray} (h : F.cutF s F.nl = true) : s.size ≠ 0 := by
  intro h0
  have hb : F.bs s = [] := List.length_eq_zero_iff.1 (by rw [F.bs_len, h0])
  unfold F.cutF at h
  rw [hb] at h
  cases h

theorem F.nl_one : 1 ≤ F.nl.size := by decide

/-- An entry of a text, of which the first line is taken: whether all is well, the rest, the number of lines, the entry. -/
def F.enL (s : ByteArray) (n : Int) (e : Ent) (line key : ByteArray) (rank : Int) : Bool × ByteArray × Int × Ent :=
  if F.elR line rank key < 0 then (false, s, n, F.elE e line (F.elK line rank)) else
  if F.elR line rank key = 6 then (true, s, n, F.elE e line (F.elK line rank)) else
  if h : F.cutF s F.nl = true then F.enL (F.cutT s F.nl) (n + 1) (F.elE e line (F.elK line rank)) (F.cutH s F.nl) key (F.elR line rank key) else
  (false, F.cutT s F.nl, n + 1, F.elE e line (F.elK line rank))
termination_by s.size
decreasing_by exact F.cutT_lt F.nl_one (F.cutF_ne h)

theorem F.enL_bad {s : ByteArray} {n : Int} {e : Ent} {line key : ByteArray} {rank : Int} (h : F.elR line rank key < 0) : F.enL s n e line key rank = (false, s, n, F.elE e line (F.elK line rank)) := by
  rw [F.enL, if_pos h]

theorem F.enL_end {s : ByteArray} {n : Int} {e : Ent} {line key : ByteArray} {rank : Int} (h : F.elR line rank key = 6) : F.enL s n e line key rank = (true, s, n, F.elE e line (F.elK line rank)) := by
  rw [F.enL, if_neg (by omega), if_pos h]

theorem F.enL_go {s : ByteArray} {n : Int} {e : Ent} {line key : ByteArray} {rank : Int} (h1 : ¬ F.elR line rank key < 0) (h2 : F.elR line rank key ≠ 6) (h3 : F.cutF s F.nl = true) :
    F.enL s n e line key rank = F.enL (F.cutT s F.nl) (n + 1) (F.elE e line (F.elK line rank)) (F.cutH s F.nl) key (F.elR line rank key) := by
  rw [F.enL, if_neg h1, if_neg h2, dif_pos h3]

theorem F.enL_open {s : ByteArray} {n : Int} {e : Ent} {line key : ByteArray} {rank : Int} (h1 : ¬ F.elR line rank key < 0) (h2 : F.elR line rank key ≠ 6) (h3 : F.cutF s F.nl = false) :
    F.enL s n e line key rank = (false, F.cutT s F.nl, n + 1, F.elE e line (F.elK line rank)) := by
  rw [F.enL, if_neg h1, if_neg h2, dif_neg (by rw [h3]; decide)]

theorem F.elK_le (line : ByteArray) (rank : Int) : F.elK line rank ≤ 7 := by
  unfold F.elK
  generalize (rank == 5) = a
  generalize F.hasPrefix line F.kX = b
  generalize F.seq line F.kBrk = c
  generalize F.seq line F.kGap = d
  generalize (F.seq (F.cutH line F.sp) F.kDat && F.cutF line F.sp) = x
  generalize (F.seq (F.cutH line F.sp) F.kKey && F.cutF line F.sp) = y
  generalize (F.seq (F.cutH line F.sp) F.kTim && F.cutF line F.sp) = z
  cases a <;> cases b <;> cases c <;> cases d <;> cases x <;> cases y <;> cases z <;> decide

theorem F.elR_b (line : ByteArray) (rank : Int) (key : ByteArray) : -1 ≤ F.elR line rank key ∧ F.elR line rank key ≤ 7 := by
  have h := F.elK_le line rank
  unfold F.elR
  cases (!F.elO line key (F.elK line rank) || decide ((F.elK line rank : Int) < rank) || (((F.elK line rank : Int) == rank) && !Nat.beq (F.elK line rank) 0))
  · rw [cond_false]; omega
  · rw [cond_true]; omega

theorem F.elE_len (e : Ent) (line : ByteArray) (k : Nat) : (F.elE e line k).extra.length ≤ e.extra.length + 1 := by
  unfold F.elE
  cases Nat.beq k 0
  · simp only [cond_false]; omega
  · simp only [cond_true, List.length_append, List.length_singleton]; omega

theorem F.enL_le : ∀ (k : Nat) (s : ByteArray) (n : Int) (e : Ent) (line key : ByteArray) (rank : Int), s.size ≤ k → (F.enL s n e line key rank).2.1.size ≤ s.size ∧ n ≤ (F.enL s n e line key rank).2.2.1 ∧ (F.enL s n e line key rank).2.2.1 + (F.enL s n e line key rank).2.1.size ≤ n + s.size + 1 ∧ (F.enL s n e line key rank).2.2.2.extra.length ≤ e.extra.length + 1 + s.size := by
  intro k
  induction k with
  | zero =>
    intro s n e line key rank h
    have hx := F.elE_len e line (F.elK line rank)
    by_cases h1 : F.elR line rank key < 0
    · rw [F.enL_bad h1]; simp only; omega
    · by_cases h2 : F.elR line rank key = 6
      · rw [F.enL_end h2]; simp only; omega
      · have h3 : F.cutF s F.nl = false := by
          cases hc : F.cutF s F.nl
          · rfl
          · exact absurd (by omega) (F.cutF_ne hc)
        have h4 := F.cutT_end h3
        rw [F.enL_open h1 h2 h3]; simp only; omega
  | succ k ih =>
    intro s n e line key rank h
    have hx := F.elE_len e line (F.elK line rank)
    by_cases h1 : F.elR line rank key < 0
    · rw [F.enL_bad h1]; simp only; omega
    · by_cases h2 : F.elR line rank key = 6
      · rw [F.enL_end h2]; simp only; omega
      · cases h3 : F.cutF s F.nl
        · have h4 := F.cutT_end h3
          rw [F.enL_open h1 h2 h3]; simp only; omega
        · have h4 := F.cutT_lt F.nl_one (F.cutF_ne h3)
          obtain ⟨i1, i2, i3, i4⟩ := ih (F.cutT s F.nl) (n + 1) (F.elE e line (F.elK line rank)) (F.cutH s F.nl) key (F.elR line rank key) (by omega)
          rw [F.enL_go h1 h2 h3]; omega

def F.noE (key : ByteArray) : Ent := ⟨⟨⟨[]⟩⟩, 0, false, -1, key, false, []⟩

/-- The entries of a text: whether all is well, the rest, the number of lines, the entries, whether the list is ended. -/
def F.bdL (s : ByteArray) (n : Int) (key : ByteArray) (es : List Ent) (en : Bool) : Bool × ByteArray × Int × List Ent × Bool :=
  if h0 : s.size = 0 then (true, s, n, es, en) else
  if (!F.cutF s F.nl || en) = true then (false, F.cutT s F.nl, n + 1, es, en) else
  if F.seq (F.cutH s F.nl) F.kEnd = true then F.bdL (F.cutT s F.nl) (n + 1) key es true else
  if (F.enL (F.cutT s F.nl) (n + 1) (F.noE key) (F.cutH s F.nl) key 0).1 = false then
    (false, (F.enL (F.cutT s F.nl) (n + 1) (F.noE key) (F.cutH s F.nl) key 0).2.1, (F.enL (F.cutT s F.nl) (n + 1) (F.noE key) (F.cutH s F.nl) key 0).2.2.1, es, en)
  else F.bdL (F.enL (F.cutT s F.nl) (n + 1) (F.noE key) (F.cutH s F.nl) key 0).2.1 (F.enL (F.cutT s F.nl) (n + 1) (F.noE key) (F.cutH s F.nl) key 0).2.2.1 (F.enL (F.cutT s F.nl) (n + 1) (F.noE key) (F.cutH s F.nl) key 0).2.2.2.key
    (es ++ [(F.enL (F.cutT s F.nl) (n + 1) (F.noE key) (F.cutH s F.nl) key 0).2.2.2]) en
termination_by s.size
decreasing_by
  · exact F.cutT_lt F.nl_one h0
  · exact Nat.lt_of_le_of_lt (F.enL_le _ _ _ _ _ _ _ (Nat.le_refl _)).1 (F.cutT_lt F.nl_one h0)

theorem F.bdL_end {s : ByteArray} {n : Int} {key : ByteArray} {es : List Ent} {en : Bool} (h : s.size = 0) : F.bdL s n key es en = (true, s, n, es, en) := by rw [F.bdL, dif_pos h]

theorem F.bdL_no {s : ByteArray} {n : Int} {key : ByteArray} {es : List Ent} {en : Bool} (h : s.size ≠ 0) (h1 : (!F.cutF s F.nl || en) = true) : F.bdL s n key es en = (false, F.cutT s F.nl, n + 1, es, en) := by
  rw [F.bdL, dif_neg h, if_pos h1]

theorem F.bdL_last {s : ByteArray} {n : Int} {key : ByteArray} {es : List Ent} {en : Bool} (h : s.size ≠ 0) (h1 : (!F.cutF s F.nl || en) = false) (h2 : F.seq (F.cutH s F.nl) F.kEnd = true) :
    F.bdL s n key es en = F.bdL (F.cutT s F.nl) (n + 1) key es true := by
  rw [F.bdL, dif_neg h, if_neg (by rw [h1]; decide), if_pos h2]

theorem F.bdL_bad {s : ByteArray} {n : Int} {key : ByteArray} {es : List Ent} {en : Bool} (h : s.size ≠ 0) (h1 : (!F.cutF s F.nl || en) = false) (h2 : F.seq (F.cutH s F.nl) F.kEnd = false) {r : Bool × ByteArray × Int × Ent}
    (hr : F.enL (F.cutT s F.nl) (n + 1) (F.noE key) (F.cutH s F.nl) key 0 = r) (h3 : r.1 = false) : F.bdL s n key es en = (false, r.2.1, r.2.2.1, es, en) := by
  subst hr
  rw [F.bdL, dif_neg h, if_neg (by rw [h1]; decide), if_neg (by rw [h2]; decide), if_pos h3]

theorem F.bdL_go {s : ByteArray} {n : Int} {key : ByteArray} {es : List Ent} {en : Bool} (h : s.size ≠ 0) (h1 : (!F.cutF s F.nl || en) = false) (h2 : F.seq (F.cutH s F.nl) F.kEnd = false) {r : Bool × ByteArray × Int × Ent}
    (hr : F.enL (F.cutT s F.nl) (n + 1) (F.noE key) (F.cutH s F.nl) key 0 = r) (h3 : r.1 = true) : F.bdL s n key es en = F.bdL r.2.1 r.2.2.1 r.2.2.2.key (es ++ [r.2.2.2]) en := by
  subst hr
  rw [F.bdL, dif_neg h, if_neg (by rw [h1]; decide), if_neg (by rw [h2]; decide), if_neg (by rw [h3]; decide)]

/-- What stands behind a word. -/
def F.cutP (s p : ByteArray) : ByteArray := bif F.hasPrefix s p then s.extract p.size s.size else s

def F.hdW (w : ByteArray) : ByteArray := w ++ F.sp

/-- A line with a word and a number. -/
def F.hdOk (s w : ByteArray) : Bool := F.cutF s F.nl && F.hasPrefix (F.cutH s F.nl) (F.hdW w) && F.numOk (F.cutP (F.cutH s F.nl) (F.hdW w)) 16

def F.hdV (s w : ByteArray) : Int := F.numV (F.cutP (F.cutH s F.nl) (F.hdW w)) 16

def F.wTg : ByteArray := ⟨⟨[35, 84, 65, 82, 71, 69, 84]⟩⟩

def F.wFi : ByteArray := ⟨⟨[35, 70, 73, 82, 83, 84]⟩⟩

def F.wBr : ByteArray := ⟨⟨[35, 66, 82, 69, 65, 75, 83]⟩⟩

def F.wSk : ByteArray := ⟨⟨[35, 83, 75, 73, 80]⟩⟩

/-- The rest behind some lines. -/
def F.dr : Nat → ByteArray → ByteArray
  | 0, s => s
  | k + 1, s => F.cutT (F.dr k s) F.nl

theorem F.dr_size (k : Nat) (s : ByteArray) : (F.dr k s).size ≤ s.size := by
  induction k with
  | zero => exact Nat.le_refl _
  | succ k ih => exact Nat.le_trans (F.cutT_size _ _) ih

theorem F.enL_ok : ∀ (k : Nat) (s : ByteArray) (n : Int) (e : Ent) (line key : ByteArray) (rank : Int), s.size ≤ k → (F.enL s n e line key rank).1 = true → (F.enL s n e line key rank).2.2.1 + (F.enL s n e line key rank).2.1.size ≤ n + s.size := by
  intro k
  induction k with
  | zero =>
    intro s n e line key rank h ho
    by_cases h1 : F.elR line rank key < 0
    · rw [F.enL_bad h1] at ho; cases ho
    · by_cases h2 : F.elR line rank key = 6
      · rw [F.enL_end h2]; exact Int.le_refl _
      · have h3 : F.cutF s F.nl = false := by
          cases hc : F.cutF s F.nl
          · rfl
          · exact absurd (by omega) (F.cutF_ne hc)
        rw [F.enL_open h1 h2 h3] at ho; cases ho
  | succ k ih =>
    intro s n e line key rank h ho
    by_cases h1 : F.elR line rank key < 0
    · rw [F.enL_bad h1] at ho; cases ho
    · by_cases h2 : F.elR line rank key = 6
      · rw [F.enL_end h2]; exact Int.le_refl _
      · cases h3 : F.cutF s F.nl
        · rw [F.enL_open h1 h2 h3] at ho; cases ho
        · have h4 := F.cutT_lt F.nl_one (F.cutF_ne h3)
          rw [F.enL_go h1 h2 h3] at ho ⊢
          have := ih (F.cutT s F.nl) (n + 1) (F.elE e line (F.elK line rank)) (F.cutH s F.nl) key (F.elR line rank key) (by omega) ho
          omega

end Go.Proofs.YtgkjfochkhiojaaDoor
