/- What is proved here: the lines of a list's text as the reference takes them, on plain data (no statement of the seat). -/
import Derived.Test.YtgkjfochkhiojaaDoorE81
namespace Go.Proofs.YtgkjfochkhiojaaDoor
open Go Go.RowKit
set_option linter.unusedVariables false
set_option linter.unusedSimpArgs false

/-- There is a line that ends. -/
def F.mor (ls : List ByteArray) (op : Bool) (a : Nat) : Bool := decide (a < ls.length) && !(op && decide (a + 1 = ls.length))

def F.lAt (ls : List ByteArray) (a : Nat) : ByteArray := ls.getD a ⟨⟨[]⟩⟩

def F.exa (ls : List ByteArray) (op : Bool) (a : Nat) (x : ByteArray) : Bool := F.mor ls op a && F.seq (F.lAt ls a) x

def F.ruri (ls : List ByteArray) (op : Bool) (a : Nat) : Bool := F.mor ls op a && F.uriL (F.lAt ls a)

def F.one (b : Bool) : Nat := bif b then 1 else 0

def F.lnL (s : ByteArray) : List ByteArray := (F.lns s).map (·.1)

/-- The last line does not end. -/
def F.opA (op : Bool) (s : ByteArray) : Bool := if h : s.size = 0 then op else F.opA (!F.cutF s F.nl) (F.cutT s F.nl)
termination_by s.size
decreasing_by exact F.cutT_lt (by decide) h

theorem F.lnL_nil {s : ByteArray} (h : s.size = 0) : F.lnL s = [] := by unfold F.lnL; rw [F.lns_nil h]; rfl

theorem F.lnL_cons {s : ByteArray} (h : s.size ≠ 0) : F.lnL s = F.cutH s F.nl :: F.lnL (F.cutT s F.nl) := by unfold F.lnL; rw [F.lns_cons h]; rfl

theorem F.opA_nil {s : ByteArray} (h : s.size = 0) (op : Bool) : F.opA op s = op := by rw [F.opA, dif_pos h]

theorem F.opA_cons {s : ByteArray} (h : s.size ≠ 0) (op : Bool) : F.opA op s = F.opA (!F.cutF s F.nl) (F.cutT s F.nl) := by rw [F.opA, dif_neg h]

theorem F.lnL_len : ∀ (n : Nat) (s : ByteArray), s.size ≤ n → (F.lnL s).length ≤ n := by
  intro n
  induction n with
  | zero => intro s h; rw [F.lnL_nil (by omega)]; exact Nat.le_refl _
  | succ n ih =>
    intro s h
    by_cases h0 : s.size = 0
    · rw [F.lnL_nil h0]; exact Nat.zero_le _
    · rw [F.lnL_cons h0, List.length_cons]
      have := F.cutT_lt (p := F.nl) (by decide) h0
      have := ih (F.cutT s F.nl) (by omega)
      omega

theorem F.lnL_all : ∀ (n : Nat) (s : ByteArray), s.size ≤ n → ∀ x ∈ F.lnL s, x.size ≤ n := by
  intro n
  induction n with
  | zero => intro s h x hx; rw [F.lnL_nil (by omega)] at hx; cases hx
  | succ n ih =>
    intro s h x hx
    by_cases h0 : s.size = 0
    · rw [F.lnL_nil h0] at hx; cases hx
    · rw [F.lnL_cons h0] at hx
      have := F.cutT_lt (p := F.nl) (by decide) h0
      rcases List.mem_cons.1 hx with e | e
      · have := F.cutH_size s F.nl; rw [e]; omega
      · have := ih (F.cutT s F.nl) (by omega) x e; omega

/-- Lines that are not too long. -/
def F.lsOk (ls : List ByteArray) : Bool := decide (ls.length ≤ 500000) && ls.all fun x => decide (x.size ≤ 500000)

theorem F.lsOk_len {ls : List ByteArray} (h : F.lsOk ls = true) : ls.length ≤ 500000 := by
  unfold F.lsOk at h
  simp only [Bool.and_eq_true, decide_eq_true_eq] at h
  exact h.1

theorem F.lsOk_at {ls : List ByteArray} (h : F.lsOk ls = true) (a : Nat) : (F.lAt ls a).size ≤ 500000 := by
  unfold F.lsOk at h
  simp only [Bool.and_eq_true, decide_eq_true_eq, List.all_eq_true] at h
  unfold F.lAt
  by_cases hl : a < ls.length
  · have he : ls[a]? = some ls[a] := List.getElem?_eq_getElem hl
    rw [show ls.getD a (⟨⟨[]⟩⟩ : ByteArray) = ls[a] by simp [List.getD, he]]
    exact h.2 _ (List.getElem_mem hl)
  · have he : ls[a]? = none := List.getElem?_eq_none (by omega)
    rw [show ls.getD a (⟨⟨[]⟩⟩ : ByteArray) = ⟨⟨[]⟩⟩ by simp [List.getD, he]]
    decide

theorem F.lsOk_lnL {s : ByteArray} (h : s.size ≤ 500000) : F.lsOk (F.lnL s) = true := by
  unfold F.lsOk
  have h1 := F.lnL_len _ s h
  have h2 := F.lnL_all _ s h
  rw [decide_eq_true h1, Bool.true_and, List.all_eq_true]
  exact fun x hx => decide_eq_true (h2 x hx)

/-- The next line begins with words. -/
def F.beh (ls : List ByteArray) (op : Bool) (a : Nat) (w : ByteArray) : Bool := F.mor ls op a && F.hasPrefix (F.lAt ls a) w

def F.behV (ls : List ByteArray) (a : Nat) (w : ByteArray) : ByteArray := (F.lAt ls a).extract w.size (F.lAt ls a).size

def F.cnt (ls : List ByteArray) (op : Bool) (a : Nat) (w : ByteArray) (most : Int) : Bool := F.beh ls op a w && F.numOk (F.behV ls a w) most

def F.kTimS : ByteArray := ⟨⟨[35, 84, 73, 77, 69, 32]⟩⟩

def F.kDatS : ByteArray := ⟨⟨[35, 68, 65, 84, 69, 32]⟩⟩

def F.kKeyS : ByteArray := ⟨⟨[35, 75, 69, 89, 32]⟩⟩

/-- The time of a line, as the reference takes it. -/
def F.rtm (ls : List ByteArray) (op : Bool) (a : Nat) : Bool := F.beh ls op a F.kTimS && F.milOk (F.behV ls a F.kTimS)

def F.rmV (v : ByteArray) : Int := min (F.numV (F.cutH v F.dot) 16) 3600000 * 1000 + (F.dv (F.cutT v F.dot) : Nat)

/-- The lines of the house. -/
def F.xs (ls : List ByteArray) (op : Bool) (a : Nat) : List ByteArray :=
  if h : F.beh ls op a F.kX = true then F.lAt ls a :: F.xs ls op (a + 1) else []
termination_by ls.length - a
decreasing_by
  unfold F.beh F.mor at h
  simp only [Bool.and_eq_true, decide_eq_true_eq] at h
  omega

theorem F.xs_no {ls : List ByteArray} {op : Bool} {a : Nat} (h : F.beh ls op a F.kX = false) : F.xs ls op a = [] := by rw [F.xs, dif_neg (by rw [h]; decide)]

theorem F.xs_go {ls : List ByteArray} {op : Bool} {a : Nat} (h : F.beh ls op a F.kX = true) : F.xs ls op a = F.lAt ls a :: F.xs ls op (a + 1) := by rw [F.xs, dif_pos h]

def F.s6 (ls : List ByteArray) (op : Bool) (a : Nat) (e : Ent) : Bool × Nat × Ent :=
  bif F.ruri ls op a then (true, a + 1, { e with uri := F.lAt ls a }) else (false, a, e)

def F.s5 (ls : List ByteArray) (op : Bool) (a : Nat) (e : Ent) : Bool × Nat × Ent :=
  bif F.rtm ls op a then F.s6 ls op (a + 1) { e with milli := F.rmV (F.behV ls a F.kTimS) } else (false, a, e)

def F.s4 (ls : List ByteArray) (op : Bool) (a : Nat) (e : Ent) : Bool × Nat × Ent :=
  bif F.exa ls op a F.kGap then F.s5 ls op (a + 1) { e with gap := true } else F.s5 ls op a e

def F.s3 (key : ByteArray) (ls : List ByteArray) (op : Bool) (a : Nat) (e : Ent) : Bool × Nat × Ent :=
  bif F.beh ls op a F.kKeyS then (bif F.keyB (F.behV ls a F.kKeyS) key then F.s4 ls op (a + 1) { e with key := F.undash (F.behV ls a F.kKeyS) } else (false, a, e)) else F.s4 ls op a e

def F.s2 (key : ByteArray) (ls : List ByteArray) (op : Bool) (a : Nat) (e : Ent) : Bool × Nat × Ent :=
  bif F.beh ls op a F.kDatS then (bif F.dtOk (F.behV ls a F.kDatS) then F.s3 key ls op (a + 1) { e with date := F.dtV (F.behV ls a F.kDatS) } else (false, a, e)) else F.s3 key ls op a e

def F.s1 (key : ByteArray) (ls : List ByteArray) (op : Bool) (a : Nat) (e : Ent) : Bool × Nat × Ent :=
  bif F.exa ls op a F.kBrk then F.s2 key ls op (a + 1) { e with brk := true } else F.s2 key ls op a e

/-- An entry, as the reference takes it: whether all is well, the place, the entry. -/
def F.s0 (key : ByteArray) (ls : List ByteArray) (op : Bool) (a : Nat) (e : Ent) : Bool × Nat × Ent :=
  F.s1 key ls op (a + (F.xs ls op a).length) { e with extra := e.extra ++ F.xs ls op a }

end Go.Proofs.YtgkjfochkhiojaaDoor
