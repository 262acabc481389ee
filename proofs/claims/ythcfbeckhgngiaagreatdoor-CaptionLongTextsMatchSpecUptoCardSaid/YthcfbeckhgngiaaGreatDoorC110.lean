/- What is proved here: the lines of a text, plain (no statement of the seat). -/
import Derived.Test.YthcfbeckhgngiaaGreatDoorC4
import Derived.Lib.SplitLaws
namespace Go.Proofs.YthcfbeckhgngiaaGreatDoor
open Go Go.RowKit
set_option linter.unusedVariables false
set_option linter.unusedSimpArgs false

namespace F

/-- A row of bytes, cut at each c. -/
def sp1 (c : UInt8) : List UInt8 → List (List UInt8)
  | [] => [[]]
  | b :: r => bif b == c then [] :: sp1 c r else match sp1 c r with
    | [] => [[b]]
    | h :: t => (b :: h) :: t

theorem sp1_ne (c : UInt8) : ∀ l, sp1 c l ≠ []
  | [] => by simp [sp1]
  | b :: r => by
    rw [sp1]
    cases b == c
    · simp only [cond_false]
      split <;> simp
    · simp

theorem splitK_eq (c : UInt8) (k : Nat) (l : List UInt8) : Lib.splitK [c] 0 (k + 1) (c :: l) = [] :: Lib.splitK [c] 0 k l := by
  have hix : Lib.index (c :: l) [c] = ((0 : Nat) : Int) := by rw [Lib.index]; simp [List.isPrefixOf]
  rw [Lib.splitK, hix]
  simp

theorem splitK_nn (c : UInt8) : ∀ (k : Nat) (l : List UInt8), Lib.splitK [c] 0 k l ≠ []
  | 0, l => by simp [Lib.splitK]
  | k + 1, l => by
    rw [Lib.splitK]
    split <;> simp

theorem splitK_cons {b c : UInt8} (h : b ≠ c) (k : Nat) (l : List UInt8) : Lib.splitK [c] 0 k (b :: l) = match Lib.splitK [c] 0 k l with
    | [] => [[b]]
    | h :: t => (b :: h) :: t := by
  cases k with
  | zero => rfl
  | succ k =>
    have hp : ([c] : List UInt8).isPrefixOf (b :: l) = false := by simp [List.isPrefixOf, Ne.symm h]
    have hix : Lib.index (b :: l) [c] = if Lib.index l [c] == -1 then -1 else Lib.index l [c] + 1 := by rw [Lib.index, hp]; simp
    by_cases hm : Lib.index l [c] = -1
    · rw [Lib.splitK, Lib.splitK, hix, hm]
      simp
    · have hge := Lib.index_ge l [c]
      obtain ⟨j, hj⟩ : ∃ j : Nat, Lib.index l [c] = j := ⟨(Lib.index l [c]).toNat, by omega⟩
      have hix' : Lib.index (b :: l) [c] = ((j + 1 : Nat) : Int) := by rw [hix, if_neg (fun e => hm (beq_iff_eq.1 e)), hj]; omega
      have n1 : ¬ ((((j + 1 : Nat) : Int) == -1) = true) := fun e => by have := beq_iff_eq.1 e; omega
      have n2 : ¬ ((((j : Nat) : Int) == -1) = true) := fun e => by have := beq_iff_eq.1 e; omega
      rw [Lib.splitK, hix', if_neg n1, Lib.splitK, hj, if_neg n2]
      have e1 : (((j + 1 : Nat) : Int)).toNat = j + 1 := by omega
      have e2 : (((j : Nat) : Int)).toNat = j := by omega
      rw [e1, e2]
      simp

theorem split_sp1 (c : UInt8) : ∀ l, Lib.split l [c] = sp1 c l
  | [] => by
    unfold Lib.split
    rw [Lib.count_one]
    rfl
  | b :: l => by
    unfold Lib.split
    have ih := split_sp1 c l
    unfold Lib.split at ih
    by_cases h : b = c
    · subst h
      rw [Lib.count_cons_eq, Nat.add_comm, splitK_eq, ih, sp1]
      simp
    · have hb : (b == c) = false := beq_eq_false_iff_ne.2 h
      rw [Lib.count_cons_ne b c l h, splitK_cons h, ih, sp1, hb]
      simp only [cond_false]

theorem split_bytes (s : ByteArray) (c : UInt8) : (split s ⟨⟨[c]⟩⟩).map (·.data.toList) = sp1 c s.data.toList := by
  unfold split
  rw [Lib.splitB_data]
  exact split_sp1 c _

theorem sp1_snoc (c : UInt8) : ∀ l, sp1 c (l ++ [c]) = sp1 c l ++ [[]]
  | [] => by simp [sp1]
  | b :: r => by
    rw [List.cons_append, sp1, sp1, sp1_snoc c r]
    cases hb : b == c
    · simp only [cond_false]
      have := sp1_ne c r
      cases hs : sp1 c r with
      | nil => exact absurd hs this
      | cons h t => rfl
    · rfl

theorem sp1_last (c : UInt8) : ∀ l, (sp1 c l).getLast? = some [] → l = [] ∨ l.getLast? = some c
  | [], _ => .inl rfl
  | b :: r, h => by
    right
    rw [sp1] at h
    cases hb : b == c
    · rw [hb] at h
      simp only [cond_false] at h
      have hne := sp1_ne c r
      have ih := sp1_last c r
      cases hs : sp1 c r with
      | nil => exact absurd hs hne
      | cons x t =>
        rw [hs] at h ih
        cases t with
        | nil => simp at h
        | cons y t =>
          have h2 : (x :: y :: t).getLast? = some [] := by simpa using h
          rcases ih h2 with e | e
          · subst e; simp [sp1] at hs
          · cases r with
            | nil => simp at e
            | cons z r => simpa using e
    · rw [hb] at h
      simp only [cond_true] at h
      have hne := sp1_ne c r
      cases hs : sp1 c r with
      | nil => exact absurd hs hne
      | cons x t =>
        rw [hs] at h
        have h2 : (sp1 c r).getLast? = some [] := by rw [hs]; simpa using h
        rcases sp1_last c r h2 with e | e
        · subst e
          have hb : b = c := by simpa using hb
          simp [hb]
        · cases r with
          | nil => simp at e
          | cons z r => simpa using e

def nl : ByteArray := ⟨⟨[10]⟩⟩

/-- Is a string empty? -/
def emp (s : ByteArray) : Bool := s.toList == (⟨#[]⟩ : ByteArray).toList

theorem emp_size (s : ByteArray) : emp s = decide (s.size = 0) := by
  have := F.empty_eq s
  unfold emp
  rw [show ((⟨#[]⟩ : ByteArray).toList) = ByteArray.toList (ByteArray.mk (Array.mk [])) from rfl, this]
  by_cases h : s.size = 0 <;> simp [h]

/-- A string without what it ends with. -/
def trim (s p : ByteArray) : ByteArray := bif hasS s p then s.extract 0 (s.size - p.size) else s

/-- The lines of a text: the last one, if it is empty, is none. -/
def lns (s : ByteArray) : List ByteArray := bif emp ((split s nl).getD ((split s nl).length - 1) ⟨#[]⟩) then (split s nl).take ((split s nl).length - 1) else split s nl

theorem bmap_inj {a b : List ByteArray} (h : a.map (·.data.toList) = b.map (·.data.toList)) : a = b := by
  induction a generalizing b with
  | nil => cases b with
    | nil => rfl
    | cons y b => simp at h
  | cons x a ih => cases b with
    | nil => simp at h
    | cons y b =>
      simp only [List.map_cons, List.cons.injEq] at h
      rw [ih h.2]
      congr 1
      exact ByteArray.ext (Array.ext' h.1)

theorem hasS_nl (s : ByteArray) : hasS s nl = true ↔ ∃ t, s.data.toList = t ++ [10] := by
  unfold hasS Lib.hasSuffix
  rw [show bs nl = [10] from rfl, show bs s = s.data.toList from rfl, List.isSuffixOf_iff_suffix]
  constructor
  · rintro ⟨t, h⟩; exact ⟨t, h.symm⟩
  · rintro ⟨t, h⟩; exact ⟨t, h.symm⟩

theorem lns_prog (s : ByteArray) : lns s = bif emp s then [] else split (trim s nl) nl := by
  have hb := split_bytes s 10
  have hne := sp1_ne 10 s.data.toList
  unfold lns
  have hl : (split s nl).length = (sp1 10 s.data.toList).length := by rw [← hb]; simp [nl]
  have hlast : emp ((split s nl).getD ((split s nl).length - 1) ⟨#[]⟩) = true ↔ (sp1 10 s.data.toList).getLast? = some [] := by
    have h0 : (split s nl).length - 1 < (split s nl).length := by
      have : 0 < (sp1 10 s.data.toList).length := List.length_pos_iff.2 hne
      omega
    rw [List.getD_eq_getElem?_getD, List.getElem?_eq_getElem h0, Option.getD_some, List.getLast?_eq_getElem?, ← hb, List.length_map, List.getElem?_map]
    rw [show (split s ⟨⟨[10]⟩⟩) = split s nl from rfl, List.getElem?_eq_getElem h0, Option.map_some, emp_size, decide_eq_true_eq, Lib.size_eq, Option.some.injEq, List.length_eq_zero_iff]
  cases he : emp s
  · simp only [cond_false]
    have hs0 : s.data.toList ≠ [] := by
      rw [emp_size, Lib.size_eq] at he
      intro e; rw [e] at he; simp at he
    unfold trim
    cases hh : hasS s nl
    · simp only [cond_false]
      have : ¬ (sp1 10 s.data.toList).getLast? = some [] := by
        intro h
        rcases sp1_last 10 _ h with e | e
        · exact hs0 e
        · have : hasS s nl = true := (hasS_nl s).2 ⟨s.data.toList.dropLast, by
            have h1 := List.dropLast_concat_getLast hs0
            rw [List.getLast?_eq_some_getLast hs0] at e
            rw [Option.some.inj e] at h1
            exact h1.symm⟩
          rw [hh] at this; cases this
      rw [← hlast] at this
      rw [Bool.not_eq_true] at this
      rw [this, cond_false]
    · simp only [cond_true]
      obtain ⟨t, ht⟩ := (hasS_nl s).1 hh
      have e1 : (s.extract 0 (s.size - nl.size)).data.toList = t := by
        rw [Lib.extract_data, Lib.size_eq, ht, show nl.size = 1 from rfl]
        simp
      have e2 : sp1 10 s.data.toList = sp1 10 t ++ [[]] := by rw [ht, sp1_snoc]
      have : emp ((split s nl).getD ((split s nl).length - 1) ⟨#[]⟩) = true := hlast.2 (by rw [e2]; simp)
      rw [this, cond_true]
      refine bmap_inj ?_
      rw [List.map_take, show ((split s nl).map (·.data.toList)) = _ from hb, show ((split (s.extract 0 (s.size - nl.size)) nl).map (·.data.toList)) = _ from split_bytes _ 10, e1, hl, e2]
      simp
  · simp only [cond_true]
    have hs0 : s.data.toList = [] := by
      rw [emp_size, Lib.size_eq, decide_eq_true_eq] at he
      exact List.length_eq_zero_iff.1 he
    have : emp ((split s nl).getD ((split s nl).length - 1) ⟨#[]⟩) = true := hlast.2 (by rw [hs0]; rfl)
    rw [this, cond_true, hl, hs0]
    rfl

theorem lns_mem {s x : ByteArray} (h : x ∈ lns s) : x.size ≤ s.size := by
  unfold lns at h
  cases hc : emp ((split s nl).getD ((split s nl).length - 1) ⟨#[]⟩)
  · rw [hc, cond_false] at h; exact split_size h
  · rw [hc, cond_true] at h; exact split_size (List.mem_of_mem_take h)

theorem lns_len (s : ByteArray) : (lns s).length ≤ s.size + 1 := by
  have h1 := split_len (s := s) (sep := nl) (Nat.le_refl 1)
  have h2 := Lib.countB_le nl (Nat.le_refl 1) s.size s (Nat.le_refl _)
  unfold lns
  cases emp ((split s nl).getD ((split s nl).length - 1) ⟨#[]⟩)
  · rw [cond_false]; omega
  · rw [cond_true, List.length_take]; omega

end F
end Go.Proofs.YthcfbeckhgngiaaGreatDoor
