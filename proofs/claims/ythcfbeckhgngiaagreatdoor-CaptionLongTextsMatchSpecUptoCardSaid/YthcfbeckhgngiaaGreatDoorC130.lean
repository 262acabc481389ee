/- What is proved here: lines in which two signs are written otherwise, plain (no statement of the seat). -/
import Derived.Test.YthcfbeckhgngiaaGreatDoorC112
namespace Go.Proofs.YthcfbeckhgngiaaGreatDoor
open Go Go.RowKit
set_option linter.unusedVariables false
set_option linter.unusedSimpArgs false

namespace F

def amp5 : ByteArray := ⟨⟨[38, 97, 109, 112, 59]⟩⟩

def lt4 : ByteArray := ⟨⟨[38, 108, 116, 59]⟩⟩

def ampB : ByteArray := ⟨⟨[38]⟩⟩

def ltB : ByteArray := ⟨⟨[60]⟩⟩

/-- Is the first byte & or <? -/
def sgn (s : ByteArray) : Bool := match (bs s)[0]? with
  | some b => b == 38 || b == 60
  | none => false

/-- A line as it is meant; none: it is written wrongly. -/
def plB : Nat → ByteArray → ByteArray → Option ByteArray
  | 0, s, out => some out
  | f + 1, s, out =>
    bif emp s then some out else
    bif hasP s amp5 then plB f (s.extract 5 s.size) (out ++ ampB) else
    bif hasP s lt4 then plB f (s.extract 4 s.size) (out ++ ltB) else
    bif sgn s then none else plB f (s.extract 1 s.size) (out ++ s.extract 0 1)

def plR (s : ByteArray) : Option ByteArray := plB s.size s ⟨⟨[]⟩⟩

theorem ext_sz (s : ByteArray) (k : Nat) : (s.extract k s.size).size = s.size - k := by rw [ByteArray.size_extract]; omega

theorem plB_fuel : ∀ (f g : Nat) (s out : ByteArray), s.size ≤ f → s.size ≤ g → plB f s out = plB g s out
  | 0, 0, s, out, _, _ => rfl
  | 0, g + 1, s, out, h, _ => by
    have he : emp s = true := by rw [emp_size]; exact decide_eq_true (by omega)
    rw [plB, plB, he]; rfl
  | f + 1, 0, s, out, _, h => by
    have he : emp s = true := by rw [emp_size]; exact decide_eq_true (by omega)
    rw [plB, plB, he]; rfl
  | f + 1, g + 1, s, out, h1, h2 => by
    rw [plB, plB]
    cases he : emp s
    · have hz : s.size ≠ 0 := by
        rw [emp_size] at he
        exact of_decide_eq_false he
      have e5 := ext_sz s 5; have e4 := ext_sz s 4; have e1 := ext_sz s 1
      rw [plB_fuel f g (s.extract 5 s.size) _ (by omega) (by omega), plB_fuel f g (s.extract 4 s.size) _ (by omega) (by omega), plB_fuel f g (s.extract 1 s.size) _ (by omega) (by omega)]
    · rfl

theorem bs_from (s : ByteArray) (k : Nat) : bs (s.extract k s.size) = (bs s).drop k := by
  rw [bs_ext, List.take_of_length_le (by rw [← size_bs]; exact Nat.le_refl _)]

theorem bs_upto (s : ByteArray) (k : Nat) : bs (s.extract 0 k) = (bs s).take k := by rw [bs_ext, List.drop_zero]

theorem bs_app (a b : ByteArray) : bs (a ++ b) = bs a ++ bs b := by unfold bs; simp

theorem hasP_head {s : ByteArray} {b : UInt8} {r : List UInt8} (hs : bs s = b :: r) (h : b ≠ 38) : hasP s amp5 = false ∧ hasP s lt4 = false := by
  have e1 : bs amp5 = [38, 97, 109, 112, 59] := rfl
  have e2 : bs lt4 = [38, 108, 116, 59] := rfl
  have hb : ((38 : UInt8) == b) = false := beq_eq_false_iff_ne.2 (fun e => h e.symm)
  unfold hasP Lib.hasPrefix
  rw [hs, e1, e2]
  simp only [List.isPrefixOf, hb, Bool.false_and]
  exact ⟨trivial, trivial⟩

/-- A run of bytes that are neither & nor < is read at once. -/
theorem plB_run : ∀ (n : Nat) (s out : ByteArray) (f : Nat), n ≤ s.size → (∀ b ∈ (bs s).take n, b ≠ 38 ∧ b ≠ 60) → s.size ≤ f → plB f s out = plB f (s.extract n s.size) (out ++ s.extract 0 n)
  | 0, s, out, f, _, _, _ => by
    have e1 : s.extract 0 s.size = s := bsx (by rw [bs_ext, List.drop_zero, List.take_of_length_le (by rw [← size_bs]; exact Nat.le_refl _)])
    have e2 : out ++ s.extract 0 0 = out := bsx (by rw [bs_app, bs_ext]; simp)
    rw [e1, e2]
  | n + 1, s, out, f, hn, hb, hf => by
    obtain ⟨b, r, hs⟩ : ∃ b r, bs s = b :: r := by
      cases h : bs s with
      | nil => have := bs_len s; rw [h] at this; simp at this; omega
      | cons b r => exact ⟨b, r, rfl⟩
    have h0 := hb b (by rw [hs]; simp)
    obtain ⟨p1, p2⟩ := hasP_head hs h0.1
    have he : emp s = false := by rw [emp_size]; exact decide_eq_false (by omega)
    have hg : sgn s = false := by
      unfold sgn
      rw [hs]
      simp [h0.1, h0.2]
    obtain ⟨g, rfl⟩ : ∃ g, f = g + 1 := ⟨f - 1, by omega⟩
    have hz := ext_sz s 1
    have hr : bs (s.extract 1 s.size) = r := by rw [bs_from, hs]; rfl
    have ih := plB_run n (s.extract 1 s.size) (out ++ s.extract 0 1) g (by omega) (fun x hx => hb x (by rw [hr] at hx; rw [hs, List.take_succ_cons]; exact List.mem_cons_of_mem _ hx)) (by omega)
    have x1 : (s.extract 1 s.size).extract n (s.extract 1 s.size).size = s.extract (n + 1) s.size := bsx (by
      rw [bs_from, bs_from, bs_from, List.drop_drop, Nat.add_comm])
    have x2 : (out ++ s.extract 0 1) ++ (s.extract 1 s.size).extract 0 n = out ++ s.extract 0 (n + 1) := bsx (by
      rw [bs_app, bs_app, bs_app, bs_upto, bs_upto, bs_upto, hr, hs]
      simp)
    rw [x1, x2] at ih
    have hz2 := ext_sz s (n + 1)
    rw [plB, he, p1, p2, hg]
    simp only [cond_false]
    rw [ih]
    exact plB_fuel _ _ _ _ (by omega) (by omega)

end F
end Go.Proofs.YthcfbeckhgngiaaGreatDoor
