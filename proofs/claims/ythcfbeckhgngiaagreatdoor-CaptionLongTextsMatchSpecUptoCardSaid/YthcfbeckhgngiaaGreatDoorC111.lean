/- What is proved here: times of captions, plain: the program's way of reading and the reference's (no statement of the seat). -/
import Derived.Test.YthcfbeckhgngiaaGreatDoorC110
namespace Go.Proofs.YthcfbeckhgngiaaGreatDoor
open Go Go.RowKit
set_option linter.unusedVariables false
set_option linter.unusedSimpArgs false

namespace F

/-- Is a string from 1 to 9 digits? -/
def digB (b : UInt8) : Bool := F.digit (b.toNat : Int)

def isNum (s : ByteArray) : Bool := (bs s).all digB && decide (1 ≤ s.size) && decide (s.size ≤ 9)

/-- A time by its form. -/
def tmL : List (UInt8 × UInt8) → Int → Option Int
  | [], n => some n
  | (f, c) :: r, n => bif ((f.toNat : Int) != 48) then (bif ((c.toNat : Int) != (f.toNat : Int)) then none else tmL r n) else (bif digB c then tmL r (10 * n + ((c.toNat : Int) - 48)) else none)

def form (p : ByteArray) : ByteArray := (⟨⟨[48, 48, 58, 48, 48, 58, 48, 48]⟩⟩ : ByteArray) ++ p ++ (⟨⟨[48, 48, 48]⟩⟩ : ByteArray)

def tmS (s p : ByteArray) : Option Int := tmL ((bs (form p)).zip (bs s)) 0

def hms (n : Int) : Int := n / 10000000 * 3600000 + n / 100000 % 100 * 60000 + n / 1000 % 100 * 1000 + n % 1000

def hmsOk (n : Int) : Bool := F.lt (n / 100000 % 100) 60 && F.lt (n / 1000 % 100) 60

/-- What the program reads of a time. -/
def rdT (s p : ByteArray) : Int × ByteArray × Bool :=
  bif decide (s.size < 12) || !F.found (tmS s p) then (0, ⟨⟨[]⟩⟩, false) else (hms (F.got (tmS s p) 0), s.extract 12 s.size, hmsOk (F.got (tmS s p) 0))

def cutP (s p : ByteArray) : ByteArray × Bool := bif hasP s p then (s.extract p.size s.size, true) else (s, false)

def arrow : ByteArray := ⟨⟨[32, 45, 45, 62, 32]⟩⟩

def rtP (s p : ByteArray) : Int × Int × ByteArray × Bool :=
  ((rdT s p).1, (rdT (cutP (rdT s p).2.1 arrow).1 p).1, (rdT (cutP (rdT s p).2.1 arrow).1 p).2.1, (rdT s p).2.2 && (cutP (rdT s p).2.1 arrow).2 && (rdT (cutP (rdT s p).2.1 arrow).1 p).2.2)

/-- What the reference reads of a number. -/
def numL : List UInt8 → Int → Option Int
  | [], n => some n
  | b :: r, n => bif digB b then numL r (10 * n + ((b.toNat : Int) - 48)) else none

def dgs (s : ByteArray) (many most : Int) : Int × Bool :=
  bif ((s.size : Int) != many) || !F.found (numL (bs s) 0) then (0, false) else (F.got (numL (bs s) 0) 0, F.le (F.got (numL (bs s) 0) 0) most)

def rclB (s p : ByteArray) : Bool := ((s.size : Int) != 12) || !F.seq (s.extract 2 3) ⟨⟨[58]⟩⟩ || !F.seq (s.extract 5 6) ⟨⟨[58]⟩⟩ || !F.seq (s.extract 8 9) p

def rcl (s p : ByteArray) : Int × Bool :=
  bif rclB s p then (0, false) else
    ((((dgs (s.extract 0 2) 2 99).1 * 60 + (dgs (s.extract 3 5) 2 59).1) * 60 + (dgs (s.extract 6 8) 2 59).1) * 1000 + (dgs (s.extract 9 s.size) 3 999).1,
      (dgs (s.extract 0 2) 2 99).2 && (dgs (s.extract 3 5) 2 59).2 && (dgs (s.extract 6 8) 2 59).2 && (dgs (s.extract 9 s.size) 3 999).2)

def rtB (s : ByteArray) : Bool := decide (s.size < 29) || !F.seq (s.extract 12 17) arrow

def rtm (s p : ByteArray) : Int × Int × ByteArray × Bool :=
  bif rtB s then (0, 0, ⟨⟨[]⟩⟩, false) else ((rcl (s.extract 0 12) p).1, (rcl (s.extract 17 29) p).1, s.extract 29 s.size, (rcl (s.extract 0 12) p).2 && (rcl (s.extract 17 29) p).2)

theorem tmL_bound : ∀ {l : List (UInt8 × UInt8)} {n m : Int} {k : Nat}, 0 ≤ n → n + 1 ≤ 10 ^ k → tmL l n = some m → 0 ≤ m ∧ m + 1 ≤ 10 ^ (k + l.length)
  | [], n, m, k, h1, h2, h => by
    simp only [tmL, Option.some.injEq] at h
    subst h; exact ⟨h1, h2⟩
  | (f, c) :: r, n, m, k, h1, h2, h => by
    rw [tmL] at h
    have e : k + ((f, c) :: r).length = (k + 1) + r.length := by simp; omega
    rw [e]
    have hp : (10 : Int) ^ (k + 1) = 10 * 10 ^ k := by rw [Int.pow_succ, Int.mul_comm]
    cases h3 : ((f.toNat : Int) != 48)
    · rw [h3] at h
      simp only [cond_false] at h
      cases hd : digB c
      · rw [hd] at h; cases h
      · rw [hd] at h
        simp only [cond_true] at h
        have hd2 : 48 ≤ (c.toNat : Int) ∧ (c.toNat : Int) ≤ 57 := by simpa [digB, F.digit] using hd
        refine tmL_bound (k := k + 1) (by omega) ?_ h
        rw [hp]; omega
    · rw [h3] at h
      simp only [cond_true] at h
      cases h4 : ((c.toNat : Int) != (f.toNat : Int))
      · rw [h4] at h
        simp only [cond_false] at h
        refine tmL_bound (k := k + 1) h1 ?_ h
        rw [hp]; omega
      · rw [h4] at h; cases h

theorem bs_form {p : ByteArray} {q : UInt8} (h : bs p = [q]) : bs (form p) = [48, 48, 58, 48, 48, 58, 48, 48, q, 48, 48, 48] := by
  unfold form bs at *
  simp [h]

theorem form_size {p : ByteArray} (h : p.size = 1) : (form p).size = 12 := by
  unfold form
  rw [ByteArray.size_append, ByteArray.size_append, h]
  rfl

theorem beqU (a b : UInt8) : (((a.toNat : Int) != (b.toNat : Int))) = !(a == b) := by
  by_cases h : a = b
  · subst h; simp
  · have h2 : (a.toNat : Int) ≠ (b.toNat : Int) := fun e => h (UInt8.toNat_inj.1 (by omega))
    rw [bne_iff_ne.2 h2, beq_eq_false_iff_ne.2 h]; rfl

theorem seq_bs (a b : ByteArray) : F.seq a b = (bs a == bs b) := by
  unfold F.seq
  rw [ByteArray.toList_eq, ByteArray.toList_eq]
  rfl

theorem bs_ext (s : ByteArray) (a b : Nat) : bs (s.extract a b) = ((bs s).take b).drop a := by
  unfold bs
  rw [Lib.extract_data, List.drop_take]

theorem size_bs (s : ByteArray) : s.size = (bs s).length := (bs_len s).symm

/-- At twelve bytes both ways of reading a time say the same. -/
theorem clk12 {s p : ByteArray} {q : UInt8} (hp : bs p = [q]) (hq : q ≠ 48) {c0 c1 c2 c3 c4 c5 c6 c7 c8 c9 c10 c11 : UInt8} {r : List UInt8} (hs : bs s = c0 :: c1 :: c2 :: c3 :: c4 :: c5 :: c6 :: c7 :: c8 :: c9 :: c10 :: c11 :: r) :
    (rdT s p).2.2 = (rcl (s.extract 0 12) p).2 ∧ ((rdT s p).2.2 = true → (rdT s p).1 = (rcl (s.extract 0 12) p).1 ∧ (rdT s p).2.1 = s.extract 12 s.size) := by
  have hsz : s.size = 12 + r.length := by rw [size_bs, hs]; simp; omega
  have hx : bs (s.extract 0 12) = [c0, c1, c2, c3, c4, c5, c6, c7, c8, c9, c10, c11] := by rw [bs_ext, hs]; rfl
  have hxs : (s.extract 0 12).size = 12 := by rw [size_bs, hx]; rfl
  have hlt : decide (s.size < 12) = false := decide_eq_false (by omega)
  have ht : tmS s p = tmL [(48, c0), (48, c1), (58, c2), (48, c3), (48, c4), (58, c5), (48, c6), (48, c7), (q, c8), (48, c9), (48, c10), (48, c11)] 0 := by
    unfold tmS
    rw [bs_form hp, hs]
    rfl
  have hq2 : ((q.toNat : Int) != 48) = true := by
    rw [bne_iff_ne]
    intro e
    exact hq (UInt8.toNat_inj.1 (by have : q.toNat = 48 := by omega
                                    rw [this]; rfl))
  have hB : rclB (s.extract 0 12) p = (!(c2 == 58) || !(c5 == 58) || !(c8 == q)) := by
    unfold rclB
    have e2 : bs ((s.extract 0 12).extract 2 3) = [c2] := by rw [bs_ext, hx]; rfl
    have e5 : bs ((s.extract 0 12).extract 5 6) = [c5] := by rw [bs_ext, hx]; rfl
    have e8 : bs ((s.extract 0 12).extract 8 9) = [c8] := by rw [bs_ext, hx]; rfl
    have e58 : bs (⟨⟨[58]⟩⟩ : ByteArray) = [58] := rfl
    rw [seq_bs, seq_bs, seq_bs, e2, e5, e8, e58, hp, hxs]
    simp
  have d1 : dgs ((s.extract 0 12).extract 0 2) 2 99 = bif digB c0 && digB c1 then (10 * ((c0.toNat : Int) - 48) + ((c1.toNat : Int) - 48), F.le (10 * ((c0.toNat : Int) - 48) + ((c1.toNat : Int) - 48)) 99) else (0, false) := by
    have e : bs ((s.extract 0 12).extract 0 2) = [c0, c1] := by rw [bs_ext, hx]; rfl
    have e2 : ((s.extract 0 12).extract 0 2).size = 2 := by rw [size_bs, e]; rfl
    unfold dgs
    rw [e, e2]
    cases h0 : digB c0 <;> cases h1 : digB c1 <;> simp [numL, h0, h1, F.found, F.got]
  have d2 : dgs ((s.extract 0 12).extract 3 5) 2 59 = bif digB c3 && digB c4 then (10 * ((c3.toNat : Int) - 48) + ((c4.toNat : Int) - 48), F.le (10 * ((c3.toNat : Int) - 48) + ((c4.toNat : Int) - 48)) 59) else (0, false) := by
    have e : bs ((s.extract 0 12).extract 3 5) = [c3, c4] := by rw [bs_ext, hx]; rfl
    have e2 : ((s.extract 0 12).extract 3 5).size = 2 := by rw [size_bs, e]; rfl
    unfold dgs
    rw [e, e2]
    cases h0 : digB c3 <;> cases h1 : digB c4 <;> simp [numL, h0, h1, F.found, F.got]
  have d3 : dgs ((s.extract 0 12).extract 6 8) 2 59 = bif digB c6 && digB c7 then (10 * ((c6.toNat : Int) - 48) + ((c7.toNat : Int) - 48), F.le (10 * ((c6.toNat : Int) - 48) + ((c7.toNat : Int) - 48)) 59) else (0, false) := by
    have e : bs ((s.extract 0 12).extract 6 8) = [c6, c7] := by rw [bs_ext, hx]; rfl
    have e2 : ((s.extract 0 12).extract 6 8).size = 2 := by rw [size_bs, e]; rfl
    unfold dgs
    rw [e, e2]
    cases h0 : digB c6 <;> cases h1 : digB c7 <;> simp [numL, h0, h1, F.found, F.got]
  have d4 : dgs ((s.extract 0 12).extract 9 (s.extract 0 12).size) 3 999 = bif digB c9 && digB c10 && digB c11 then (10 * (10 * ((c9.toNat : Int) - 48) + ((c10.toNat : Int) - 48)) + ((c11.toNat : Int) - 48), F.le (10 * (10 * ((c9.toNat : Int) - 48) + ((c10.toNat : Int) - 48)) + ((c11.toNat : Int) - 48)) 999) else (0, false) := by
    have e : bs ((s.extract 0 12).extract 9 (s.extract 0 12).size) = [c9, c10, c11] := by rw [hxs, bs_ext, hx]; rfl
    have e2 : ((s.extract 0 12).extract 9 (s.extract 0 12).size).size = 3 := by rw [size_bs, e]; rfl
    unfold dgs
    rw [e, e2]
    cases h0 : digB c9 <;> cases h1 : digB c10 <;> cases h2 : digB c11 <;> simp [numL, h0, h1, h2, F.found, F.got]
  have t48 : ((((48 : UInt8).toNat : Nat) : Int) != 48) = false := rfl
  have t58 : ((((58 : UInt8).toNat : Nat) : Int) != 48) = true := rfl
  unfold rdT rcl
  rw [ht, hlt, hB, d1, d2, d3, d4]
  simp only [tmL, t48, t58, hq2, cond_true, cond_false, beqU, Bool.false_or]
  cases h0 : digB c0
  · simp [F.found] <;> (cases c2 == 58 <;> cases c5 == 58 <;> cases c8 == q <;> simp)
  cases h1 : digB c1
  · simp [F.found] <;> (cases c2 == 58 <;> cases c5 == 58 <;> cases c8 == q <;> simp)
  cases h2 : c2 == 58
  · simp [F.found] <;> (cases c2 == 58 <;> cases c5 == 58 <;> cases c8 == q <;> simp)
  cases h3 : digB c3
  · simp [F.found] <;> (cases c2 == 58 <;> cases c5 == 58 <;> cases c8 == q <;> simp)
  cases h4 : digB c4
  · simp [F.found] <;> (cases c2 == 58 <;> cases c5 == 58 <;> cases c8 == q <;> simp)
  cases h5 : c5 == 58
  · simp [F.found] <;> (cases c2 == 58 <;> cases c5 == 58 <;> cases c8 == q <;> simp)
  cases h6 : digB c6
  · simp [F.found] <;> (cases c2 == 58 <;> cases c5 == 58 <;> cases c8 == q <;> simp)
  cases h7 : digB c7
  · simp [F.found] <;> (cases c2 == 58 <;> cases c5 == 58 <;> cases c8 == q <;> simp)
  cases h8 : c8 == q
  · simp [F.found] <;> (cases c2 == 58 <;> cases c5 == 58 <;> cases c8 == q <;> simp)
  cases h9 : digB c9
  · simp [F.found] <;> (cases c2 == 58 <;> cases c5 == 58 <;> cases c8 == q <;> simp)
  cases h10 : digB c10
  · simp [F.found] <;> (cases c2 == 58 <;> cases c5 == 58 <;> cases c8 == q <;> simp)
  cases h11 : digB c11
  · simp [F.found] <;> (cases c2 == 58 <;> cases c5 == 58 <;> cases c8 == q <;> simp)
  have D : ∀ {c : UInt8}, digB c = true → 0 ≤ (c.toNat : Int) - 48 ∧ (c.toNat : Int) - 48 ≤ 9 := fun {c} h => by
    have : 48 ≤ (c.toNat : Int) ∧ (c.toNat : Int) ≤ 57 := by simpa [digB, F.digit] using h
    omega
  have k0 := D h0; have k1 := D h1; have k3 := D h3; have k4 := D h4; have k6 := D h6; have k7 := D h7; have k9 := D h9; have k10 := D h10; have k11 := D h11
  simp only [Bool.not_true, cond_true, cond_false, Bool.and_true, Bool.or_false, F.found, F.got, Option.isSome_some, Option.getD_some, hms, hmsOk, F.lt, F.le]
  generalize (c0.toNat : Int) - 48 = x0 at *
  generalize (c1.toNat : Int) - 48 = x1 at *
  generalize (c3.toNat : Int) - 48 = x3 at *
  generalize (c4.toNat : Int) - 48 = x4 at *
  generalize (c6.toNat : Int) - 48 = x6 at *
  generalize (c7.toNat : Int) - 48 = x7 at *
  generalize (c9.toNat : Int) - 48 = x9 at *
  generalize (c10.toNat : Int) - 48 = x10 at *
  generalize (c11.toNat : Int) - 48 = x11 at *
  have hn : 10 * (10 * (10 * (10 * (10 * (10 * (10 * (10 * (10 * 0 + x0) + x1) + x3) + x4) + x6) + x7) + x9) + x10) + x11 = (10 * x0 + x1) * 10000000 + (10 * x3 + x4) * 100000 + (10 * x6 + x7) * 1000 + (10 * (10 * x9 + x10) + x11) := by omega
  rw [hn]
  have b1 : 0 ≤ 10 * x0 + x1 ∧ 10 * x0 + x1 ≤ 99 := by omega
  have b2 : 0 ≤ 10 * x3 + x4 ∧ 10 * x3 + x4 ≤ 99 := by omega
  have b3 : 0 ≤ 10 * x6 + x7 ∧ 10 * x6 + x7 ≤ 99 := by omega
  have b4 : 0 ≤ 10 * (10 * x9 + x10) + x11 ∧ 10 * (10 * x9 + x10) + x11 ≤ 999 := by omega
  generalize 10 * x0 + x1 = h at *
  generalize 10 * x3 + x4 = m at *
  generalize 10 * x6 + x7 = t at *
  generalize 10 * (10 * x9 + x10) + x11 = u at *
  have e1 : (h * 10000000 + m * 100000 + t * 1000 + u) / 10000000 = h := by omega
  have e2 : (h * 10000000 + m * 100000 + t * 1000 + u) / 100000 % 100 = m := by omega
  have e3 : (h * 10000000 + m * 100000 + t * 1000 + u) / 1000 % 100 = t := by omega
  have e4 : (h * 10000000 + m * 100000 + t * 1000 + u) % 1000 = u := by omega
  rw [e1, e2, e3, e4]
  have f1 : decide (h ≤ 99) = true := decide_eq_true b1.2
  have f2 : decide (u ≤ 999) = true := decide_eq_true b4.2
  have f3 : decide (m < 60) = decide (m ≤ 59) := by by_cases hh : m ≤ 59 <;> simp [hh] <;> omega
  have f4 : decide (t < 60) = decide (t ≤ 59) := by by_cases hh : t ≤ 59 <;> simp [hh] <;> omega
  rw [f1, f2, f3, f4]
  refine ⟨by simp, fun _ => ⟨by omega, trivial⟩⟩

end F
end Go.Proofs.YthcfbeckhgngiaaGreatDoor
