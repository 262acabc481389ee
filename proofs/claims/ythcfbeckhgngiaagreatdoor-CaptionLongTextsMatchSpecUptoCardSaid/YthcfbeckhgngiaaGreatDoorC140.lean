/- What is proved here: numbers and times as they are written, plain; what is written is read again (no statement of the seat). -/
import Derived.Test.YthcfbeckhgngiaaGreatDoorC112
import Derived.Lib.ItoaNum
import Derived.Lib.ItoaLen
namespace Go.Proofs.YthcfbeckhgngiaaGreatDoor
open Go Go.RowKit
set_option linter.unusedVariables false
set_option linter.unusedSimpArgs false

namespace F

def itoa (n : Int) : ByteArray := ⟨(Lib.itoa n).toArray⟩

theorem itoa_size {n : Int} (h0 : -9223372036854775808 ≤ n) (h1 : n ≤ 9223372036854775807) : (itoa n).size ≤ 21 := by
  have := Lib.itoa_length_le n h0 h1
  show (Lib.itoa n).toArray.size ≤ 21
  simpa using this

theorem bs_itoa (k : Nat) : bs (itoa (k : Int)) = Lib.decDigits k := by
  show (Lib.itoa (k : Int)).toArray.toList = _
  unfold Lib.itoa
  rw [if_neg (by omega)]
  simp

/-- A number, with noughts ahead. -/
def zrs (k : Nat) : ByteArray := ⟨⟨List.replicate k 48⟩⟩

def pad (n : Int) (many : Nat) : ByteArray := zrs (many - (itoa n).size) ++ itoa n

def dg (k : Nat) : UInt8 := UInt8.ofNat (48 + k)

theorem dg_nat {k : Nat} (h : k < 10) : ((dg k).toNat : Int) = 48 + (k : Int) := by
  unfold dg
  rw [UInt8.toNat_ofNat']
  omega

theorem dg_dig {k : Nat} (h : k < 10) : digB (dg k) = true := by
  unfold digB F.digit
  rw [dg_nat h]
  simp
  omega

theorem bs_cat (a b : ByteArray) : bs (a ++ b) = bs a ++ bs b := by
  unfold bs
  simp

theorem bs_zrs (k : Nat) : bs (zrs k) = List.replicate k 48 := rfl

theorem bs_pad (k many : Nat) : bs (pad (k : Int) many) = List.replicate (many - (Lib.decDigits k).length) 48 ++ Lib.decDigits k := by
  unfold pad
  rw [bs_cat, bs_zrs, bs_itoa, size_bs, bs_itoa]

theorem pad2 {k : Nat} (h : k < 100) : bs (pad (k : Int) 2) = [dg (k / 10), dg (k % 10)] := by
  rw [bs_pad]
  by_cases h1 : k < 10
  · rw [Lib.decDigits_one h1, Nat.div_eq_of_lt h1, Nat.mod_eq_of_lt h1]
    rfl
  · rw [Lib.decDigits_two h1 h]
    rfl

theorem pad3 {k : Nat} (h : k < 1000) : bs (pad (k : Int) 3) = [dg (k / 100), dg (k / 10 % 10), dg (k % 10)] := by
  rw [bs_pad]
  by_cases h1 : k < 10
  · rw [Lib.decDigits_one h1, Nat.div_eq_of_lt (show k < 100 by omega), Nat.div_eq_of_lt h1, Nat.mod_eq_of_lt h1]
    rfl
  · by_cases h2 : k < 100
    · rw [Lib.decDigits_two h1 h2, Nat.div_eq_of_lt h2, Nat.mod_eq_of_lt (show k / 10 < 10 by omega)]
      rfl
    · have e : Lib.decDigits k = [dg (k / 100), dg (k / 10 % 10), dg (k % 10)] := by
        rw [Lib.decDigits, dif_neg h1, Lib.decDigits_two (show ¬ k / 10 < 10 by omega) (show k / 10 < 100 by omega), Nat.div_div_eq_div_mul]
        rfl
      rw [e]
      rfl

/-- A time, written. -/
def colon : ByteArray := ⟨⟨[58]⟩⟩

def clk (t : Int) (p : ByteArray) : ByteArray := pad (t / 3600000) 2 ++ colon ++ pad (t / 60000 % 60) 2 ++ colon ++ pad (t / 1000 % 60) 2 ++ p ++ pad (t % 1000) 3

theorem bs_clk {k : Nat} (h : k ≤ 359999999) (p : ByteArray) : bs (clk (k : Int) p) =
    [dg (k / 3600000 / 10), dg (k / 3600000 % 10), 58, dg (k / 60000 % 60 / 10), dg (k / 60000 % 60 % 10), 58, dg (k / 1000 % 60 / 10), dg (k / 1000 % 60 % 10)] ++ bs p ++ [dg (k % 1000 / 100), dg (k % 1000 / 10 % 10), dg (k % 1000 % 10)] := by
  unfold clk
  have e1 : (k : Int) / 3600000 = ((k / 3600000 : Nat) : Int) := by omega
  have e2 : (k : Int) / 60000 % 60 = ((k / 60000 % 60 : Nat) : Int) := by omega
  have e3 : (k : Int) / 1000 % 60 = ((k / 1000 % 60 : Nat) : Int) := by omega
  have e4 : (k : Int) % 1000 = ((k % 1000 : Nat) : Int) := by omega
  rw [e1, e2, e3, e4]
  simp only [bs_cat]
  rw [pad2 (show k / 3600000 < 100 by omega), pad2 (show k / 60000 % 60 < 100 by omega), pad2 (show k / 1000 % 60 < 100 by omega), pad3 (show k % 1000 < 1000 by omega)]
  rw [show bs colon = [58] from rfl]
  simp

theorem clk_size {k : Nat} (h : k ≤ 359999999) (p : ByteArray) : (clk (k : Int) p).size = 11 + p.size := by
  rw [size_bs, bs_clk h, size_bs]
  simp
  omega

/-- A written time is read. -/
theorem rdT_clk {k : Nat} {s p : ByteArray} {q : UInt8} (hp : bs p = [q]) (hq : q ≠ 48) (h : k ≤ 359999999) {r : List UInt8} (hs : bs s = bs (clk (k : Int) p) ++ r) : rdT s p = ((k : Int), s.extract 12 s.size, true) ∧ bs (s.extract 12 s.size) = r := by
  rw [bs_clk h, hp] at hs
  have hsz : s.size = 12 + r.length := by rw [size_bs, hs]; simp; omega
  have hq2 : ((q.toNat : Int) != 48) = true := by
    rw [bne_iff_ne]
    intro e
    exact hq (UInt8.toNat_inj.1 (by have : q.toNat = 48 := by omega
                                    rw [this]; rfl))
  have t48 : ((((48 : UInt8).toNat : Nat) : Int) != 48) = false := rfl
  have t58 : ((((58 : UInt8).toNat : Nat) : Int) != 48) = true := rfl
  generalize ha : k / 3600000 / 10 = a at hs
  generalize hb : k / 3600000 % 10 = b at hs
  generalize hc : k / 60000 % 60 / 10 = c at hs
  generalize hd : k / 60000 % 60 % 10 = d at hs
  generalize he : k / 1000 % 60 / 10 = e at hs
  generalize hf : k / 1000 % 60 % 10 = f at hs
  generalize hg : k % 1000 / 100 = g at hs
  generalize hh : k % 1000 / 10 % 10 = j at hs
  generalize hi : k % 1000 % 10 = i at hs
  have la : a < 10 := by omega
  have lb : b < 10 := by omega
  have lc : c < 6 := by omega
  have ld : d < 10 := by omega
  have le : e < 6 := by omega
  have lf : f < 10 := by omega
  have lg : g < 10 := by omega
  have lj : j < 10 := by omega
  have li : i < 10 := by omega
  have hx : tmS s p = some (((((((((((10 * 0 + (a : Int)) * 10 + b) * 10 + c) * 10 + d) * 10 + e) * 10 + f) * 10 + g) * 10 + j) * 10 + i))) := by
    unfold tmS
    rw [bs_form hp, hs]
    simp only [List.cons_append, List.nil_append, List.zip_cons_cons, tmL, t48, t58, hq2, cond_true, cond_false, beqU, beq_self_eq_true, Bool.not_true, dg_dig la, dg_dig lb, dg_dig (show c < 10 by omega), dg_dig ld, dg_dig (show e < 10 by omega), dg_dig lf, dg_dig lg, dg_dig lj, dg_dig li,
      dg_nat la, dg_nat lb, dg_nat (show c < 10 by omega), dg_nat ld, dg_nat (show e < 10 by omega), dg_nat lf, dg_nat lg, dg_nat lj, dg_nat li, List.zip_nil_left]
    congr 1
    omega
  refine ⟨?_, ?_⟩
  · unfold rdT
    rw [hx, decide_eq_false (show ¬ s.size < 12 by omega)]
    simp only [F.found, F.got, Option.isSome_some, Option.getD_some, Bool.not_true, Bool.or_self, cond_false]
    generalize hn : (((((((((((10 * 0 + (a : Int)) * 10 + b) * 10 + c) * 10 + d) * 10 + e) * 10 + f) * 10 + g) * 10 + j) * 10 + i))) = n
    have n0 : n = ((a : Int) * 10 + b) * 10000000 + (c * 10 + d) * 100000 + (e * 10 + f) * 1000 + (g * 100 + j * 10 + i) := by omega
    have n1 : n / 10000000 = (a : Int) * 10 + b := by omega
    have n2 : n / 100000 % 100 = (c : Int) * 10 + d := by omega
    have n3 : n / 1000 % 100 = (e : Int) * 10 + f := by omega
    have n4 : n % 1000 = (g : Int) * 100 + j * 10 + i := by omega
    unfold hms hmsOk F.lt
    rw [n1, n2, n3, n4, decide_eq_true (by omega), decide_eq_true (by omega)]
    congr 1
    omega
  · rw [bs_ext, List.take_of_length_le (by rw [← size_bs]; exact Nat.le_refl _), hs]
    rfl

/-- The line of times. -/
def tms (c : Cap) (p : ByteArray) : ByteArray := clk c.fr p ++ arrow ++ clk c.to p

theorem rtP_tms {a b : Nat} {s p : ByteArray} {q : UInt8} (hp : bs p = [q]) (hq : q ≠ 48) (ha : a ≤ 359999999) (hb : b ≤ 359999999) {r : List UInt8} (hs : bs s = bs (clk (a : Int) p ++ arrow ++ clk (b : Int) p) ++ r) :
    (rtP s p).1 = a ∧ (rtP s p).2.1 = b ∧ bs (rtP s p).2.2.1 = r ∧ (rtP s p).2.2.2 = true := by
  rw [bs_cat, bs_cat, List.append_assoc, List.append_assoc] at hs
  obtain ⟨h1, h2⟩ := rdT_clk hp hq ha hs
  have hc : hasP (s.extract 12 s.size) arrow = true := by
    rw [hasP_take, h2]
    simp [show arrow.size = (bs arrow).length from rfl]
  have hcut : (cutP (s.extract 12 s.size) arrow).2 = true ∧ bs (cutP (s.extract 12 s.size) arrow).1 = bs (clk (b : Int) p) ++ r := by
    unfold cutP
    rw [hc, cond_true]
    refine ⟨rfl, ?_⟩
    simp only []
    rw [bs_ext, List.take_of_length_le (by rw [← size_bs]; exact Nat.le_refl _), h2, show arrow.size = (bs arrow).length from rfl, List.drop_left]
  obtain ⟨h3, h4⟩ := rdT_clk hp hq hb hcut.2
  unfold rtP
  rw [h1]
  simp only [h3, h4, hcut.1, Bool.and_self, and_self]

theorem dec_all (u : Nat) : (Lib.decDigits u).all digB = true := by
  induction u using Nat.strongRecOn with
  | _ u ih =>
    by_cases h : u < 10
    · rw [Lib.decDigits_one h]
      simp only [List.all_cons, List.all_nil, Bool.and_true]
      exact dg_dig h
    · rw [Lib.decDigits, dif_neg h, List.all_append, ih (u / 10) (by omega)]
      simp only [List.all_cons, List.all_nil, Bool.and_true, Bool.true_and]
      exact dg_dig (show u % 10 < 10 by omega)

theorem dec_len : ∀ (k u : Nat), u < 10 ^ (k + 1) → 1 ≤ (Lib.decDigits u).length ∧ (Lib.decDigits u).length ≤ k + 1
  | 0, u, h => by
    rw [Lib.decDigits_one (by simpa using h)]
    simp
  | k + 1, u, h => by
    by_cases h1 : u < 10
    · rw [Lib.decDigits_one h1]; simp
    · have := dec_len k (u / 10) (by rw [Nat.pow_succ] at h; omega)
      rw [Lib.decDigits, dif_neg h1, List.length_append, List.length_singleton]
      omega

theorem isNum_itoa {k : Nat} (h : k < 1000000000) : isNum (itoa (k : Int)) = true := by
  have h1 := dec_len 8 k h
  unfold isNum
  rw [size_bs, bs_itoa, dec_all, decide_eq_true h1.1, decide_eq_true h1.2]
  rfl

end F
end Go.Proofs.YthcfbeckhgngiaaGreatDoor
