/- What is proved here: digits, words and renditions of a text, on plain data (no statement of the seat). -/
import Derived.Test.YtgkjfochkhiojaaDoorE50
import Derived.Lib.AtoiAll
import Derived.Lib.AtoiAllCases
namespace Go.Proofs.YtgkjfochkhiojaaDoor
open Go Go.RowKit
set_option linter.unusedVariables false
set_option linter.unusedSimpArgs false

/-- The value of digits. -/
def F.dvA (acc : Nat) (l : List UInt8) : Nat := l.foldl (fun a c => a * 10 + (c.toNat - 48)) acc

theorem F.dvA_nil (acc : Nat) : F.dvA acc [] = acc := by unfold F.dvA; exact List.foldl_nil

theorem F.dvA_cons (acc : Nat) (c : UInt8) (r : List UInt8) : F.dvA acc (c :: r) = F.dvA (acc * 10 + (c.toNat - 48)) r := by unfold F.dvA; exact List.foldl_cons ..

def F.dgB (c : UInt8) : Bool := decide (48 ≤ c.toNat) && decide (c.toNat ≤ 57)

def F.dv (s : ByteArray) : Nat := F.dvA 0 (F.bs s)

theorem F.dvA_le : ∀ (l : List UInt8) (acc : Nat), acc ≤ F.dvA acc l
  | [], acc => by rw [F.dvA_nil]; exact Nat.le_refl _
  | c :: r, acc => by
    have := F.dvA_le r (acc * 10 + (c.toNat - 48))
    rw [F.dvA_cons]; omega

theorem F.dvA_app : ∀ (a b : List UInt8) (acc : Nat), F.dvA acc (a ++ b) = F.dvA (F.dvA acc a) b
  | [], b, acc => by rw [F.dvA_nil]; rfl
  | c :: a, b, acc => by rw [List.cons_append, F.dvA_cons, F.dvA_cons, F.dvA_app a b]

theorem F.dvA_acc : ∀ (l : List UInt8) (acc : Nat), F.dvA acc l = acc * 10 ^ l.length + F.dvA 0 l
  | [], acc => by rw [F.dvA_nil, F.dvA_nil, List.length_nil, Nat.pow_zero]; omega
  | c :: r, acc => by
    rw [F.dvA_cons, F.dvA_cons, F.dvA_acc r, F.dvA_acc r (0 * 10 + (c.toNat - 48)), Nat.zero_mul, Nat.zero_add, List.length_cons, Nat.pow_succ, Nat.add_mul, Nat.mul_assoc, Nat.mul_comm 10, Nat.add_assoc]

theorem F.dvA_lt : ∀ (l : List UInt8), l.all F.dgB = true → F.dvA 0 l < 10 ^ l.length
  | [], _ => by rw [F.dvA_nil]; decide
  | c :: r, h => by
    rw [List.all_cons, Bool.and_eq_true] at h
    have hc := h.1
    unfold F.dgB at hc
    simp only [Bool.and_eq_true, decide_eq_true_eq] at hc
    have ih := F.dvA_lt r h.2
    rw [F.dvA_cons, F.dvA_acc, List.length_cons, Nat.pow_succ]
    have : (0 * 10 + (c.toNat - 48)) * 10 ^ r.length ≤ 9 * 10 ^ r.length := Nat.mul_le_mul_right _ (by omega)
    omega

theorem F.pu_dvA : ∀ (l : List UInt8) (acc : Nat), l.all F.dgB = true → F.dvA acc l < 18446744073709551616 → Lib.parseUint10 acc l = .ok (F.dvA acc l)
  | [], acc, _, _ => by rw [F.dvA_nil]; rfl
  | c :: r, acc, h, hb => by
    rw [List.all_cons, Bool.and_eq_true] at h
    have hc := h.1
    unfold F.dgB at hc
    simp only [Bool.and_eq_true, decide_eq_true_eq] at hc
    rw [F.dvA_cons] at hb ⊢
    have := F.dvA_le r (acc * 10 + (c.toNat - 48))
    rw [Lib.parseUint10, if_pos ⟨by omega, by omega⟩, if_neg (by omega), if_neg (by omega), F.pu_dvA r _ h.2 hb]

/-- Digits, at least one, of a number of 63 bits. -/
def F.isD (s : ByteArray) : Bool := (F.bs s).all F.dgB && decide (0 < s.size) && decide (F.dv s ≤ 9223372036854775807)

theorem F.isD_ato {s : ByteArray} (h : F.isD s = true) : Lib.atoiAll s.data.toList = .ok ((F.dv s : Nat) : Int) := by
  unfold F.isD at h
  simp only [Bool.and_eq_true, decide_eq_true_eq] at h
  obtain ⟨⟨h1, h2⟩, h3⟩ := h
  have hl := F.bs_len s
  show Lib.atoiAll (F.bs s) = _
  unfold F.dv at h3 ⊢
  cases hs : F.bs s with
  | nil => rw [hs] at hl; simp at hl; omega
  | cons c r =>
    rw [hs] at h1 h3
    have hc := h1
    rw [List.all_cons, Bool.and_eq_true] at hc
    have hc := hc.1
    unfold F.dgB at hc
    simp only [Bool.and_eq_true, decide_eq_true_eq] at hc
    have hp : Lib.parseMag (c :: r) = .ok (F.dvA 0 (c :: r)) := by
      unfold Lib.parseMag
      rw [if_neg (by simp)]
      exact F.pu_dvA _ 0 h1 (by omega)
    rw [Lib.atoiAll_plain c r (by omega) (by omega), hp]
    unfold Lib.signless
    simp only []
    rw [if_neg (by omega)]

/-- A number of a text: at most so many digits. -/
def F.numOk (s : ByteArray) (most : Int) : Bool := decide (s.size ≠ 0) && decide ((s.size : Int) ≤ most) && !(decide (F.b0 s = 48) && decide (1 < s.size)) && (F.bs s).all F.dgB

def F.numV (s : ByteArray) (most : Int) : Int := bif F.numOk s most then ((F.dv s : Nat) : Int) else 0

def F.uriL (u : ByteArray) : Bool := decide (u.size ≠ 0) && !decide (F.b0 u = 35)

def F.sp : ByteArray := ⟨⟨[32]⟩⟩

def F.kSnd : ByteArray := ⟨⟨[35, 83, 79, 85, 78, 68]⟩⟩

def F.kStr : ByteArray := ⟨⟨[35, 83, 84, 82, 69, 65, 77]⟩⟩

def F.kDef : ByteArray := ⟨⟨[68, 69, 70, 65, 85, 76, 84]⟩⟩

def F.kMas : ByteArray := ⟨⟨[35, 77, 65, 83, 84, 69, 82]⟩⟩

def F.wdB (x : ByteArray) : Bool := decide (x.size ≠ 0) && F.vis x 33

def F.wOk (w : List ByteArray) : Bool := w.all F.wdB

def F.wAt (w : List ByteArray) (i : Nat) : ByteArray := w.getD i ⟨#[]⟩

def F.undash (s : ByteArray) : ByteArray := bif F.seq s ⟨⟨[45]⟩⟩ then ⟨⟨[]⟩⟩ else s

def F.isSnd (w : List ByteArray) : Bool := F.seq (F.wAt w 0) F.kSnd && (decide (w.length = 4) || (decide (w.length = 5) && F.seq (F.wAt w 4) F.kDef))

def F.isStr (w : List ByteArray) : Bool := F.seq (F.wAt w 0) F.kStr && decide (w.length = 7)

def F.numsOk (w : List ByteArray) : Bool := F.numOk (F.wAt w 2) 11 && F.numOk (F.wAt w 3) 11 && F.numOk (F.wAt w 4) 11 && F.numOk (F.wAt w 5) 11

def F.sndOf (w : List ByteArray) (u : ByteArray) : Snd := ⟨F.wAt w 1, F.wAt w 2, F.wAt w 3, decide (w.length = 5), u⟩

def F.strOf (w : List ByteArray) (u : ByteArray) : Strm := ⟨F.wAt w 1, u, F.numV (F.wAt w 2) 11, F.numV (F.wAt w 3) 11, F.numV (F.wAt w 4) 11, F.numV (F.wAt w 5) 11, F.undash (F.wAt w 6)⟩

def F.wds (s : ByteArray) : List ByteArray := F.split s F.sp

/-- The next line can be a rendition's first one: 0 no, 1 a sound, 2 a stream. -/
def F.ptK (s : ByteArray) (m : Mas) : Nat :=
  bif !F.cutF s F.nl || !F.wOk (F.wds (F.cutH s F.nl)) then 0 else
  bif F.isSnd (F.wds (F.cutH s F.nl)) && decide (m.streams.length = 0) then 1 else
  bif F.isStr (F.wds (F.cutH s F.nl)) && F.numsOk (F.wds (F.cutH s F.nl)) then 2 else 0

/-- The line behind it is an address. -/
def F.ptU (r : ByteArray) : Bool := F.cutF r F.nl && F.uriL (F.cutH r F.nl)

def F.ptOk (s : ByteArray) (m : Mas) : Bool := decide (F.ptK s m ≠ 0) && F.ptU (F.cutT s F.nl)

/-- What is left of the text. -/
def F.ptR (s : ByteArray) (m : Mas) : ByteArray := bif decide (F.ptK s m = 0) then F.cutT s F.nl else F.cutT (F.cutT s F.nl) F.nl

def F.ptN (s : ByteArray) (m : Mas) : Nat := bif decide (F.ptK s m = 0) then 1 else 2

def F.ptSo (s : ByteArray) (m : Mas) : List Snd := bif F.ptOk s m && decide (F.ptK s m = 1) then m.sounds ++ [F.sndOf (F.wds (F.cutH s F.nl)) (F.cutH (F.cutT s F.nl) F.nl)] else m.sounds

def F.ptSt (s : ByteArray) (m : Mas) : List Strm := bif F.ptOk s m && decide (F.ptK s m = 2) then m.streams ++ [F.strOf (F.wds (F.cutH s F.nl)) (F.cutH (F.cutT s F.nl) F.nl)] else m.streams

def F.ptM (s : ByteArray) (m : Mas) : Mas := ⟨F.ptSt s m, F.ptSo s m⟩

theorem F.ptR_lt {s : ByteArray} (m : Mas) (h : s.size ≠ 0) : (F.ptR s m).size < s.size := by
  have h1 := F.cutT_lt (p := F.nl) (by decide) h
  have h2 := F.cutT_size (F.cutT s F.nl) F.nl
  unfold F.ptR
  cases decide (F.ptK s m = 0)
  · rw [cond_false]; omega
  · exact h1

/-- Renditions line by line: whether all is well, the number of lines, the renditions. -/
def F.rdS (s : ByteArray) (n : Int) (m : Mas) : Bool × Int × Mas :=
  if h : s.size = 0 then (true, n, m) else
  if F.ptOk s m = true then F.rdS (F.ptR s m) (n + (F.ptN s m : Int)) (F.ptM s m) else (false, n + (F.ptN s m : Int), m)
termination_by s.size
decreasing_by exact F.ptR_lt m h

end Go.Proofs.YtgkjfochkhiojaaDoor
