/- What is proved here: a matrix that the call makes, row by row, and what costs of the reference fill it with (no statement of the seat). -/
import Derived.Test.YtlnflhmepnbcmaaDoorC100
import Derived.Deep.OwnRows
import Derived.Deep.LoopGhost
import Derived.WalkKit
import Derived.OwnWalk
import Derived.Lib.Hide
import Derived.RegionTactic
namespace Go.Proofs.YtlnflhmepnbcmaaDoor
open Go Go.RowKit Go.Lib
set_option linter.unusedVariables false
set_option linter.unusedSimpArgs false

namespace F

def far : Int := 1099511627776

/-- The least of what lines to each of some words cost; up to the first that does not fit. -/
def cj (x z : Nat → Int) : Nat → Nat → Int → Int
  | 0, _, a => a
  | f + 1, j, a => bif x j == far then a else cj x z f (j + 1) (min a (IntKind.i64.wrap (x j + z j)))

/-- What so many lines from a word on cost. -/
def cz (ws : List ByteArray) (w : Int) : Nat → Nat → Int
  | 0, i => bif i == ws.length then 0 else far
  | k + 1, i => cj (fun j => lacks ws w i j) (fun j => cz ws w k j) (ws.length - i) (i + 1) far

end F

/-- A matrix whose rows from i on are filled. -/
structure Outer (w wr : World) (n R i : Nat) (g : Nat → Nat) (Z : Nat → Nat → Int) : Prop where
  since : w.Since w.heap.size wr
  top : wr.rowIs w.heap.size 37 (n + 1) (fun j => if i ≤ j then .slice (some ⟨g j, 0, none⟩) R R else .slice none 0 0)
  lt : ∀ j, i ≤ j → j ≤ n → w.heap.size < g j ∧ g j < wr.heap.size
  done : ∀ j, i ≤ j → j ≤ n → wr.rowIs (g j) 3 R (fun k => .int .i64 (Z k j))

/-- .. whose row i is being filled. -/
structure Mat (w wr : World) (n R i : Nat) (g : Nat → Nat) (Z : Nat → Nat → Int) (c : Nat → Int) : Prop where
  since : w.Since w.heap.size wr
  top : wr.rowIs w.heap.size 37 (n + 1) (fun j => if i ≤ j then .slice (some ⟨g j, 0, none⟩) R R else .slice none 0 0)
  lt : ∀ j, i ≤ j → j ≤ n → w.heap.size < g j ∧ g j < wr.heap.size
  dis : ∀ j, i < j → j ≤ n → g j < g i
  done : ∀ j, i < j → j ≤ n → wr.rowIs (g j) 3 R (fun k => .int .i64 (Z k j))
  cur : wr.rowIs (g i) 3 R (fun k => .int .i64 (c k))

theorem outer_start (w : World) (n R : Nat) (g : Nat → Nat) (Z : Nat → Nat → Int) : Outer w (w.alloc (.cells (madeCells #[.slice none 0 0] (n + 1)) 37)) n R (n + 1) g Z :=
  ⟨(World.Since.refl _ _).alloc (Nat.le_refl _) _, (World.rowIs_made w _ (n + 1) 37).congr (fun j hj => by rw [if_neg (by omega)]), fun j h1 h2 => by omega, fun j h1 h2 => by omega⟩

theorem mat_start {w wr : World} {n R i : Nat} {g : Nat → Nat} {Z : Nat → Nat → Int} (h : Outer w wr n R (i + 1) g Z) (hi : i ≤ n) :
    Mat w ((wr.alloc (.cells (madeCells #[.int .i64 0] R) 3)).setCell ⟨w.heap.size, i, none⟩ (.slice (some ⟨wr.heap.size, 0, none⟩) R R)) n R i (fun j => if j = i then wr.heap.size else g j) Z (fun _ => 0) := by
  have hlt := h.top.lt
  have hnew := World.rowIs_made wr (.int .i64 0) R 3
  refine ⟨(h.since.alloc (Nat.le_of_lt hlt) _).setCell (Nat.le_refl _) _, ((h.top.alloc _).set i _).congr (fun j hj => ?_), fun j h1 h2 => ?_, fun j h1 h2 => ?_, fun j h1 h2 => ?_, ?_⟩
  · by_cases e : j = i
    · subst e; simp
    · by_cases h2 : i + 1 ≤ j
      · rw [if_neg e, if_pos h2, if_pos (by omega), if_neg e]
      · rw [if_neg e, if_neg h2, if_neg (by omega)]
  · by_cases e : j = i
    · subst e; simp; omega
    · have := h.lt j (by omega) h2
      simp [e]; omega
  · have := h.lt j (by omega) h2
    have e : j ≠ i := by omega
    simp [e]; omega
  · have e : j ≠ i := by omega
    have := h.lt j (by omega) h2
    simp only [if_neg e]
    exact ((h.done j (by omega) h2).alloc _).setOther (by show g j ≠ w.heap.size; omega) _
  · simp only [if_pos]
    exact hnew.setOther (by show wr.heap.size ≠ w.heap.size; omega) _

theorem mat_set {w wr : World} {n R i : Nat} {g : Nat → Nat} {Z : Nat → Nat → Int} {c : Nat → Int} (h : Mat w wr n R i g Z c) (hi : i ≤ n) (k : Nat) (v : Int) :
    Mat w (wr.setCell ⟨g i, k, none⟩ (.int .i64 v)) n R i g Z (fun k' => if k' = k then v else c k') := by
  have h0 := h.lt i (Nat.le_refl _) hi
  refine ⟨h.since.setCell (by show w.heap.size ≤ g i; omega) _, h.top.setOther (by show w.heap.size ≠ g i; omega) _, fun j h1 h2 => ?_, h.dis, fun j h1 h2 => (h.done j h1 h2).setOther (by show g j ≠ g i; have := h.dis j h1 h2; omega) _, ?_⟩
  · have := h.lt j h1 h2
    simpa using this
  · refine (h.cur.set k _).congr fun j _ => ?_
    by_cases e : j = k
    · simp [e]
    · simp [e]

theorem mat_drew {w wr : World} {n R i : Nat} {g : Nat → Nat} {Z : Nat → Nat → Int} {c : Nat → Int} (h : Mat w wr n R i g Z c) : Mat w wr.drew n R i g Z c :=
  ⟨h.since.drew, h.top.drew, h.lt, h.dis, fun j h1 h2 => (h.done j h1 h2).drew, h.cur.drew⟩

theorem since_below {w wr wr' : World} (h : w.Since w.heap.size wr) (hs : w.heap.size ≤ wr.heap.size) (hb : Below wr.heap.size wr wr') : w.Since w.heap.size wr' :=
  h.trans ⟨hb.os, hb.tape, hb.output, hb.size, fun b hb2 => hb.block b (Nat.lt_of_lt_of_le hb2 hs)⟩

theorem mat_below {w wr wr' : World} {n R i : Nat} {g : Nat → Nat} {Z : Nat → Nat → Int} {c : Nat → Int} (h : Mat w wr n R i g Z c) (hb : Below wr.heap.size wr wr') : Mat w wr' n R i g Z c :=
  ⟨since_below h.since (Nat.le_of_lt h.top.lt) hb, h.top.of_block (hb.block _ h.top.lt), fun j h1 h2 => by have := h.lt j h1 h2; have := hb.size; omega, h.dis, fun j h1 h2 => (h.done j h1 h2).of_block (hb.block _ (h.done j h1 h2).lt), h.cur.of_block (hb.block _ h.cur.lt)⟩

theorem mat_done {w wr : World} {n R i : Nat} {g : Nat → Nat} {Z : Nat → Nat → Int} {c : Nat → Int} (h : Mat w wr n R i g Z c) (hi : i ≤ n) (hc : ∀ k, k < R → c k = Z k i) : Outer w wr n R i g Z :=
  ⟨h.since, h.top, h.lt, fun j h1 h2 => by
    by_cases e : j = i
    · subst e; exact h.cur.congr fun k hk => by rw [hc k hk]
    · exact h.done j (by omega) h2⟩

theorem mat_congr {w wr : World} {n R i : Nat} {g : Nat → Nat} {Z : Nat → Nat → Int} {c c' : Nat → Int} (h : Mat w wr n R i g Z c) (e : ∀ k, k < R → c k = c' k) : Mat w wr n R i g Z c' :=
  ⟨h.since, h.top, h.lt, h.dis, h.done, h.cur.congr fun k hk => by rw [e k hk]⟩

/-- 'make' of a row, its size a reckoned number. -/
theorem wpl_make {P : Program} (w : World) {ops : Array Oper} {rest : List Oper} {o : Oper} {a : Act} {Q : Exit → Act → World → Prop}
    (hg : o.guard = none) (l c : Operand) (t : TypeId) (hop : o.op = Op.makeSlice t l c)
    (e : TypeId) (i : TypeInfo) (z : Value) (ht : P.underlying t = some (.slice e)) (hi : P.info? e = some i) (hz : i.zero = some z) (hsize : i.size = 1) (hz1 : z.cells = #[z])
    (L C : Int) (n : Nat) (hl : a.eval l = .int .i64 L) (hc : a.eval c = .int .i64 C) (hL : L = (n : Int)) (hC : C = (n : Int)) (hbytes : i.bytes * n ≤ 281474976710656) (h63 : n ≤ 9223372036854775807)
    (hK : wpList P ops Q rest (a.put o.dst (.slice (some ⟨w.heap.size, 0, none⟩) n n)) (w.alloc (.cells (madeCells #[z] n) e))) :
    wpList P ops Q (o :: rest) a w := by
  subst hL hC
  exact wpList_make_row w hg l c t hop e i z ht hi hz hsize hz1 .i64 .i64 n hl hc hbytes h63 hK

end Go.Proofs.YtlnflhmepnbcmaaDoor
