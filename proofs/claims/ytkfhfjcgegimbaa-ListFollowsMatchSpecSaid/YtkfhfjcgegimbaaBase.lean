/- What is proved here: plain facts on memory that reads as lists and structures (no statement of the seat). -/
import Derived.WalkKit
import Derived.WalkSpells
import Derived.WalkLawsBesides
import Derived.Lib.Hide
namespace Go.Proofs.Ytkfhfjcgegimbaa
open Go.RowKit

/-- A way in which a datum lies in cells: in the world w, reading memory in the blocks S alone. -/
abbrev Rd (α : Type) := World → (Nat → Prop) → α → List Value → Prop

/-- R is kept where the blocks S are kept, and S may grow. -/
def Keeps {α : Type} (R : Rd α) : Prop := ∀ (w w' : World) (S S' : Nat → Prop) (x : α) (cs : List Value),
  (∀ b, S b → w'.heap[b]? = w.heap[b]?) → (∀ b, S b → S' b) → R w S x cs → R w' S' x cs

/-- A slice's elements: those of xs, size cells each, from the address A on. -/
def SlR {α : Type} (size : Nat) (R : Rd α) (w : World) (S : Nat → Prop) (xs : List α) (A : Option Addr) : Prop :=
  ∀ i x, xs[i]? = some x → ∃ b off cs, A = some ⟨b, off, none⟩ ∧ S b ∧ R w S x cs ∧ cs.length = size ∧
    ∀ j v, cs[j]? = some v → w.cell? ⟨b, off + i * size + j, none⟩ = some v

/-- A slice's value. -/
def SlV {α : Type} (size bytes : Nat) (R : Rd α) (w : World) (S : Nat → Prop) (xs : List α) (v : Value) : Prop :=
  ∃ A c, v = .slice A xs.length c ∧ xs.length ≤ c ∧ c ≤ 9223372036854775807 ∧ xs.length * bytes ≤ 140737488355328 ∧ SlR size R w S xs A

/-- The blocks of a world. -/
def In (w : World) : Nat → Prop := fun b => b < w.heap.size

theorem cell_in {w : World} {p : Addr} {v : Value} (h : w.cell? p = some v) : p.block < w.heap.size := by
  rcases Nat.lt_or_ge p.block w.heap.size with hlt | hge
  · exact hlt
  · simp [World.cell?, Array.getElem?_eq_none hge] at h

section
variable {α : Type} {R : Rd α} {size bytes : Nat} {w w' : World} {S S' : Nat → Prop} {xs : List α} {A : Option Addr} {v : Value}

theorem SlR.keep (hR : Keeps R) (h : SlR size R w S xs A) (hw : ∀ b, S b → w'.heap[b]? = w.heap[b]?) (hS : ∀ b, S b → S' b) : SlR size R w' S' xs A := by
  intro i x hx
  obtain ⟨b, off, cs, rfl, hb, hr, hl, hc⟩ := h i x hx
  exact ⟨b, off, cs, rfl, hS b hb, hR _ _ _ _ _ _ hw hS hr, hl, fun j u hu => by rw [World.cell?_of_block (hw b hb)]; exact hc j u hu⟩
theorem SlV.keep (hR : Keeps R) (h : SlV size bytes R w S xs v) (hw : ∀ b, S b → w'.heap[b]? = w.heap[b]?) (hS : ∀ b, S b → S' b) : SlV size bytes R w' S' xs v := by
  obtain ⟨A, c, rfl, h1, h2, h3, h4⟩ := h
  exact ⟨A, c, rfl, h1, h2, h3, h4.keep hR hw hS⟩
theorem SlR.nil : SlR size R w S [] A := fun i x hx => by simp at hx
theorem keeps_slv (hR : Keeps R) : Keeps (fun w S xs cs => ∃ v, cs = [v] ∧ SlV size bytes R w S xs v) := by
  rintro w w' S S' x cs hw hS ⟨v, rfl, h⟩
  exact ⟨v, rfl, h.keep hR hw hS⟩
/-- The element k, in the round of a loop. -/
theorem SlR.at (h : SlR size R w S xs A) {k : Nat} (hk : k < xs.length) : ∃ b off cs, A = some ⟨b, off, none⟩ ∧ S b ∧ R w S xs[k] cs ∧ cs.length = size ∧
    ∀ j v, cs[j]? = some v → w.cell? ⟨b, off + k * size + j, none⟩ = some v := h k xs[k] (List.getElem?_eq_getElem hk)
theorem SlR.cut (h : SlR size R w S xs A) {k cap : Nat} (hk : k ≤ xs.length) (hc : xs.length ≤ cap) :
    SlR size R w S (xs.drop k) (if cap = k then A else A.map (·.add (k * size))) := by
  intro i x hx
  rw [List.getElem?_drop] at hx
  have hlt : k + i < xs.length := (List.getElem?_eq_some_iff.1 hx).1
  obtain ⟨b, off, cs, rfl, hb, hr, hl, hcell⟩ := h _ x hx
  rw [if_neg (by omega)]
  refine ⟨b, off + k * size, cs, ?_, hb, hr, hl, fun j u hu => ?_⟩
  · simp only [Option.map_some, Addr.add]
    split
    · rename_i h0; rw [h0]; simp
    · rfl
  · have := hcell j u hu
    rw [Nat.add_mul] at this
    rw [← this]; congr 2; omega
theorem SlR.take (h : SlR size R w S xs A) (k : Nat) : SlR size R w S (xs.take k) A := by
  intro i x hx
  rw [List.getElem?_take] at hx
  split at hx
  · exact h i x hx
  · cases hx
end

theorem drop_cons {α : Type} {xs : List α} {k : Nat} (hk : k < xs.length) : xs.drop k = xs[k] :: xs.drop (k + 1) := List.drop_eq_getElem_cons hk

/-- Cells of a block that lies below a Below. -/
theorem box_cell {w wr : World} {cs : Array Value} {t : TypeId} (hb : Below (w.heap.size + 1) (w.alloc (.cells cs t)) wr) (j : Nat) : wr.cell? ⟨w.heap.size, j, none⟩ = cs[j]? := by
  rw [hb.cell (p := ⟨w.heap.size, j, none⟩) (by simp)]
  simp

/-- What was there is as it was. -/
abbrev Ext (w w' : World) : Prop := Below w.heap.size w w'
theorem Ext.trans {a b c : World} (h : Ext a b) (k : Ext b c) : Ext a c := Below.trans h (Below.mono k h.size)
theorem Ext.alloc {a b : World} (h : Ext a b) (o : Obj) : Ext a (b.alloc o) := Below.alloc h h.size o
theorem Ext.new (w : World) (o : Obj) : Ext w (w.alloc o) := (Below.refl _ _).alloc (Nat.le_refl _) o
theorem Ext.one (w : World) : Ext w w.drew := (Below.refl _ _).drew
theorem Ext.same (w : World) : Ext w w := Below.refl _ _
theorem Ext.drewN {a w : World} (h : Ext a w) (n : Nat) : Ext a (w.drewN n) := ⟨h.os, h.tape, h.output, h.size, h.block⟩
theorem Ext.ofBox {a w : World} {o : Obj} (h : Below (a.heap.size + 1) (a.alloc o) w) : Ext a w := Ext.trans (Ext.new a o) (by unfold Ext; simpa using h)
theorem Ext.block_of {a b : World} (h : Ext a b) (k : Nat) (hk : In a k) : b.heap[k]? = a.heap[k]? := h.block k hk
theorem Ext.in_ {a b : World} (h : Ext a b) (k : Nat) (hk : In a k) : In b k := Nat.lt_of_lt_of_le hk h.size
theorem SlR.ext {α : Type} {R : Rd α} {size : Nat} {w w' : World} {xs : List α} {A : Option Addr} (hR : Keeps R) (h : SlR size R w (In w) xs A) (hw : Ext w w') : SlR size R w' (In w') xs A :=
  h.keep hR hw.block_of hw.in_
theorem SlV.ext {α : Type} {R : Rd α} {size bytes : Nat} {w w' : World} {xs : List α} {v : Value} (hR : Keeps R) (h : SlV size bytes R w (In w) xs v) (hw : Ext w w') : SlV size bytes R w' (In w') xs v :=
  h.keep hR hw.block_of hw.in_
/-- Behind a new block and a call. -/
theorem Below.call {B : Nat} {a w w1 : World} (h : Below B a w) (hB : B ≤ w.heap.size) (hb : Ext w w1) : Below B a w1 := h.trans (hb.mono hB)

/-- 64 bits. -/
def I64 (n : Int) : Prop := -9223372036854775808 ≤ n ∧ n ≤ 9223372036854775807

/-- Strings. -/
def strR : Rd ByteArray := fun _ _ s cs => cs = [.string s] ∧ s.size ≤ 9223372036854775807
theorem keeps_str : Keeps strR := fun _ _ _ _ _ _ _ _ h => h
/-- Integers. -/
def intR : Rd Int := fun _ _ n cs => cs = [.int .i64 n] ∧ I64 n
theorem keeps_int : Keeps intR := fun _ _ _ _ _ _ _ _ h => h
/-- Bools. -/
def boolR : Rd Bool := fun _ _ n cs => cs = [.bool n]
theorem keeps_bool : Keeps boolR := fun _ _ _ _ _ _ _ _ h => h
end Go.Proofs.Ytkfhfjcgegimbaa
