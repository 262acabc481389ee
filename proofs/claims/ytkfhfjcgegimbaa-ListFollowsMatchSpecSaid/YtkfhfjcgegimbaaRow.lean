/- What is proved here: plain facts on a block of cells that a call makes and writes into (no statement of the seat). -/
import Derived.Test.YtkfhfjcgegimbaaOwn
import Derived.Laws.MakeOwn
namespace Go.Proofs.Ytkfhfjcgegimbaa
open Go.RowKit
set_option linter.unusedVariables false

/-- Block g is just the values vs. -/
def RowV (w : World) (g : Nat) (e : TypeId) (vs : List Value) : Prop := w.heap[g]? = some (.cells vs.toArray e (0, 0))

section
variable {w w' : World} {g : Nat} {e : TypeId} {vs : List Value}
theorem RowV.lt (h : RowV w g e vs) : g < w.heap.size := by
  rcases Nat.lt_or_ge g w.heap.size with hlt | hge
  · exact hlt
  · unfold RowV at h; rw [Array.getElem?_eq_none hge] at h; cases h
theorem RowV.cell (h : RowV w g e vs) (i : Nat) : w.cell? ⟨g, i, none⟩ = vs[i]? := by rw [cell_of_row w g i vs.toArray e (0, 0) h]; simp
theorem RowV.frozen (h : RowV w g e vs) (i : Nat) : w.frozen? ⟨g, i, none⟩ = false := by
  unfold RowV at h
  simp [World.frozen?, h]
theorem RowV.keep (h : RowV w g e vs) (hk : w'.heap[g]? = w.heap[g]?) : RowV w' g e vs := hk.trans h
theorem RowV.ext (h : RowV w g e vs) (hk : Ext w w') : RowV w' g e vs := h.keep (hk.block g h.lt)
theorem RowV.set (h : RowV w g e vs) (i : Nat) (u : Value) : RowV (w.setCell ⟨g, i, none⟩ u) g e (vs.set i u) := by
  unfold RowV at h ⊢
  simp [World.setCell, Array.getElem?_modify, h]
theorem RowV.far (h : RowV w g e vs) {p : Addr} (hp : g ≠ p.block) (u : Value) : RowV (w.setCell p u) g e vs := (Below.heap_setCell w p u g hp).trans h
theorem RowV.new (w : World) (e : TypeId) (vs : List Value) : RowV (w.alloc (.cells vs.toArray e)) w.heap.size e vs := heap_alloc_new w _
end
def ints (xs : List Int) : List Value := xs.map (Value.int .i64)
theorem ints_at {xs : List Int} {k : Nat} (hk : k < xs.length) : (ints xs)[k]? = some (.int .i64 xs[k]) := by simp [ints, hk]
theorem ints_set {xs : List Int} {k : Nat} {x : Int} : (ints xs).set k (.int .i64 x) = ints (xs.set k x) := by simp [ints]
theorem RowV.setI {w : World} {g : Nat} {e : TypeId} {xs : List Int} {k : Nat} {x : Int} (h : RowV w g e (ints xs)) : RowV (w.setCell ⟨g, k, none⟩ (.int .i64 x)) g e (ints (xs.set k x)) := by
  rw [← ints_set]; exact h.set k _
theorem ints_len (xs : List Int) : (ints xs).length = xs.length := by simp [ints]
theorem RowV.intsV {w : World} {g : Nat} {e : TypeId} {xs : List Int} (h : RowV w g e (ints xs)) (hx : ∀ x ∈ xs, I64 x) (hb : xs.length * 8 ≤ 140737488355328) : SlV 1 8 intR w (In w) xs (.slice (some ⟨g, 0, none⟩) xs.length xs.length) := by
  refine ⟨some ⟨g, 0, none⟩, xs.length, rfl, Nat.le_refl _, by omega, hb, fun i x hi => ?_⟩
  have hlt := (List.getElem?_eq_some_iff.1 hi).1
  have hxi : xs[i] = x := (List.getElem?_eq_some_iff.1 hi).2
  refine ⟨g, 0, [.int .i64 x], rfl, h.lt, ⟨rfl, hx x (List.mem_of_getElem? hi)⟩, rfl, fun j v hv => ?_⟩
  rcases j with _ | j
  · simp at hv
    subst hv
    have := h.cell i
    rw [ints_at hlt, hxi] at this
    simpa using this
  · simp at hv

def bools (xs : List Bool) : List Value := xs.map Value.bool
theorem bools_at {xs : List Bool} {k : Nat} (hk : k < xs.length) : (bools xs)[k]? = some (.bool xs[k]) := by simp [bools, hk]
theorem RowV.setB {w : World} {g : Nat} {e : TypeId} {xs : List Bool} {k : Nat} {x : Bool} (h : RowV w g e (bools xs)) : RowV (w.setCell ⟨g, k, none⟩ (.bool x)) g e (bools (xs.set k x)) := by
  have : (bools xs).set k (.bool x) = bools (xs.set k x) := by simp [bools]
  rw [← this]; exact h.set k _
/-- A row of integers of the call's own: an element; a store elsewhere; a store into it. -/
theorem ints_flat {css : List (List Value)} {xs : List Int} (hl : css.length = xs.length) (h : ∀ (i : Nat) (x : Int) (cs : List Value), xs[i]? = some x → css[i]? = some cs → cs = [.int .i64 x]) : css.flatten = ints xs := by
  induction xs generalizing css with
  | nil =>
    have : css = [] := List.eq_nil_of_length_eq_zero hl
    subst this; rfl
  | cons x r ih =>
    rcases css with _ | ⟨c, css⟩
    · simp at hl
    · have h0 := h 0 x c rfl rfl
      subst h0
      have := ih (css := css) (by simpa using hl) (fun i y cs hy hc => h (i + 1) y cs hy hc)
      simp [ints, this]
theorem OwnL.plain {e : TypeId} {base : Nat} {w : World} {v : Value} {xs : List Int} (h : OwnL 1 e intR base w v xs) : w.ownsRow base e 1 v xs.length (ints xs) ∧ ∀ x ∈ xs, I64 x := by
  obtain ⟨css, h1, h2, h3, h4⟩ := h
  rw [ints_flat h1 fun i x cs hx hc => (h4 i x cs hx hc).1] at h3
  refine ⟨h3, fun x hx => ?_⟩
  obtain ⟨i, hi⟩ := List.getElem?_of_mem hx
  have hlt := (List.getElem?_eq_some_iff.1 hi).1
  exact (h4 i x _ hi (List.getElem?_eq_getElem (by omega))).2
theorem OwnL.of_ints {e : TypeId} {base : Nat} {w : World} {v : Value} {xs : List Int} (h : w.ownsRow base e 1 v xs.length (ints xs)) (hx : ∀ x ∈ xs, I64 x) : OwnL 1 e intR base w v xs := by
  refine ⟨xs.map fun x => [Value.int .i64 x], by simp, by simp, ?_, fun i x cs hi hc => ?_⟩
  · rw [ints_flat (xs := xs) (by simp) fun i x cs hi hc => by simp only [List.getElem?_map, hi, Option.map_some] at hc; injection hc with hc; exact hc.symm]
    exact h
  · simp only [List.getElem?_map, hi, Option.map_some] at hc
    injection hc with hc
    subst hc
    exact ⟨rfl, hx x (List.mem_of_getElem? hi)⟩
theorem OwnL.atI {e : TypeId} {base : Nat} {w : World} {v : Value} {xs : List Int} (h : OwnL 1 e intR base w v xs) {k : Nat} (hk : k < xs.length) :
    ∃ g cap, v = .slice (some ⟨g, 0, none⟩) xs.length cap ∧ base ≤ g ∧ g < w.heap.size ∧ xs.length ≤ cap ∧ w.cell? ⟨g, k, none⟩ = some (.int .i64 xs[k]) ∧ w.frozen? ⟨g, k, none⟩ = false := by
  obtain ⟨h3, _⟩ := h.plain
  rcases h3.2 with ⟨_, h0⟩ | ⟨g, cap, cur, rfl, hb, hh, hn, hm, hs, ht⟩
  · omega
  · refine ⟨g, cap, rfl, hb, (h3.lt g rfl).2, hn, ?_, h3.frozenAt k⟩
    rw [h3.cellAt k (by omega), ints_at hk]
theorem OwnL.form {α : Type} {size : Nat} {R : Rd α} {e : TypeId} {base : Nat} {w : World} {v : Value} {xs : List α} (h : OwnL size e R base w v xs) : ∃ A c, v = .slice A xs.length c := by
  obtain ⟨css, h1, h2, h3, h4⟩ := h
  rcases h3.2 with ⟨rfl, h0⟩ | ⟨g, cap, cur, rfl, _⟩
  · exact ⟨none, 0, by rw [h0]⟩
  · exact ⟨_, _, rfl⟩
theorem OwnL.farI {e : TypeId} {base : Nat} {w : World} {v : Value} {xs : List Int} (h : OwnL 1 e intR base w v xs) {p : Addr} (hp : p.block < base) (u : Value) : OwnL 1 e intR base (w.setCell p u) v xs := by
  obtain ⟨h3, h4⟩ := h.plain
  exact OwnL.of_ints (ownsRow_setCell_below h3 hp u) h4
theorem OwnL.setI {e : TypeId} {base g cap : Nat} {w : World} {xs : List Int} (h : OwnL 1 e intR base w (.slice (some ⟨g, 0, none⟩) xs.length cap) xs) {k : Nat} (hk : k < xs.length) {x : Int} (hx : I64 x) :
    OwnL 1 e intR base (w.setCell ⟨g, k, none⟩ (.int .i64 x)) (.slice (some ⟨g, 0, none⟩) (xs.set k x).length cap) (xs.set k x) := by
  obtain ⟨h3, h4⟩ := h.plain
  refine OwnL.of_ints ?_ fun y hy => ?_
  · have := h3.stored k (.int .i64 x)
    rw [ints_set] at this
    rw [List.length_set]
    exact this.1
  · rcases List.mem_or_eq_of_mem_set hy with h | h
    · exact h4 y h
    · rw [h]; exact hx
theorem OwnL.sameI {e : TypeId} {base : Nat} {w w' : World} {v : Value} {xs : List Int} (h : OwnL 1 e intR base w v xs) (hh : w'.heap = w.heap) : OwnL 1 e intR base w' v xs := by
  obtain ⟨h3, h4⟩ := h.plain
  exact OwnL.of_ints (ownsRow_of_block h3 fun g _ => by rw [hh]) h4

/-- make([]T, n), T of one cell. -/
theorem run_make1 {P : Program} {t e : TypeId} {z : Value} {bytes : Nat} (ht : P.underlying t = some (.slice e)) (hinfo : (P.info? e).map (fun i => (i.zero, i.size, i.bytes)) = some (some z, 1, bytes)) (hz : z.cells = #[z])
    (n : Nat) (hb : bytes * n ≤ 281474976710656) (h63 : n ≤ 9223372036854775807) (w : World) :
    (Instr.makeSlice t (.int .i64 (n : Int)) (.int .i64 (n : Int))).run P w = .ok (.slice (some ⟨w.heap.size, 0, none⟩) n n) (w.alloc (.cells (List.replicate n z).toArray e)) := by
  obtain ⟨i, hi, hz0, hz1, hz2⟩ := info_parts hinfo
  have hb' : (i.bytes : Int) * (n : Int) ≤ 281474976710656 := by
    rw [hz2]
    have h : ((bytes * n : Nat) : Int) ≤ 281474976710656 := by omega
    rwa [Int.natCast_mul] at h
  have hr := run_make (P := P) w t e i z ht hi hz0 .i64 .i64 n n (by omega) (by omega) hb' (by omega)
  simp only [Int.toNat_natCast] at hr
  rw [hr]
  have e1 : madeCells z.cells (n * i.size) = (List.replicate n z).toArray := by
    rw [hz, hz1, Nat.mul_one]
    have := toList_madeCells_one z n
    rw [← this]
  rw [e1]
end Go.Proofs.Ytkfhfjcgegimbaa
