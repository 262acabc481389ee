/- What is proved here: slices.Sort and slices.Compact on slices of integers that the call owns (no statement of the seat). -/
import Derived.Test.YtlnflhmepnbcmaaDoorC9
import Derived.Test.YtlnflhmepnbcmaaDoorM9
import Derived.Sort.OwnSortedInts
import Derived.Lib.SlicesCompact
namespace Go.Proofs.YtlnflhmepnbcmaaDoor
open Go Go.RowKit Go.Sort
set_option linter.unusedVariables false
set_option linter.unusedSimpArgs false

/-- Sorted. -/
def F.srtI (xs : List Int) : List Int := xs.mergeSort fun x y => decide (x ≤ y)

/-- Without repeats. -/
def F.cmpI (xs : List Int) : List Int := Lib.compact xs

theorem F.srtI_len (xs : List Int) : (F.srtI xs).length = xs.length := (List.mergeSort_perm ..).length_eq

theorem F.cmpI_len (xs : List Int) : (F.cmpI xs).length ≤ xs.length := by
  unfold F.cmpI Lib.compact Lib.compactUpTo
  rw [List.length_map]
  refine Nat.le_trans (List.length_filter_le ..) ?_
  simp

namespace M

theorem getD_ints (xs : List Int) (i : Nat) (y : Int) (h : xs[i]? = some y) : (xs.toArray)[i]! = y := by
  have hi := lt_at h
  rw [getElem!_pos _ i (by simpa using hi)]
  have := List.getElem?_eq_getElem hi
  rw [h] at this
  simpa using (Option.some.inj this).symm

/-- A slice's cells, made anew. -/
theorem ints_put {G : Nat → Option GR} {B : Nat → Prop} {w : World} {S : Nat → Prop} {β : Nat → Option BI} {t : TypeId} {xs ys : List Int} {X : BI} (inv : InvG G B w S β [(900, ⟨false, t, 1, xs.map eI⟩)]) (hX : β 900 = some X) (hr : X.real = true)
    (hl : ys.length = xs.length) (hok : ∀ y ∈ ys, okAtom (.int .i64 y)) (n : Nat) (os : Array Obj) :
    Blw B w (grow (putRow (Value.int .i64) (Sort.ahead w n) X.b 0 ys.toArray) os) ∧ InvG G B (grow (putRow (Value.int .i64) (Sort.ahead w n) X.b 0 ys.toArray) os) S β [(900, ⟨false, t, 1, ys.map eI⟩)] := by
  obtain ⟨bl, hb, h3, h4⟩ := inv.dom 900 X hX
  have hb0 : some (⟨false, t, 1, xs.map eI⟩ : Blk) = some bl := hb
  cases hb0
  obtain ⟨cs, ty, c1, c2, c3, c4, c5, c6, c7, c8⟩ := h3 hr
  have hS1 : X.size = 1 := (c6 rfl).2
  have c3 : xs.length = X.len := by rw [← c3]; simp
  obtain ⟨n1, n2, n3⟩ := inv.new 900 X hX hr
  have hg := grownBy_sortedI (w := w) (g := X.b) (n := n) (os := os) ys.toArray
  have hH := heap_sortedI (w := w) (n := n) (os := os) ys.toArray c1
  generalize hw' : grow (putRow (Value.int .i64) (Sort.ahead w n) X.b 0 ys.toArray) os = w' at hg hH
  obtain ⟨g1, g2, g3, g4, g5⟩ := hg
  have hold : ∀ b, b < w.heap.size → b ≠ X.b → w'.heap[b]? = w.heap[b]? := fun b hb hne => g5 b hb (fun e => hne (Option.some.inj e))
  have hSo : ∀ b, S b → w'.heap[b]? = w.heap[b]? := fun b hb => hold b (inv.lt b hb) (fun e => n3 (e ▸ hb))
  refine ⟨⟨g1, g2, g3, g4, fun b hb => hold b (inv.base b hb) (fun e => n1 (e ▸ hb))⟩, ?_⟩
  refine ⟨fun b hb => Nat.lt_of_lt_of_le (inv.base b hb) g4, fun b hb => Nat.lt_of_lt_of_le (inv.lt b hb) g4, inv.inj, fun k x hk hxr => ?_, fun k x hk => ?_, fun k bl hk => ?_, fun g r hgr => (inv.glob g r hgr).mono hSo fun _ h => h⟩
  · obtain ⟨m1, m2, m3⟩ := inv.new k x hk hxr
    exact ⟨m1, Nat.lt_of_lt_of_le m2 g4, m3⟩
  · obtain ⟨bl0, hb0, _, _⟩ := inv.dom k x hk
    have hk9 : k = 900 := by
      unfold mget at hb0
      split at hb0
      · rename_i hkk; exact beq_true.1 hkk
      · cases hb0
    subst hk9
    rw [hX] at hk
    cases hk
    refine ⟨⟨false, t, 1, ys.map eI⟩, rfl, fun _ => ⟨putCells (Value.int .i64) 0 ys.toArray cs, ty, hH, by simp [putCells, c2], by simp [hl, c3], c4, c5, c6, (fun h => by cases h), fun i row hi => ?_⟩, fun h => by rw [hr] at h; cases h⟩
    simp only [List.getElem?_map, Option.map_eq_some_iff] at hi
    obtain ⟨y, hy, rfl⟩ := hi
    refine ⟨by rw [hS1]; rfl, fun j a hj => ?_⟩
    have hj0 : j = 0 := by
      have := (List.getElem?_eq_some_iff.1 hj).1
      simp [eI] at this; omega
    subst hj0
    have ha : a = vI y := by simpa [eI] using hj.symm
    subst ha
    refine ⟨.int .i64 y, ?_, .v (hok y (List.mem_of_getElem? hy))⟩
    have hil := lt_at hy
    rw [hS1, Nat.mul_one, Nat.add_zero]
    have hcs : i < cs.size := by rw [c2, hS1]; omega
    simp only [putCells, Array.getElem?_mapIdx, Array.getElem?_eq_getElem hcs, Option.map_some, Nat.zero_le, true_and, Nat.zero_add, Nat.sub_zero]
    rw [if_pos (by simpa using hil), getD_ints ys i y hy]
  · have hk9 : k = 900 := by
      unfold mget at hk
      split at hk
      · rename_i hkk; exact beq_true.1 hkk
      · cases hk
    subst hk9
    exact ⟨X, hX⟩

end M
end Go.Proofs.YtlnflhmepnbcmaaDoor
