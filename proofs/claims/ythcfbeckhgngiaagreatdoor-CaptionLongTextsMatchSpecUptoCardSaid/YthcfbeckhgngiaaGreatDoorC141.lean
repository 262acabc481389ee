/- What is proved here: contracts of strings.Builder (no statement of the seat). -/
import Derived.Test.YthcfbeckhgngiaaGreatDoorC0
import Derived.Lib.AppendStr
namespace Go.Proofs.YthcfbeckhgngiaaGreatDoor
open Go Go.RowKit
set_option linter.unusedVariables false
set_option linter.unusedSimpArgs false

theorem bld_und : Tryz.prog.underlying 53 = some (.slice 5) := by kernel_rfl

theorem bld_str : Tryz.prog.underlying 9 = some .string := by kernel_rfl

theorem bld_info : (Tryz.prog.info? 5).map (fun i => (i.zero, i.size, i.bytes)) = some (some (.int .u8 0), 1, 1) := by kernel_rfl

/-- A builder's buffer: the bytes xs, in a block of its own. -/
def BufAt (w : World) (v : Value) (own : Option Nat) (xs : List Value) : Prop :=
  (∃ A, v = .slice A 0 0 ∧ xs = [] ∧ own = none) ∨
  (∃ g cap cur, own = some g ∧ v = .slice (some ⟨g, 0, none⟩) xs.length cap ∧ w.heap[g]? = some (.cells cur 5 (0, 0)) ∧ xs.length ≤ cap ∧ cap ≤ 9223372036854775807 ∧ cur.size = cap ∧ cur.toList.take xs.length = xs)

theorem BufAt.kept {w w' : World} {v : Value} {own : Option Nat} {xs : List Value} (h : BufAt w v own xs) (hb : ∀ g, own = some g → w'.heap[g]? = w.heap[g]?) : BufAt w' v own xs := by
  rcases h with h | ⟨g, cap, cur, h1, h2, h3, h4⟩
  · exact .inl h
  · exact .inr ⟨g, cap, cur, h1, h2, by rw [hb g h1]; exact h3, h4⟩

theorem buf_new (w : World) (cs : Array Value) (xs : List Value) (C : Nat) (h1 : cs.size = C) (h2 : xs.length ≤ C) (h3 : C ≤ 9223372036854775807) (h4 : cs.toList.take xs.length = xs) (row : Option Nat) :
    BufAt (w.drew.alloc (.cells cs 5)) (.slice (some ⟨w.heap.size, 0, none⟩) xs.length C) (some w.heap.size) xs ∧ w.grownBy (w.drew.alloc (.cells cs 5)) row := by
  refine ⟨.inr ⟨w.heap.size, C, cs, rfl, rfl, ?_, h2, h3, h1, h4⟩, rfl, rfl, rfl, ?_, fun k hk _ => ?_⟩
  · show (w.heap.push _)[w.heap.size]? = _
    simp
  · show _ ≤ (w.heap.push _).size
    simp
  · show (w.heap.push _)[k]? = _
    rw [Array.getElem?_push, if_neg (by omega)]

theorem strCells_len (s : ByteArray) : (Lib.strCells s).length = s.size := Lib.strCells_length s

/-- An append of a string to bytes of the call's own. -/
theorem run_app_str (w : World) (ty : TypeId) {v : Value} {own : Option Nat} {xs : List Value} (h : BufAt w v own xs) (s : ByteArray) (hlen : xs.length + s.size ≤ 140737488355328) :
    ∃ v' w' own', (Builtin.append_ #[53, 9] ty #[v, .string s]).run Tryz.prog w = .ok v' w' ∧ BufAt w' v' own' (xs ++ Lib.strCells s) ∧ w.grownBy w' own ∧ (∀ g, own' = some g → own = some g ∨ w.heap.size ≤ g) := by
  obtain ⟨i0, hi, hz0, hz1, hz2⟩ := info_parts bld_info
  have hl := strCells_len s
  have hgC : ∀ n old, n ≤ 140737488355328 → n ≤ grownCap w n old 5 ∧ grownCap w n old 5 ≤ 9223372036854775807 := fun n old hn =>
    ⟨grownCap_ge w n old _, by have := grownCap_le_maxLen w n old 5 (by unfold maxLen; omega); unfold maxLen at this; omega⟩
  have h0c : (Value.int IntKind.u8 0).cells.size = 1 := rfl
  rcases h with ⟨A, rfl, rfl, rfl⟩ | ⟨g, cap, cur, rfl, rfl, hg, hnc, hcm, hcs, ht⟩
  · simp only [List.length_nil, Nat.zero_add] at hlen
    by_cases hs : s.size = 0
    · have hn : Lib.strCells s = [] := List.eq_nil_of_length_eq_zero (by rw [hl]; exact hs)
      refine ⟨.slice A 0 0, w, none, ?_, .inl ⟨A, rfl, by rw [hn]; rfl, rfl⟩, ⟨rfl, rfl, rfl, Nat.le_refl _, fun _ _ _ => rfl⟩, fun g hg => by cases hg⟩
      have hf := Lib.run_firstCells_string (P := Tryz.prog) w 1 s
      rw [hs, hn] at hf
      cases A <;> simp [Builtin.append_, run_underlying bld_und, run_underlying bld_str, sizeOf, typeInfo, hi, hz1, Builtin.lenOf, hs, hf, storeCells]
    · obtain ⟨c1, c2⟩ := hgC s.size 0 hlen
      cases A with
      | none =>
        have hr := run_append_nil_string (P := Tryz.prog) w 53 9 ty 5 i0 _ bld_und bld_str hi hz0 s (by omega) (by omega) (by rw [hz2]; omega)
        have e1 : (s.data.map fun b => Value.int .u8 b.toNat) = (Lib.strCells s).toArray := by
          apply Array.ext'
          simp [Lib.strCells]
        rw [e1] at hr
        obtain ⟨k1, k2⟩ := buf_new w ((Lib.strCells s).toArray ++ Builtin.zeroCells (Value.int .u8 0).cells (grownCap w s.size 0 5 - s.size)) (Lib.strCells s) (grownCap w s.size 0 5)
          (by rw [Array.size_append, size_zeroCells, h0c, List.size_toArray, hl]; omega) (by rw [hl]; exact c1) c2 (by rw [Array.toList_append]; exact List.take_left) none
        rw [hl] at k1
        exact ⟨_, _, _, hr, by rw [List.nil_append]; exact k1, k2, fun g hg => .inr (by cases hg; exact Nat.le_refl _)⟩
      | some a =>
        have hr := Lib.run_append_grow_string (P := Tryz.prog) w 53 9 ty 5 i0 _ bld_und bld_str hi hz0 a 0 0 [] (by simp) (fun j v hj => by simp at hj) s (by omega) (by omega) (by rw [hz2]; exact growslice_fits (by omega) (by omega))
        simp only [Nat.zero_add] at hr
        obtain ⟨k1, k2⟩ := buf_new w (([] : List Value).toArray ++ (Lib.strCells s).toArray ++ Builtin.zeroCells (Value.int .u8 0).cells (grownCap w s.size 0 5 - s.size)) (Lib.strCells s) (grownCap w s.size 0 5)
          (by rw [Array.size_append, Array.size_append, size_zeroCells, h0c, List.size_toArray, List.size_toArray, hl]; simp; omega) (by rw [hl]; exact c1) c2 (by rw [Array.toList_append, Array.toList_append]; exact List.take_left) none
        rw [hl] at k1
        exact ⟨_, _, _, hr, by rw [List.nil_append]; exact k1, k2, fun g hg => .inr (by cases hg; exact Nat.le_refl _)⟩
  · by_cases hroom : xs.length + s.size ≤ cap
    · have hr := Lib.run_append_room_string (P := Tryz.prog) w 53 9 ty 5 i0 bld_und bld_str hi hz1 g xs.length cap cur hg s hroom (by omega)
      have hl2 : (xs ++ Lib.strCells s).length = xs.length + s.size := by rw [List.length_append, hl]
      refine ⟨_, _, some g, hr, .inr ⟨g, cap, _, rfl, by rw [hl2], setRow_heap w g cur _ _ _ hg, by rw [hl2]; exact hroom, hcm, ?_, ?_⟩, ⟨rfl, rfl, rfl, by simp, fun k _ hk => setRow_other w g k _ (fun e => hk (by rw [e]))⟩, fun g' hg' => .inl hg'⟩
      · simp only [List.size_toArray, List.length_append, List.length_take, List.length_drop, Array.length_toList, hl]
        omega
      · rw [ht]
        exact List.take_left
    · have holds : ∀ j u, xs[j]? = some u → w.cell? ((⟨g, 0, none⟩ : Addr).add j) = some u := fun j u hu => by
        have hj := (List.getElem?_eq_some_iff.1 hu).1
        have e : (cur.toList.take xs.length)[j]? = some u := by rw [ht]; exact hu
        rw [List.getElem?_take, if_pos hj] at e
        rw [Addr.add_lit, Nat.zero_add]
        simp only [World.cell?, hg]
        simpa using e
      obtain ⟨c1, c2⟩ := hgC (xs.length + s.size) cap hlen
      have hr := Lib.run_append_grow_string (P := Tryz.prog) w 53 9 ty 5 i0 _ bld_und bld_str hi hz0 ⟨g, 0, none⟩ xs.length cap xs (by rw [hz1]; simp) holds s (by omega) (by omega) (by rw [hz2]; exact growslice_fits (by omega) (by omega))
      have hl2 : (xs ++ Lib.strCells s).length = xs.length + s.size := by rw [List.length_append, hl]
      obtain ⟨k1, k2⟩ := buf_new w (xs.toArray ++ (Lib.strCells s).toArray ++ Builtin.zeroCells (Value.int .u8 0).cells (grownCap w (xs.length + s.size) cap 5 - (xs.length + s.size))) (xs ++ Lib.strCells s) (grownCap w (xs.length + s.size) cap 5)
        (by rw [Array.size_append, Array.size_append, size_zeroCells, h0c, List.size_toArray, List.size_toArray, hl]; omega) (by rw [hl2]; exact c1) c2 (by rw [Array.toList_append, Array.toList_append]; exact List.take_left) (some g)
      rw [hl2] at k1
      exact ⟨_, _, _, hr, k1, k2, fun g' hg' => .inr (by cases hg'; exact Nat.le_refl _)⟩


end Go.Proofs.YthcfbeckhgngiaaGreatDoor
