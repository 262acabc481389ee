/- What is proved here: how the program writes a line of pieces (no statement of the seat). -/
import Derived.Test.YtgkjfochkhiojaaDoorE99
import Derived.Lib.AppendStr
import Derived.Shelf.Strings.Builder1
import Derived.Lib.AppendZeros
import Derived.Test.YtgkjfochkhiojaaDoorM9
import Derived.Test.YtgkjfochkhiojaaDoorM10
import Derived.Test.YtgkjfochkhiojaaDoorE52
namespace Go.Proofs.YtgkjfochkhiojaaDoor
open Go Go.RowKit
set_option linter.unusedVariables false
set_option linter.unusedSimpArgs false

theorem bld_und : Tryd.prog.underlying 50 = some (.slice 5) := by kernel_rfl

theorem bld_str : Tryd.prog.underlying 9 = some .string := by kernel_rfl

theorem bld_info : (Tryd.prog.info? 5).map (fun i => (i.zero, i.size, i.bytes)) = some (some (.int .u8 0), 1, 1) := by kernel_rfl

/-- A builder's buffer: the bytes xs, in a block of its own. -/
def BufAt (w : World) (v : Value) (own : Option Nat) (xs : List Value) : Prop :=
  (∃ A, v = .slice A 0 0 ∧ xs = [] ∧ own = none) ∨
  (∃ g cap cur, own = some g ∧ v = .slice (some ⟨g, 0, none⟩) xs.length cap ∧ w.heap[g]? = some (.cells cur 5 (0, 0)) ∧ xs.length ≤ cap ∧ cap ≤ 9223372036854775807 ∧ cur.size = cap ∧ cur.toList.take xs.length = xs)

theorem BufAt.kept {w w' : World} {v : Value} {own : Option Nat} {xs : List Value} (h : BufAt w v own xs) (hb : ∀ g, own = some g → w'.heap[g]? = w.heap[g]?) : BufAt w' v own xs := by
  rcases h with h | ⟨g, cap, cur, h1, h2, h3, h4⟩
  · exact .inl h
  · exact .inr ⟨g, cap, cur, h1, h2, by rw [hb g h1]; exact h3, h4⟩

theorem buf_new (w : World) (cs : Array Value) (xs : List Value) (C : Nat) (h1 : cs.size = C) (h2 : xs.length ≤ C) (h3 : C ≤ 9223372036854775807) (h4 : cs.toList.take xs.length = xs) (row : Option Nat) :
    BufAt (w.drew.alloc (.cells cs 5)) (.slice (some ⟨w.heap.size, 0, none⟩) xs.length C) (some w.heap.size) xs ∧ w.grownBy (w.drew.alloc (.cells cs 5)) row := by
  refine ⟨.inr ⟨w.heap.size, C, cs, rfl, rfl, ?_, h2, h3, h1, h4⟩, rfl, rfl, rfl, ?_, fun k hk _ => ?_⟩
  · show (w.heap.push _)[w.heap.size]? = _
    simp
  · show _ ≤ (w.heap.push _).size
    simp
  · show (w.heap.push _)[k]? = _
    rw [Array.getElem?_push, if_neg (by omega)]

theorem strCells_len (s : ByteArray) : (Lib.strCells s).length = s.size := Lib.strCells_length s

/-- An append of a string to bytes of the call's own. -/
theorem run_app_str (w : World) (ty : TypeId) {v : Value} {own : Option Nat} {xs : List Value} (h : BufAt w v own xs) (s : ByteArray) (hlen : xs.length + s.size ≤ 140737488355328) :
    ∃ v' w' own', (Builtin.append_ #[50, 9] ty #[v, .string s]).run Tryd.prog w = .ok v' w' ∧ BufAt w' v' own' (xs ++ Lib.strCells s) ∧ w.grownBy w' own ∧ (∀ g, own' = some g → own = some g ∨ w.heap.size ≤ g) := by
  obtain ⟨i0, hi, hz0, hz1, hz2⟩ := info_parts bld_info
  have hl := strCells_len s
  have hgC : ∀ n old, n ≤ 140737488355328 → n ≤ grownCap w n old 5 ∧ grownCap w n old 5 ≤ 9223372036854775807 := fun n old hn =>
    ⟨grownCap_ge w n old _, by have := grownCap_le_maxLen w n old 5 (by unfold maxLen; omega); unfold maxLen at this; omega⟩
  have h0c : (Value.int IntKind.u8 0).cells.size = 1 := rfl
  rcases h with ⟨A, rfl, rfl, rfl⟩ | ⟨g, cap, cur, rfl, rfl, hg, hnc, hcm, hcs, ht⟩
  · simp only [List.length_nil, Nat.zero_add] at hlen
    by_cases hs : s.size = 0
    · have hn : Lib.strCells s = [] := List.eq_nil_of_length_eq_zero (by rw [hl]; exact hs)
      refine ⟨.slice A 0 0, w, none, ?_, .inl ⟨A, rfl, by rw [hn]; rfl, rfl⟩, ⟨rfl, rfl, rfl, Nat.le_refl _, fun _ _ _ => rfl⟩, fun g hg => by cases hg⟩
      have hf := Lib.run_firstCells_string (P := Tryd.prog) w 1 s
      rw [hs, hn] at hf
      cases A <;> simp [Builtin.append_, run_underlying bld_und, run_underlying bld_str, sizeOf, typeInfo, hi, hz1, Builtin.lenOf, hs, hf, storeCells]
    · obtain ⟨c1, c2⟩ := hgC s.size 0 hlen
      cases A with
      | none =>
        have hr := run_append_nil_string (P := Tryd.prog) w 50 9 ty 5 i0 _ bld_und bld_str hi hz0 s (by omega) (by omega) (by rw [hz2]; omega)
        have e1 : (s.data.map fun b => Value.int .u8 b.toNat) = (Lib.strCells s).toArray := by
          apply Array.ext'
          simp [Lib.strCells]
        rw [e1] at hr
        obtain ⟨k1, k2⟩ := buf_new w ((Lib.strCells s).toArray ++ Builtin.zeroCells (Value.int .u8 0).cells (grownCap w s.size 0 5 - s.size)) (Lib.strCells s) (grownCap w s.size 0 5)
          (by rw [Array.size_append, size_zeroCells, h0c, List.size_toArray, hl]; omega) (by rw [hl]; exact c1) c2 (by rw [Array.toList_append]; exact List.take_left) none
        rw [hl] at k1
        exact ⟨_, _, _, hr, by rw [List.nil_append]; exact k1, k2, fun g hg => .inr (by cases hg; exact Nat.le_refl _)⟩
      | some a =>
        have hr := Lib.run_append_grow_string (P := Tryd.prog) w 50 9 ty 5 i0 _ bld_und bld_str hi hz0 a 0 0 [] (by simp) (fun j v hj => by simp at hj) s (by omega) (by omega) (by rw [hz2]; exact growslice_fits (by omega) (by omega))
        simp only [Nat.zero_add] at hr
        obtain ⟨k1, k2⟩ := buf_new w (([] : List Value).toArray ++ (Lib.strCells s).toArray ++ Builtin.zeroCells (Value.int .u8 0).cells (grownCap w s.size 0 5 - s.size)) (Lib.strCells s) (grownCap w s.size 0 5)
          (by rw [Array.size_append, Array.size_append, size_zeroCells, h0c, List.size_toArray, List.size_toArray, hl]; simp; omega) (by rw [hl]; exact c1) c2 (by rw [Array.toList_append, Array.toList_append]; exact List.take_left) none
        rw [hl] at k1
        exact ⟨_, _, _, hr, by rw [List.nil_append]; exact k1, k2, fun g hg => .inr (by cases hg; exact Nat.le_refl _)⟩
  · by_cases hroom : xs.length + s.size ≤ cap
    · have hr := Lib.run_append_room_string (P := Tryd.prog) w 50 9 ty 5 i0 bld_und bld_str hi hz1 g xs.length cap cur hg s hroom (by omega)
      have hl2 : (xs ++ Lib.strCells s).length = xs.length + s.size := by rw [List.length_append, hl]
      refine ⟨_, _, some g, hr, .inr ⟨g, cap, _, rfl, by rw [hl2], setRow_heap w g cur _ _ _ hg, by rw [hl2]; exact hroom, hcm, ?_, ?_⟩, ⟨rfl, rfl, rfl, by simp, fun k _ hk => setRow_other w g k _ (fun e => hk (by rw [e]))⟩, fun g' hg' => .inl hg'⟩
      · simp only [List.size_toArray, List.length_append, List.length_take, List.length_drop, Array.length_toList, hl]
        omega
      · rw [ht]
        exact List.take_left
    · have holds : ∀ j u, xs[j]? = some u → w.cell? ((⟨g, 0, none⟩ : Addr).add j) = some u := fun j u hu => by
        have hj := (List.getElem?_eq_some_iff.1 hu).1
        have e : (cur.toList.take xs.length)[j]? = some u := by rw [ht]; exact hu
        rw [List.getElem?_take, if_pos hj] at e
        rw [Addr.add_lit, Nat.zero_add]
        simp only [World.cell?, hg]
        simpa using e
      obtain ⟨c1, c2⟩ := hgC (xs.length + s.size) cap hlen
      have hr := Lib.run_append_grow_string (P := Tryd.prog) w 50 9 ty 5 i0 _ bld_und bld_str hi hz0 ⟨g, 0, none⟩ xs.length cap xs (by rw [hz1]; simp) holds s (by omega) (by omega) (by rw [hz2]; exact growslice_fits (by omega) (by omega))
      have hl2 : (xs ++ Lib.strCells s).length = xs.length + s.size := by rw [List.length_append, hl]
      obtain ⟨k1, k2⟩ := buf_new w (xs.toArray ++ (Lib.strCells s).toArray ++ Builtin.zeroCells (Value.int .u8 0).cells (grownCap w (xs.length + s.size) cap 5 - (xs.length + s.size))) (xs ++ Lib.strCells s) (grownCap w (xs.length + s.size) cap 5)
        (by rw [Array.size_append, Array.size_append, size_zeroCells, h0c, List.size_toArray, List.size_toArray, hl]; omega) (by rw [hl2]; exact c1) c2 (by rw [Array.toList_append, Array.toList_append]; exact List.take_left) (some g)
      rw [hl2] at k1
      exact ⟨_, _, _, hr, k1, k2, fun g' hg' => .inr (by cases hg'; exact Nat.le_refl _)⟩


def bldRen : Go.Shelf.Ren := ⟨fun | 240 => 34 | 276 => 50 | n => n, fun | 0 => 0 | 4 => 4 | 9 => 9 | 20 => 20 | 37 => 50 | 70 => 49 | 72 => 52 | 164 => 91 | n => n, fun | n => n⟩

theorem bldLays : Go.Proofs.Lays.n240 Tryd.prog bldRen := {
  mixed := by kernel_rfl
  f240 := Tryd.func34.trans (congrArg some (by kernel_rfl))
  f276 := Tryd.func50.trans (congrArg some (by kernel_rfl))
  t0 := Tryd.underlying0
  a0 := Tryd.isAgg0
  z0 := Tryd.sizeOf0
  v0 := Tryd.zeroValue0
  t4 := Tryd.underlying4
  a4 := Tryd.isAgg4
  z4 := Tryd.sizeOf4
  v4 := Tryd.zeroValue4
  t9 := Tryd.underlying9
  a9 := Tryd.isAgg9
  z9 := Tryd.sizeOf9
  v9 := Tryd.zeroValue9
  t20 := Tryd.underlying20
  a20 := Tryd.isAgg20
  z20 := Tryd.sizeOf20
  v20 := Tryd.zeroValue20
  t70 := Tryd.underlying49
  a70 := Tryd.isAgg49
  z70 := Tryd.sizeOf49
  v70 := Tryd.zeroValue49
  t72 := Tryd.underlying52
  a72 := Tryd.isAgg52
  z72 := Tryd.sizeOf52
  v72 := Tryd.zeroValue52
  t164 := Tryd.underlying91
  a164 := Tryd.isAgg91
  z164 := Tryd.sizeOf91
  v164 := Tryd.zeroValue91 }

theorem bldX : Builder.X72 Tryd.prog bldRen := ⟨by kernel_rfl, by kernel_rfl⟩

/-- What stays. -/
structure Stays (w w' : World) (k : Nat → Prop) : Prop where
  os : w'.os = w.os
  tape : w'.tape = w.tape
  output : w'.output = w.output
  size : w.heap.size ≤ w'.heap.size
  block : ∀ b, b < w.heap.size → k b → w'.heap[b]? = w.heap[b]?

theorem bld_check (b : Nat) (p v : Value) (hp : p = .pointer none ∨ p = .pointer (some ⟨b, 0, none⟩)) (w : World) (hbk : w.heap[b]? = some (.cells #[p, v] 52 (0, 0))) :
    Calls Tryd.prog 34 #[.pointer (some ⟨b, 0, none⟩)] w fun e w' => e = .returned (.tuple #[]) ∧ w'.heap[b]? = some (.cells #[.pointer (some ⟨b, 0, none⟩), v] 52 (0, 0)) ∧ w'.heap.size = w.heap.size ∧ Stays w w' (fun k => k ≠ b) := by
  have hc0 : w.cell? ⟨b, 0, none⟩ = some p := by rw [Lib.cell_of_heap hbk]; rfl
  rcases hp with rfl | rfl
  · refine (Any.Builder_copyCheck_fresh bldLays bldX b w hc0 (by simp [World.shape?, hbk]; rfl) (by simp [World.frozen?, hbk])).mono ?_
    rintro e w' ⟨rfl, rfl⟩
    exact ⟨rfl, by simp [World.setCell, Array.getElem?_modify, hbk], by simp [World.setCell], rfl, rfl, rfl, by simp [World.setCell], fun k _ hk => Below.heap_setCell _ _ _ _ (fun e => hk (by simpa using e))⟩
  · refine (Any.Builder_copyCheck_used bldLays bldX b w hc0).mono ?_
    rintro e w' ⟨rfl, rfl⟩
    exact ⟨rfl, hbk, rfl, rfl, rfl, rfl, Nat.le_refl _, fun _ _ _ => rfl⟩

set_option maxHeartbeats 4000000 in
set_option maxRecDepth 100000 in
theorem bld_write (b : Nat) (p v : Value) (own : Option Nat) (xs : List Value) (s : ByteArray) (hp : p = .pointer none ∨ p = .pointer (some ⟨b, 0, none⟩)) (w : World) (hbk : w.heap[b]? = some (.cells #[p, v] 52 (0, 0)))
    (hbuf : BufAt w v own xs) (hne : own ≠ some b) (hlen : xs.length + s.size ≤ 140737488355328) :
    Calls Tryd.prog 18 #[.pointer (some ⟨b, 0, none⟩), .string s] w fun e w' => e = .returned (.tuple #[.int .i64 s.size, .nilIface]) ∧ ∃ v' own', w'.heap[b]? = some (.cells #[.pointer (some ⟨b, 0, none⟩), v'] 52 (0, 0)) ∧
      BufAt w' v' own' (xs ++ Lib.strCells s) ∧ own' ≠ some b ∧ (∀ g, own' = some g → own = some g ∨ w.heap.size ≤ g) ∧ Stays w w' (fun k => k ≠ b ∧ own ≠ some k) := by
  go_enter Tryd.func18, Tryd.ntmps18
  go_wp2_with (go_at_call 34; refine (bld_check b p v hp _ hbk).mono ?_)
  rintro e w1 ⟨rfl, hb1, hsz, hst⟩
  have hlt : b < w.heap.size := (Array.getElem?_eq_some_iff.1 hbk).1
  have hbuf1 : BufAt w1 v own xs := hbuf.kept fun g hg => by
    rcases hbuf with ⟨A, _, _, h⟩ | ⟨g', cap, cur, h1, h2, h3, _⟩
    · rw [h] at hg; cases hg
    · rw [hg] at h1
      cases h1
      exact hst.block g (Array.getElem?_eq_some_iff.1 h3).1 (fun e => hne (by rw [hg, e]))
  obtain ⟨v', w2, own', hr, hb2, hg2, hn2⟩ := run_app_str w1 50 hbuf1 s hlen
  have c0 : w1.cell? ⟨b, 0, none⟩ = some (.pointer (some ⟨b, 0, none⟩)) := by rw [Lib.cell_of_heap hb1]; rfl
  have c1 : w1.cell? ⟨b, 1, none⟩ = some v := by rw [Lib.cell_of_heap hb1]; rfl
  have hB2 : w2.heap[b]? = some (.cells #[.pointer (some ⟨b, 0, none⟩), v] 52 (0, 0)) := by
    rw [hg2.block b (by omega) (fun e => hne e.symm)]; exact hb1
  have d0 : w2.cell? ⟨b, 0, none⟩ = some (.pointer (some ⟨b, 0, none⟩)) := by rw [Lib.cell_of_heap hB2]; rfl
  have d1 : w2.cell? ⟨b, 1, none⟩ = some v := by rw [Lib.cell_of_heap hB2]; rfl
  have f1 : w2.frozen? ⟨b, 1, none⟩ = false := Lib.frozen_of_heap hB2 1
  have hne2 : own' ≠ some b := fun e => by
    rcases hn2 b e with h | h
    · exact hne h
    · omega
  obtain ⟨ao, n', cap, rfl⟩ : ∃ ao n' cap, v' = .slice ao n' cap := by
    rcases hb2 with ⟨A, h, _⟩ | ⟨g, cap, cur, _, h, _⟩
    · exact ⟨_, _, _, h⟩
    · exact ⟨_, _, _, h⟩
  go_wp2_with (at_builtin; refine Lib.wpList_append_run _ rfl _ _ _ _ rfl _ _ rfl rfl _ _ hr ?_)
  go_ret2
  have hS : ∀ k, k ≠ b → (w2.setCell ⟨b, 1, none⟩ (.slice ao n' cap)).heap[k]? = w2.heap[k]? := fun k hk => Below.heap_setCell _ _ _ _ (fun e => hk (by simpa using e))
  have hZ : (w2.setCell ⟨b, 1, none⟩ (.slice ao n' cap)).heap.size = w2.heap.size := by simp [World.setCell]
  refine ⟨rfl, .slice ao n' cap, own', ?_, hb2.kept fun g hg => hS g (fun e => hne2 (by rw [hg, e])), hne2, fun g hg => by have := hn2 g hg; rw [hsz] at this; exact this, ?_, ?_, ?_, ?_, ?_⟩
  · simp [World.setCell, Array.getElem?_modify, hB2]
  · exact hg2.os.trans hst.os
  · exact hg2.tape.trans hst.tape
  · exact hg2.output.trans hst.output
  · rw [hZ]; have := hg2.size; omega
  · rintro k hk ⟨k1, k2⟩
    rw [hS k k1, hg2.block k (by omega) (fun e => k2 e.symm)]
    exact hst.block k hk k1

theorem frz_block (w : World) (g n k : Nat) (h : k ≠ g) : (w.freeze ⟨g, 0, none⟩ n).heap[k]? = w.heap[k]? := by
  unfold World.freeze
  split
  · rfl
  · simp only [Array.getElem?_modify]
    rw [if_neg (fun e => h e.symm)]

theorem frz_stays (w : World) (g n : Nat) : Stays w (w.drew.freeze ⟨g, 0, none⟩ n) (fun k => k ≠ g) := by
  have h : ∀ k, k ≠ g → (w.drew.freeze ⟨g, 0, none⟩ n).heap[k]? = w.drew.heap[k]? := fun k hk => frz_block _ _ _ _ hk
  refine ⟨?_, ?_, ?_, ?_, fun k _ hk => h k hk⟩
  all_goals (unfold World.freeze; split <;> first | rfl | exact Nat.le_refl _ | (rw [Array.size_modify]; exact Nat.le_refl _))

set_option maxHeartbeats 4000000 in
set_option maxRecDepth 100000 in
theorem bld_string (b g cap : Nat) (p : Value) (cur : Array Value) (l : List UInt8) (w : World) (hbk : w.heap[b]? = some (.cells #[p, .slice (some ⟨g, 0, none⟩) l.length cap] 52 (0, 0)))
    (hg : w.heap[g]? = some (.cells cur 5 (0, 0))) (hle : l.length ≤ cap) (hcap : cap ≤ 9223372036854775807) (hcs : cur.size = cap) (ht : cur.toList.take l.length = Lib.byteCells l) (h0 : l ≠ []) :
    Calls Tryd.prog 24 #[.pointer (some ⟨b, 0, none⟩)] w fun e w' => e = .returned (.string ⟨l.toArray⟩) ∧ Stays w w' (fun k => k ≠ g) := by
  have hl0 : l.length ≠ 0 := by simpa using h0
  have c1 : w.drew.cell? ⟨b, 1, none⟩ = some (.slice (some ⟨g, 0, none⟩) l.length cap) := by
    have : w.drew.heap[b]? = some (.cells #[p, .slice (some ⟨g, 0, none⟩) l.length cap] 52 (0, 0)) := hbk
    rw [Lib.cell_of_heap this]; rfl
  have hSD : (Builtin.unsafeSliceData_ #[50] 83 #[.slice (some ⟨g, 0, none⟩) l.length cap]).run Tryd.prog w.drew = .ok (.pointer (some ⟨g, 0, none⟩)) w.drew :=
    Lib.run_unsafeSliceData_row _ _ _ _ _ _ (by omega)
  have hUS : (Builtin.unsafeString_ #[83, 3] 9 #[.pointer (some ⟨g, 0, none⟩), .int .i64 l.length]).run Tryd.prog w.drew = .ok (.string ⟨l.toArray⟩) (w.drew.freeze ⟨g, 0, none⟩ l.length) := by
    refine Lib.run_unsafeString_row w.drew _ _ _ 5 Tryd.underlying83 (by kernel_rfl) g cur.size (by have hg' : w.drew.heap[g]? = some (.cells cur 5 (0, 0)) := hg; simp [World.shape?, hg']) l h0 (by omega) (by omega) ?_
    intro j x hx
    have hj := (List.getElem?_eq_some_iff.1 hx).1
    have e : (cur.toList.take l.length)[j]? = some (.int .u8 x.toNat) := by rw [ht]; simp [Lib.byteCells, hx]
    rw [List.getElem?_take, if_pos hj] at e
    have hg' : w.drew.heap[g]? = some (.cells cur 5 (0, 0)) := hg
    rw [Addr.add_lit, Nat.zero_add]
    simp only [World.cell?, hg']
    simpa using e
  go_enter Tryd.func24, Tryd.ntmps24
  go_wp2
  go_region
  all_goals (go_wp2; go_ret; exact ⟨rfl, frz_stays w g l.length⟩)

set_option maxHeartbeats 4000000 in
set_option maxRecDepth 100000 in
theorem bld_string_nil (b : Nat) (p : Value) (w : World) (hbk : w.heap[b]? = some (.cells #[p, .slice none 0 0] 52 (0, 0))) :
    Calls Tryd.prog 24 #[.pointer (some ⟨b, 0, none⟩)] w fun e w' => e = .returned (.string ⟨#[]⟩) ∧ Stays w w' (fun _ => True) := by
  have hUS : ∀ W : World, (Builtin.unsafeString_ #[83, 3] 9 #[.pointer none, .int .i64 0]).run Tryd.prog W = .ok (.string .empty) W := fun W => Lib.run_unsafeString_none W _ _ _ _
  have c1 : w.drew.cell? ⟨b, 1, none⟩ = some (.slice none 0 0) := by
    have : w.drew.heap[b]? = some (.cells #[p, .slice none 0 0] 52 (0, 0)) := hbk
    rw [Lib.cell_of_heap this]; rfl
  have hSD : (Builtin.unsafeSliceData_ #[50] 83 #[.slice none 0 0]).run Tryd.prog w.drew = .ok (.pointer none) w.drew := rfl
  go_enter Tryd.func24, Tryd.ntmps24
  go_wp2
  go_region
  all_goals (go_wp2; go_ret; exact ⟨rfl, rfl, rfl, rfl, Nat.le_refl _, fun _ _ _ => rfl⟩)

def F.eU (b : UInt8) : M.Row := [.v (.int .u8 b.toNat)]

/-- The bytes of a string, as rows. -/
def F.eUs (s : ByteArray) : List M.Row := s.data.toList.map F.eU

/-- What a builder holds (none: it is fresh). -/
def F.bldS (o : Option ByteArray) : ByteArray := match o with
  | none => ⟨⟨[]⟩⟩
  | some s => s

def F.bldLen (o : Option ByteArray) : Nat := match o with
  | none => 0
  | some s => s.size

theorem F.bldS_some (s : ByteArray) : F.bldS (some s) = s := rfl

theorem F.bldLen_some (s : ByteArray) : F.bldLen (some s) = s.size := rfl

/-- What WriteString asks. -/
def F.wstB (o : Option ByteArray) (x : ByteArray) : Bool := decide (F.bldLen o + x.size ≤ 140737488355328)

/-- What String asks. -/
def F.bstB (o : Option ByteArray) : Bool := o.isNone || decide (0 < (F.bldS o).size)

theorem F.wstB_none {x : ByteArray} (h : x.size ≤ 140737488355328) : F.wstB none x = true := decide_eq_true (by show 0 + x.size ≤ _; omega)

theorem F.wstB_some {s x : ByteArray} (h : s.size + x.size ≤ 140737488355328) : F.wstB (some s) x = true := decide_eq_true h

theorem F.bstB_some {s : ByteArray} (h : 0 < s.size) : F.bstB (some s) = true := by
  have : decide (0 < s.size) = true := decide_eq_true h
  exact this


end Go.Proofs.YtgkjfochkhiojaaDoor

namespace Go.Proofs.YtgkjfochkhiojaaDoor
open Go Go.RowKit
set_option linter.unusedVariables false
set_option linter.unusedSimpArgs false

namespace M


theorem eU_inj (a b : UInt8) (h : F.eU a = F.eU b) : a = b := by
  simp only [F.eU, List.cons.injEq, AV.v.injEq, Value.int.injEq, true_and, and_true] at h
  exact UInt8.toNat_inj.1 (by omega)

theorem eUs_inj {a b : ByteArray} : F.eUs a = F.eUs b ↔ a = b := by
  unfold F.eUs
  rw [List.map_inj_right eU_inj]
  exact ⟨fun h => ByteArray.ext (Array.ext' h), fun h => by rw [h]⟩

theorem eUs_len (s : ByteArray) : (F.eUs s).length = s.size := by
  unfold F.eUs
  rw [List.length_map]
  simp

theorem strCells_app (s x : ByteArray) : Lib.strCells (s ++ x) = Lib.strCells s ++ Lib.strCells x := by
  unfold Lib.strCells
  simp

/-- The memory of a builder that comes in: fresh, or one that holds bytes. -/
def bldIn (o : Option ByteArray) : Heap := match o with
  | none => [(900, ⟨true, 52, 0, [[.v (.pointer none), .v (.slice none 0 0)]]⟩)]
  | some s => [(901, ⟨false, 5, 1, F.eUs s⟩), (900, ⟨true, 52, 0, [[.ptr 900 0 0, .own 901]]⟩)]

def bldOut (o : Option ByteArray) (x : ByteArray) : Heap := match o with
  | none => [(900, ⟨true, 52, 0, [[.ptr 900 0 0, .own 0]]⟩), (0, ⟨false, 5, 1, F.eUs x⟩)]
  | some s => [(901, ⟨false, 5, 1, F.eUs (s ++ x)⟩), (900, ⟨true, 52, 0, [[.ptr 900 0 0, .own 901]]⟩)]

def bldB (X Y : BI) (kY : Nat) : Nat → Option BI := fun k => if k = 900 then some X else if k = kY then some Y else none

theorem bldB_x (X Y : BI) (kY : Nat) : bldB X Y kY 900 = some X := by unfold bldB; rw [if_pos rfl]

theorem bldB_y (X Y : BI) {kY : Nat} (h : kY ≠ 900) : bldB X Y kY kY = some Y := by unfold bldB; rw [if_neg h, if_pos rfl]

theorem bldB_some {X Y : BI} {kY k : Nat} {x : BI} (h : bldB X Y kY k = some x) : (k = 900 ∧ x = X) ∨ (k = kY ∧ k ≠ 900 ∧ x = Y) := by
  unfold bldB at h
  split at h
  · cases h; exact .inl ⟨‹_›, rfl⟩
  · split at h
    · cases h; exact .inr ⟨‹_›, ‹_›, rfl⟩
    · cases h

theorem arr2 {cs : Array Value} {a b : Value} (h : cs.size = 2) (h0 : cs[0]? = some a) (h1 : cs[1]? = some b) : cs = #[a, b] := by
  refine Array.ext (by simpa using h) fun i hi hj => ?_
  have hi2 : i = 0 ∨ i = 1 := by omega
  rcases hi2 with rfl | rfl
  · have := (Array.getElem?_eq_some_iff.1 h0).2
    simpa using this
  · have := (Array.getElem?_eq_some_iff.1 h1).2
    simpa using this

/-- What a builder's call leaves of the world. -/
theorem bld_inv {G : Nat → Option GR} {w w' : World} {S : Nat → Prop} {β : Nat → Option BI} {hin hout : Heap} (inv : InvG G (ownFree w β) w S β hin) {X Y : BI} {kY : Nat} (hk : kY ≠ 900) (hX : β 900 = some X) (hXr : X.real = true)
    {P : Nat → Prop} (st : Stays w w' P) (hP : ∀ b, b < w.heap.size → (∀ k x, β k = some x → x.real = true → x.b ≠ b) → P b)
    (hY : Y.real = true → Y.b < w'.heap.size ∧ Y.b ≠ X.b ∧ ((∃ k y, β k = some y ∧ y.real = true ∧ y.b = Y.b) ∨ w.heap.size ≤ Y.b))
    {bX bY : Blk} (hbX : BlkOK w' S (bldB X Y kY) bX X) (hbY : Y.real = true → BlkOK w' S (bldB X Y kY) bY Y) (hbV : Y.real = false → bY.rows = [] ∧ bY.box = false)
    (h900 : mget hout 900 = some bX) (hkY : mget hout kY = some bY) (honly : ∀ k bl, mget hout k = some bl → k = 900 ∨ k = kY) (hxV : X.real = false → bX.rows = [] ∧ bX.box = false) :
    Blw (ownFree w β) w w' ∧ InvG G (ownFree w β) w' S (bldB X Y kY) hout := by
  obtain ⟨x1, x2, x3⟩ := inv.new 900 X hX hXr
  have hSb : ∀ b, S b → w'.heap[b]? = w.heap[b]? := fun b hb => st.block b (inv.lt b hb) (hP b (inv.lt b hb) fun k x hkx hxr e => (inv.new k x hkx hxr).2.2 (e ▸ hb))
  have hBb : ∀ b, ownFree w β b → w'.heap[b]? = w.heap[b]? := fun b hb => st.block b hb.1 (hP b hb.1 fun k x hkx hxr e => hb.2 ⟨k, x, hkx, hxr, e⟩)
  have hYn : Y.real = true → ¬ ownFree w β Y.b ∧ Y.b < w'.heap.size ∧ ¬ S Y.b := fun hr => by
    obtain ⟨y1, y2, y3⟩ := hY hr
    rcases y3 with ⟨k, y, k1, k2, k3⟩ | hge
    · obtain ⟨n1, n2, n3⟩ := inv.new k y k1 k2
      rw [← k3]
      exact ⟨n1, by rw [k3]; exact y1, n3⟩
    · exact ⟨fun h => by have := h.1; omega, y1, fun h => by have := inv.lt _ h; omega⟩
  refine ⟨⟨st.os, st.tape, st.output, st.size, hBb⟩, fun b hb => Nat.lt_of_lt_of_le (inv.base b hb) st.size, fun b hb => Nat.lt_of_lt_of_le (inv.lt b hb) st.size, ?_, ?_, ?_, ?_, fun g r hg => (inv.glob g r hg).mono hSb fun _ h => h⟩
  · intro k k' x x' h1 h2 r1 r2 e
    rcases bldB_some h1 with ⟨rfl, rfl⟩ | ⟨rfl, _, rfl⟩ <;> rcases bldB_some h2 with ⟨rfl, rfl⟩ | ⟨rfl, _, rfl⟩
    · rfl
    · exact absurd e.symm (hY r2).2.1
    · exact absurd e (hY r1).2.1
    · rfl
  · intro k x h1 r1
    rcases bldB_some h1 with ⟨rfl, rfl⟩ | ⟨rfl, _, rfl⟩
    · exact ⟨x1, Nat.lt_of_lt_of_le x2 st.size, x3⟩
    · exact hYn r1
  · intro k x h1
    rcases bldB_some h1 with ⟨rfl, rfl⟩ | ⟨rfl, _, rfl⟩
    · exact ⟨bX, h900, fun _ => hbX, hxV⟩
    · exact ⟨bY, hkY, hbY, hbV⟩
  · intro k bl h1
    rcases honly k bl h1 with rfl | rfl
    · exact ⟨X, bldB_x _ _ _⟩
    · exact ⟨Y, bldB_y _ _ hk⟩

/-- A buffer reads as plain data. -/
theorem buf_blk {w : World} {v : Value} {own : Option Nat} {s : ByteArray} (h : BufAt w v own (Lib.strCells s)) :
    ∃ Y : BI, (Y.real = true → own = some Y.b ∧ v = .slice (some ⟨Y.b, 0, none⟩) Y.len Y.cap ∧ Y.b < w.heap.size ∧ ∀ S β, BlkOK w S β ⟨false, 5, 1, F.eUs s⟩ Y) ∧ (Y.real = false → F.eUs s = [] ∧ own = none ∧ ∃ A, v = .slice A 0 0) := by
  have hl := strCells_len s
  rcases h with ⟨A, rfl, h1, rfl⟩ | ⟨g, cap, cur, rfl, rfl, hg, hnc, hcm, hcs, ht⟩
  · refine ⟨⟨false, 0, 0, 0, 0⟩, fun h => (by cases h), fun _ => ⟨?_, rfl, A, rfl⟩⟩
    refine List.eq_nil_of_length_eq_zero ?_
    rw [eUs_len, ← hl, h1]; rfl
  · refine ⟨⟨true, g, s.size, cap, 1⟩, fun _ => ⟨rfl, by rw [hl], (Array.getElem?_eq_some_iff.1 hg).1, fun S β => ?_⟩, fun h => (by cases h)⟩
    refine ⟨cur, 5, hg, by simp only [Nat.mul_one]; exact hcs, eUs_len s, by simp only; omega, hcm, fun _ => ⟨rfl, rfl⟩, (fun h => by cases h), fun i row hi => ?_⟩
    simp only [F.eUs, List.getElem?_map, Option.map_eq_some_iff] at hi
    obtain ⟨b, hb, rfl⟩ := hi
    refine ⟨rfl, fun j a hj => ?_⟩
    have hj0 : j = 0 := by
      have := (List.getElem?_eq_some_iff.1 hj).1
      simp only [F.eU, List.length_singleton] at this; omega
    subst hj0
    simp only [F.eU, List.getElem?_cons_zero, Option.some.injEq] at hj
    subst hj
    have hi2 : (Lib.strCells s)[i]? = some (.int .u8 b.toNat) := by
      unfold Lib.strCells
      rw [List.getElem?_map, hb]; rfl
    have hil := (List.getElem?_eq_some_iff.1 hi2).1
    rw [← ht, List.getElem?_take, if_pos hil] at hi2
    refine ⟨.int .u8 b.toNat, by simpa using hi2, ?_⟩
    have hlt := b.toNat_lt
    have hok : okAtom (.int .u8 b.toNat) := by
      show IntKind.u8.min ≤ _ ∧ _ ≤ IntKind.u8.max
      simp only [IntKind.min, IntKind.max, IntKind.signed, IntKind.bits]
      simp
      omega
    simpa using R0.v (w := w) (S := S) hok

theorem blk_buf {w : World} {S : Nat → Prop} {β : Nat → Option BI} {s : ByteArray} {Z : BI} (h : BlkOK w S β ⟨false, 5, 1, F.eUs s⟩ Z) : BufAt w (.slice (some ⟨Z.b, 0, none⟩) Z.len Z.cap) (some Z.b) (Lib.strCells s) := by
  obtain ⟨cs, ty, c1, c2, c3, c4, c5, c6, c7, c8⟩ := h
  obtain ⟨c61, c62⟩ := c6 rfl
  have hl := strCells_len s
  simp only at c61 c62 c3
  rw [eUs_len] at c3
  rw [c61] at c1
  refine .inr ⟨Z.b, Z.cap, cs, rfl, by rw [hl, c3], c1, by omega, c5, by rw [c2, c62]; simp, ?_⟩
  refine List.ext_getElem? fun i => ?_
  rw [List.getElem?_take]
  split
  · rename_i hi
    have hi2 : i < s.data.toList.length := by rw [hl] at hi; simpa using hi
    have hb : s.data.toList[i]? = some s.data.toList[i] := List.getElem?_eq_getElem hi2
    generalize s.data.toList[i] = b at hb
    obtain ⟨_, c9⟩ := c8 i (F.eU b) (by simp only [F.eUs, List.getElem?_map, hb]; rfl)
    obtain ⟨v, hv, hr⟩ := c9 0 (vU b.toNat) rfl
    rw [c62] at hv
    have hr : R0 w S (vU b.toNat) v := by simpa using hr
    cases hr
    unfold Lib.strCells
    rw [List.getElem?_map, hb]
    simpa using hv
  · rename_i hi
    rw [List.getElem?_eq_none (by omega)]

/-- The builder's own cells. -/
theorem box_blk {w : World} {S : Nat → Prop} {X Y : BI} {kY : Nat} (hk : kY ≠ 900) {v : Value} (hXr : X.real = true) (h : w.heap[X.b]? = some (.cells #[.pointer (some ⟨X.b, 0, none⟩), v] 52 (0, 0))) (hXs : X.size = 2) (hXl : X.len = 1) (hXc : X.cap = 1)
    (hv1 : Y.real = true → v = .slice (some ⟨Y.b, 0, none⟩) Y.len Y.cap) (hv2 : Y.real = false → ∃ A, v = .slice A 0 0) : BlkOK w S (bldB X Y kY) ⟨true, 52, 0, [[.ptr 900 0 0, .own kY]]⟩ X := by
  refine ⟨_, _, h, by rw [hXs, hXc]; rfl, hXl.symm, by omega, by omega, (fun h => by cases h), fun _ => ⟨fun _ => hXc, fun h => absurd rfl h, .inr rfl⟩, fun i row hi => ?_⟩
  have hi0 : i = 0 := by
    have := (List.getElem?_eq_some_iff.1 hi).1
    simp at this; exact this
  subst hi0
  cases hi
  refine ⟨hXs.symm, fun j a hj => ?_⟩
  have hj2 : j < 2 := (List.getElem?_eq_some_iff.1 hj).1
  have hj3 : j = 0 ∨ j = 1 := by omega
  rcases hj3 with rfl | rfl
  · cases hj
    exact ⟨.pointer (some ⟨X.b, 0, none⟩), by rw [Nat.zero_mul]; rfl, X, bldB_x _ _ _, hXr, by simp⟩
  · cases hj
    exact ⟨v, by rw [Nat.zero_mul]; rfl, Y, bldB_y _ _ hk, hv1, hv2⟩

/-- A builder that comes in. -/
theorem bld_open {G : Nat → Option GR} {w : World} {S : Nat → Prop} {β : Nat → Option BI} {o : Option ByteArray} {u : Value} (inv : InvG G (ownFree w β) w S β (bldIn o)) (h : RV w S β (.ptr 900 0 0) u) :
    ∃ X p v own xs, β 900 = some X ∧ X.real = true ∧ X.size = 2 ∧ X.len = 1 ∧ X.cap = 1 ∧ u = .pointer (some ⟨X.b, 0, none⟩) ∧ (p = .pointer none ∨ p = .pointer (some ⟨X.b, 0, none⟩)) ∧ w.heap[X.b]? = some (.cells #[p, v] 52 (0, 0)) ∧
      BufAt w v own xs ∧ own ≠ some X.b ∧ (match o with | none => xs = [] ∧ own = none | some s => xs = Lib.strCells s) ∧ (∀ g, own = some g → ∃ k y, β k = some y ∧ y.real = true ∧ y.b = g) ∧ X.b < w.heap.size := by
  obtain ⟨X, hX, hXr, rfl⟩ : ∃ x, β 900 = some x ∧ x.real = true ∧ u = .pointer (some ⟨x.b, 0 * x.size + 0, none⟩) := h
  obtain ⟨bl, hb, h3, _⟩ := inv.dom 900 X hX
  obtain ⟨cs, ty, c1, c2, c3, c4, c5, c6, c7, c8⟩ := h3 hXr
  have hT : (52 : Nat) ≠ 0 := by decide
  cases o with
  | none =>
    have hb0 : some (⟨true, 52, 0, [[.v (.pointer none), .v (.slice none 0 0)]]⟩ : Blk) = some bl := hb
    cases hb0
    obtain ⟨d1, _, d2⟩ := c7 rfl
    have d1 := d1 rfl
    have d2 : ty = 52 := d2.resolve_left hT
    obtain ⟨e1, e2⟩ := c8 0 _ rfl
    have e1 : X.size = 2 := e1.symm
    obtain ⟨v0, f0, g0⟩ := e2 0 _ rfl
    obtain ⟨v1, f1, g1⟩ := e2 1 _ rfl
    have g0 : R0 w S (.v (.pointer none)) v0 := g0
    cases g0
    have g1 : R0 w S (.v (.slice none 0 0)) v1 := g1
    cases g1
    rw [Nat.zero_mul] at f0 f1
    have hcs := arr2 (by rw [c2, d1, e1]) f0 f1
    rw [hcs, d2] at c1
    exact ⟨X, _, _, none, [], hX, hXr, e1, c3.symm, d1, by simp, .inl rfl, c1, .inl ⟨none, rfl, rfl, rfl⟩, (by simp), ⟨rfl, rfl⟩, (fun g h => by cases h), (inv.new 900 X hX hXr).2.1⟩
  | some s =>
    have hb0 : some (⟨true, 52, 0, [[.ptr 900 0 0, .own 901]]⟩ : Blk) = some bl := hb
    cases hb0
    obtain ⟨d1, _, d2⟩ := c7 rfl
    have d1 := d1 rfl
    have d2 : ty = 52 := d2.resolve_left hT
    obtain ⟨e1, e2⟩ := c8 0 _ rfl
    have e1 : X.size = 2 := e1.symm
    obtain ⟨v0, f0, g0⟩ := e2 0 _ rfl
    obtain ⟨v1, f1, g1⟩ := e2 1 _ rfl
    obtain ⟨X', hX', _, rfl⟩ : ∃ x, β 900 = some x ∧ x.real = true ∧ v0 = .pointer (some ⟨x.b, 0 * x.size + 0, none⟩) := g0
    rw [hX] at hX'
    cases hX'
    obtain ⟨Z, hZ, z1, z2⟩ : ∃ x, β 901 = some x ∧ (x.real = true → v1 = .slice (some ⟨x.b, 0, none⟩) x.len x.cap) ∧ (x.real = false → ∃ A, v1 = .slice A 0 0) := g1
    rw [Nat.zero_mul] at f0 f1
    have hcs := arr2 (by rw [c2, d1, e1]) f0 f1
    rw [hcs, d2] at c1
    obtain ⟨bl2, hb2, h4, h5⟩ := inv.dom 901 Z hZ
    have hb3 : some (⟨false, 5, 1, F.eUs s⟩ : Blk) = some bl2 := hb2
    cases hb3
    cases hr : Z.real
    · obtain ⟨A, rfl⟩ := z2 hr
      have h6 : F.eUs s = [] := (h5 hr).1
      have h7 : Lib.strCells s = [] := List.eq_nil_of_length_eq_zero (by rw [strCells_len, ← eUs_len, h6]; rfl)
      exact ⟨X, _, _, none, _, hX, hXr, e1, c3.symm, d1, by simp, .inr (by simp), c1, .inl ⟨A, rfl, h7, rfl⟩, (by simp), rfl, (fun g h => by cases h), (inv.new 900 X hX hXr).2.1⟩
    · have hne : Z.b ≠ X.b := fun e => by
        have := inv.inj 901 900 Z X hZ hX hr hXr e
        omega
      rw [z1 hr] at c1
      exact ⟨X, _, _, some Z.b, _, hX, hXr, e1, c3.symm, d1, by simp, .inr (by simp), c1, blk_buf (h4 hr), (by simpa using hne), rfl, (fun g h => ⟨901, Z, hZ, hr, by cases h; rfl⟩), (inv.new 900 X hX hXr).2.1⟩

def encWst (a : Option ByteArray × ByteArray) : List AV × Heap := ([.ptr 900 0 0, vS a.2], bldIn a.1)

theorem encWst_inj (a a' : Option ByteArray × ByteArray) (h : encWst a = encWst a') : a = a' := by
  obtain ⟨o, x⟩ := a
  obtain ⟨o', x'⟩ := a'
  unfold encWst at h
  simp only [Prod.mk.injEq, List.cons.injEq, AV.v.injEq, Value.string.injEq, true_and, and_true] at h
  obtain ⟨rfl, h⟩ := h
  cases o with
  | none => cases o' with
    | none => rfl
    | some s => simp [bldIn] at h
  | some s => cases o' with
    | none => simp [bldIn] at h
    | some s' =>
      simp only [bldIn, List.cons.injEq, Prod.mk.injEq, Blk.mk.injEq, true_and, and_true] at h
      rw [eUs_inj.1 h]

theorem unWst (x : ByteArray) : unenc encWst (([.ptr 900 0 0, (vS x)], [(900, Blk.mk true 52 0 [[AV.v (Value.pointer none), AV.v (Value.slice none (0 : Nat) (0 : Nat))]])])) = some (none, x) := unenc_of encWst_inj (none, x) rfl

theorem unWstU (s : ByteArray) (x : ByteArray) : unenc encWst (([.ptr 900 0 0, (vS x)], [(901, Blk.mk false 5 1 (F.eUs s)), (900, Blk.mk true 52 0 [[.ptr 900 0 0, .own 901]])])) = some (some s, x) := unenc_of encWst_inj (some s, x) rfl

def preWst1 (o : Option ByteArray) (x : ByteArray) : Bool := F.wstB o x

def resWst (a : Option ByteArray × ByteArray) : T (AV × Heap × List Nat) := .ifB a.1.isNone
  (.ret (.tup [vI a.2.size, .v .nilIface], [(900, ⟨true, 52, 0, [[.ptr 900 0 0, .own 0]]⟩), (0, ⟨false, 5, 1, F.eUs a.2⟩)], []))
  (.ret (.tup [vI a.2.size, .v .nilIface], [(901, ⟨false, 5, 1, F.eUs (F.bldS a.1 ++ a.2)⟩), (900, ⟨true, 52, 0, [[.ptr 900 0 0, .own 901]]⟩)], [901]))

noncomputable def oWst : OrcH := orcT 18 encWst (fun a => preWst1 a.1 a.2) resWst

theorem okWst : OrcHOK Tryd.prog noG oWst := by
  refine orcT_ok ⟨Tryd.f18, by kernel_rfl, by kernel_rfl, by kernel_rfl⟩ (fun a r hp hk1 hk2 hr => ?_)
  obtain ⟨o, x⟩ := a
  have hp : decide (F.bldLen o + x.size ≤ 140737488355328) = true := hp
  have hp : F.bldLen o + x.size ≤ 140737488355328 := of_decide_eq_true hp
  have hx : x.size ≤ 9223372036854775807 := okA_v (hk1 (vS x) (by simp [encWst]))
  intro w S β cargs inv hargs
  match cargs, hargs with
  | [u, vx], ⟨h1, h2, _⟩ =>
    have hvx : vx = .string x := (rv_v h2).1
    subst hvx
    obtain ⟨X, p, v, own, xs, hX, hXr, hXs, hXl, hXc, rfl, hp2, hbk, hbuf, hne, ho, hown, hlt⟩ := bld_open (o := o) inv h1
    have hlen : xs.length + x.size ≤ 140737488355328 := by
      cases o with
      | none => rw [ho.1]; simpa [F.bldLen] using hp
      | some s => rw [show xs = Lib.strCells s from ho, strCells_len]; exact hp
    refine (bld_write X.b p v own xs x hp2 w hbk hbuf hne hlen).mono ?_
    rintro e w' ⟨rfl, v', own', k1, k2, k3, k4, k5⟩
    have hP : ∀ b, b < w.heap.size → (∀ k x, β k = some x → x.real = true → x.b ≠ b) → b ≠ X.b ∧ own ≠ some b := fun b _ hb => ⟨fun e => hb 900 X hX hXr e.symm, fun e => by
      obtain ⟨k, y, y1, y2, y3⟩ := hown b e
      exact hb k y y1 y2 y3⟩
    have ret : RV w' S (fun _ => none) (.tup [vI x.size, .v .nilIface]) (.tuple #[.int .i64 x.size, .nilIface]) := by
      refine ⟨[.int .i64 x.size, .nilIface], rfl, ?_, ?_, trivial⟩
      · have hok : okAtom (.int .i64 (x.size : Int)) := by
          show IntKind.i64.min ≤ _ ∧ _ ≤ IntKind.i64.max
          simp only [IntKind.min, IntKind.max, IntKind.signed, IntKind.bits]
          simp
          omega
        exact R0.v (w := w') (S := S) hok
      · exact R0.v (w := w') (S := S) (x := .nilIface) trivial
    cases o with
    | none =>
      have hr : (.tup [vI x.size, .v .nilIface], [(900, ⟨true, 52, 0, [[.ptr 900 0 0, .own 0]]⟩), (0, ⟨false, 5, 1, F.eUs x⟩)], []) = r := Option.some.inj hr
      subst hr
      rw [ho.1, List.nil_append] at k2
      obtain ⟨Y, y1, y2⟩ := buf_blk k2
      obtain ⟨f1, f2⟩ := bld_inv inv (kY := 0) (by omega) hX hXr k5 hP (Y := Y) (fun hr => by
          obtain ⟨z1, z2, z3, z4⟩ := y1 hr
          refine ⟨z3, fun e => k3 (by rw [z1, e]), ?_⟩
          rcases k4 _ z1 with h | h
          · exact .inl (hown _ h)
          · exact .inr h)
        (box_blk (by omega) hXr k1 hXs hXl hXc (fun hr => (y1 hr).2.1) (fun hr => (y2 hr).2.2)) (fun hr => (y1 hr).2.2.2 _ _) (fun hr => ⟨(y2 hr).1, rfl⟩)
        (hout := [(900, ⟨true, 52, 0, [[.ptr 900 0 0, .own 0]]⟩), (0, ⟨false, 5, 1, F.eUs x⟩)]) rfl rfl (fun k bl hk => by
          simp only [mget] at hk
          split at hk
          · rename_i h; exact .inl (beq_true.1 h)
          · split at hk
            · rename_i h; exact .inr (beq_true.1 h)
            · cases hk) (fun h => by rw [hXr] at h; cases h)
      refine ⟨_, S, _, rfl, f1, fun _ h => h, fun _ h => .inl h, f2, fun k y hk _ hy => ?_, ret.mono (fun _ _ => rfl) (fun _ h => h) fun k _ x hx => (by cases hx)⟩
      rcases bldB_some hy with ⟨rfl, rfl⟩ | ⟨rfl, _, rfl⟩
      · exact hX
      · exact absurd hk (by simp [inK])
    | some s =>
      have hr : (.tup [vI x.size, .v .nilIface], [(901, ⟨false, 5, 1, F.eUs (s ++ x)⟩), (900, ⟨true, 52, 0, [[.ptr 900 0 0, .own 901]]⟩)], [901]) = r := Option.some.inj hr
      subst hr
      rw [show xs = Lib.strCells s from ho, ← strCells_app] at k2
      obtain ⟨Y, y1, y2⟩ := buf_blk k2
      obtain ⟨f1, f2⟩ := bld_inv inv (kY := 901) (by omega) hX hXr k5 hP (Y := Y) (fun hr => by
          obtain ⟨z1, z2, z3, z4⟩ := y1 hr
          refine ⟨z3, fun e => k3 (by rw [z1, e]), ?_⟩
          rcases k4 _ z1 with h | h
          · exact .inl (hown _ h)
          · exact .inr h)
        (box_blk (by omega) hXr k1 hXs hXl hXc (fun hr => (y1 hr).2.1) (fun hr => (y2 hr).2.2)) (fun hr => (y1 hr).2.2.2 _ _) (fun hr => ⟨(y2 hr).1, rfl⟩)
        (hout := [(901, ⟨false, 5, 1, F.eUs (s ++ x)⟩), (900, ⟨true, 52, 0, [[.ptr 900 0 0, .own 901]]⟩)]) rfl rfl (fun k bl hk => by
          simp only [mget] at hk
          split at hk
          · rename_i h; exact .inr (beq_true.1 h)
          · split at hk
            · rename_i h; exact .inl (beq_true.1 h)
            · cases hk) (fun h => by rw [hXr] at h; cases h)
      refine ⟨_, S, _, rfl, f1, fun _ h => h, fun _ h => .inl h, f2, fun k y hk hm hy => ?_, ret.mono (fun _ _ => rfl) (fun _ h => h) fun k _ x hx => (by cases hx)⟩
      rcases bldB_some hy with ⟨rfl, rfl⟩ | ⟨rfl, _, rfl⟩
      · exact hX
      · exact absurd (List.mem_singleton.2 rfl) hm

theorem okBstU (s : ByteArray) (hp : decide (0 < s.size) = true) : SpecH Tryd.prog noG 24 [.ptr 900 0 0] [(901, ⟨false, 5, 1, F.eUs s⟩), (900, ⟨true, 52, 0, [[.ptr 900 0 0, .own 901]]⟩)] (vS s) [(901, ⟨false, 5, 1, []⟩), (900, ⟨true, 52, 0, [[.ptr 900 0 0, .unk]]⟩)] [901] := by
  have hp : 0 < s.size := of_decide_eq_true hp
  intro w S β cargs inv hargs
  match cargs, hargs with
  | [u], ⟨h1, _⟩ =>
    obtain ⟨X, p, v, own, xs, hX, hXr, hXs, hXl, hXc, rfl, hp2, hbk, hbuf, hne, ho, hown, hlt⟩ := bld_open (o := some s) inv h1
    have ho : xs = Lib.strCells s := ho
    subst ho
    rcases hbuf with ⟨A, _, h, _⟩ | ⟨g, cap, cur, rfl, rfl, hg, hnc, hcm, hcs, ht⟩
    · have := strCells_len s
      rw [h] at this
      simp at this; omega
    have hl : (Lib.strCells s).length = s.data.toList.length := by rw [strCells_len]; simp
    rw [hl] at hbk hnc ht
    have hgX : g ≠ X.b := fun e => hne (by rw [e])
    refine (bld_string X.b g cap p cur s.data.toList w hbk hg hnc hcm hcs ht (fun e => by
      have : s.data.toList.length = s.size := by simp
      rw [e] at this; simp at this; omega)).mono ?_
    rintro e w' ⟨rfl, st⟩
    have hsz : s.size ≤ 9223372036854775807 := by
      have : s.data.toList.length = s.size := by simp
      omega
    have hb2 : w'.heap[X.b]? = some (.cells #[p, .slice (some ⟨g, 0, none⟩) s.data.toList.length cap] 52 (0, 0)) := by
      rw [st.block X.b hlt (fun e => hgX e.symm)]; exact hbk
    have hpp : p = .pointer (some ⟨X.b, 0, none⟩) ∨ p = .pointer none := hp2.symm
    have hpX : p = .pointer (some ⟨X.b, 0, none⟩) := by
      obtain ⟨bl, hb, h3, _⟩ := inv.dom 900 X hX
      have hb0 : some (⟨true, 52, 0, [[.ptr 900 0 0, .own 901]]⟩ : Blk) = some bl := hb
      cases hb0
      obtain ⟨cs, ty, c1, c2, c3, c4, c5, c6, c7, c8⟩ := h3 hXr
      obtain ⟨e1, e2⟩ := c8 0 _ rfl
      obtain ⟨v0, f0, g0⟩ := e2 0 _ rfl
      obtain ⟨X', hX', _, rfl⟩ : ∃ x, β 900 = some x ∧ x.real = true ∧ v0 = .pointer (some ⟨x.b, 0 * x.size + 0, none⟩) := g0
      rw [hX] at hX'
      cases hX'
      rw [hbk] at c1
      cases c1
      rw [Nat.zero_mul] at f0
      exact (Option.some.inj f0)
    have hbX : BlkOK w' S (bldB X ⟨false, 0, 0, 0, 0⟩ 901) ⟨true, 52, 0, [[.ptr 900 0 0, .unk]]⟩ X := by
      refine ⟨_, _, hb2, by rw [hXs, hXc]; rfl, hXl.symm, by omega, by omega, (fun h => by cases h), fun _ => ⟨fun _ => hXc, fun h => absurd rfl h, .inr rfl⟩, fun i row hi => ?_⟩
      have hi0 : i = 0 := by
        have := (List.getElem?_eq_some_iff.1 hi).1
        simp at this; exact this
      subst hi0
      cases hi
      refine ⟨hXs.symm, fun j a hj => ?_⟩
      have hj2 : j < 2 := (List.getElem?_eq_some_iff.1 hj).1
      have hj3 : j = 0 ∨ j = 1 := by omega
      rcases hj3 with rfl | rfl
      · cases hj
        exact ⟨p, by rw [Nat.zero_mul]; rfl, X, bldB_x _ _ _, hXr, by simp [hpX]⟩
      · cases hj
        exact ⟨.slice (some ⟨g, 0, none⟩) s.data.toList.length cap, by rw [Nat.zero_mul]; rfl, R0.unk (w := w') (S := S) rfl⟩
    obtain ⟨f1, f2⟩ := bld_inv inv (kY := 901) (by omega) hX hXr st (fun b _ hb => fun e => by
        obtain ⟨k, y, y1, y2, y3⟩ := hown g rfl
        exact hb k y y1 y2 (by rw [y3, e])) (Y := ⟨false, 0, 0, 0, 0⟩) (fun h => by cases h) hbX (fun h => by cases h) (bY := ⟨false, 5, 1, []⟩) (fun _ => ⟨rfl, rfl⟩)
        (hout := [(901, ⟨false, 5, 1, []⟩), (900, ⟨true, 52, 0, [[.ptr 900 0 0, .unk]]⟩)]) rfl rfl (fun k bl hk => by
          simp only [mget] at hk
          split at hk
          · rename_i h; exact .inr (beq_true.1 h)
          · split at hk
            · rename_i h; exact .inl (beq_true.1 h)
            · cases hk) (fun h => by rw [hXr] at h; cases h)
    refine ⟨_, S, _, rfl, f1, fun _ h => h, fun _ h => .inl h, f2, fun k y hk hm hy => ?_, rv_mk (show okAtom (.string s) from hsz)⟩
    rcases bldB_some hy with ⟨rfl, rfl⟩ | ⟨rfl, _, rfl⟩
    · exact hX
    · exact absurd (List.mem_singleton.2 rfl) hm

def encBst (o : Option ByteArray) : List AV × Heap := ([.ptr 900 0 0], bldIn o)

theorem encBst_inj (a a' : Option ByteArray) (h : encBst a = encBst a') : a = a' := by
  have := encWst_inj (a, ⟨⟨[]⟩⟩) (a', ⟨⟨[]⟩⟩) (by
    unfold encBst at h
    unfold encWst
    simp only [Prod.mk.injEq, true_and] at h ⊢
    exact h)
  exact (Prod.mk.inj this).1

theorem unBst : unenc encBst (([.ptr 900 0 0], [(900, Blk.mk true 52 0 [[AV.v (Value.pointer none), AV.v (Value.slice none (0 : Nat) (0 : Nat))]])])) = some none := unenc_of encBst_inj none rfl

theorem unBstU (s : ByteArray) : unenc encBst (([.ptr 900 0 0], [(901, Blk.mk false 5 1 (F.eUs s)), (900, Blk.mk true 52 0 [[.ptr 900 0 0, .own 901]])])) = some (some s) := unenc_of encBst_inj (some s) rfl

def preBst1 (o : Option ByteArray) : Bool := F.bstB o

def resBst (o : Option ByteArray) : T (AV × Heap × List Nat) := .ifB o.isNone
  (.ret (vS ⟨⟨[]⟩⟩, [(900, ⟨true, 52, 0, [[.v (.pointer none), .v (.slice none 0 0)]]⟩)], []))
  (.ret (vS (F.bldS o), [(901, ⟨false, 5, 1, []⟩), (900, ⟨true, 52, 0, [[.ptr 900 0 0, .unk]]⟩)], [901]))

noncomputable def oBst : OrcH := orcT 24 encBst preBst1 resBst

theorem okBst : OrcHOK Tryd.prog noG oBst := by
  refine orcT_ok ⟨Tryd.f24, by kernel_rfl, by kernel_rfl, by kernel_rfl⟩ (fun o r hp _ _ hr => ?_)
  cases o with
  | none =>
    have hr : (vS ⟨⟨[]⟩⟩, [(900, ⟨true, 52, 0, [[.v (.pointer none), .v (.slice none 0 0)]]⟩)], []) = r := Option.some.inj hr
    subst hr
    intro w S β cargs inv hargs
    match cargs, hargs with
    | [u], ⟨h1, _⟩ =>
      obtain ⟨X, hX, hXr, rfl⟩ : ∃ x, β 900 = some x ∧ x.real = true ∧ u = .pointer (some ⟨x.b, 0 * x.size + 0, none⟩) := h1
      obtain ⟨bl, hb, h3, _⟩ := inv.dom 900 X hX
      have hb0 : some (⟨true, 52, 0, [[.v (.pointer none), .v (.slice none 0 0)]]⟩ : Blk) = some bl := hb
      cases hb0
      obtain ⟨cs, ty, c1, c2, c3, c4, c5, c6, c7, c8⟩ := h3 hXr
      have hT : (52 : Nat) ≠ 0 := by decide
      obtain ⟨d1, _, d2⟩ := c7 rfl
      have d1 := d1 rfl
      have d2 : ty = 52 := d2.resolve_left hT
      obtain ⟨e1, e2⟩ := c8 0 _ rfl
      have e1 : X.size = 2 := e1.symm
      obtain ⟨v0, f0, g0⟩ := e2 0 _ rfl
      obtain ⟨v1, f1, g1⟩ := e2 1 _ rfl
      have g0 : R0 w S (.v (.pointer none)) v0 := g0
      cases g0
      have g1 : R0 w S (.v (.slice none 0 0)) v1 := g1
      cases g1
      rw [Nat.zero_mul] at f0 f1
      have hcs := arr2 (by rw [c2, d1, e1]) f0 f1
      rw [hcs, d2] at c1
      rw [show (0 * X.size + 0) = 0 by simp]
      refine (bld_string_nil X.b _ w c1).mono ?_
      rintro e w' ⟨rfl, st⟩
      have hO : ∀ b, b < w.heap.size → w'.heap[b]? = w.heap[b]? := fun b hb => st.block b hb trivial
      refine ⟨_, S, β, rfl, ⟨st.os, st.tape, st.output, st.size, fun b hb => hO b hb.1⟩, fun _ h => h, fun _ h => .inl h, ?_, fun _ _ _ _ h => h, R0.v (w := w') (S := S) (x := .string ⟨#[]⟩) (by show (0 : Nat) ≤ _; omega)⟩
      have g : Gr (ownFree w β) w S β w' S β := ⟨⟨st.os, st.tape, st.output, st.size, fun b hb => hO b hb.1⟩, fun b hb => hO b (inv.lt b hb), fun _ h => h, fun _ h => .inl h, fun _ _ h => h, fun _ _ _ h => h⟩
      exact ⟨fun b hb => Nat.lt_of_lt_of_le (inv.base b hb) st.size, fun b hb => Nat.lt_of_lt_of_le (inv.lt b hb) st.size, inv.inj, fun k x hx hr => by
          obtain ⟨n1, n2, n3⟩ := inv.new k x hx hr
          exact ⟨n1, Nat.lt_of_lt_of_le n2 st.size, n3⟩, fun k x hx => by
          obtain ⟨bl, a1, a2, a3⟩ := inv.dom k x hx
          exact ⟨bl, a1, fun hr => (a2 hr).go g (hO _ (inv.new k x hx hr).2.1), a3⟩, inv.cov, fun gl row hg => (inv.glob gl row hg).mono g.keep g.sub⟩
  | some s =>
    have hr : (vS s, [(901, ⟨false, 5, 1, []⟩), (900, ⟨true, 52, 0, [[.ptr 900 0 0, .unk]]⟩)], [901]) = r := Option.some.inj hr
    subst hr
    have hp : decide (0 < s.size) = true := hp
    exact okBstU s hp


end M
end Go.Proofs.YtgkjfochkhiojaaDoor

namespace Go.Proofs.YtgkjfochkhiojaaDoor
open Go Go.RowKit
set_option linter.unusedVariables false
set_option linter.unusedSimpArgs false

namespace M


theorem eUs_app (s x : ByteArray) : F.eUs (s ++ x) = F.eUs s ++ F.eUs x := by
  unfold F.eUs
  simp

def encCkk (s : ByteArray) : List AV × Heap := ([.ptr 900 0 0], bldIn (some s))

theorem encCkk_inj (a a' : ByteArray) (h : encCkk a = encCkk a') : a = a' := Option.some.inj (encBst_inj (some a) (some a') h)

theorem unCkk (s : ByteArray) : unenc encCkk (([.ptr 900 0 0], [(901, Blk.mk false 5 1 (F.eUs s)), (900, Blk.mk true 52 0 [[.ptr 900 0 0, .own 901]])])) = some s := unenc_of encCkk_inj s rfl

def preCkk1 (s : ByteArray) : Bool := true

def resCkk (s : ByteArray) : T (AV × Heap × List Nat) := .ret (.tup [], [(901, ⟨false, 5, 1, F.eUs s⟩), (900, ⟨true, 52, 0, [[.ptr 900 0 0, .own 901]]⟩)], [])

noncomputable def oCkk : OrcH := orcT 34 encCkk preCkk1 resCkk

theorem okCkk : OrcHOK Tryd.prog noG oCkk := by
  refine orcT_ok ⟨Tryd.f34, by kernel_rfl, by kernel_rfl, by kernel_rfl⟩ (fun s r hp _ _ hr => ?_)
  have hr : (.tup [], [(901, ⟨false, 5, 1, F.eUs s⟩), (900, ⟨true, 52, 0, [[.ptr 900 0 0, .own 901]]⟩)], []) = r := Option.some.inj hr
  subst hr
  intro w S β cargs inv hargs
  match cargs, hargs with
  | [u], ⟨h1, _⟩ =>
    obtain ⟨X, p, v, own, xs, hX, hXr, hXs, hXl, hXc, rfl, hp2, hbk, hbuf, hne, ho, hown, hlt⟩ := bld_open (o := some s) inv h1
    have hpX : p = .pointer (some ⟨X.b, 0, none⟩) := by
      obtain ⟨bl, hb, h3, _⟩ := inv.dom 900 X hX
      have hb0 : some (⟨true, 52, 0, [[.ptr 900 0 0, .own 901]]⟩ : Blk) = some bl := hb
      cases hb0
      obtain ⟨cs, ty, c1, c2, c3, c4, c5, c6, c7, c8⟩ := h3 hXr
      obtain ⟨e1, e2⟩ := c8 0 _ rfl
      obtain ⟨v0, f0, g0⟩ := e2 0 _ rfl
      obtain ⟨X', hX', _, rfl⟩ : ∃ x, β 900 = some x ∧ x.real = true ∧ v0 = .pointer (some ⟨x.b, 0 * x.size + 0, none⟩) := g0
      rw [hX] at hX'
      cases hX'
      rw [hbk] at c1
      cases c1
      rw [Nat.zero_mul] at f0
      exact (Option.some.inj f0)
    subst hpX
    have hc0 : w.cell? ⟨X.b, 0, none⟩ = some (.pointer (some ⟨X.b, 0, none⟩)) := by rw [Lib.cell_of_heap hbk]; rfl
    refine (Any.Builder_copyCheck_used bldLays bldX X.b w hc0).mono ?_
    rintro e w' ⟨rfl, rfl⟩
    exact ⟨_, S, β, rfl, ⟨rfl, rfl, rfl, Nat.le_refl _, fun _ _ => rfl⟩, fun _ h => h, fun _ h => .inl h, inv, fun _ _ _ _ h => h, ⟨[], rfl, trivial⟩⟩

noncomputable def enWby : Env := envH ty noG lks [] [oCkk] [901] []

theorem enWby_ok : EnvOK Tryd.prog enWby := by
  refine envH_ok lks_ok ty_ok ?_ ?_
  · simp
  · simp only [List.forall_mem_cons]
    exact ⟨okCkk, by simp⟩

theorem evWby (s : ByteArray) : (runH enWby [901] Tryd.f19 [.ptr 900 0 0, vU 10] [(901, ⟨false, 5, 1, F.eUs s⟩), (900, ⟨true, 52, 0, [[.ptr 900 0 0, .own 901]]⟩)]).val =
  Option.bind (unenc encCkk ([.ptr 900 0 0], [(901, Blk.mk false 5 1 (F.eUs s)), (900, Blk.mk true 52 0 [[.ptr 900 0 0, .own 901]])])) fun (z : ByteArray) => bif Nat.ble
  ((List.length (F.eUs z) + (1 : Nat)) * (1 : Nat)) (140737488355328 : Nat) && true then some (AV.v Value.nilIface, [(901, Blk.mk false 5 1 (F.eUs z ++ [[(vU (10 :
  Int))]])), (900, Blk.mk true 52 0 [[.ptr 900 0 0, .own 901]])], [(901 : Nat)]) else none := (runHR_val).symm.trans (by kernel_rfl)

def encWby1 (s : ByteArray) : List AV × Heap := ([.ptr 900 0 0, vU 10], [(901, ⟨false, 5, 1, F.eUs s⟩), (900, ⟨true, 52, 0, [[.ptr 900 0 0, .own 901]]⟩)])

def encWby (a : ByteArray) : List AV × Heap := encWby1 a

theorem encWby_inj (a a' : ByteArray) (h : encWby a = encWby a') : a = a' := by
  simp only [encWby, encWby1] at h
  try simp [eUs_inj, strs_inj, ints_inj, ents_inj, eEnt_iff, eLst_iff, eSnds_inj, eStrms_inj] at h
  grind

theorem unWby (s : ByteArray) : unenc encWby (([.ptr 900 0 0, (vU (10 : Int))], [(901, Blk.mk false 5 1 (F.eUs s)), (900, Blk.mk true 52 0 [[.ptr 900 0 0, .own 901]])])) = some (s) := unenc_of encWby_inj (s) rfl

def resWby1 (s : ByteArray) : AV × Heap × List Nat := (.v .nilIface, [(901, ⟨false, 5, 1, F.eUs (s ++ ⟨⟨[10]⟩⟩)⟩), (900, ⟨true, 52, 0, [[.ptr 900 0 0, .own 901]]⟩)], [901])

def preWby1 (s : ByteArray) : Bool := decide (s.size ≤ 100000000)

noncomputable def oWby : OrcH := orcH 19 encWby (fun a => preWby1 a) fun a => resWby1 a

theorem okWby : OrcHOK Tryd.prog noG oWby := by
  refine mkH_ok (mv := [901]) Tryd.f19 (by kernel_rfl) (by kernel_rfl) enWby_ok mixed (no_loops (by kernel_rfl)) ?_
  rintro s hpre hok hokh
  show (runH enWby [901] _ (encWby1 _).1 (encWby1 _).2).val = some (resWby1 _)
  unfold encWby1 resWby1
  rw [evWby]
  simp only [preWby1, decide_eq_true_eq] at hpre
  simp only [unCkk, preCkk1, etaEnt, etaLst, etaSnd, etaStrm, etaMas, Option.bind_some, List.length_map, unStrs, unInts, unBools, unEnts, unItms, unTrns, cond_true, cond_false, Bool.and_true, Bool.true_and, unWstU, unBstU, F.bldS_some, F.bldLen_some]
  rw [eUs_app, eUs_len, ble_t (by omega : (s.size + 1) * 1 ≤ 140737488355328)]
  rfl

end M
end Go.Proofs.YtgkjfochkhiojaaDoor

namespace Go.Proofs.YtgkjfochkhiojaaDoor
open Go Go.RowKit
set_option linter.unusedVariables false
set_option linter.unusedSimpArgs false

/-- Pieces behind a text. -/
def F.cat (s : ByteArray) : List ByteArray → ByteArray
  | [] => s
  | x :: l => F.cat (s ++ x) l

theorem F.cat_le : ∀ (l : List ByteArray) (s : ByteArray), s.size ≤ (F.cat s l).size
  | [], s => Nat.le_refl _
  | x :: l, s => by
    have := F.cat_le l (s ++ x)
    rw [ByteArray.size_append] at this
    rw [F.cat]
    omega

def F.isO {α : Type} (o : Option α) : Bool := o.isNone

/-- Pieces that can be written. -/
def F.putB (o : Option ByteArray) (l : List ByteArray) : Bool := bif F.isO o then decide (l.length = 1) && decide ((l.headD ⟨⟨[]⟩⟩).size ≤ 1000) else decide (l.length ≤ 1000) && decide ((F.cat (F.bldS o) l).size ≤ 90000000)

namespace M


def stPt (ps : List ByteArray) (s : ByteArray) (k : Nat) : St := ⟨[(7, vI k), (6, vI ps.length), (5, .own 900), (1, .ptr 901 0 0)], [(902, ⟨false, 5, 1, F.eUs s⟩), (901, ⟨true, 52, 0, [[.ptr 901 0 0, .own 902]]⟩), (900, ⟨false, 9, 1, ps.map eStr⟩)]⟩

def stPt1 (a : (List ByteArray) × ByteArray × Nat) : St := stPt a.1 a.2.1 a.2.2

theorem stPt_inj (a a' : (List ByteArray) × ByteArray × Nat) (h : stPt1 a = stPt1 a') : a = a' := by
  simp only [stPt1, stPt] at h
  try simp [eUs_inj, strs_inj, ints_inj, ents_inj, eEnt_iff, eLst_iff, eSnds_inj, eStrms_inj] at h
  grind

theorem unstPt (ps : List ByteArray) (s : ByteArray) (k : Nat) : unenc stPt1 (St.mk [(7, (vI (↑k : Int))), (6, (vI (↑(List.length ps) : Int))), (5, .own 900), (1, .ptr 901 0 0)] [(902, Blk.mk false 5 1 (F.eUs s)), (901, Blk.mk true 52 0 [[.ptr 901 0
  0, .own 902]]), (900, Blk.mk false 9 1 (List.map eStr ps))]) = some (ps, s, k) := unenc_of stPt_inj (ps, s, k) rfl

theorem unstPt0 (ps : List ByteArray) (s : ByteArray)  : unenc stPt1 (St.mk [(7, (vI (0 : Int))), (6, (vI (↑(List.length ps) : Int))), (5, .own 900), (1, .ptr 901 0 0)] [(902, Blk.mk false 5 1 (F.eUs s)), (901, Blk.mk true 52 0 [[.ptr 901 0
  0, .own 902]]), (900, Blk.mk false 9 1 (List.map eStr ps))]) = some (ps, s, 0) := unenc_of stPt_inj (ps, s, 0) rfl

def outPt (ps : List ByteArray) (s : ByteArray) (k : Nat) : T (Ex × St) := .ret (.exit 0, ⟨[(1, .ptr 901 0 0)], [(902, ⟨false, 5, 1, F.eUs (F.cat s (ps.drop k))⟩), (901, ⟨true, 52, 0, [[.ptr 901 0 0, .own 902]]⟩), (900, ⟨false, 9, 1, ps.map eStr⟩)]⟩)

noncomputable def prlPt (ps : List ByteArray) (s : ByteArray) (k : Nat) : Bool := decide (ps.length ≤ 1000) && decide (k ≤ ps.length) && decide ((F.cat s (ps.drop k)).size ≤ 90000000)

noncomputable def lpPt : Nat × (St → T (Ex × St)) := (1, lpo [7, 6, 5, 1] [902, 901, 900] stPt1 (fun a => prlPt a.1 a.2.1 a.2.2) fun a => outPt a.1 a.2.1 a.2.2)

noncomputable def enPt : Env := envH ty noG lks [] [oWst, oWby] [902] [lpPt]

theorem enPt_ok : EnvOK Tryd.prog enPt := by
  refine envH_ok lks_ok ty_ok ?_ ?_
  · simp
  · simp only [List.forall_mem_cons]
    exact ⟨okWst, okWby, by simp⟩

theorem evPtL (ps : List ByteArray) (s : ByteArray) (k : Nat) : ((exec enPt (loopN Tryd.f17 0) (stPt ps s k)).bind (lessX ([7, 6, 5, 1], [902, 901, 900]) ([1], [902, 901, 900]) ([], []))).val =
  bif decide ((↑k : Int) < (↑(List.length ps) : Int)) then bif decide (k < List.length (Blk.mk false 9 1 (List.map eStr ps)).rows) then Option.bind (unenc (List.map eStr) (List.map eStr ps)) fun (z : List ByteArray) => bif decide (k < List.length z) then Option.bind (unenc encWst ([.ptr 900 0 0, (vS (List.getD z k (ByteArray.mk (Array.mk []))))], [(901, Blk.mk false 5 1 (F.eUs s)), (900, Blk.mk true 52 0 [[.ptr 900 0 0, .own 901]])])) fun (z : Option ByteArray × ByteArray) => bif F.wstB z.fst z.snd then bif match z.fst with | some val => false | none => true then none else some (Ex.normal, St.mk [(7, (vI (IntKind.wrap IntKind.i64 ((↑k : Int) + (1 : Int))))), (6, (vI (↑(List.length ps) : Int))), (5, .own 900), (1, .ptr 901 0 0)] [(902, Blk.mk false 5 1 (F.eUs (F.bldS z.fst ++ z.snd))), (901, Blk.mk true 52 0 [[.ptr 901 0 0, .own 902]]), (900, Blk.mk false 9 1 (List.map eStr ps))]) else none else none else none else some (Ex.exit (0 : Nat), St.mk [(1, .ptr 901 0 0)] [(902, Blk.mk false 5 1 (F.eUs s)), (901, Blk.mk true 52 0 [[.ptr 901 0 0, .own 902]]), (900, Blk.mk false 9 1 (List.map eStr ps))]) := (execR_bind _ _ _).symm.trans (by kernel_rfl)

theorem lpPt_ok (ps : List ByteArray) (s : ByteArray) (k : Nat) (hp : prlPt ps s k = true) : ∀ ex s', (outPt ps s k).val = some (ex, s') → LoopOK enPt (loopN Tryd.f17 0) (stPt ps s k) ex s' := by
  simp only [prlPt, Bool.and_eq_true, decide_eq_true_eq] at hp
  obtain ⟨⟨h1, h2⟩, h3⟩ := hp
  refine loop_gen (st := fun p : ByteArray × Nat => stPt ps p.1 p.2) (out := fun p => outPt ps p.1 p.2) (I := fun p => p.2 ≤ ps.length ∧ (F.cat p.1 (ps.drop p.2)).size ≤ 90000000) (n := ([7, 6, 5, 1], [902, 901, 900])) (e := ([1], [902, 901, 900])) (r := ([], [])) (fun p => ps.length - p.2) ?_ (s, k) ⟨h2, h3⟩
  clear h2 h3
  rintro ⟨s, k⟩ ⟨h2, h3⟩
  simp only at h2 h3
  by_cases hlt : k < ps.length
  · have hy : ps[k]? = some ps[k] := List.getElem?_eq_getElem hlt
    generalize ps[k] = y at hy
    have hd := drop_y hy
    rw [hd, F.cat] at h3
    have hc := F.cat_le (ps.drop (k + 1)) (s ++ y)
    rw [ByteArray.size_append] at hc
    have hi : idx (k : Int) = some k := rfl
    right
    refine ⟨(s ++ y, k + 1), ?_, rfl, ⟨hlt, h3⟩, by simp only; omega, ?_⟩
    · rw [evPtL]
      simp only [unWst, unWby, preWst1, preWby1, unstPt, unstPt0, prlPt, outPt, etaEnt, etaLst, etaSnd, etaStrm, etaMas, Option.bind_some, List.length_map, unStrs, unInts, unBools, unEnts, unItms, unTrns, cond_true, cond_false, Bool.and_true, Bool.true_and, unWstU, unBstU, F.bldS_some, F.bldLen_some, cast_lt hlt, decide_eq_true hlt, getD_at hy, hi, preWst1, resWst]
      rw [F.wstB_some (by omega : s.size + y.size ≤ 140737488355328), next_at hlt (by omega : ps.length ≤ 9223372036854775807)]
      rfl
    · simp only [outPt, hd, F.cat]
  · have : k = ps.length := by omega
    subst this
    left
    refine ⟨(.exit 0, ⟨[(1, .ptr 901 0 0)], [(902, ⟨false, 5, 1, F.eUs s⟩), (901, ⟨true, 52, 0, [[.ptr 901 0 0, .own 902]]⟩), (900, ⟨false, 9, 1, ps.map eStr⟩)]⟩), ?_, ?_, by simp, rfl⟩
    · rw [evPtL]
      simp only [unWst, unWby, preWst1, preWby1, unstPt, unstPt0, prlPt, outPt, etaEnt, etaLst, etaSnd, etaStrm, etaMas, Option.bind_some, List.length_map, unStrs, unInts, unBools, unEnts, unItms, unTrns, cond_true, cond_false, Bool.and_true, Bool.true_and, unWstU, unBstU, F.bldS_some, F.bldLen_some]
      try simp
    · simp only [outPt, List.drop_length, F.cat]
      rfl

theorem evPt (ps : List ByteArray) (s : ByteArray) : (runH enPt [902] Tryd.f17 [.own 900, .ptr 901 0 0] [(902, ⟨false, 5, 1, F.eUs s⟩), (901, ⟨true, 52, 0, [[.ptr 901 0 0, .own 902]]⟩), (900, ⟨false, 9, 1, ps.map eStr⟩)]).val =
  Option.bind (unenc stPt1 (St.mk [(7, (vI (0 : Int))), (6, (vI (↑(List.length (List.map eStr ps)) : Int))), (5, .own 900), (1, .ptr 901 0 0)] [(902, Blk.mk false 5 1 (F.eUs
  s)), (901, Blk.mk true 52 0 [[.ptr 901 0 0, .own 902]]), (900, Blk.mk false 9 1 (List.map eStr ps))])) fun (z : List ByteArray × ByteArray × Nat) => bif decide
  (List.length z.fst ≤ (1000 : Nat)) && decide (z.snd.snd ≤ List.length z.fst) && decide (ByteArray.size (F.cat z.snd.fst (List.drop z.snd.snd z.fst)) ≤ (90000000 : Nat)) &&
  true then Option.bind (unenc encWby ([.ptr 900 0 0, (vU (10 : Int))], [(901, Blk.mk false 5 1 (F.eUs (F.cat z.snd.fst (List.drop z.snd.snd z.fst)))), (900, Blk.mk true 52
  0 [[.ptr 900 0 0, .own 901]])])) fun (z_1 : ByteArray) => bif decide (ByteArray.size z_1 ≤ (100000000 : Nat)) then some (AV.tup [], [(902, Blk.mk false 5 1 (F.eUs (z_1 ++
  ByteArray.mk (Array.mk [(10 : UInt8)])))), (901, Blk.mk true 52 0 [[.ptr 901 0 0, .own 902]]), (900, Blk.mk false 9 1 (List.map eStr z.fst))], [(902 : Nat)]) else none
  else none := (runHR_val).symm.trans (by kernel_rfl)

def encPt1 (ps : List ByteArray) (s : ByteArray) : List AV × Heap := ([.own 900, .ptr 901 0 0], [(902, ⟨false, 5, 1, F.eUs s⟩), (901, ⟨true, 52, 0, [[.ptr 901 0 0, .own 902]]⟩), (900, ⟨false, 9, 1, ps.map eStr⟩)])

def encPt (a : (List ByteArray) × ByteArray) : List AV × Heap := encPt1 a.1 a.2

theorem encPt_inj (a a' : (List ByteArray) × ByteArray) (h : encPt a = encPt a') : a = a' := by
  simp only [encPt, encPt1] at h
  try simp [eUs_inj, strs_inj, ints_inj, ents_inj, eEnt_iff, eLst_iff, eSnds_inj, eStrms_inj] at h
  grind

theorem unPt (ps : List ByteArray) (s : ByteArray) : unenc encPt (([.own 900, .ptr 901 0 0], [(902, Blk.mk false 5 1 (F.eUs s)), (901, Blk.mk true 52 0 [[.ptr 901 0 0, .own 902]]), (900, Blk.mk false 9 1 (List.map eStr ps))])) = some (ps, s) := unenc_of encPt_inj (ps, s) rfl

def resPt1 (ps : List ByteArray) (s : ByteArray) : AV × Heap × List Nat := (.tup [], [(902, ⟨false, 5, 1, F.eUs (F.cat s ps ++ ⟨⟨[10]⟩⟩)⟩), (901, ⟨true, 52, 0, [[.ptr 901 0 0, .own 902]]⟩), (900, ⟨false, 9, 1, ps.map eStr⟩)], [902])

def prePt1 (ps : List ByteArray) (s : ByteArray) : Bool := decide (ps.length ≤ 1000) && decide ((F.cat s ps).size ≤ 90000000)

noncomputable def oPt : OrcH := orcH 17 encPt (fun a => prePt1 a.1 a.2) fun a => resPt1 a.1 a.2

theorem okPt : OrcHOK Tryd.prog noG oPt := by
  refine mkH_ok (mv := [902]) Tryd.f17 (by kernel_rfl) (by kernel_rfl) enPt_ok mixed (one_loop (x0 := loopN Tryd.f17 0) (by kernel_rfl) (lpo_ok ?_)) ?_
  · rintro ⟨ps, s, k⟩ hp
    exact lpPt_ok ps s k hp
  rintro ⟨ps, s⟩ hpre hok hokh
  show (runH enPt [902] _ (encPt1 _ _).1 (encPt1 _ _).2).val = some (resPt1 _ _)
  unfold encPt1 resPt1
  rw [evPt]
  simp only [prePt1, Bool.and_eq_true, decide_eq_true_eq] at hpre
  simp only [unWst, unWby, preWst1, preWby1, unstPt, unstPt0, prlPt, outPt, etaEnt, etaLst, etaSnd, etaStrm, etaMas, Option.bind_some, List.length_map, unStrs, unInts, unBools, unEnts, unItms, unTrns, cond_true, cond_false, Bool.and_true, Bool.true_and, unWstU, unBstU, F.bldS_some, F.bldLen_some, decide_eq_true hpre.1, decide_eq_true hpre.2, List.drop_zero, Nat.zero_le, decide_true, decide_eq_true (by omega : (F.cat s ps).size ≤ 100000000)]

def stP0 (x : ByteArray) : St := ⟨[(7, vI 0), (6, vI ((1 : Nat) : Int)), (5, .own 900), (1, .ptr 901 0 0)], [(901, ⟨true, 52, 0, [[.v (.pointer none), .v (.slice none 0 0)]]⟩), (900, ⟨false, 9, 1, [[vS x]]⟩)]⟩

def stP01 (a : ByteArray) : St := stP0 a

theorem stP0_inj (a a' : ByteArray) (h : stP01 a = stP01 a') : a = a' := by
  simp only [stP01, stP0] at h
  try simp [eUs_inj, strs_inj, ints_inj, ents_inj, eEnt_iff, eLst_iff, eSnds_inj, eStrms_inj] at h
  grind

theorem unstP0 (x : ByteArray) : unenc stP01 (St.mk [(7, (vI (0 : Int))), (6, (vI (↑(1 : Nat) : Int))), (5, .own 900), (1, .ptr 901 0 0)] [(901, Blk.mk true 52 0 [[AV.v (Value.pointer none), AV.v (Value.slice none (0
  : Nat) (0 : Nat))]]), (900, Blk.mk false 9 1 [[(vS x)]])]) = some (x) := unenc_of stP0_inj (x) rfl

def outP0 (x : ByteArray) : T (Ex × St) := .ret (.exit 0, ⟨[(1, .ptr 901 0 0)], [(13000, ⟨false, 5, 1, F.eUs x⟩), (901, ⟨true, 52, 0, [[.ptr 901 0 0, .own 13000]]⟩), (900, ⟨false, 9, 1, [[vS x]]⟩)]⟩)

noncomputable def prlP0 (x : ByteArray) : Bool := decide (x.size ≤ 1000)

noncomputable def lpP0 : Nat × (St → T (Ex × St)) := (1, lpo [7, 6, 5, 1] [901, 900] stP01 (fun a => prlP0 a) fun a => outP0 a)

noncomputable def enP0 : Env := envH ty noG lks [] [oWst, oWby] [902, 13000] [lpP0]

theorem enP0_ok : EnvOK Tryd.prog enP0 := by
  refine envH_ok lks_ok ty_ok ?_ ?_
  · simp
  · simp only [List.forall_mem_cons]
    exact ⟨okWst, okWby, by simp⟩

def stP1 (x : ByteArray) : St := ⟨[(7, vI 1), (6, vI ((1 : Nat) : Int)), (5, .own 900), (1, .ptr 901 0 0)], [(13000, ⟨false, 5, 1, F.eUs x⟩), (901, ⟨true, 52, 0, [[.ptr 901 0 0, .own 13000]]⟩), (900, ⟨false, 9, 1, [[vS x]]⟩)]⟩

theorem evP0a (x : ByteArray) : ((exec enP0 (loopN Tryd.f17 0) (stP0 x)).bind (lessX ([7, 6, 5, 1], [13000, 901, 900]) ([1], [13000, 901, 900]) ([], []))).val =
  Option.bind (unenc (List.map eStr) [[(vS x)]]) fun (z : List ByteArray) => bif decide ((0 : Nat) < List.length z) then Option.bind (unenc encWst ([.ptr 900 0 0, (vS (List.getD z (0 : Nat) (ByteArray.mk (Array.mk []))))], [(900, Blk.mk true 52 0 [[AV.v (Value.pointer none), AV.v (Value.slice none (0 : Nat) (0 : Nat))]])])) fun (z : Option ByteArray × ByteArray) => bif F.wstB z.fst z.snd then bif match z.fst with | some val => false | none => true then some (Ex.normal, St.mk [(7, (vI (IntKind.wrap IntKind.i64 ((0 : Int) + (1 : Int))))), (6, (vI (↑(1 : Nat) : Int))), (5, .own 900), (1, .ptr 901 0 0)] [(13000, Blk.mk false 5 1 (F.eUs z.snd)), (901, Blk.mk true 52 0 [[.ptr 901 0 0, .own 13000]]), (900, Blk.mk false 9 1 [[(vS x)]])]) else none else none else none := (execR_bind _ _ _).symm.trans (by kernel_rfl)

theorem evP0b (x : ByteArray) : ((exec enP0 (loopN Tryd.f17 0) (stP1 x)).bind (lessX ([7, 6, 5, 1], [13000, 901, 900]) ([1], [13000, 901, 900]) ([], []))).val =
  some (Ex.exit (0 : Nat), St.mk [(1, .ptr 901 0 0)] [(13000, Blk.mk false 5 1 (F.eUs x)), (901, Blk.mk true 52 0 [[.ptr 901 0 0, .own 13000]]), (900, Blk.mk false 9 1 [[(vS
  x)]])]) := (execR_bind _ _ _).symm.trans (by kernel_rfl)

theorem lpP0_ok (x : ByteArray) (hp : prlP0 x = true) : ∀ ex s', (outP0 x).val = some (ex, s') → LoopOK enP0 (loopN Tryd.f17 0) (stP0 x) ex s' := by
  simp only [prlP0, decide_eq_true_eq] at hp
  refine loop_gen (st := fun b : Bool => match b with | false => stP0 x | true => stP1 x) (out := fun _ => outP0 x) (I := fun _ => True) (n := ([7, 6, 5, 1], [13000, 901, 900])) (e := ([1], [13000, 901, 900])) (r := ([], [])) (fun b => match b with | false => 1 | true => 0) ?_ false trivial
  intro b _
  cases b
  · right
    refine ⟨true, ?_, rfl, trivial, by decide, rfl⟩
    show ((exec enP0 (loopN Tryd.f17 0) (stP0 x)).bind _).val = _
    rw [evP0a]
    have hun : unenc (List.map eStr) [[vS x]] = some [x] := unStrs [x]
    have hb : F.wstB none x = true := F.wstB_none (by omega)
    simp only [unWst, unWby, preWst1, preWby1, unstP0, prlP0, outP0, etaEnt, etaLst, etaSnd, etaStrm, etaMas, Option.bind_some, List.length_map, unStrs, unInts, unBools, unEnts, unItms, unTrns, cond_true, cond_false, Bool.and_true, Bool.true_and, unWstU, unBstU, F.bldS_some, F.bldLen_some, unWst, preWst1, resWst, hun]
    show (bif decide (0 < 1) then bif F.wstB none x then _ else _ else _) = _
    rw [hb]
    rfl
  · left
    refine ⟨(.exit 0, ⟨[(1, .ptr 901 0 0)], [(13000, ⟨false, 5, 1, F.eUs x⟩), (901, ⟨true, 52, 0, [[.ptr 901 0 0, .own 13000]]⟩), (900, ⟨false, 9, 1, [[vS x]]⟩)]⟩), ?_, rfl, by simp, rfl⟩
    show ((exec enP0 (loopN Tryd.f17 0) (stP1 x)).bind _).val = _
    rw [evP0b]
    try rfl

theorem evP0 (x : ByteArray) : (runH enP0 [] Tryd.f17 [.own 900, .ptr 901 0 0] [(901, ⟨true, 52, 0, [[.v (.pointer none), .v (.slice none 0 0)]]⟩), (900, ⟨false, 9, 1, [[vS x]]⟩)]).val =
  Option.bind (unenc stP01 (St.mk [(7, (vI (0 : Int))), (6, (vI (↑(1 : Nat) : Int))), (5, .own 900), (1, .ptr 901 0 0)] [(901, Blk.mk true 52 0 [[AV.v (Value.pointer none),
  AV.v (Value.slice none (0 : Nat) (0 : Nat))]]), (900, Blk.mk false 9 1 [[(vS x)]])])) fun (z : ByteArray) => bif decide (ByteArray.size z ≤ (1000 : Nat)) && true then
  Option.bind (unenc encWby ([.ptr 900 0 0, (vU (10 : Int))], [(901, Blk.mk false 5 1 (F.eUs z)), (900, Blk.mk true 52 0 [[.ptr 900 0 0, .own 901]])])) fun (z_1 : ByteArray)
  => bif decide (ByteArray.size z_1 ≤ (100000000 : Nat)) then some (AV.tup [], [(901, Blk.mk true 52 0 [[.ptr 901 0 0, .own 0]]), (900, Blk.mk false 9 1 [[(vS z)]]), (0,
  Blk.mk false 5 1 (F.eUs (z_1 ++ ByteArray.mk (Array.mk [(10 : UInt8)]))))], []) else none else none := (runHR_val).symm.trans (by kernel_rfl)

def encP01 (x : ByteArray) : List AV × Heap := ([.own 900, .ptr 901 0 0], [(901, ⟨true, 52, 0, [[.v (.pointer none), .v (.slice none 0 0)]]⟩), (900, ⟨false, 9, 1, [[vS x]]⟩)])

def encP0 (a : ByteArray) : List AV × Heap := encP01 a

theorem encP0_inj (a a' : ByteArray) (h : encP0 a = encP0 a') : a = a' := by
  simp only [encP0, encP01] at h
  try simp [eUs_inj, strs_inj, ints_inj, ents_inj, eEnt_iff, eLst_iff, eSnds_inj, eStrms_inj] at h
  grind

theorem unP0 (x : ByteArray) : unenc encP0 (([.own 900, .ptr 901 0 0], [(901, Blk.mk true 52 0 [[AV.v (Value.pointer none), AV.v (Value.slice none (0 : Nat) (0 : Nat))]]), (900, Blk.mk false 9 1 [[(vS x)]])])) = some (x) := unenc_of encP0_inj (x) rfl

def resP01 (x : ByteArray) : AV × Heap × List Nat := (.tup [], [(901, ⟨true, 52, 0, [[.ptr 901 0 0, .own 0]]⟩), (900, ⟨false, 9, 1, [[vS x]]⟩), (0, ⟨false, 5, 1, F.eUs (x ++ ⟨⟨[10]⟩⟩)⟩)], [])

def preP01 (x : ByteArray) : Bool := decide (x.size ≤ 1000)

noncomputable def oP0 : OrcH := orcH 17 encP0 (fun a => preP01 a) fun a => resP01 a

theorem okP0 : OrcHOK Tryd.prog noG oP0 := by
  refine mkH_ok (mv := []) Tryd.f17 (by kernel_rfl) (by kernel_rfl) enP0_ok mixed (one_loop (x0 := loopN Tryd.f17 0) (by kernel_rfl) (lpo_ok ?_)) ?_
  · intro x hp
    exact lpP0_ok x hp
  rintro x hpre hok hokh
  show (runH enP0 [] _ (encP01 _).1 (encP01 _).2).val = some (resP01 _)
  unfold encP01 resP01
  rw [evP0]
  have hpre : x.size ≤ 1000 := of_decide_eq_true hpre
  simp only [unWst, unWby, preWst1, preWby1, unstP0, prlP0, outP0, etaEnt, etaLst, etaSnd, etaStrm, etaMas, Option.bind_some, List.length_map, unStrs, unInts, unBools, unEnts, unItms, unTrns, cond_true, cond_false, Bool.and_true, Bool.true_and, unWstU, unBstU, F.bldS_some, F.bldLen_some, decide_eq_true hpre, decide_eq_true (by omega : x.size ≤ 100000000)]

/-- A line of pieces, for a builder that is fresh or not. -/
def encPut (a : Option ByteArray × List ByteArray) : List AV × Heap := ([.own 900, .ptr 901 0 0], match a.1 with
  | none => [(901, ⟨true, 52, 0, [[.v (.pointer none), .v (.slice none 0 0)]]⟩), (900, ⟨false, 9, 1, a.2.map eStr⟩)]
  | some s => [(902, ⟨false, 5, 1, F.eUs s⟩), (901, ⟨true, 52, 0, [[.ptr 901 0 0, .own 902]]⟩), (900, ⟨false, 9, 1, a.2.map eStr⟩)])

theorem encPut_inj (a a' : Option ByteArray × List ByteArray) (h : encPut a = encPut a') : a = a' := by
  obtain ⟨o, l⟩ := a
  obtain ⟨o', l'⟩ := a'
  unfold encPut at h
  cases o with
  | none => cases o' with
    | none =>
      simp only [Prod.mk.injEq, List.cons.injEq, Blk.mk.injEq, true_and, and_true] at h
      rw [strs_inj.1 h]
    | some s => simp at h
  | some s => cases o' with
    | none => simp at h
    | some s' =>
      simp only [Prod.mk.injEq, List.cons.injEq, Blk.mk.injEq, true_and, and_true] at h
      obtain ⟨h1, h2⟩ := h
      rw [strs_inj.1 h2, eUs_inj.1 h1]

theorem unPut0 (x : ByteArray) : unenc encPut (([.own 900, .ptr 901 0 0], [(901, Blk.mk true 52 0 [[AV.v (Value.pointer none), AV.v (Value.slice none (0 : Nat) (0 : Nat))]]), (900, Blk.mk false 9 1 [[(vS x)]])])) = some (none, [x]) := unenc_of encPut_inj (none, [x]) rfl

theorem unPut1 (s : ByteArray) (x : ByteArray) : unenc encPut (([.own 900, .ptr 901 0 0], [(902, Blk.mk false 5 1 (F.eUs s)), (901, Blk.mk true 52 0 [[.ptr 901 0 0, .own 902]]), (900, Blk.mk false 9 1 [[(vS x)]])])) = some (some s, [x]) := unenc_of encPut_inj (some s, [x]) rfl

theorem unPut2 (s : ByteArray) (x : ByteArray) (y : ByteArray) : unenc encPut (([.own 900, .ptr 901 0 0], [(902, Blk.mk false 5 1 (F.eUs s)), (901, Blk.mk true 52 0 [[.ptr 901 0 0, .own 902]]), (900, Blk.mk false 9 1 [[(vS x)], [(vS y)]])])) = some (some s, [x, y]) := unenc_of encPut_inj (some s, [x, y]) rfl

theorem unPut (s : ByteArray) (l : List ByteArray) : unenc encPut (([.own 900, .ptr 901 0 0], [(902, Blk.mk false 5 1 (F.eUs s)), (901, Blk.mk true 52 0 [[.ptr 901 0 0, .own 902]]), (900, Blk.mk false 9 1 (List.map eStr l))])) = some (some s, l) := unenc_of encPut_inj (some s, l) rfl

def prePut1 (o : Option ByteArray) (l : List ByteArray) : Bool := F.putB o l

def resPut (a : Option ByteArray × List ByteArray) : T (AV × Heap × List Nat) := .ifB a.1.isNone
  (.ret (.tup [], [(901, ⟨true, 52, 0, [[.ptr 901 0 0, .own 0]]⟩), (900, ⟨false, 9, 1, a.2.map eStr⟩), (0, ⟨false, 5, 1, F.eUs (a.2.headD ⟨⟨[]⟩⟩ ++ ⟨⟨[10]⟩⟩)⟩)], []))
  (.ret (.tup [], [(902, ⟨false, 5, 1, F.eUs (F.cat (F.bldS a.1) a.2 ++ ⟨⟨[10]⟩⟩)⟩), (901, ⟨true, 52, 0, [[.ptr 901 0 0, .own 902]]⟩), (900, ⟨false, 9, 1, a.2.map eStr⟩)], [902]))

noncomputable def oPut : OrcH := orcT 17 encPut (fun a => prePut1 a.1 a.2) resPut

theorem okPut : OrcHOK Tryd.prog noG oPut := by
  refine orcT_ok ⟨Tryd.f17, by kernel_rfl, by kernel_rfl, by kernel_rfl⟩ (fun a r hp _ _ hr => ?_)
  obtain ⟨o, l⟩ := a
  cases o with
  | none =>
    have hp : (decide (l.length = 1) && decide ((l.headD ⟨⟨[]⟩⟩).size ≤ 1000)) = true := hp
    simp only [Bool.and_eq_true, decide_eq_true_eq] at hp
    obtain ⟨x, l0, rfl⟩ := List.exists_cons_of_length_eq_add_one (l := l) (n := 0) hp.1
    have hl0 : l0 = [] := List.length_eq_zero_iff.1 (by have := hp.1; simpa using this)
    subst hl0
    have hx : x.size ≤ 1000 := hp.2
    have hr : resP01 x = r := Option.some.inj hr
    subst hr
    refine okP0.1 (encP0 x).1 (encP0 x).2 _ _ _ ?_
    show (T.opt (unenc encP0 (encP0 x)) fun a => T.ifB (preP01 a) (T.ret (resP01 a)) T.fail).val = _
    rw [unenc_of encP0_inj x rfl]
    show (T.ifB (decide (x.size ≤ 1000)) (T.ret (resP01 x)) T.fail).val = _
    rw [decide_eq_true hx]
    rfl
  | some s =>
    have hp : (decide (l.length ≤ 1000) && decide ((F.cat s l).size ≤ 90000000)) = true := hp
    have hr : resPt1 l s = r := Option.some.inj hr
    subst hr
    refine okPt.1 (encPt (l, s)).1 (encPt (l, s)).2 _ _ _ ?_
    show (T.opt (unenc encPt (encPt (l, s))) fun a => T.ifB (prePt1 a.1 a.2) (T.ret (resPt1 a.1 a.2)) T.fail).val = _
    rw [unenc_of encPt_inj (l, s) rfl]
    show (T.ifB (decide (l.length ≤ 1000) && decide ((F.cat s l).size ≤ 90000000)) (T.ret (resPt1 l s)) T.fail).val = _
    rw [hp]
    rfl

end M
end Go.Proofs.YtgkjfochkhiojaaDoor
