/- What is proved here: contracts of strings.Builder (no statement of the seat). -/
import Derived.Test.YthcfbeckhgngiaaGreatDoorC141
import Derived.Shelf.Strings.Builder1
import Derived.Lib.AppendZeros
namespace Go.Proofs.YthcfbeckhgngiaaGreatDoor
open Go Go.RowKit
set_option linter.unusedVariables false
set_option linter.unusedSimpArgs false

def bldRen : Go.Shelf.Ren := ⟨fun | 240 => 58 | 276 => 78 | n => n, fun | 0 => 0 | 4 => 4 | 9 => 9 | 20 => 20 | 37 => 53 | 70 => 52 | 72 => 55 | 164 => 102 | n => n, fun | n => n⟩

theorem bldLays : Go.Proofs.Lays.n240 Tryz.prog bldRen := {
  mixed := by kernel_rfl
  f240 := Tryz.func58.trans (congrArg some (by kernel_rfl))
  f276 := Tryz.func78.trans (congrArg some (by kernel_rfl))
  t0 := Tryz.underlying0
  a0 := Tryz.isAgg0
  z0 := Tryz.sizeOf0
  v0 := Tryz.zeroValue0
  t4 := Tryz.underlying4
  a4 := Tryz.isAgg4
  z4 := Tryz.sizeOf4
  v4 := Tryz.zeroValue4
  t9 := Tryz.underlying9
  a9 := Tryz.isAgg9
  z9 := Tryz.sizeOf9
  v9 := Tryz.zeroValue9
  t20 := Tryz.underlying20
  a20 := Tryz.isAgg20
  z20 := Tryz.sizeOf20
  v20 := Tryz.zeroValue20
  t70 := Tryz.underlying52
  a70 := Tryz.isAgg52
  z70 := Tryz.sizeOf52
  v70 := Tryz.zeroValue52
  t72 := Tryz.underlying55
  a72 := Tryz.isAgg55
  z72 := Tryz.sizeOf55
  v72 := Tryz.zeroValue55
  t164 := Tryz.underlying102
  a164 := Tryz.isAgg102
  z164 := Tryz.sizeOf102
  v164 := Tryz.zeroValue102 }

theorem bldX : Builder.X72 Tryz.prog bldRen := ⟨by kernel_rfl, by kernel_rfl⟩

/-- What stays. -/
structure Stays (w w' : World) (k : Nat → Prop) : Prop where
  os : w'.os = w.os
  tape : w'.tape = w.tape
  output : w'.output = w.output
  size : w.heap.size ≤ w'.heap.size
  block : ∀ b, b < w.heap.size → k b → w'.heap[b]? = w.heap[b]?

theorem bld_check (b : Nat) (p v : Value) (hp : p = .pointer none ∨ p = .pointer (some ⟨b, 0, none⟩)) (w : World) (hbk : w.heap[b]? = some (.cells #[p, v] 55 (0, 0))) :
    Calls Tryz.prog 58 #[.pointer (some ⟨b, 0, none⟩)] w fun e w' => e = .returned (.tuple #[]) ∧ w'.heap[b]? = some (.cells #[.pointer (some ⟨b, 0, none⟩), v] 55 (0, 0)) ∧ w'.heap.size = w.heap.size ∧ Stays w w' (fun k => k ≠ b) := by
  have hc0 : w.cell? ⟨b, 0, none⟩ = some p := by rw [Lib.cell_of_heap hbk]; rfl
  rcases hp with rfl | rfl
  · refine (Any.Builder_copyCheck_fresh bldLays bldX b w hc0 (by simp [World.shape?, hbk]; rfl) (by simp [World.frozen?, hbk])).mono ?_
    rintro e w' ⟨rfl, rfl⟩
    exact ⟨rfl, by simp [World.setCell, Array.getElem?_modify, hbk], by simp [World.setCell], rfl, rfl, rfl, by simp [World.setCell], fun k _ hk => Below.heap_setCell _ _ _ _ (fun e => hk (by simpa using e))⟩
  · refine (Any.Builder_copyCheck_used bldLays bldX b w hc0).mono ?_
    rintro e w' ⟨rfl, rfl⟩
    exact ⟨rfl, hbk, rfl, rfl, rfl, rfl, Nat.le_refl _, fun _ _ _ => rfl⟩

set_option maxHeartbeats 4000000 in
set_option maxRecDepth 100000 in
theorem bld_write (b : Nat) (p v : Value) (own : Option Nat) (xs : List Value) (s : ByteArray) (hp : p = .pointer none ∨ p = .pointer (some ⟨b, 0, none⟩)) (w : World) (hbk : w.heap[b]? = some (.cells #[p, v] 55 (0, 0)))
    (hbuf : BufAt w v own xs) (hne : own ≠ some b) (hlen : xs.length + s.size ≤ 140737488355328) :
    Calls Tryz.prog 23 #[.pointer (some ⟨b, 0, none⟩), .string s] w fun e w' => e = .returned (.tuple #[.int .i64 s.size, .nilIface]) ∧ ∃ v' own', w'.heap[b]? = some (.cells #[.pointer (some ⟨b, 0, none⟩), v'] 55 (0, 0)) ∧
      BufAt w' v' own' (xs ++ Lib.strCells s) ∧ own' ≠ some b ∧ (∀ g, own' = some g → own = some g ∨ w.heap.size ≤ g) ∧ Stays w w' (fun k => k ≠ b ∧ own ≠ some k) := by
  go_enter Tryz.func23, Tryz.ntmps23
  go_wp2_with (go_at_call 58; refine (bld_check b p v hp _ hbk).mono ?_)
  rintro e w1 ⟨rfl, hb1, hsz, hst⟩
  have hlt : b < w.heap.size := (Array.getElem?_eq_some_iff.1 hbk).1
  have hbuf1 : BufAt w1 v own xs := hbuf.kept fun g hg => by
    rcases hbuf with ⟨A, _, _, h⟩ | ⟨g', cap, cur, h1, h2, h3, _⟩
    · rw [h] at hg; cases hg
    · rw [hg] at h1
      cases h1
      exact hst.block g (Array.getElem?_eq_some_iff.1 h3).1 (fun e => hne (by rw [hg, e]))
  obtain ⟨v', w2, own', hr, hb2, hg2, hn2⟩ := run_app_str w1 53 hbuf1 s hlen
  have c0 : w1.cell? ⟨b, 0, none⟩ = some (.pointer (some ⟨b, 0, none⟩)) := by rw [Lib.cell_of_heap hb1]; rfl
  have c1 : w1.cell? ⟨b, 1, none⟩ = some v := by rw [Lib.cell_of_heap hb1]; rfl
  have hB2 : w2.heap[b]? = some (.cells #[.pointer (some ⟨b, 0, none⟩), v] 55 (0, 0)) := by
    rw [hg2.block b (by omega) (fun e => hne e.symm)]; exact hb1
  have d0 : w2.cell? ⟨b, 0, none⟩ = some (.pointer (some ⟨b, 0, none⟩)) := by rw [Lib.cell_of_heap hB2]; rfl
  have d1 : w2.cell? ⟨b, 1, none⟩ = some v := by rw [Lib.cell_of_heap hB2]; rfl
  have f1 : w2.frozen? ⟨b, 1, none⟩ = false := Lib.frozen_of_heap hB2 1
  have hne2 : own' ≠ some b := fun e => by
    rcases hn2 b e with h | h
    · exact hne h
    · omega
  obtain ⟨ao, n', cap, rfl⟩ : ∃ ao n' cap, v' = .slice ao n' cap := by
    rcases hb2 with ⟨A, h, _⟩ | ⟨g, cap, cur, _, h, _⟩
    · exact ⟨_, _, _, h⟩
    · exact ⟨_, _, _, h⟩
  go_wp2_with (at_builtin; refine Lib.wpList_append_run _ rfl _ _ _ _ rfl _ _ rfl rfl _ _ hr ?_)
  go_ret2
  have hS : ∀ k, k ≠ b → (w2.setCell ⟨b, 1, none⟩ (.slice ao n' cap)).heap[k]? = w2.heap[k]? := fun k hk => Below.heap_setCell _ _ _ _ (fun e => hk (by simpa using e))
  have hZ : (w2.setCell ⟨b, 1, none⟩ (.slice ao n' cap)).heap.size = w2.heap.size := by simp [World.setCell]
  refine ⟨rfl, .slice ao n' cap, own', ?_, hb2.kept fun g hg => hS g (fun e => hne2 (by rw [hg, e])), hne2, fun g hg => by have := hn2 g hg; rw [hsz] at this; exact this, ?_, ?_, ?_, ?_, ?_⟩
  · simp [World.setCell, Array.getElem?_modify, hB2]
  · exact hg2.os.trans hst.os
  · exact hg2.tape.trans hst.tape
  · exact hg2.output.trans hst.output
  · rw [hZ]; have := hg2.size; omega
  · rintro k hk ⟨k1, k2⟩
    rw [hS k k1, hg2.block k (by omega) (fun e => k2 e.symm)]
    exact hst.block k hk k1

theorem frz_block (w : World) (g n k : Nat) (h : k ≠ g) : (w.freeze ⟨g, 0, none⟩ n).heap[k]? = w.heap[k]? := by
  unfold World.freeze
  split
  · rfl
  · simp only [Array.getElem?_modify]
    rw [if_neg (fun e => h e.symm)]

theorem frz_stays (w : World) (g n : Nat) : Stays w (w.drew.freeze ⟨g, 0, none⟩ n) (fun k => k ≠ g) := by
  have h : ∀ k, k ≠ g → (w.drew.freeze ⟨g, 0, none⟩ n).heap[k]? = w.drew.heap[k]? := fun k hk => frz_block _ _ _ _ hk
  refine ⟨?_, ?_, ?_, ?_, fun k _ hk => h k hk⟩
  all_goals (unfold World.freeze; split <;> first | rfl | exact Nat.le_refl _ | (rw [Array.size_modify]; exact Nat.le_refl _))

set_option maxHeartbeats 4000000 in
set_option maxRecDepth 100000 in
theorem bld_string (b g cap : Nat) (p : Value) (cur : Array Value) (l : List UInt8) (w : World) (hbk : w.heap[b]? = some (.cells #[p, .slice (some ⟨g, 0, none⟩) l.length cap] 55 (0, 0)))
    (hg : w.heap[g]? = some (.cells cur 5 (0, 0))) (hle : l.length ≤ cap) (hcap : cap ≤ 9223372036854775807) (hcs : cur.size = cap) (ht : cur.toList.take l.length = Lib.byteCells l) (h0 : l ≠ []) :
    Calls Tryz.prog 28 #[.pointer (some ⟨b, 0, none⟩)] w fun e w' => e = .returned (.string ⟨l.toArray⟩) ∧ Stays w w' (fun k => k ≠ g) := by
  have hl0 : l.length ≠ 0 := by simpa using h0
  have c1 : w.drew.cell? ⟨b, 1, none⟩ = some (.slice (some ⟨g, 0, none⟩) l.length cap) := by
    have : w.drew.heap[b]? = some (.cells #[p, .slice (some ⟨g, 0, none⟩) l.length cap] 55 (0, 0)) := hbk
    rw [Lib.cell_of_heap this]; rfl
  have hSD : (Builtin.unsafeSliceData_ #[53] 92 #[.slice (some ⟨g, 0, none⟩) l.length cap]).run Tryz.prog w.drew = .ok (.pointer (some ⟨g, 0, none⟩)) w.drew :=
    Lib.run_unsafeSliceData_row _ _ _ _ _ _ (by omega)
  have hUS : (Builtin.unsafeString_ #[92, 3] 9 #[.pointer (some ⟨g, 0, none⟩), .int .i64 l.length]).run Tryz.prog w.drew = .ok (.string ⟨l.toArray⟩) (w.drew.freeze ⟨g, 0, none⟩ l.length) := by
    refine Lib.run_unsafeString_row w.drew _ _ _ 5 Tryz.underlying92 (by kernel_rfl) g cur.size (by have hg' : w.drew.heap[g]? = some (.cells cur 5 (0, 0)) := hg; simp [World.shape?, hg']) l h0 (by omega) (by omega) ?_
    intro j x hx
    have hj := (List.getElem?_eq_some_iff.1 hx).1
    have e : (cur.toList.take l.length)[j]? = some (.int .u8 x.toNat) := by rw [ht]; simp [Lib.byteCells, hx]
    rw [List.getElem?_take, if_pos hj] at e
    have hg' : w.drew.heap[g]? = some (.cells cur 5 (0, 0)) := hg
    rw [Addr.add_lit, Nat.zero_add]
    simp only [World.cell?, hg']
    simpa using e
  go_enter Tryz.func28, Tryz.ntmps28
  go_wp2
  go_region
  all_goals (go_wp2; go_ret; exact ⟨rfl, frz_stays w g l.length⟩)

set_option maxHeartbeats 4000000 in
set_option maxRecDepth 100000 in
theorem bld_string_nil (b : Nat) (p : Value) (w : World) (hbk : w.heap[b]? = some (.cells #[p, .slice none 0 0] 55 (0, 0))) :
    Calls Tryz.prog 28 #[.pointer (some ⟨b, 0, none⟩)] w fun e w' => e = .returned (.string ⟨#[]⟩) ∧ Stays w w' (fun _ => True) := by
  have hUS : ∀ W : World, (Builtin.unsafeString_ #[92, 3] 9 #[.pointer none, .int .i64 0]).run Tryz.prog W = .ok (.string .empty) W := fun W => Lib.run_unsafeString_none W _ _ _ _
  have c1 : w.drew.cell? ⟨b, 1, none⟩ = some (.slice none 0 0) := by
    have : w.drew.heap[b]? = some (.cells #[p, .slice none 0 0] 55 (0, 0)) := hbk
    rw [Lib.cell_of_heap this]; rfl
  have hSD : (Builtin.unsafeSliceData_ #[53] 92 #[.slice none 0 0]).run Tryz.prog w.drew = .ok (.pointer none) w.drew := rfl
  go_enter Tryz.func28, Tryz.ntmps28
  go_wp2
  go_region
  all_goals (go_wp2; go_ret; exact ⟨rfl, rfl, rfl, rfl, Nat.le_refl _, fun _ _ _ => rfl⟩)

def F.eU (b : UInt8) : M.Row := [.v (.int .u8 b.toNat)]

/-- The bytes of a string, as rows. -/
def F.eUs (s : ByteArray) : List M.Row := s.data.toList.map F.eU

/-- What a builder holds (none: it is fresh). -/
def F.bldS (o : Option ByteArray) : ByteArray := match o with
  | none => ⟨⟨[]⟩⟩
  | some s => s

def F.bldLen (o : Option ByteArray) : Nat := match o with
  | none => 0
  | some s => s.size

theorem F.bldS_some (s : ByteArray) : F.bldS (some s) = s := rfl

theorem F.bldLen_some (s : ByteArray) : F.bldLen (some s) = s.size := rfl


end Go.Proofs.YthcfbeckhgngiaaGreatDoor
