/- What is proved here: the contract of slices.Insert of one element (no statement of the seat). -/
import Derived.Shelf.Strings.Builder1
import Derived.Lib.AppendZeros
import Derived.Lib.Repeat
import Derived.Lib.ReplaceLaws
import Derived.WalkKit
import Derived.Lib.Walk
import Derived.Lib.SliceRun
import Derived.Lib.JoinLaws
import Derived.Lib.AppendZerosOnto
import Derived.Lib.Overlaps
import Derived.Laws.Externs
import Derived.Laws.CopyRow
import Derived.Laws.NewBlocks
import Derived.Deep.RegionLaw
import Derived.Test.YtbeobbjiogbdlaaGreatDoorE1X3

namespace Go.Proofs.YtbeobbjiogbdlaaGreatDoor
open Go Go.RowKit
set_option linter.unusedVariables false
set_option linter.unusedSimpArgs false
set_option maxHeartbeats 1000000

def bldRen : Go.Shelf.Ren := ⟨fun | 240 => 157 | 276 => 199 | n => n, fun | 0 => 0 | 4 => 4 | 9 => 9 | 20 => 20 | 37 => 26 | 70 => 160 | 72 => 162 | 164 => 257 | n => n, fun | n => n⟩

theorem bldLays : Go.Proofs.Lays.n240 Tryz.prog bldRen := {
 mixed := by kernel_rfl
 f240 := Tryz.func157.trans (congrArg some (by kernel_rfl))
 f276 := Tryz.func199.trans (congrArg some (by kernel_rfl))
 t0 := Tryz.underlying0
 a0 := Tryz.isAgg0
 z0 := Tryz.sizeOf0
 v0 := Tryz.zeroValue0
 t4 := Tryz.underlying4
 a4 := Tryz.isAgg4
 z4 := Tryz.sizeOf4
 v4 := Tryz.zeroValue4
 t9 := Tryz.underlying9
 a9 := Tryz.isAgg9
 z9 := Tryz.sizeOf9
 v9 := Tryz.zeroValue9
 t20 := Tryz.underlying20
 a20 := Tryz.isAgg20
 z20 := Tryz.sizeOf20
 v20 := Tryz.zeroValue20
 t70 := Tryz.underlying160
 a70 := Tryz.isAgg160
 z70 := Tryz.sizeOf160
 v70 := Tryz.zeroValue160
 t72 := Tryz.underlying162
 a72 := Tryz.isAgg162
 z72 := Tryz.sizeOf162
 v72 := Tryz.zeroValue162
 t164 := Tryz.underlying257
 a164 := Tryz.isAgg257
 z164 := Tryz.sizeOf257
 v164 := Tryz.zeroValue257 }

theorem bldX : Builder.X72 Tryz.prog bldRen := ⟨by kernel_rfl, by kernel_rfl⟩

structure Stays (w w' : World) (k : Nat → Prop) : Prop where
 os : w'.os = w.os
 tape : w'.tape = w.tape
 output : w'.output = w.output
 size : w.heap.size ≤ w'.heap.size
 block : ∀ b, b < w.heap.size → k b → w'.heap[b]? = w.heap[b]?

theorem bld_check (b : Nat) (p v : Value) (hp : p = .pointer none ∨ p = .pointer (some ⟨b, 0, none⟩)) (w : World) (hbk : w.heap[b]? = some (.cells #[p, v] 162 (0, 0))) :
  Calls Tryz.prog 157 #[.pointer (some ⟨b, 0, none⟩)] w fun e w' => e = .returned (.tuple #[]) ∧ w'.heap[b]? = some (.cells #[.pointer (some ⟨b, 0, none⟩), v] 162 (0, 0)) ∧ w'.heap.size = w.heap.size ∧ Stays w w' (fun k => k ≠ b) := by
 have hc0 : w.cell? ⟨b, 0, none⟩ = some p := by rw [Lib.cell_of_heap hbk]; rfl
 rcases hp with rfl | rfl
 ·refine (Any.Builder_copyCheck_fresh bldLays bldX b w hc0 (by simp [World.shape?, hbk]; rfl) (by simp [World.frozen?, hbk])).mono ?_
  rintro e w' ⟨rfl, rfl⟩
  exact ⟨rfl, by simp [World.setCell, Array.getElem?_modify, hbk], by simp [World.setCell], rfl, rfl, rfl, by simp [World.setCell], fun k _ hk => Below.heap_setCell _ _ _ _ (fun e => hk (by simpa using e))⟩
 ·refine (Any.Builder_copyCheck_used bldLays bldX b w hc0).mono ?_
  rintro e w' ⟨rfl, rfl⟩
  exact ⟨rfl, hbk, rfl, rfl, rfl, rfl, Nat.le_refl _, fun _ _ _ => rfl⟩

set_option maxHeartbeats 4000000 in
set_option maxRecDepth 100000 in
theorem bld_write (b : Nat) (p v : Value) (own : Option Nat) (xs : List Value) (s : ByteArray) (hp : p = .pointer none ∨ p = .pointer (some ⟨b, 0, none⟩)) (w : World) (hbk : w.heap[b]? = some (.cells #[p, v] 162 (0, 0)))
  (hbuf : BufAt w v own xs) (hne : own ≠ some b) (hlen : xs.length + s.size ≤ 140737488355328) :
  Calls Tryz.prog 99 #[.pointer (some ⟨b, 0, none⟩), .string s] w fun e w' => e = .returned (.tuple #[.int .i64 s.size, .nilIface]) ∧ ∃ v' own', w'.heap[b]? = some (.cells #[.pointer (some ⟨b, 0, none⟩), v'] 162 (0, 0)) ∧
   BufAt w' v' own' (xs ++ Lib.strCells s) ∧ own' ≠ some b ∧ (∀ g, own' = some g → own = some g ∨ w.heap.size ≤ g) ∧ Stays w w' (fun k => k ≠ b ∧ own ≠ some k) := by
 go_enter Tryz.func99, Tryz.ntmps99
 go_wp2_with (go_at_call 157; refine (bld_check b p v hp _ hbk).mono ?_)
 rintro e w1 ⟨rfl, hb1, hsz, hst⟩
 have hlt : b < w.heap.size := (Array.getElem?_eq_some_iff.1 hbk).1
 have hbuf1 : BufAt w1 v own xs := hbuf.kept fun g hg => by
  rcases hbuf with ⟨A, _, _, h⟩ | ⟨g', cap, cur, h1, h2, h3, _⟩
  ·rw [h] at hg; cases hg
  ·rw [hg] at h1
   cases h1
   exact hst.block g (Array.getElem?_eq_some_iff.1 h3).1 (fun e => hne (by rw [hg, e]))
 obtain ⟨v', w2, own', hr, hb2, hg2, hn2⟩ := run_app_str w1 26 hbuf1 s hlen
 have c0 : w1.cell? ⟨b, 0, none⟩ = some (.pointer (some ⟨b, 0, none⟩)) := by rw [Lib.cell_of_heap hb1]; rfl
 have c1 : w1.cell? ⟨b, 1, none⟩ = some v := by rw [Lib.cell_of_heap hb1]; rfl
 have hB2 : w2.heap[b]? = some (.cells #[.pointer (some ⟨b, 0, none⟩), v] 162 (0, 0)) := by
  rw [hg2.block b (by omega) (fun e => hne e.symm)]; exact hb1
 have d0 : w2.cell? ⟨b, 0, none⟩ = some (.pointer (some ⟨b, 0, none⟩)) := by rw [Lib.cell_of_heap hB2]; rfl
 have d1 : w2.cell? ⟨b, 1, none⟩ = some v := by rw [Lib.cell_of_heap hB2]; rfl
 have f1 : w2.frozen? ⟨b, 1, none⟩ = false := Lib.frozen_of_heap hB2 1
 have hne2 : own' ≠ some b := fun e => by
  rcases hn2 b e with h | h
  ·exact hne h
  ·omega
 obtain ⟨ao, n', cap, rfl⟩ : ∃ ao n' cap, v' = .slice ao n' cap := by
  rcases hb2 with ⟨A, h, _⟩ | ⟨g, cap, cur, _, h, _⟩
  ·exact ⟨_, _, _, h⟩
  ·exact ⟨_, _, _, h⟩
 go_wp2_with (at_builtin; refine Lib.wpList_append_run _ rfl _ _ _ _ rfl _ _ rfl rfl _ _ hr ?_)
 go_ret2
 have hS : ∀ k, k ≠ b → (w2.setCell ⟨b, 1, none⟩ (.slice ao n' cap)).heap[k]? = w2.heap[k]? := fun k hk => Below.heap_setCell _ _ _ _ (fun e => hk (by simpa using e))
 have hZ : (w2.setCell ⟨b, 1, none⟩ (.slice ao n' cap)).heap.size = w2.heap.size := by simp [World.setCell]
 refine ⟨rfl, .slice ao n' cap, own', ?_, hb2.kept fun g hg => hS g (fun e => hne2 (by rw [hg, e])), hne2, fun g hg => by have := hn2 g hg; rw [hsz] at this; exact this, ?_, ?_, ?_, ?_, ?_⟩
 ·simp [World.setCell, Array.getElem?_modify, hB2]
 ·exact hg2.os.trans hst.os
 ·exact hg2.tape.trans hst.tape
 ·exact hg2.output.trans hst.output
 ·rw [hZ]; have := hg2.size; omega
 ·rintro k hk ⟨k1, k2⟩
  rw [hS k k1, hg2.block k (by omega) (fun e => k2 e.symm)]
  exact hst.block k hk k1

theorem frz_block (w : World) (g n k : Nat) (h : k ≠ g) : (w.freeze ⟨g, 0, none⟩ n).heap[k]? = w.heap[k]? := by
 unfold World.freeze
 split
 ·rfl
 ·simp only [Array.getElem?_modify]
  rw [if_neg (fun e => h e.symm)]

theorem frz_stays (w : World) (g n : Nat) : Stays w (w.drew.freeze ⟨g, 0, none⟩ n) (fun k => k ≠ g) := by
 have h : ∀ k, k ≠ g → (w.drew.freeze ⟨g, 0, none⟩ n).heap[k]? = w.drew.heap[k]? := fun k hk => frz_block _ _ _ _ hk
 refine ⟨?_, ?_, ?_, ?_, fun k _ hk => h k hk⟩
 all_goals (unfold World.freeze; split <;> first | rfl | exact Nat.le_refl _ | (rw [Array.size_modify]; exact Nat.le_refl _))

set_option maxHeartbeats 4000000 in
set_option maxRecDepth 100000 in
theorem bld_string (b g cap : Nat) (p : Value) (cur : Array Value) (l : List UInt8) (w : World) (hbk : w.heap[b]? = some (.cells #[p, .slice (some ⟨g, 0, none⟩) l.length cap] 162 (0, 0)))
  (hg : w.heap[g]? = some (.cells cur 5 (0, 0))) (hle : l.length ≤ cap) (hcap : cap ≤ 9223372036854775807) (hcs : cur.size = cap) (ht : cur.toList.take l.length = Lib.byteCells l) (h0 : l ≠ []) :
  Calls Tryz.prog 103 #[.pointer (some ⟨b, 0, none⟩)] w fun e w' => e = .returned (.string ⟨l.toArray⟩) ∧ Stays w w' (fun k => k ≠ g) := by
 have hl0 : l.length ≠ 0 := by simpa using h0
 have c1 : w.drew.cell? ⟨b, 1, none⟩ = some (.slice (some ⟨g, 0, none⟩) l.length cap) := by
  have : w.drew.heap[b]? = some (.cells #[p, .slice (some ⟨g, 0, none⟩) l.length cap] 162 (0, 0)) := hbk
  rw [Lib.cell_of_heap this]; rfl
 have hSD : (Builtin.unsafeSliceData_ #[26] 224 #[.slice (some ⟨g, 0, none⟩) l.length cap]).run Tryz.prog w.drew = .ok (.pointer (some ⟨g, 0, none⟩)) w.drew :=
  Lib.run_unsafeSliceData_row _ _ _ _ _ _ (by omega)
 have hUS : (Builtin.unsafeString_ #[224, 3] 9 #[.pointer (some ⟨g, 0, none⟩), .int .i64 l.length]).run Tryz.prog w.drew = .ok (.string ⟨l.toArray⟩) (w.drew.freeze ⟨g, 0, none⟩ l.length) := by
  refine Lib.run_unsafeString_row w.drew _ _ _ 5 Tryz.underlying224 (by kernel_rfl) g cur.size (by have hg' : w.drew.heap[g]? = some (.cells cur 5 (0, 0)) := hg; simp [World.shape?, hg']) l h0 (by omega) (by omega) ?_
  intro j x hx
  have hj := (List.getElem?_eq_some_iff.1 hx).1
  have e : (cur.toList.take l.length)[j]? = some (.int .u8 x.toNat) := by rw [ht]; simp [Lib.byteCells, hx]
  rw [List.getElem?_take, if_pos hj] at e
  have hg' : w.drew.heap[g]? = some (.cells cur 5 (0, 0)) := hg
  rw [Addr.add_lit, Nat.zero_add]
  simp only [World.cell?, hg']
  simpa using e
 go_enter Tryz.func103, Tryz.ntmps103
 go_wp2
 go_region
 all_goals (go_wp2; go_ret; exact ⟨rfl, frz_stays w g l.length⟩)

set_option maxHeartbeats 4000000 in
set_option maxRecDepth 100000 in
theorem bld_string_nil (b : Nat) (p : Value) (w : World) (hbk : w.heap[b]? = some (.cells #[p, .slice none 0 0] 162 (0, 0))) :
  Calls Tryz.prog 103 #[.pointer (some ⟨b, 0, none⟩)] w fun e w' => e = .returned (.string ⟨#[]⟩) ∧ Stays w w' (fun _ => True) := by
 have hUS : ∀ W : World, (Builtin.unsafeString_ #[224, 3] 9 #[.pointer none, .int .i64 0]).run Tryz.prog W = .ok (.string .empty) W := fun W => Lib.run_unsafeString_none W _ _ _ _
 have c1 : w.drew.cell? ⟨b, 1, none⟩ = some (.slice none 0 0) := by
  have : w.drew.heap[b]? = some (.cells #[p, .slice none 0 0] 162 (0, 0)) := hbk
  rw [Lib.cell_of_heap this]; rfl
 have hSD : (Builtin.unsafeSliceData_ #[26] 224 #[.slice none 0 0]).run Tryz.prog w.drew = .ok (.pointer none) w.drew := rfl
 go_enter Tryz.func103, Tryz.ntmps103
 go_wp2
 go_region
 all_goals (go_wp2; go_ret; exact ⟨rfl, rfl, rfl, rfl, Nat.le_refl _, fun _ _ _ => rfl⟩)

def F.eU (b : UInt8) : M.Row := [.v (.int .u8 b.toNat)]

def F.eUs (s : ByteArray) : List M.Row := s.data.toList.map F.eU

def F.bldS (o : Option ByteArray) : ByteArray := match o with
 | none => ⟨⟨[]⟩⟩
 | some s => s

def F.bldLen (o : Option ByteArray) : Nat := match o with
 | none => 0
 | some s => s.size

theorem F.bldS_some (s : ByteArray) : F.bldS (some s) = s := rfl

def F.wstB (o : Option ByteArray) (x : ByteArray) : Bool := decide (F.bldLen o + x.size ≤ 140737488355328)

def F.bstB (o : Option ByteArray) : Bool := o.isNone || decide (0 < (F.bldS o).size)

theorem F.wstB_eq (s x : ByteArray) : F.wstB (some s) x = decide (s.size + x.size ≤ 140737488355328) := rfl

theorem F.bstB_eq (s : ByteArray) : F.bstB (some s) = decide (0 < s.size) := rfl

namespace M

theorem eU_inj (a b : UInt8) (h : F.eU a = F.eU b) : a = b := by
 simp only [F.eU, List.cons.injEq, AV.v.injEq, Value.int.injEq, true_and, and_true] at h
 exact UInt8.toNat_inj.1 (by omega)

theorem eUs_inj {a b : ByteArray} : F.eUs a = F.eUs b ↔ a = b := by
 unfold F.eUs
 rw [List.map_inj_right eU_inj]
 exact ⟨fun h => ByteArray.ext (Array.ext' h), fun h => by rw [h]⟩

theorem eUs_len (s : ByteArray) : (F.eUs s).length = s.size := by
 unfold F.eUs
 rw [List.length_map]
 simp

theorem strCells_app (s x : ByteArray) : Lib.strCells (s ++ x) = Lib.strCells s ++ Lib.strCells x := by
 unfold Lib.strCells
 simp

def bldIn (o : Option ByteArray) : Heap := match o with
 | none => [(900, ⟨true, 162, 0, [[.v (.pointer none), .v (.slice none 0 0)]]⟩)]
 | some s => [(901, ⟨false, 5, 1, F.eUs s⟩), (900, ⟨true, 162, 0, [[.ptr 900 0 0, .own 901]]⟩)]

def bldB (X Y : BI) (kY : Nat) : Nat → Option BI := fun k => if k = 900 then some X else if k = kY then some Y else none

theorem bldB_x (X Y : BI) (kY : Nat) : bldB X Y kY 900 = some X := by unfold bldB; rw [if_pos rfl]

theorem bldB_y (X Y : BI) {kY : Nat} (h : kY ≠ 900) : bldB X Y kY kY = some Y := by unfold bldB; rw [if_neg h, if_pos rfl]

theorem bldB_some {X Y : BI} {kY k : Nat} {x : BI} (h : bldB X Y kY k = some x) : (k = 900 ∧ x = X) ∨ (k = kY ∧ k ≠ 900 ∧ x = Y) := by
 unfold bldB at h
 split at h
 ·cases h; exact .inl ⟨‹_›, rfl⟩
 ·split at h
  ·cases h; exact .inr ⟨‹_›, ‹_›, rfl⟩
  ·cases h

theorem arr2 {cs : Array Value} {a b : Value} (h : cs.size = 2) (h0 : cs[0]? = some a) (h1 : cs[1]? = some b) : cs = #[a, b] := by
 refine Array.ext (by simpa using h) fun i hi hj => ?_
 have hi2 : i = 0 ∨ i = 1 := by omega
 rcases hi2 with rfl | rfl
 ·have := (Array.getElem?_eq_some_iff.1 h0).2
  simpa using this
 ·have := (Array.getElem?_eq_some_iff.1 h1).2
  simpa using this

theorem bld_inv {G : Nat → Option GR} {w w' : World} {S : Nat → Prop} {β : Nat → Option BI} {hin hout : Heap} (inv : InvG G (ownFree w β) w S β hin) {X Y : BI} {kY : Nat} (hk : kY ≠ 900) (hX : β 900 = some X) (hXr : X.real = true)
  {P : Nat → Prop} (st : Stays w w' P) (hP : ∀ b, b < w.heap.size → (∀ k x, β k = some x → x.real = true → x.b ≠ b) → P b)
  (hY : Y.real = true → Y.b < w'.heap.size ∧ Y.b ≠ X.b ∧ ((∃ k y, β k = some y ∧ y.real = true ∧ y.b = Y.b) ∨ w.heap.size ≤ Y.b))
  {bX bY : Blk} (hbX : BlkOK w' S (bldB X Y kY) bX X) (hbY : Y.real = true → BlkOK w' S (bldB X Y kY) bY Y) (hbV : Y.real = false → bY.rows = [] ∧ bY.box = false)
  (h900 : mget hout 900 = some bX) (hkY : mget hout kY = some bY) (honly : ∀ k bl, mget hout k = some bl → k = 900 ∨ k = kY) (hxV : X.real = false → bX.rows = [] ∧ bX.box = false) :
  Blw (ownFree w β) w w' ∧ InvG G (ownFree w β) w' S (bldB X Y kY) hout := by
 obtain ⟨x1, x2, x3⟩ := inv.new 900 X hX hXr
 have hSb : ∀ b, S b → w'.heap[b]? = w.heap[b]? := fun b hb => st.block b (inv.lt b hb) (hP b (inv.lt b hb) fun k x hkx hxr e => (inv.new k x hkx hxr).2.2 (e ▸ hb))
 have hBb : ∀ b, ownFree w β b → w'.heap[b]? = w.heap[b]? := fun b hb => st.block b hb.1 (hP b hb.1 fun k x hkx hxr e => hb.2 ⟨k, x, hkx, hxr, e⟩)
 have hYn : Y.real = true → ¬ ownFree w β Y.b ∧ Y.b < w'.heap.size ∧ ¬ S Y.b := fun hr => by
  obtain ⟨y1, y2, y3⟩ := hY hr
  rcases y3 with ⟨k, y, k1, k2, k3⟩ | hge
  ·obtain ⟨n1, n2, n3⟩ := inv.new k y k1 k2
   rw [← k3]
   exact ⟨n1, by rw [k3]; exact y1, n3⟩
  ·exact ⟨fun h => by have := h.1; omega, y1, fun h => by have := inv.lt _ h; omega⟩
 refine ⟨⟨st.os, st.tape, st.output, st.size, hBb⟩, fun b hb => Nat.lt_of_lt_of_le (inv.base b hb) st.size, fun b hb => Nat.lt_of_lt_of_le (inv.lt b hb) st.size, ?_, ?_, ?_, ?_, fun g r hg => (inv.glob g r hg).mono hSb fun _ h => h⟩
 ·intro k k' x x' h1 h2 r1 r2 e
  rcases bldB_some h1 with ⟨rfl, rfl⟩ | ⟨rfl, _, rfl⟩ <;> rcases bldB_some h2 with ⟨rfl, rfl⟩ | ⟨rfl, _, rfl⟩
  ·rfl
  ·exact absurd e.symm (hY r2).2.1
  ·exact absurd e (hY r1).2.1
  ·rfl
 ·intro k x h1 r1
  rcases bldB_some h1 with ⟨rfl, rfl⟩ | ⟨rfl, _, rfl⟩
  ·exact ⟨x1, Nat.lt_of_lt_of_le x2 st.size, x3⟩
  ·exact hYn r1
 ·intro k x h1
  rcases bldB_some h1 with ⟨rfl, rfl⟩ | ⟨rfl, _, rfl⟩
  ·exact ⟨bX, h900, fun _ => hbX, hxV⟩
  ·exact ⟨bY, hkY, hbY, hbV⟩
 ·intro k bl h1
  rcases honly k bl h1 with rfl | rfl
  ·exact ⟨X, bldB_x _ _ _⟩
  ·exact ⟨Y, bldB_y _ _ hk⟩

theorem buf_blk {w : World} {v : Value} {own : Option Nat} {s : ByteArray} (h : BufAt w v own (Lib.strCells s)) :
  ∃ Y : BI, (Y.real = true → own = some Y.b ∧ v = .slice (some ⟨Y.b, 0, none⟩) Y.len Y.cap ∧ Y.b < w.heap.size ∧ ∀ S β, BlkOK w S β ⟨false, 5, 1, F.eUs s⟩ Y) ∧ (Y.real = false → F.eUs s = [] ∧ own = none ∧ ∃ A, v = .slice A 0 0) := by
 have hl := strCells_len s
 rcases h with ⟨A, rfl, h1, rfl⟩ | ⟨g, cap, cur, rfl, rfl, hg, hnc, hcm, hcs, ht⟩
 ·refine ⟨⟨false, 0, 0, 0, 0⟩, fun h => (by cases h), fun _ => ⟨?_, rfl, A, rfl⟩⟩
  refine List.eq_nil_of_length_eq_zero ?_
  rw [eUs_len, ← hl, h1]; rfl
 ·refine ⟨⟨true, g, s.size, cap, 1⟩, fun _ => ⟨rfl, by rw [hl], (Array.getElem?_eq_some_iff.1 hg).1, fun S β => ?_⟩, fun h => (by cases h)⟩
  refine ⟨cur, 5, hg, by simp only [Nat.mul_one]; exact hcs, eUs_len s, by simp only; omega, hcm, fun _ => ⟨rfl, rfl⟩, (fun h => by cases h), fun i row hi => ?_⟩
  simp only [F.eUs, List.getElem?_map, Option.map_eq_some_iff] at hi
  obtain ⟨b, hb, rfl⟩ := hi
  refine ⟨rfl, fun j a hj => ?_⟩
  have hj0 : j = 0 := by
   have := (List.getElem?_eq_some_iff.1 hj).1
   simp only [F.eU, List.length_singleton] at this; omega
  subst hj0
  simp only [F.eU, List.getElem?_cons_zero, Option.some.injEq] at hj
  subst hj
  have hi2 : (Lib.strCells s)[i]? = some (.int .u8 b.toNat) := by
   unfold Lib.strCells
   rw [List.getElem?_map, hb]; rfl
  have hil := (List.getElem?_eq_some_iff.1 hi2).1
  rw [← ht, List.getElem?_take, if_pos hil] at hi2
  refine ⟨.int .u8 b.toNat, by simpa using hi2, ?_⟩
  have hlt := b.toNat_lt
  have hok : okAtom (.int .u8 b.toNat) := by
   show IntKind.u8.min ≤ _ ∧ _ ≤ IntKind.u8.max
   simp only [IntKind.min, IntKind.max, IntKind.signed, IntKind.bits]
   simp
   omega
  simpa using R0.v (w := w) (S := S) hok

theorem blk_buf {w : World} {S : Nat → Prop} {β : Nat → Option BI} {s : ByteArray} {Z : BI} (h : BlkOK w S β ⟨false, 5, 1, F.eUs s⟩ Z) : BufAt w (.slice (some ⟨Z.b, 0, none⟩) Z.len Z.cap) (some Z.b) (Lib.strCells s) := by
 obtain ⟨cs, ty, c1, c2, c3, c4, c5, c6, c7, c8⟩ := h
 obtain ⟨c61, c62⟩ := c6 rfl
 have hl := strCells_len s
 simp only at c61 c62 c3
 rw [eUs_len] at c3
 rw [c61] at c1
 refine .inr ⟨Z.b, Z.cap, cs, rfl, by rw [hl, c3], c1, by omega, c5, by rw [c2, c62]; simp, ?_⟩
 refine List.ext_getElem? fun i => ?_
 rw [List.getElem?_take]
 split
 ·rename_i hi
  have hi2 : i < s.data.toList.length := by rw [hl] at hi; simpa using hi
  have hb : s.data.toList[i]? = some s.data.toList[i] := List.getElem?_eq_getElem hi2
  generalize s.data.toList[i] = b at hb
  obtain ⟨_, c9⟩ := c8 i (F.eU b) (by simp only [F.eUs, List.getElem?_map, hb]; rfl)
  obtain ⟨v, hv, hr⟩ := c9 0 (vU b.toNat) rfl
  rw [c62] at hv
  have hr : R0 w S (vU b.toNat) v := by simpa using hr
  cases hr
  unfold Lib.strCells
  rw [List.getElem?_map, hb]
  simpa using hv
 ·rename_i hi
  rw [List.getElem?_eq_none (by omega)]

theorem box_blk {w : World} {S : Nat → Prop} {X Y : BI} {kY : Nat} (hk : kY ≠ 900) {v : Value} (hXr : X.real = true) (h : w.heap[X.b]? = some (.cells #[.pointer (some ⟨X.b, 0, none⟩), v] 162 (0, 0))) (hXs : X.size = 2) (hXl : X.len = 1) (hXc : X.cap = 1)
  (hv1 : Y.real = true → v = .slice (some ⟨Y.b, 0, none⟩) Y.len Y.cap) (hv2 : Y.real = false → ∃ A, v = .slice A 0 0) : BlkOK w S (bldB X Y kY) ⟨true, 162, 0, [[.ptr 900 0 0, .own kY]]⟩ X := by
 refine ⟨_, _, h, by rw [hXs, hXc]; rfl, hXl.symm, by omega, by omega, (fun h => by cases h), fun _ => ⟨fun _ => hXc, fun h => absurd rfl h, .inr rfl⟩, fun i row hi => ?_⟩
 have hi0 : i = 0 := by
  have := (List.getElem?_eq_some_iff.1 hi).1
  simp at this; exact this
 subst hi0
 cases hi
 refine ⟨hXs.symm, fun j a hj => ?_⟩
 have hj2 : j < 2 := (List.getElem?_eq_some_iff.1 hj).1
 have hj3 : j = 0 ∨ j = 1 := by omega
 rcases hj3 with rfl | rfl
 ·cases hj
  exact ⟨.pointer (some ⟨X.b, 0, none⟩), by rw [Nat.zero_mul]; rfl, X, bldB_x _ _ _, hXr, by simp⟩
 ·cases hj
  exact ⟨v, by rw [Nat.zero_mul]; rfl, Y, bldB_y _ _ hk, hv1, hv2⟩

theorem bld_open {G : Nat → Option GR} {w : World} {S : Nat → Prop} {β : Nat → Option BI} {o : Option ByteArray} {u : Value} (inv : InvG G (ownFree w β) w S β (bldIn o)) (h : RV w S β (.ptr 900 0 0) u) :
  ∃ X p v own xs, β 900 = some X ∧ X.real = true ∧ X.size = 2 ∧ X.len = 1 ∧ X.cap = 1 ∧ u = .pointer (some ⟨X.b, 0, none⟩) ∧ (p = .pointer none ∨ p = .pointer (some ⟨X.b, 0, none⟩)) ∧ w.heap[X.b]? = some (.cells #[p, v] 162 (0, 0)) ∧
   BufAt w v own xs ∧ own ≠ some X.b ∧ (match o with | none => xs = [] ∧ own = none | some s => xs = Lib.strCells s) ∧ (∀ g, own = some g → ∃ k y, β k = some y ∧ y.real = true ∧ y.b = g) ∧ X.b < w.heap.size := by
 obtain ⟨X, hX, hXr, rfl⟩ : ∃ x, β 900 = some x ∧ x.real = true ∧ u = .pointer (some ⟨x.b, 0 * x.size + 0, none⟩) := h
 obtain ⟨bl, hb, h3, _⟩ := inv.dom 900 X hX
 obtain ⟨cs, ty, c1, c2, c3, c4, c5, c6, c7, c8⟩ := h3 hXr
 have hT : (162 : Nat) ≠ 0 := by decide
 cases o with
 | none =>
  have hb0 : some (⟨true, 162, 0, [[.v (.pointer none), .v (.slice none 0 0)]]⟩ : Blk) = some bl := hb
  cases hb0
  obtain ⟨d1, _, d2⟩ := c7 rfl
  have d1 := d1 rfl
  have d2 : ty = 162 := d2.resolve_left hT
  obtain ⟨e1, e2⟩ := c8 0 _ rfl
  have e1 : X.size = 2 := e1.symm
  obtain ⟨v0, f0, g0⟩ := e2 0 _ rfl
  obtain ⟨v1, f1, g1⟩ := e2 1 _ rfl
  have g0 : R0 w S (.v (.pointer none)) v0 := g0
  cases g0
  have g1 : R0 w S (.v (.slice none 0 0)) v1 := g1
  cases g1
  rw [Nat.zero_mul] at f0 f1
  have hcs := arr2 (by rw [c2, d1, e1]) f0 f1
  rw [hcs, d2] at c1
  exact ⟨X, _, _, none, [], hX, hXr, e1, c3.symm, d1, by simp, .inl rfl, c1, .inl ⟨none, rfl, rfl, rfl⟩, (by simp), ⟨rfl, rfl⟩, (fun g h => by cases h), (inv.new 900 X hX hXr).2.1⟩
 | some s =>
  have hb0 : some (⟨true, 162, 0, [[.ptr 900 0 0, .own 901]]⟩ : Blk) = some bl := hb
  cases hb0
  obtain ⟨d1, _, d2⟩ := c7 rfl
  have d1 := d1 rfl
  have d2 : ty = 162 := d2.resolve_left hT
  obtain ⟨e1, e2⟩ := c8 0 _ rfl
  have e1 : X.size = 2 := e1.symm
  obtain ⟨v0, f0, g0⟩ := e2 0 _ rfl
  obtain ⟨v1, f1, g1⟩ := e2 1 _ rfl
  obtain ⟨X', hX', _, rfl⟩ : ∃ x, β 900 = some x ∧ x.real = true ∧ v0 = .pointer (some ⟨x.b, 0 * x.size + 0, none⟩) := g0
  rw [hX] at hX'
  cases hX'
  obtain ⟨Z, hZ, z1, z2⟩ : ∃ x, β 901 = some x ∧ (x.real = true → v1 = .slice (some ⟨x.b, 0, none⟩) x.len x.cap) ∧ (x.real = false → ∃ A, v1 = .slice A 0 0) := g1
  rw [Nat.zero_mul] at f0 f1
  have hcs := arr2 (by rw [c2, d1, e1]) f0 f1
  rw [hcs, d2] at c1
  obtain ⟨bl2, hb2, h4, h5⟩ := inv.dom 901 Z hZ
  have hb3 : some (⟨false, 5, 1, F.eUs s⟩ : Blk) = some bl2 := hb2
  cases hb3
  cases hr : Z.real
  ·obtain ⟨A, rfl⟩ := z2 hr
   have h6 : F.eUs s = [] := (h5 hr).1
   have h7 : Lib.strCells s = [] := List.eq_nil_of_length_eq_zero (by rw [strCells_len, ← eUs_len, h6]; rfl)
   exact ⟨X, _, _, none, _, hX, hXr, e1, c3.symm, d1, by simp, .inr (by simp), c1, .inl ⟨A, rfl, h7, rfl⟩, (by simp), rfl, (fun g h => by cases h), (inv.new 900 X hX hXr).2.1⟩
  ·have hne : Z.b ≠ X.b := fun e => by
    have := inv.inj 901 900 Z X hZ hX hr hXr e
    omega
   rw [z1 hr] at c1
   exact ⟨X, _, _, some Z.b, _, hX, hXr, e1, c3.symm, d1, by simp, .inr (by simp), c1, blk_buf (h4 hr), (by simpa using hne), rfl, (fun g h => ⟨901, Z, hZ, hr, by cases h; rfl⟩), (inv.new 900 X hX hXr).2.1⟩

def encWst (a : Option ByteArray × ByteArray) : List AV × Heap := ([.ptr 900 0 0, vS a.2], bldIn a.1)

theorem encWst_inj (a a' : Option ByteArray × ByteArray) (h : encWst a = encWst a') : a = a' := by
 obtain ⟨o, x⟩ := a
 obtain ⟨o', x'⟩ := a'
 unfold encWst at h
 simp only [Prod.mk.injEq, List.cons.injEq, AV.v.injEq, Value.string.injEq, true_and, and_true] at h
 obtain ⟨rfl, h⟩ := h
 cases o with
 | none => cases o' with
  | none => rfl
  | some s => simp [bldIn] at h
 | some s => cases o' with
  | none => simp [bldIn] at h
  | some s' =>
   simp only [bldIn, List.cons.injEq, Prod.mk.injEq, Blk.mk.injEq, true_and, and_true] at h
   rw [eUs_inj.1 h]

theorem unWst (x : ByteArray) : unenc encWst (([.ptr 900 0 0, (vS x)], [(900, Blk.mk true 162 0 [[AV.v (Value.pointer none), AV.v (Value.slice none (0 : Nat) (0 : Nat))]])])) = some (none, x) := unenc_of encWst_inj (none, x) rfl

theorem unWstU (s : ByteArray) (x : ByteArray) : unenc encWst (([.ptr 900 0 0, (vS x)], [(901, Blk.mk false 5 1 (F.eUs s)), (900, Blk.mk true 162 0 [[.ptr 900 0 0, .own 901]])])) = some (some s, x) := unenc_of encWst_inj (some s, x) rfl

def preWst1 (o : Option ByteArray) (x : ByteArray) : Bool := F.wstB o x

def resWst (a : Option ByteArray × ByteArray) : T (AV × Heap × List Nat) := .ifB a.1.isNone
 (.ret (.tup [vI a.2.size, .v .nilIface], [(900, ⟨true, 162, 0, [[.ptr 900 0 0, .own 0]]⟩), (0, ⟨false, 5, 1, F.eUs a.2⟩)], []))
 (.ret (.tup [vI a.2.size, .v .nilIface], [(901, ⟨false, 5, 1, F.eUs (F.bldS a.1 ++ a.2)⟩), (900, ⟨true, 162, 0, [[.ptr 900 0 0, .own 901]]⟩)], [901]))

noncomputable def oWst : OrcH := orcT 99 encWst (fun a => preWst1 a.1 a.2) resWst

theorem okWst : OrcHOK Tryz.prog noG oWst := by
 refine orcT_ok ⟨Tryz.f99, by kernel_rfl, by kernel_rfl, by kernel_rfl⟩ (fun a r hp hk1 hk2 hr => ?_)
 obtain ⟨o, x⟩ := a
 have hp : decide (F.bldLen o + x.size ≤ 140737488355328) = true := hp
 have hp : F.bldLen o + x.size ≤ 140737488355328 := of_decide_eq_true hp
 have hx : x.size ≤ 9223372036854775807 := okA_v (hk1 (vS x) (by simp [encWst]))
 intro w S β cargs inv hargs
 match cargs, hargs with
 | [u, vx], ⟨h1, h2, _⟩ =>
  have hvx : vx = .string x := (rv_v h2).1
  subst hvx
  obtain ⟨X, p, v, own, xs, hX, hXr, hXs, hXl, hXc, rfl, hp2, hbk, hbuf, hne, ho, hown, hlt⟩ := bld_open (o := o) inv h1
  have hlen : xs.length + x.size ≤ 140737488355328 := by
   cases o with
   | none => rw [ho.1]; simpa [F.bldLen] using hp
   | some s => rw [show xs = Lib.strCells s from ho, strCells_len]; exact hp
  refine (bld_write X.b p v own xs x hp2 w hbk hbuf hne hlen).mono ?_
  rintro e w' ⟨rfl, v', own', k1, k2, k3, k4, k5⟩
  have hP : ∀ b, b < w.heap.size → (∀ k x, β k = some x → x.real = true → x.b ≠ b) → b ≠ X.b ∧ own ≠ some b := fun b _ hb => ⟨fun e => hb 900 X hX hXr e.symm, fun e => by
   obtain ⟨k, y, y1, y2, y3⟩ := hown b e
   exact hb k y y1 y2 y3⟩
  have ret : RV w' S (fun _ => none) (.tup [vI x.size, .v .nilIface]) (.tuple #[.int .i64 x.size, .nilIface]) := by
   refine ⟨[.int .i64 x.size, .nilIface], rfl, ?_, ?_, trivial⟩
   ·have hok : okAtom (.int .i64 (x.size : Int)) := by
     show IntKind.i64.min ≤ _ ∧ _ ≤ IntKind.i64.max
     simp only [IntKind.min, IntKind.max, IntKind.signed, IntKind.bits]
     simp
     omega
    exact R0.v (w := w') (S := S) hok
   ·exact R0.v (w := w') (S := S) (x := .nilIface) trivial
  cases o with
  | none =>
   have hr : (.tup [vI x.size, .v .nilIface], [(900, ⟨true, 162, 0, [[.ptr 900 0 0, .own 0]]⟩), (0, ⟨false, 5, 1, F.eUs x⟩)], []) = r := Option.some.inj hr
   subst hr
   rw [ho.1, List.nil_append] at k2
   obtain ⟨Y, y1, y2⟩ := buf_blk k2
   obtain ⟨f1, f2⟩ := bld_inv inv (kY := 0) (by omega) hX hXr k5 hP (Y := Y) (fun hr => by
     obtain ⟨z1, z2, z3, z4⟩ := y1 hr
     refine ⟨z3, fun e => k3 (by rw [z1, e]), ?_⟩
     rcases k4 _ z1 with h | h
     ·exact .inl (hown _ h)
     ·exact .inr h)
    (box_blk (by omega) hXr k1 hXs hXl hXc (fun hr => (y1 hr).2.1) (fun hr => (y2 hr).2.2)) (fun hr => (y1 hr).2.2.2 _ _) (fun hr => ⟨(y2 hr).1, rfl⟩)
    (hout := [(900, ⟨true, 162, 0, [[.ptr 900 0 0, .own 0]]⟩), (0, ⟨false, 5, 1, F.eUs x⟩)]) rfl rfl (fun k bl hk => by
     simp only [mget] at hk
     split at hk
     ·rename_i h; exact .inl (beq_true.1 h)
     ·split at hk
      ·rename_i h; exact .inr (beq_true.1 h)
      ·cases hk) (fun h => by rw [hXr] at h; cases h)
   refine ⟨_, S, _, rfl, f1, fun _ h => h, fun _ h => .inl h, f2, fun k y hk _ hy => ?_, ret.mono (fun _ _ => rfl) (fun _ h => h) fun k _ x hx => (by cases hx)⟩
   rcases bldB_some hy with ⟨rfl, rfl⟩ | ⟨rfl, _, rfl⟩
   ·exact hX
   ·exact absurd hk (by simp [inK])
  | some s =>
   have hr : (.tup [vI x.size, .v .nilIface], [(901, ⟨false, 5, 1, F.eUs (s ++ x)⟩), (900, ⟨true, 162, 0, [[.ptr 900 0 0, .own 901]]⟩)], [901]) = r := Option.some.inj hr
   subst hr
   rw [show xs = Lib.strCells s from ho, ← strCells_app] at k2
   obtain ⟨Y, y1, y2⟩ := buf_blk k2
   obtain ⟨f1, f2⟩ := bld_inv inv (kY := 901) (by omega) hX hXr k5 hP (Y := Y) (fun hr => by
     obtain ⟨z1, z2, z3, z4⟩ := y1 hr
     refine ⟨z3, fun e => k3 (by rw [z1, e]), ?_⟩
     rcases k4 _ z1 with h | h
     ·exact .inl (hown _ h)
     ·exact .inr h)
    (box_blk (by omega) hXr k1 hXs hXl hXc (fun hr => (y1 hr).2.1) (fun hr => (y2 hr).2.2)) (fun hr => (y1 hr).2.2.2 _ _) (fun hr => ⟨(y2 hr).1, rfl⟩)
    (hout := [(901, ⟨false, 5, 1, F.eUs (s ++ x)⟩), (900, ⟨true, 162, 0, [[.ptr 900 0 0, .own 901]]⟩)]) rfl rfl (fun k bl hk => by
     simp only [mget] at hk
     split at hk
     ·rename_i h; exact .inr (beq_true.1 h)
     ·split at hk
      ·rename_i h; exact .inl (beq_true.1 h)
      ·cases hk) (fun h => by rw [hXr] at h; cases h)
   refine ⟨_, S, _, rfl, f1, fun _ h => h, fun _ h => .inl h, f2, fun k y hk hm hy => ?_, ret.mono (fun _ _ => rfl) (fun _ h => h) fun k _ x hx => (by cases hx)⟩
   rcases bldB_some hy with ⟨rfl, rfl⟩ | ⟨rfl, _, rfl⟩
   ·exact hX
   ·exact absurd (List.mem_singleton.2 rfl) hm

theorem okBstU (s : ByteArray) (hp : decide (0 < s.size) = true) : SpecH Tryz.prog noG 103 [.ptr 900 0 0] [(901, ⟨false, 5, 1, F.eUs s⟩), (900, ⟨true, 162, 0, [[.ptr 900 0 0, .own 901]]⟩)] (vS s) [(901, ⟨false, 5, 1, []⟩), (900, ⟨true, 162, 0, [[.ptr 900 0 0, .unk]]⟩)] [901] := by
 have hp : 0 < s.size := of_decide_eq_true hp
 intro w S β cargs inv hargs
 match cargs, hargs with
 | [u], ⟨h1, _⟩ =>
  obtain ⟨X, p, v, own, xs, hX, hXr, hXs, hXl, hXc, rfl, hp2, hbk, hbuf, hne, ho, hown, hlt⟩ := bld_open (o := some s) inv h1
  have ho : xs = Lib.strCells s := ho
  subst ho
  rcases hbuf with ⟨A, _, h, _⟩ | ⟨g, cap, cur, rfl, rfl, hg, hnc, hcm, hcs, ht⟩
  ·have := strCells_len s
   rw [h] at this
   simp at this; omega
  have hl : (Lib.strCells s).length = s.data.toList.length := by rw [strCells_len]; simp
  rw [hl] at hbk hnc ht
  have hgX : g ≠ X.b := fun e => hne (by rw [e])
  refine (bld_string X.b g cap p cur s.data.toList w hbk hg hnc hcm hcs ht (fun e => by
   have : s.data.toList.length = s.size := by simp
   rw [e] at this; simp at this; omega)).mono ?_
  rintro e w' ⟨rfl, st⟩
  have hsz : s.size ≤ 9223372036854775807 := by
   have : s.data.toList.length = s.size := by simp
   omega
  have hb2 : w'.heap[X.b]? = some (.cells #[p, .slice (some ⟨g, 0, none⟩) s.data.toList.length cap] 162 (0, 0)) := by
   rw [st.block X.b hlt (fun e => hgX e.symm)]; exact hbk
  have hpp : p = .pointer (some ⟨X.b, 0, none⟩) ∨ p = .pointer none := hp2.symm
  have hpX : p = .pointer (some ⟨X.b, 0, none⟩) := by
   obtain ⟨bl, hb, h3, _⟩ := inv.dom 900 X hX
   have hb0 : some (⟨true, 162, 0, [[.ptr 900 0 0, .own 901]]⟩ : Blk) = some bl := hb
   cases hb0
   obtain ⟨cs, ty, c1, c2, c3, c4, c5, c6, c7, c8⟩ := h3 hXr
   obtain ⟨e1, e2⟩ := c8 0 _ rfl
   obtain ⟨v0, f0, g0⟩ := e2 0 _ rfl
   obtain ⟨X', hX', _, rfl⟩ : ∃ x, β 900 = some x ∧ x.real = true ∧ v0 = .pointer (some ⟨x.b, 0 * x.size + 0, none⟩) := g0
   rw [hX] at hX'
   cases hX'
   rw [hbk] at c1
   cases c1
   rw [Nat.zero_mul] at f0
   exact (Option.some.inj f0)
  have hbX : BlkOK w' S (bldB X ⟨false, 0, 0, 0, 0⟩ 901) ⟨true, 162, 0, [[.ptr 900 0 0, .unk]]⟩ X := by
   refine ⟨_, _, hb2, by rw [hXs, hXc]; rfl, hXl.symm, by omega, by omega, (fun h => by cases h), fun _ => ⟨fun _ => hXc, fun h => absurd rfl h, .inr rfl⟩, fun i row hi => ?_⟩
   have hi0 : i = 0 := by
    have := (List.getElem?_eq_some_iff.1 hi).1
    simp at this; exact this
   subst hi0
   cases hi
   refine ⟨hXs.symm, fun j a hj => ?_⟩
   have hj2 : j < 2 := (List.getElem?_eq_some_iff.1 hj).1
   have hj3 : j = 0 ∨ j = 1 := by omega
   rcases hj3 with rfl | rfl
   ·cases hj
    exact ⟨p, by rw [Nat.zero_mul]; rfl, X, bldB_x _ _ _, hXr, by simp [hpX]⟩
   ·cases hj
    exact ⟨.slice (some ⟨g, 0, none⟩) s.data.toList.length cap, by rw [Nat.zero_mul]; rfl, R0.unk (w := w') (S := S) rfl⟩
  obtain ⟨f1, f2⟩ := bld_inv inv (kY := 901) (by omega) hX hXr st (fun b _ hb => fun e => by
    obtain ⟨k, y, y1, y2, y3⟩ := hown g rfl
    exact hb k y y1 y2 (by rw [y3, e])) (Y := ⟨false, 0, 0, 0, 0⟩) (fun h => by cases h) hbX (fun h => by cases h) (bY := ⟨false, 5, 1, []⟩) (fun _ => ⟨rfl, rfl⟩)
    (hout := [(901, ⟨false, 5, 1, []⟩), (900, ⟨true, 162, 0, [[.ptr 900 0 0, .unk]]⟩)]) rfl rfl (fun k bl hk => by
     simp only [mget] at hk
     split at hk
     ·rename_i h; exact .inr (beq_true.1 h)
     ·split at hk
      ·rename_i h; exact .inl (beq_true.1 h)
      ·cases hk) (fun h => by rw [hXr] at h; cases h)
  refine ⟨_, S, _, rfl, f1, fun _ h => h, fun _ h => .inl h, f2, fun k y hk hm hy => ?_, rv_mk (show okAtom (.string s) from hsz)⟩
  rcases bldB_some hy with ⟨rfl, rfl⟩ | ⟨rfl, _, rfl⟩
  ·exact hX
  ·exact absurd (List.mem_singleton.2 rfl) hm

def encBst (o : Option ByteArray) : List AV × Heap := ([.ptr 900 0 0], bldIn o)

theorem encBst_inj (a a' : Option ByteArray) (h : encBst a = encBst a') : a = a' := by
 have := encWst_inj (a, ⟨⟨[]⟩⟩) (a', ⟨⟨[]⟩⟩) (by
  unfold encBst at h
  unfold encWst
  simp only [Prod.mk.injEq, true_and] at h ⊢
  exact h)
 exact (Prod.mk.inj this).1

theorem unBstU (s : ByteArray) : unenc encBst (([.ptr 900 0 0], [(901, Blk.mk false 5 1 (F.eUs s)), (900, Blk.mk true 162 0 [[.ptr 900 0 0, .own 901]])])) = some (some s) := unenc_of encBst_inj (some s) rfl

def preBst1 (o : Option ByteArray) : Bool := F.bstB o

def resBst (o : Option ByteArray) : T (AV × Heap × List Nat) := .ifB o.isNone
 (.ret (vS ⟨⟨[]⟩⟩, [(900, ⟨true, 162, 0, [[.v (.pointer none), .v (.slice none 0 0)]]⟩)], []))
 (.ret (vS (F.bldS o), [(901, ⟨false, 5, 1, []⟩), (900, ⟨true, 162, 0, [[.ptr 900 0 0, .unk]]⟩)], [901]))

noncomputable def oBst : OrcH := orcT 103 encBst preBst1 resBst

theorem okBst : OrcHOK Tryz.prog noG oBst := by
 refine orcT_ok ⟨Tryz.f103, by kernel_rfl, by kernel_rfl, by kernel_rfl⟩ (fun o r hp _ _ hr => ?_)
 cases o with
 | none =>
  have hr : (vS ⟨⟨[]⟩⟩, [(900, ⟨true, 162, 0, [[.v (.pointer none), .v (.slice none 0 0)]]⟩)], []) = r := Option.some.inj hr
  subst hr
  intro w S β cargs inv hargs
  match cargs, hargs with
  | [u], ⟨h1, _⟩ =>
   obtain ⟨X, hX, hXr, rfl⟩ : ∃ x, β 900 = some x ∧ x.real = true ∧ u = .pointer (some ⟨x.b, 0 * x.size + 0, none⟩) := h1
   obtain ⟨bl, hb, h3, _⟩ := inv.dom 900 X hX
   have hb0 : some (⟨true, 162, 0, [[.v (.pointer none), .v (.slice none 0 0)]]⟩ : Blk) = some bl := hb
   cases hb0
   obtain ⟨cs, ty, c1, c2, c3, c4, c5, c6, c7, c8⟩ := h3 hXr
   have hT : (162 : Nat) ≠ 0 := by decide
   obtain ⟨d1, _, d2⟩ := c7 rfl
   have d1 := d1 rfl
   have d2 : ty = 162 := d2.resolve_left hT
   obtain ⟨e1, e2⟩ := c8 0 _ rfl
   have e1 : X.size = 2 := e1.symm
   obtain ⟨v0, f0, g0⟩ := e2 0 _ rfl
   obtain ⟨v1, f1, g1⟩ := e2 1 _ rfl
   have g0 : R0 w S (.v (.pointer none)) v0 := g0
   cases g0
   have g1 : R0 w S (.v (.slice none 0 0)) v1 := g1
   cases g1
   rw [Nat.zero_mul] at f0 f1
   have hcs := arr2 (by rw [c2, d1, e1]) f0 f1
   rw [hcs, d2] at c1
   rw [show (0 * X.size + 0) = 0 by simp]
   refine (bld_string_nil X.b _ w c1).mono ?_
   rintro e w' ⟨rfl, st⟩
   have hO : ∀ b, b < w.heap.size → w'.heap[b]? = w.heap[b]? := fun b hb => st.block b hb trivial
   refine ⟨_, S, β, rfl, ⟨st.os, st.tape, st.output, st.size, fun b hb => hO b hb.1⟩, fun _ h => h, fun _ h => .inl h, ?_, fun _ _ _ _ h => h, R0.v (w := w') (S := S) (x := .string ⟨#[]⟩) (by show (0 : Nat) ≤ _; omega)⟩
   have g : Gr (ownFree w β) w S β w' S β := ⟨⟨st.os, st.tape, st.output, st.size, fun b hb => hO b hb.1⟩, fun b hb => hO b (inv.lt b hb), fun _ h => h, fun _ h => .inl h, fun _ _ h => h, fun _ _ _ h => h⟩
   exact ⟨fun b hb => Nat.lt_of_lt_of_le (inv.base b hb) st.size, fun b hb => Nat.lt_of_lt_of_le (inv.lt b hb) st.size, inv.inj, fun k x hx hr => by
     obtain ⟨n1, n2, n3⟩ := inv.new k x hx hr
     exact ⟨n1, Nat.lt_of_lt_of_le n2 st.size, n3⟩, fun k x hx => by
     obtain ⟨bl, a1, a2, a3⟩ := inv.dom k x hx
     exact ⟨bl, a1, fun hr => (a2 hr).go g (hO _ (inv.new k x hx hr).2.1), a3⟩, inv.cov, fun gl row hg => (inv.glob gl row hg).mono g.keep g.sub⟩
 | some s =>
  have hr : (vS s, [(901, ⟨false, 5, 1, []⟩), (900, ⟨true, 162, 0, [[.ptr 900 0 0, .unk]]⟩)], [901]) = r := Option.some.inj hr
  subst hr
  have hp : decide (0 < s.size) = true := hp
  exact okBstU s hp

end M

end Go.Proofs.YtbeobbjiogbdlaaGreatDoor

namespace Go.Proofs.YtbeobbjiogbdlaaGreatDoor
open Go Go.RowKit Go.Sort
set_option linter.unusedVariables false
set_option linter.unusedSimpArgs false

namespace F

theorem zrs_succ (k : Nat) (s : ByteArray) : zrs (k + 1) ++ s = zrs k ++ ((⟨⟨[48]⟩⟩ : ByteArray) ++ s) := by
 refine bsx ?_
 simp only [bs_cat, bs_zrs]
 rw [List.replicate_succ', List.append_assoc]
 rfl

theorem zrs_zero (s : ByteArray) : zrs 0 ++ s = s := by
 refine bsx ?_
 rw [bs_cat]
 rfl

theorem zrs_size (k : Nat) : (zrs k).size = k := by
 rw [size_bs, bs_zrs, List.length_replicate]

theorem rep_zrs (k : Nat) : (⟨(Lib.repeatL [48] k).toArray⟩ : ByteArray) = zrs k := by
 refine bsx ?_
 show (Lib.repeatL [48] k).toArray.toList = _
 rw [bs_zrs]
 simp only []
 induction k with
 | zero => rfl
 | succ k ih => simp only [Lib.repeatL, List.replicate_succ, ih]; rfl

end F

namespace M

theorem below_grow (w : World) (k : Nat) (os : Array Obj) : Below w.heap.size w (grow (w.drewN k) os) :=
 ⟨rfl, rfl, rfl, by first | (simp [grow]; done) | (simp [grow]; omega), fun i hi => by
  show ((w.drewN k).heap ++ os)[i]? = _
  rw [Array.getElem?_append_left (by show i < w.heap.size; omega)]
  rfl⟩

def encIta1 (n : Int) : List AV := [vI n]

def encIta (a : Int) : List AV := encIta1 a

theorem encIta_inj (a a' : Int) (h : encIta a = encIta a') : a = a' := by
 simp only [encIta, encIta1] at h
 try simp [] at h
 grind

theorem unIta (n : Int) : unenc encIta ([(vI n)]) = some (n) := unenc_of encIta_inj (n) rfl

def resIta1 (n : Int) : AV × Heap := (vS (F.itoa n), [])

def preIta1 (n : Int) : Bool := decide (-9223372036854775808 ≤ n) && decide (n ≤ 9223372036854775807)

noncomputable def oIta : Orc := orc 29 true encIta (fun a => preIta1 a) fun a => resIta1 a

theorem okIta : OrcOK Tryz.prog noG oIta := by
 refine orc_ok ⟨Tryz.f29, by kernel_rfl, by kernel_rfl, by kernel_rfl⟩ (fun n hp _ => ?_) (fun _ _ => ⟨rfl, rfl⟩)
 simp only [preIta1, Bool.and_eq_true, decide_eq_true_eq] at hp
 have hz := F.itoa_size hp.1 hp.2
 refine SpecP.below1 (fun w S => rv_mk (by show (F.itoa n).size ≤ 9223372036854775807; omega)) fun _ w S hG => ?_
 have hg := hG 2 ⟨[], fun cs => cs = (Lib.pow10Tab.map fun z => Value.int .u64 z).toArray⟩ rfl
 obtain ⟨cs, ty, o, h1, h2⟩ := hg.cells
 have htab : Lib.TabIs Tryz.prog w "internal/strconv.uint64pow10" .u64 Lib.pow10Tab := by
  have hn : Tryz.prog.globalNamed "internal/strconv.uint64pow10" = some 2 := by kernel_rfl
  simp only [Lib.TabIs, World.var?, hn, Option.bind_some, h1]
  rw [h2]
 refine (Tryz.strconv_Itoa n hp.1 hp.2 w htab).mono ?_
 rintro e w' ⟨he, k, os, rfl⟩
 exact ⟨he, below_grow w k os⟩

def encRpt1 (c : Nat) : List AV := [vS ⟨⟨[48]⟩⟩, vI c]

def encRpt (a : Nat) : List AV := encRpt1 a

theorem encRpt_inj (a a' : Nat) (h : encRpt a = encRpt a') : a = a' := by
 simp only [encRpt, encRpt1] at h
 try simp [] at h
 grind

theorem unRpt (c : Nat) : unenc encRpt ([(vS (ByteArray.mk (Array.mk [(48 : UInt8)]))), (vI (↑c : Int))]) = some (c) := unenc_of encRpt_inj (c) rfl

def resRpt1 (c : Nat) : AV × Heap := (vS (F.zrs c), [])

def preRpt1 (c : Nat) : Bool := decide (c ≤ 1000)

noncomputable def oRpt : Orc := orc 211 true encRpt (fun a => preRpt1 a) fun a => resRpt1 a

theorem okRpt : OrcOK Tryz.prog noG oRpt := by
 refine orc_ok ⟨Tryz.f211, by kernel_rfl, by kernel_rfl, by kernel_rfl⟩ (fun c hp _ => ?_) (fun _ _ => ⟨rfl, rfl⟩)
 have hp : c ≤ 1000 := of_decide_eq_true hp
 refine SpecP.below2 (fun w S => rv_mk (by show (F.zrs c).size ≤ 9223372036854775807; rw [F.zrs_size]; omega)) fun _ _ w S hG => ?_
 refine (Tryz.strings_Repeat ⟨⟨[48]⟩⟩ c w (by omega) (by show 1 * c ≤ _; omega)).mono ?_
 rintro e w' ⟨he, hb⟩
 exact ⟨by rw [he, ← F.rep_zrs], hb⟩

def stPad (many : Nat) (s : ByteArray) : St := ⟨[(5, vS s), (1, vI many)], []⟩

def stPad1 (a : Nat × ByteArray) : St := stPad a.1 a.2

theorem stPad_inj (a a' : Nat × ByteArray) (h : stPad1 a = stPad1 a') : a = a' := by
 simp only [stPad1, stPad] at h
 try simp [] at h
 grind

theorem unstPad (many : Nat) (s : ByteArray) : unenc stPad1 (St.mk [(5, (vS s)), (1, (vI (↑many : Int)))] []) = some (many, s) := unenc_of stPad_inj (many, s) rfl

def outPad (many : Nat) (s : ByteArray) : T (Ex × St) := .ret (.exit 0, ⟨[(5, vS (F.zrs (many - s.size) ++ s))], []⟩)

noncomputable def prlPad (many : Nat) (s : ByteArray) : Bool := decide (many ≤ 1000)

noncomputable def lpPad : Nat × (St → T (Ex × St)) := (2, lpo [5, 1] [] stPad1 (fun a => prlPad a.1 a.2) fun a => outPad a.1 a.2)

noncomputable def enPad : Env := envH ty noG lks [oIta] [] [] [lpPad]

theorem enPad_ok : EnvOK Tryz.prog enPad := by
 refine envH_ok lks_ok ty_ok ?_ ?_
 ·simp only [List.forall_mem_cons]
  exact ⟨okIta, by simp⟩
 ·simp

theorem evPadL (many : Nat) (s : ByteArray) : ((exec enPad (loopN Tryz.f200 0) (stPad many s)).bind (lessX ([5, 1], []) ([5], []) ([], []))).val =
 bif decide ((↑(ByteArray.size s) : Int) < (↑many : Int)) then bif Nat.ble (ByteArray.size (ByteArray.mk (Array.mk [(48 : UInt8)])) + ByteArray.size s) 9223372036854775807 then some (Ex.normal, St.mk [(5, (vS (ByteArray.mk (Array.mk [(48 : UInt8)]) ++ s))), (1, (vI (↑many : Int)))] []) else none else some (Ex.exit (0 : Nat), St.mk
 [(5, (vS s))] []) := (execR_bind _ _ _).symm.trans (by kernel_rfl)

theorem lpPad_ok (many : Nat) (s : ByteArray) (hp : prlPad many s = true) : ∀ ex s', (outPad many s).val = some (ex, s') → LoopOK enPad (loopN Tryz.f200 0) (stPad many s) ex s' := by
 simp only [prlPad, decide_eq_true_eq] at hp
 refine loop_gen (st := fun s : ByteArray => stPad many s) (out := fun s => outPad many s) (I := fun _ => True) (n := ([5, 1], [])) (e := ([5], [])) (r := ([], [])) (fun s => many - s.size) ?_ s trivial
 intro s _
 by_cases h : s.size < many
 ·right
  have e1 : ((⟨⟨[48]⟩⟩ : ByteArray) ++ s).size = s.size + 1 := by rw [ByteArray.size_append]; show 1 + s.size = _; omega
  refine ⟨⟨⟨[48]⟩⟩ ++ s, ?_, rfl, trivial, by omega, ?_⟩
  ·rw [evPadL]
   simp only [cond_true, decide_eq_true (show (s.size : Int) < (many : Int) by omega)]
   rw [ble_t (show (ByteArray.mk (Array.mk [48])).size + s.size ≤ 9223372036854775807 by show 1 + s.size ≤ _; omega)]
   rfl
  ·have e2 : many - s.size = (many - (s.size + 1)) + 1 := by omega
   simp only [outPad, e1]
   rw [e2, F.zrs_succ]
 ·left
  refine ⟨(.exit 0, ⟨[(5, vS s)], []⟩), ?_, ?_, by simp, rfl⟩
  ·rw [evPadL]
   simp only [cond_false, decide_eq_false (show ¬ (s.size : Int) < (many : Int) by omega)]
  ·simp only [outPad]
   rw [show many - s.size = 0 by omega, F.zrs_zero]
   rfl

theorem evPad (n : Int) (many : Nat) : (runF enPad false Tryz.f200 [vI n, vI many]).val =
 Option.bind (unenc encIta [(vI n)]) fun z => bif decide ((-9223372036854775808 : Int) ≤ z) && decide (z ≤ 9223372036854775807) then Option.bind (unenc
 stPad1 (St.mk [(5, (vS (F.itoa z))), (1, (vI (↑many : Int)))] [])) fun z => bif decide (z.1 ≤ 1000) && true then some ((vS (F.zrs (z.1 -
 ByteArray.size z.2) ++ z.2)), []) else none else none := (runFR_val).symm.trans (by kernel_rfl)

def encPad1 (n : Int) (many : Nat) : List AV := [vI n, vI many]

def encPad (a : Int × Nat) : List AV := encPad1 a.1 a.2

theorem encPad_inj (a a' : Int × Nat) (h : encPad a = encPad a') : a = a' := by
 simp only [encPad, encPad1] at h
 try simp [] at h
 grind

theorem unPad (n : Int) (many : Nat) : unenc encPad ([(vI n), (vI (↑many : Int))]) = some (n, many) := unenc_of encPad_inj (n, many) rfl

def resPad1 (n : Int) (many : Nat) : AV × Heap := (vS (F.pad n many), [])

def prePad1 (n : Int) (many : Nat) : Bool := decide (-9223372036854775808 ≤ n) && decide (n ≤ 9223372036854775807) && decide (many ≤ 1000)

noncomputable def oPad : Orc := orc 200 true encPad (fun a => prePad1 a.1 a.2) fun a => resPad1 a.1 a.2

theorem okPad : OrcOK Tryz.prog noG oPad := by
 refine mk_ok Tryz.f200 (keep := false) (by kernel_rfl) (by kernel_rfl) enPad_ok mixed (one_loop (x0 := loopN Tryz.f200 0) (by kernel_rfl) (lpo_ok ?_)) (by first | exact fun _ _ => ⟨rfl, rfl⟩ | (intro h; cases h)) ?_
 ·rintro ⟨many, s⟩ hp
  exact lpPad_ok many s hp
 rintro ⟨n, many⟩ hpre hok
 show (runF enPad false _ (encPad1 _ _)).val = some (resPad1 _ _)
 unfold encPad1 resPad1
 rw [evPad]
 simp only [prePad1, Bool.and_eq_true] at hpre
 simp only [unIta, unstPad, Option.bind_some, cond_true, Bool.and_true, hpre.1.1, hpre.1.2, hpre.2, F.pad]
 try rfl

noncomputable def enRPa : Env := envH ty noG lks [oIta, oRpt] [] [] []

theorem enRPa_ok : EnvOK Tryz.prog enRPa := by
 refine envH_ok lks_ok ty_ok ?_ ?_
 ·simp only [List.forall_mem_cons]
  exact ⟨okIta, okRpt, by simp⟩
 ·simp

theorem evRPa (n : Int) (many : Nat) : (runF enRPa false Tryz.f170 [vI n, vI many]).val =
 Option.bind (unenc encIta [(vI n)]) fun z => bif decide ((-9223372036854775808 : Int) ≤ z) && decide (z ≤ 9223372036854775807) then Option.bind (unenc
 encRpt [(vS ⟨⟨[48]⟩⟩), (vI (max (0 : Int) (IntKind.i64.wrap ((↑many : Int) - (↑(ByteArray.size (F.itoa z)) : Int)))))]) fun (z_1 :
 Nat) => bif decide (z_1 ≤ 1000) then bif Nat.ble (ByteArray.size (F.zrs z_1) + ByteArray.size (F.itoa z)) 9223372036854775807 then some ((vS (F.zrs z_1 ++
 F.itoa z)), []) else none else none else none := (runFR_val).symm.trans (by kernel_rfl)

def encRPa1 (n : Int) (many : Nat) : List AV := [vI n, vI many]

def encRPa (a : Int × Nat) : List AV := encRPa1 a.1 a.2

theorem encRPa_inj (a a' : Int × Nat) (h : encRPa a = encRPa a') : a = a' := by
 simp only [encRPa, encRPa1] at h
 try simp [] at h
 grind

theorem unRPa (n : Int) (many : Nat) : unenc encRPa ([(vI n), (vI (↑many : Int))]) = some (n, many) := unenc_of encRPa_inj (n, many) rfl

def resRPa1 (n : Int) (many : Nat) : AV × Heap := (vS (F.pad n many), [])

def preRPa1 (n : Int) (many : Nat) : Bool := decide (-9223372036854775808 ≤ n) && decide (n ≤ 9223372036854775807) && decide (many ≤ 1000)

noncomputable def oRPa : Orc := orc 170 true encRPa (fun a => preRPa1 a.1 a.2) fun a => resRPa1 a.1 a.2

theorem okRPa : OrcOK Tryz.prog noG oRPa := by
 refine mk_ok Tryz.f170 (keep := false) (by kernel_rfl) (by kernel_rfl) enRPa_ok mixed (no_loops (by kernel_rfl)) (by first | exact fun _ _ => ⟨rfl, rfl⟩ | (intro h; cases h)) ?_
 rintro ⟨n, many⟩ hpre hok
 show (runF enRPa false _ (encRPa1 _ _)).val = some (resRPa1 _ _)
 unfold encRPa1 resRPa1
 rw [evRPa]
 simp only [preRPa1, Bool.and_eq_true, decide_eq_true_eq] at hpre
 have hz := F.itoa_size hpre.1.1 hpre.1.2
 have h1 : max 0 (IntKind.i64.wrap ((many : Int) - (F.itoa n).size)) = ((many - (F.itoa n).size : Nat) : Int) := by
  rw [wrap_id (by omega) (by omega)]; omega
 have h2 : (F.zrs (many - (F.itoa n).size)).size = many - (F.itoa n).size := F.zrs_size _
 simp only [unIta, unRpt, Option.bind_some, cond_true, Bool.and_true, decide_eq_true hpre.1.1, decide_eq_true hpre.1.2, h1, F.pad]
 rw [decide_eq_true (show many - (F.itoa n).size ≤ 1000 by omega), h2, ble_t (show many - (F.itoa n).size + (F.itoa n).size ≤ 9223372036854775807 by omega)]
 rfl

theorem unPad2 (n : Int) : unenc encPad ([vI n, vI 2]) = some (n, 2) := unPad n 2

theorem unPad3 (n : Int) : unenc encPad ([vI n, vI 3]) = some (n, 3) := unPad n 3

theorem unRPa2 (n : Int) : unenc encRPa ([vI n, vI 2]) = some (n, 2) := unRPa n 2

theorem unRPa3 (n : Int) : unenc encRPa ([vI n, vI 3]) = some (n, 3) := unRPa n 3

theorem pre64 {k : Nat} (h : k < 1000) : (decide (-9223372036854775808 ≤ (k : Int)) && decide ((k : Int) ≤ 9223372036854775807)) = true := by
 rw [decide_eq_true (show -9223372036854775808 ≤ (k : Int) by omega), decide_eq_true (show (k : Int) ≤ 9223372036854775807 by omega)]; rfl

noncomputable def enTiT : Env := envH ty noG lks [oPad] [] [] []

theorem enTiT_ok : EnvOK Tryz.prog enTiT := by
 refine envH_ok lks_ok ty_ok ?_ ?_
 ·simp only [List.forall_mem_cons]
  exact ⟨okPad, by simp⟩
 ·simp

theorem evTiT (t : Int) (p : ByteArray) : (runF enTiT false Tryz.f158 [vI t, vS p]).val =
 (fun (q : ByteArray) => (fun (q_1 : List AV) => Option.bind (unenc encPad ((vI (IntKind.i64.wrap (Int.tdiv t (3600000 : Int)))) :: q_1)) fun z =>
 (fun (q_2 : ByteArray) => bif decide ((-9223372036854775808 : Int) ≤ z.1) && decide (z.1 ≤ 9223372036854775807) && decide (z.2 ≤ 1000) then bif
 Nat.ble (ByteArray.size (F.pad z.1 z.2) + ByteArray.size q) 9223372036854775807 then Option.bind (unenc encPad ((vI (Int.tmod (IntKind.wrap IntKind.i64
 (Int.tdiv t (60000 : Int))) (60 : Int))) :: q_1)) fun z => bif decide ((-9223372036854775808 : Int) ≤ z.1) && decide (z.1 ≤ 9223372036854775807)
 && decide (z.2 ≤ 1000) then bif Nat.ble (ByteArray.size q_2 + ByteArray.size (F.pad z.1 z.2)) 9223372036854775807 then bif Nat.ble (ByteArray.size
 (q_2 ++ F.pad z.1 z.2) + ByteArray.size q) 9223372036854775807 then Option.bind (unenc encPad ((vI (Int.tmod (IntKind.i64.wrap (Int.tdiv t (1000 :
 Int))) (60 : Int))) :: q_1)) fun z_1 => (fun (q_3 : ByteArray) => bif decide ((-9223372036854775808 : Int) ≤ z_1.1) && decide (z_1.1 ≤
 (9223372036854775807 : Int)) && decide (z_1.2 ≤ 1000) then bif Nat.ble (ByteArray.size (q_2 ++ F.pad z.1 z.2 ++ q) + ByteArray.size (F.pad z_1.1 z_1.2))
 (9223372036854775807 : Nat) then bif Nat.ble (ByteArray.size q_3 + ByteArray.size p) 9223372036854775807 then Option.bind (unenc encPad [(vI (Int.tmod t (1000 :
 Int))), (vI 3)]) fun z => bif decide ((-9223372036854775808 : Int) ≤ z.1) && decide (z.1 ≤ 9223372036854775807) && decide (z.2 ≤ 1000) then bif Nat.ble (ByteArray.size (q_3 ++ p) + ByteArray.size (F.pad z.1 z.2)) 9223372036854775807 then some ((vS (q_3 ++ p ++ F.pad z.1 z.2)), [])
 else none else none else none else none else none) (q_2 ++ F.pad z.1 z.2 ++ q ++ F.pad z_1.1 z_1.2) else none else none else none else none else none) (F.pad z.1
 z.2 ++ q)) [(vI 2)]) (ByteArray.mk (Array.mk [(58 : UInt8)])) := (runFR_val).symm.trans (by kernel_rfl)

def encTiT1 (t : Int) (p : ByteArray) : List AV := [vI t, vS p]

def encTiT (a : Int × ByteArray) : List AV := encTiT1 a.1 a.2

theorem encTiT_inj (a a' : Int × ByteArray) (h : encTiT a = encTiT a') : a = a' := by
 simp only [encTiT, encTiT1] at h
 try simp [] at h
 grind

theorem unTiT (t : Int) (p : ByteArray) : unenc encTiT ([(vI t), (vS p)]) = some (t, p) := unenc_of encTiT_inj (t, p) rfl

def resTiT1 (t : Int) (p : ByteArray) : AV × Heap := (vS (F.clk t p), [])

def preTiT1 (t : Int) (p : ByteArray) : Bool := decide (0 ≤ t) && decide (t ≤ 359999999) && decide (p.size = 1)

noncomputable def oTiT : Orc := orc 158 true encTiT (fun a => preTiT1 a.1 a.2) fun a => resTiT1 a.1 a.2

theorem okTiT : OrcOK Tryz.prog noG oTiT := by
 refine mk_ok Tryz.f158 (keep := false) (by kernel_rfl) (by kernel_rfl) enTiT_ok mixed (no_loops (by kernel_rfl)) (by first | exact fun _ _ => ⟨rfl, rfl⟩ | (intro h; cases h)) ?_
 rintro ⟨t, p⟩ hpre hok
 show (runF enTiT false _ (encTiT1 _ _)).val = some (resTiT1 _ _)
 unfold encTiT1 resTiT1
 rw [evTiT]
 simp only [preTiT1, Bool.and_eq_true, decide_eq_true_eq] at hpre
 obtain ⟨⟨h0, h1⟩, h2⟩ := hpre
 obtain ⟨k, rfl⟩ := Int.eq_ofNat_of_zero_le h0
 have w1 : IntKind.i64.wrap ((k : Int).tdiv 3600000) = ((k / 3600000 : Nat) : Int) := by rw [tdiv_nn (by omega), wrap_id (by omega) (by omega)]; omega
 have w2 : (IntKind.i64.wrap ((k : Int).tdiv 60000)).tmod 60 = ((k / 60000 % 60 : Nat) : Int) := by rw [tdiv_nn (by omega), wrap_id (by omega) (by omega), Int.tmod_eq_emod_of_nonneg (by omega)]; omega
 have w3 : (IntKind.i64.wrap ((k : Int).tdiv 1000)).tmod 60 = ((k / 1000 % 60 : Nat) : Int) := by rw [tdiv_nn (by omega), wrap_id (by omega) (by omega), Int.tmod_eq_emod_of_nonneg (by omega)]; omega
 have w4 : (k : Int).tmod 1000 = ((k % 1000 : Nat) : Int) := by rw [Int.tmod_eq_emod_of_nonneg (by omega)]; omega
 have s1 : (F.pad ((k / 3600000 : Nat) : Int) 2).size = 2 := by rw [F.size_bs, F.pad2 (show k / 3600000 < 100 by omega)]; rfl
 have s2 : (F.pad ((k / 60000 % 60 : Nat) : Int) 2).size = 2 := by rw [F.size_bs, F.pad2 (show k / 60000 % 60 < 100 by omega)]; rfl
 have s3 : (F.pad ((k / 1000 % 60 : Nat) : Int) 2).size = 2 := by rw [F.size_bs, F.pad2 (show k / 1000 % 60 < 100 by omega)]; rfl
 have s4 : (F.pad ((k % 1000 : Nat) : Int) 3).size = 3 := by rw [F.size_bs, F.pad3 (show k % 1000 < 1000 by omega)]; rfl
 have sc : (ByteArray.mk (Array.mk [58])).size = 1 := rfl
 have e : F.clk (k : Int) p = F.pad ((k / 3600000 : Nat) : Int) 2 ++ F.colon ++ F.pad ((k / 60000 % 60 : Nat) : Int) 2 ++ F.colon ++ F.pad ((k / 1000 % 60 : Nat) : Int) 2 ++ p ++ F.pad ((k % 1000 : Nat) : Int) 3 := rfl
 have d2 : decide ((2 : Nat) ≤ 1000) = true := rfl
 have d3 : decide ((3 : Nat) ≤ 1000) = true := rfl
 simp only [Option.bind_some, cond_true, Bool.and_true, w1, w2, w3, w4, unPad2, unPad3, pre64 (show k / 3600000 < 1000 by omega), pre64 (show k / 60000 % 60 < 1000 by omega), pre64 (show k / 1000 % 60 < 1000 by omega), pre64 (show k % 1000 < 1000 by omega), d2, d3, ByteArray.size_append, s1, s2, s3, s4, sc, h2]
 rw [e]
 rfl

noncomputable def enRCk : Env := envH ty noG lks [oRPa] [] [] []

theorem enRCk_ok : EnvOK Tryz.prog enRCk := by
 refine envH_ok lks_ok ty_ok ?_ ?_
 ·simp only [List.forall_mem_cons]
  exact ⟨okRPa, by simp⟩
 ·simp

theorem evRCk (t : Int) (p : ByteArray) : (runF enRCk false Tryz.f114 [vI t, vS p]).val =
 (fun (q : ByteArray) => (fun (q_1 : List AV) => Option.bind (unenc encRPa ((vI (IntKind.i64.wrap (Int.tdiv t (3600000 : Int)))) :: q_1)) fun z =>
 (fun (q_2 : ByteArray) => bif decide ((-9223372036854775808 : Int) ≤ z.1) && decide (z.1 ≤ 9223372036854775807) && decide (z.2 ≤ 1000) then bif
 Nat.ble (ByteArray.size (F.pad z.1 z.2) + ByteArray.size q) 9223372036854775807 then Option.bind (unenc encRPa ((vI (Int.tmod (IntKind.wrap IntKind.i64
 (Int.tdiv t (60000 : Int))) (60 : Int))) :: q_1)) fun z => bif decide ((-9223372036854775808 : Int) ≤ z.1) && decide (z.1 ≤ 9223372036854775807)
 && decide (z.2 ≤ 1000) then bif Nat.ble (ByteArray.size q_2 + ByteArray.size (F.pad z.1 z.2)) 9223372036854775807 then bif Nat.ble (ByteArray.size
 (q_2 ++ F.pad z.1 z.2) + ByteArray.size q) 9223372036854775807 then Option.bind (unenc encRPa ((vI (Int.tmod (IntKind.i64.wrap (Int.tdiv t (1000 :
 Int))) (60 : Int))) :: q_1)) fun z_1 => (fun (q_3 : ByteArray) => bif decide ((-9223372036854775808 : Int) ≤ z_1.1) && decide (z_1.1 ≤
 (9223372036854775807 : Int)) && decide (z_1.2 ≤ 1000) then bif Nat.ble (ByteArray.size (q_2 ++ F.pad z.1 z.2 ++ q) + ByteArray.size (F.pad z_1.1 z_1.2))
 (9223372036854775807 : Nat) then bif Nat.ble (ByteArray.size q_3 + ByteArray.size p) 9223372036854775807 then Option.bind (unenc encRPa [(vI (Int.tmod t (1000 :
 Int))), (vI 3)]) fun z => bif decide ((-9223372036854775808 : Int) ≤ z.1) && decide (z.1 ≤ 9223372036854775807) && decide (z.2 ≤ 1000) then bif Nat.ble (ByteArray.size (q_3 ++ p) + ByteArray.size (F.pad z.1 z.2)) 9223372036854775807 then some ((vS (q_3 ++ p ++ F.pad z.1 z.2)), [])
 else none else none else none else none else none) (q_2 ++ F.pad z.1 z.2 ++ q ++ F.pad z_1.1 z_1.2) else none else none else none else none else none) (F.pad z.1
 z.2 ++ q)) [(vI 2)]) (ByteArray.mk (Array.mk [(58 : UInt8)])) := (runFR_val).symm.trans (by kernel_rfl)

def encRCk1 (t : Int) (p : ByteArray) : List AV := [vI t, vS p]

def encRCk (a : Int × ByteArray) : List AV := encRCk1 a.1 a.2

theorem encRCk_inj (a a' : Int × ByteArray) (h : encRCk a = encRCk a') : a = a' := by
 simp only [encRCk, encRCk1] at h
 try simp [] at h
 grind

theorem unRCk (t : Int) (p : ByteArray) : unenc encRCk ([(vI t), (vS p)]) = some (t, p) := unenc_of encRCk_inj (t, p) rfl

def resRCk1 (t : Int) (p : ByteArray) : AV × Heap := (vS (F.clk t p), [])

def preRCk1 (t : Int) (p : ByteArray) : Bool := decide (0 ≤ t) && decide (t ≤ 359999999) && decide (p.size = 1)

noncomputable def oRCk : Orc := orc 114 true encRCk (fun a => preRCk1 a.1 a.2) fun a => resRCk1 a.1 a.2

theorem okRCk : OrcOK Tryz.prog noG oRCk := by
 refine mk_ok Tryz.f114 (keep := false) (by kernel_rfl) (by kernel_rfl) enRCk_ok mixed (no_loops (by kernel_rfl)) (by first | exact fun _ _ => ⟨rfl, rfl⟩ | (intro h; cases h)) ?_
 rintro ⟨t, p⟩ hpre hok
 show (runF enRCk false _ (encRCk1 _ _)).val = some (resRCk1 _ _)
 unfold encRCk1 resRCk1
 rw [evRCk]
 simp only [preRCk1, Bool.and_eq_true, decide_eq_true_eq] at hpre
 obtain ⟨⟨h0, h1⟩, h2⟩ := hpre
 obtain ⟨k, rfl⟩ := Int.eq_ofNat_of_zero_le h0
 have w1 : IntKind.i64.wrap ((k : Int).tdiv 3600000) = ((k / 3600000 : Nat) : Int) := by rw [tdiv_nn (by omega), wrap_id (by omega) (by omega)]; omega
 have w2 : (IntKind.i64.wrap ((k : Int).tdiv 60000)).tmod 60 = ((k / 60000 % 60 : Nat) : Int) := by rw [tdiv_nn (by omega), wrap_id (by omega) (by omega), Int.tmod_eq_emod_of_nonneg (by omega)]; omega
 have w3 : (IntKind.i64.wrap ((k : Int).tdiv 1000)).tmod 60 = ((k / 1000 % 60 : Nat) : Int) := by rw [tdiv_nn (by omega), wrap_id (by omega) (by omega), Int.tmod_eq_emod_of_nonneg (by omega)]; omega
 have w4 : (k : Int).tmod 1000 = ((k % 1000 : Nat) : Int) := by rw [Int.tmod_eq_emod_of_nonneg (by omega)]; omega
 have s1 : (F.pad ((k / 3600000 : Nat) : Int) 2).size = 2 := by rw [F.size_bs, F.pad2 (show k / 3600000 < 100 by omega)]; rfl
 have s2 : (F.pad ((k / 60000 % 60 : Nat) : Int) 2).size = 2 := by rw [F.size_bs, F.pad2 (show k / 60000 % 60 < 100 by omega)]; rfl
 have s3 : (F.pad ((k / 1000 % 60 : Nat) : Int) 2).size = 2 := by rw [F.size_bs, F.pad2 (show k / 1000 % 60 < 100 by omega)]; rfl
 have s4 : (F.pad ((k % 1000 : Nat) : Int) 3).size = 3 := by rw [F.size_bs, F.pad3 (show k % 1000 < 1000 by omega)]; rfl
 have sc : (ByteArray.mk (Array.mk [58])).size = 1 := rfl
 have e : F.clk (k : Int) p = F.pad ((k / 3600000 : Nat) : Int) 2 ++ F.colon ++ F.pad ((k / 60000 % 60 : Nat) : Int) 2 ++ F.colon ++ F.pad ((k / 1000 % 60 : Nat) : Int) 2 ++ p ++ F.pad ((k % 1000 : Nat) : Int) 3 := rfl
 have d2 : decide ((2 : Nat) ≤ 1000) = true := rfl
 have d3 : decide ((3 : Nat) ≤ 1000) = true := rfl
 simp only [Option.bind_some, cond_true, Bool.and_true, w1, w2, w3, w4, unRPa2, unRPa3, pre64 (show k / 3600000 < 1000 by omega), pre64 (show k / 60000 % 60 < 1000 by omega), pre64 (show k / 1000 % 60 < 1000 by omega), pre64 (show k % 1000 < 1000 by omega), d2, d3, ByteArray.size_append, s1, s2, s3, s4, sc, h2]
 rw [e]
 rfl

noncomputable def enTms : Env := envH ty noG lks [oTiT] [] [] []

theorem enTms_ok : EnvOK Tryz.prog enTms := by
 refine envH_ok lks_ok ty_ok ?_ ?_
 ·simp only [List.forall_mem_cons]
  exact ⟨okTiT, by simp⟩
 ·simp

theorem evTms (c : Cap) (p : ByteArray) : (runF enTms false Tryz.f100 [.agg (eCap c), vS p]).val =
 Option.bind (unenc encTiT [(vI c.fr), (vS p)]) fun z => bif decide ((0 : Int) ≤ z.1) && decide (z.1 ≤ 359999999) && decide (ByteArray.size
 z.2 = (1 : Nat)) then bif Nat.ble (ByteArray.size (F.clk z.1 z.2) + ByteArray.size (ByteArray.mk (Array.mk [(32 : UInt8), (45 : UInt8), (45 : UInt8), (62 : UInt8),
 (32 : UInt8)]))) 9223372036854775807 then Option.bind (unenc encTiT [(vI c.to), (vS p)]) fun z_1 => bif decide ((0 : Int) ≤ z_1.1) && decide
 (z_1.1 ≤ 359999999) && decide (ByteArray.size z_1.2 = (1 : Nat)) then bif Nat.ble (ByteArray.size (F.clk z.1 z.2 ++ ByteArray.mk (Array.mk [(32 : UInt8),
 (45 : UInt8), (45 : UInt8), (62 : UInt8), (32 : UInt8)])) + ByteArray.size (F.clk z_1.1 z_1.2)) 9223372036854775807 then some ((vS (F.clk z.1 z.2 ++
 ByteArray.mk (Array.mk [(32 : UInt8), (45 : UInt8), (45 : UInt8), (62 : UInt8), (32 : UInt8)]) ++ F.clk z_1.1 z_1.2)), []) else none else none else none else none := (runFR_val).symm.trans (by kernel_rfl)

def encTms1 (c : Cap) (p : ByteArray) : List AV := [.agg (eCap c), vS p]

def encTms (a : Cap × ByteArray) : List AV := encTms1 a.1 a.2

theorem encTms_inj (a a' : Cap × ByteArray) (h : encTms a = encTms a') : a = a' := by
 simp only [encTms, encTms1] at h
 try simp [eCap_iff] at h
 grind

theorem unTmsw (c_fr : Int) (c_to : Int) (c_lines : List ByteArray) (c_row : Int) (c_bef : Bool) (c_aft : Bool) (p : ByteArray) : unenc encTms ([AV.agg [(vI c_fr), (vI c_to), AV.sl (List.map eStr c_lines), (vI c_row), (vB c_bef), (vB c_aft)], (vS p)]) = some ((Cap.mk c_fr c_to c_lines c_row c_bef c_aft), p) := unenc_of encTms_inj ((Cap.mk c_fr c_to c_lines c_row c_bef c_aft), p) rfl

def resTms1 (c : Cap) (p : ByteArray) : AV × Heap := (vS (F.tms c p), [])

def preTms1 (c : Cap) (p : ByteArray) : Bool := decide (0 ≤ c.fr) && decide (c.fr ≤ 359999999) && decide (0 ≤ c.to) && decide (c.to ≤ 359999999) && decide (p.size = 1)

noncomputable def oTms : Orc := orc 100 true encTms (fun a => preTms1 a.1 a.2) fun a => resTms1 a.1 a.2

theorem okTms : OrcOK Tryz.prog noG oTms := by
 refine mk_ok Tryz.f100 (keep := false) (by kernel_rfl) (by kernel_rfl) enTms_ok mixed (no_loops (by kernel_rfl)) (by first | exact fun _ _ => ⟨rfl, rfl⟩ | (intro h; cases h)) ?_
 rintro ⟨c, p⟩ hpre hok
 show (runF enTms false _ (encTms1 _ _)).val = some (resTms1 _ _)
 unfold encTms1 resTms1
 rw [evTms]
 simp only [preTms1, Bool.and_eq_true, decide_eq_true_eq] at hpre
 obtain ⟨⟨⟨⟨h0, h1⟩, h2⟩, h3⟩, h4⟩ := hpre
 have s1 : (F.clk c.fr p).size = 12 := by
  obtain ⟨k, hk⟩ := Int.eq_ofNat_of_zero_le h0
  rw [hk, F.clk_size (by omega), h4]
 have s2 : (F.clk c.to p).size = 12 := by
  obtain ⟨k, hk⟩ := Int.eq_ofNat_of_zero_le h2
  rw [hk, F.clk_size (by omega), h4]
 have sa : (ByteArray.mk (Array.mk [32, 45, 45, 62, 32])).size = 5 := rfl
 simp only [unTiT, Option.bind_some, cond_true, Bool.and_true, decide_eq_true h0, decide_eq_true h1, decide_eq_true h2, decide_eq_true h3, decide_eq_true h4, ByteArray.size_append, s1, s2, sa]
 rfl

end M
end Go.Proofs.YtbeobbjiogbdlaaGreatDoor

namespace Go.Proofs.YtbeobbjiogbdlaaGreatDoor
open Go Go.RowKit
set_option linter.unusedVariables false
set_option linter.unusedSimpArgs false
set_option maxHeartbeats 1000000

namespace F

def lgW : List ByteArray → ByteArray → ByteArray
 | [], acc => acc
 | x :: r, acc => lgW r (acc ++ (esc x ++ nl))

def lgH (c : Cap) (acc : ByteArray) : ByteArray :=
 (bif c.aft then (bif c.bef then (bif c.row != 0 then acc ++ tms c dot ++ (lineB ++ itoa c.row) else acc ++ tms c dot) ++ befB else (bif c.row != 0 then acc ++ tms c dot ++ (lineB ++ itoa c.row) else acc ++ tms c dot)) ++ aftB
  else (bif c.bef then (bif c.row != 0 then acc ++ tms c dot ++ (lineB ++ itoa c.row) else acc ++ tms c dot) ++ befB else (bif c.row != 0 then acc ++ tms c dot ++ (lineB ++ itoa c.row) else acc ++ tms c dot))) ++ nl

def lgC (c : Cap) (acc : ByteArray) : ByteArray := lgW c.lines (lgH c acc) ++ nl

def lgA1 : List Cap → ByteArray → ByteArray
 | [], acc => acc
 | c :: r, acc => lgA1 r (lgC c acc)

def web2 : ByteArray := ⟨⟨[87, 69, 66, 86, 84, 84, 10, 10]⟩⟩

def longT (l : List Cap) : ByteArray := lgA1 l web2

def longS (l : List Cap) : ByteArray := bif chkC l != 0 then ⟨⟨[]⟩⟩ else bndS (longT l)

def longF (l : List Cap) : Int := bif chkC l != 0 then chkC l else bnfL (longT l)

theorem rpl1_size {y : ByteArray} (h : y.size ≤ 200) : (rpl y ampB amp5).size ≤ 1000 := by
 have key : ∀ l : List UInt8, (l.flatMap fun b => bif b == 38 then [38, 97, 109, 112, 59] else [b]).length ≤ 5 * l.length := fun l => by
  induction l with
  | nil => exact Nat.le_refl _
  | cons b l ih =>
   rw [List.flatMap_cons, List.length_append, List.length_cons]
   cases b == 38
   ·simp only [cond_false, List.length_singleton]; omega
   ·simp only [cond_true, List.length_cons, List.length_nil]; omega
 have := key (bs y)
 rw [size_bs, show bs (rpl y ampB amp5) = _ from bs_rpl y 38 [38, 97, 109, 112, 59] (by decide)]
 rw [← size_bs] at this
 omega

theorem lgW_size : ∀ (m : List ByteArray) (s : ByteArray), (∀ x ∈ m, x.size ≤ 200) → (lgW m s).size ≤ s.size + 1001 * m.length ∧ s.size ≤ (lgW m s).size
 | [], s, _ => ⟨Nat.le_refl _, Nat.le_refl _⟩
 | x :: r, s, h => by
  have h1 := lgW_size r (s ++ (esc x ++ nl)) fun y hy => h y (List.mem_cons_of_mem _ hy)
  have h2 := (esc_size x).2
  have h3 := h x (List.mem_cons_self ..)
  have h4 : nl.size = 1 := rfl
  rw [ByteArray.size_append, ByteArray.size_append, h4] at h1
  rw [lgW, List.length_cons]
  omega

theorem lgH_size {c : Cap} (acc : ByteArray) (h : capW c = true) : (lgH c acc).size ≤ acc.size + 80 ∧ acc.size ≤ (lgH c acc).size := by
 obtain ⟨h1, h2, h3, h4, h5, h6, h7, h8, h9⟩ := capW_spec h
 have a1 := itoa_size (n := c.row) (by omega) (by omega)
 have a2 := tms_size h (show dot.size = 1 from rfl)
 unfold lgH
 cases c.aft <;> cases c.bef <;> cases (c.row != 0) <;> simp only [cond_true, cond_false, ByteArray.size_append, a2, show nl.size = 1 from rfl, show lineB.size = 6 from rfl, show befB.size = 7 from rfl, show aftB.size = 6 from rfl] <;> omega

theorem lgC_size {c : Cap} (acc : ByteArray) (h : capW c = true) : (lgC c acc).size ≤ acc.size + 16000 ∧ acc.size ≤ (lgC c acc).size := by
 obtain ⟨h1, h2, h3, h4, h5, h6, h7, h8, h9⟩ := capW_spec h
 have a1 := lgH_size acc h
 have a2 := lgW_size c.lines (lgH c acc) fun x hx => line_size (h9 x hx)
 unfold lgC
 rw [ByteArray.size_append, show nl.size = 1 from rfl]
 omega

end F

namespace M

theorem SpecP.below3 {P : Program} {G : Nat → Option GR} {f : FuncId} {x y z : Value} {r : AV} {rv : Value} (hr : ∀ w S, RV w S noKeys r rv)
  (h : okAtom x → okAtom y → okAtom z → ∀ w (S : Nat → Prop), (∀ g r, G g = some r → GlobAt w S g r) → Calls P f #[x, y, z] w fun e w' => e = .returned rv ∧ Below w.heap.size w w') : SpecP P G f [.v x, .v y, .v z] r [] := by
 intro w S cargs hlt hg hargs
 match cargs, hargs with
 | [u, v, t], ⟨h1, h2, h3, _⟩ =>
  obtain ⟨rfl, k1⟩ := rv_v h1
  obtain ⟨rfl, k2⟩ := rv_v h2
  obtain ⟨rfl, k3⟩ := rv_v h3
  refine (h k1 k2 k3 w S hg).mono ?_
  rintro e w' ⟨rfl, hb⟩
  exact ⟨rv, S, noKeys, rfl, hb, fun _ h => h, fun _ h => .inl h, fun b h => Nat.lt_of_lt_of_le (hlt b h) hb.size, (fun _ _ _ _ h => by cases h), (fun _ _ h => by cases h), (fun _ _ h => by cases h), (fun _ _ h => by cases h), hr _ _⟩

theorem evBndL (s : ByteArray) : (runF en0 false Tryz.f102 [vS s]).val =
 bif decide ((200000 : Int) < (↑(ByteArray.size s) : Int)) then some (AV.tup [(vS ⟨⟨[]⟩⟩), (vI 2)], []) else some (AV.tup [(vS s), (vI 0)], []) := (runFR_val).symm.trans (by kernel_rfl)

def encBndL1 (s : ByteArray) : List AV := [vS s]

def encBndL (a : ByteArray) : List AV := encBndL1 a

theorem encBndL_inj (a a' : ByteArray) (h : encBndL a = encBndL a') : a = a' := by
 simp only [encBndL, encBndL1] at h
 try simp [] at h
 grind

theorem unBndL (s : ByteArray) : unenc encBndL ([(vS s)]) = some (s) := unenc_of encBndL_inj (s) rfl

def resBndL1 (s : ByteArray) : AV × Heap := (.tup [vS (F.bndS s), vI (F.bnfL s)], [])

def preBndL1 (s : ByteArray) : Bool := true

noncomputable def oBndL : Orc := orc 102 true encBndL (fun a => preBndL1 a) fun a => resBndL1 a

theorem okBndL : OrcOK Tryz.prog noG oBndL := by
 refine mk_ok Tryz.f102 (keep := false) (by kernel_rfl) (by kernel_rfl) en0_ok mixed (no_loops (by kernel_rfl)) (by first | exact fun _ _ => ⟨rfl, rfl⟩ | (intro h; cases h)) ?_
 rintro s hpre hok
 show (runF en0 false _ (encBndL1 _)).val = some (resBndL1 _)
 unfold encBndL1 resBndL1
 rw [evBndL]
 simp only [F.bndS, F.bnfL]
 by_cases h : 200000 < s.size
 ·rw [decide_eq_true h, decide_eq_true (show (200000 : Int) < s.size by omega)]; rfl
 ·rw [decide_eq_false h, decide_eq_false (show ¬ (200000 : Int) < s.size by omega)]; rfl

def encRAll1 (s : ByteArray) (old : ByteArray) (new : ByteArray) : List AV := [vS s, vS old, vS new]

def encRAll (a : ByteArray × ByteArray × ByteArray) : List AV := encRAll1 a.1 a.2.1 a.2.2

theorem encRAll_inj (a a' : ByteArray × ByteArray × ByteArray) (h : encRAll a = encRAll a') : a = a' := by
 simp only [encRAll, encRAll1] at h
 try simp [] at h
 grind

theorem unRAll (s : ByteArray) (old : ByteArray) (new : ByteArray) : unenc encRAll ([(vS s), (vS old), (vS new)]) = some (s, old, new) := unenc_of encRAll_inj (s, old, new) rfl

def resRAll1 (s : ByteArray) (old : ByteArray) (new : ByteArray) : AV × Heap := (vS (F.rpl s old new), [])

def preRAll1 (s : ByteArray) (old : ByteArray) (new : ByteArray) : Bool := decide (s.size ≤ 100000) && decide (old.size = 1) && decide (new.size ≤ 5) && decide ((F.rpl s old new).size ≤ 1000000)

noncomputable def oRAll : Orc := orc 101 true encRAll (fun a => preRAll1 a.1 a.2.1 a.2.2) fun a => resRAll1 a.1 a.2.1 a.2.2

theorem okRAll : OrcOK Tryz.prog noG oRAll := by
 refine orc_ok ⟨Tryz.f101, by kernel_rfl, by kernel_rfl, by kernel_rfl⟩ (fun x hp _ => ?_) (fun _ _ => ⟨rfl, rfl⟩)
 obtain ⟨s, old, new⟩ := x
 simp only [preRAll1, Bool.and_eq_true, decide_eq_true_eq] at hp
 obtain ⟨⟨⟨h1, h2⟩, h3⟩, h4⟩ := hp
 have hc := Lib.countB_mul_le old (by omega) s.size s (Nat.le_refl _)
 rw [h2, Nat.mul_one] at hc
 have hm : Lib.countB s old * new.size ≤ 100000 * 5 := Nat.mul_le_mul (by omega) h3
 refine SpecP.below3 (fun w S => rv_mk (by show (F.rpl s old new).size ≤ 9223372036854775807; omega)) fun _ _ _ w S hG => ?_
 obtain ⟨m, hm2⟩ := maxLen_of hG
 refine (Tryz.strings_ReplaceAll s old new m w (by omega) hm2 (by omega) (by omega)).mono ?_
 rintro e w' ⟨he, hb⟩
 exact ⟨he, hb⟩

def stLgi (l : List Cap) (ls : List ByteArray) (k : Nat) (s : ByteArray) (j : Nat) : St := ⟨[(43, vI j), (42, vI ls.length), (41, .sl (ls.map eStr)), (18, vI k), (17, vI l.length), (16, .sl (l.map eCap)), (5, .ptr 5 0 0)], [(16000, ⟨false, 5, 1, F.eUs s⟩), (5, ⟨true, 162, 0, [[.ptr 5 0 0, .own 16000]]⟩)]⟩

def stLgi1 (a : (List Cap) × (List ByteArray) × Nat × ByteArray × Nat) : St := stLgi a.1 a.2.1 a.2.2.1 a.2.2.2.1 a.2.2.2.2

theorem stLgi_inj (a a' : (List Cap) × (List ByteArray) × Nat × ByteArray × Nat) (h : stLgi1 a = stLgi1 a') : a = a' := by
 simp only [stLgi1, stLgi] at h
 try simp [strs_inj, eCaps_inj, eUs_inj] at h
 grind

theorem unstLgi0 (l : List Cap) (ls : List ByteArray) (k : Nat) (s : ByteArray)  : unenc stLgi1 (St.mk [(43, (vI (0 : Int))), (42, (vI (↑(List.length ls) : Int))), (41, AV.sl (List.map eStr ls)), (18, (vI (↑k : Int))), (17, (vI (↑(List.length l) : Int))), (16, AV.sl
 (List.map eCap l)), (5, .ptr 5 0 0)] [(16000, Blk.mk false 5 1 (F.eUs s)), (5, Blk.mk true 162 0 [[.ptr 5 0 0, .own 16000]])]) = some (l, ls, k, s, 0) := unenc_of stLgi_inj (l, ls, k, s, 0) rfl

def outLgi (l : List Cap) (ls : List ByteArray) (k : Nat) (s : ByteArray) (j : Nat) : T (Ex × St) := .ret (.exit 2, ⟨[(18, vI k), (17, vI l.length), (16, .sl (l.map eCap)), (5, .ptr 5 0 0)], [(16000, ⟨false, 5, 1, F.eUs (F.lgW (ls.drop j) s)⟩), (5, ⟨true, 162, 0, [[.ptr 5 0 0, .own 16000]]⟩)]⟩)

noncomputable def prlLgi (l : List Cap) (ls : List ByteArray) (k : Nat) (s : ByteArray) (j : Nat) : Bool := F.allL ls && decide (ls.length ≤ 15) && decide (j ≤ ls.length) && decide (s.size ≤ 100000000)

noncomputable def lpLgi : Nat × (St → T (Ex × St)) := (18, lpo [43, 42, 41, 18, 17, 16, 5] [16000, 5] stLgi1 (fun a => prlLgi a.1 a.2.1 a.2.2.1 a.2.2.2.1 a.2.2.2.2) fun a => outLgi a.1 a.2.1 a.2.2.1 a.2.2.2.1 a.2.2.2.2)

def stLgp (l : List Cap) (s : ByteArray) (k : Nat) : St := ⟨[(18, vI k), (17, vI l.length), (16, .sl (l.map eCap)), (5, .ptr 5 0 0)], [(16000, ⟨false, 5, 1, F.eUs s⟩), (5, ⟨true, 162, 0, [[.ptr 5 0 0, .own 16000]]⟩)]⟩

def stLgp1 (a : (List Cap) × ByteArray × Nat) : St := stLgp a.1 a.2.1 a.2.2

theorem stLgp_inj (a a' : (List Cap) × ByteArray × Nat) (h : stLgp1 a = stLgp1 a') : a = a' := by
 simp only [stLgp1, stLgp] at h
 try simp [eCaps_inj, eUs_inj] at h
 grind

theorem unstLgp (l : List Cap) (s : ByteArray) (k : Nat) : unenc stLgp1 (St.mk [(18, (vI (↑k : Int))), (17, (vI (↑(List.length l) : Int))), (16, AV.sl (List.map eCap l)), (5, .ptr 5 0 0)] [(16000, Blk.mk false 5 1 (F.eUs s)), (5, Blk.mk true
 162 0 [[.ptr 5 0 0, .own 16000]])]) = some (l, s, k) := unenc_of stLgp_inj (l, s, k) rfl

theorem unstLgp0 (l : List Cap)  : unenc stLgp1 (St.mk [(18, (vI (0 : Int))), (17, (vI (↑(List.length l) : Int))), (16, AV.sl (List.map eCap l)), (5, .ptr 5 0 0)] [(16000, Blk.mk false 5 1 (F.eUs (ByteArray.mk (Array.mk
 [(87 : UInt8), (69 : UInt8), (66 : UInt8), (86 : UInt8), (84 : UInt8), (84 : UInt8), (10 : UInt8), (10 : UInt8)])))), (5, Blk.mk true 162 0 [[.ptr 5 0 0, .own 16000]])]) = some (l, ⟨⟨[87, 69, 66, 86, 84, 84, 10, 10]⟩⟩, 0) := unenc_of stLgp_inj (l, ⟨⟨[87, 69, 66, 86, 84, 84, 10, 10]⟩⟩, 0) rfl

def outLgp (l : List Cap) (s : ByteArray) (k : Nat) : T (Ex × St) := .ret (.exit 0, ⟨[(5, .ptr 5 0 0)], [(16000, ⟨false, 5, 1, F.eUs (F.lgA1 (l.drop k) s)⟩), (5, ⟨true, 162, 0, [[.ptr 5 0 0, .own 16000]]⟩)]⟩)

noncomputable def prlLgp (l : List Cap) (s : ByteArray) (k : Nat) : Bool := l.all F.capW && decide (l.length ≤ 500) && decide (k ≤ l.length) && decide (s.size ≤ 100 + 16000 * k)

noncomputable def lpLgp : Nat × (St → T (Ex × St)) := (7, lpo [18, 17, 16, 5] [16000, 5] stLgp1 (fun a => prlLgp a.1 a.2.1 a.2.2) fun a => outLgp a.1 a.2.1 a.2.2)

noncomputable def enLgp : Env := envH ty noG lks [oChC, oIta, oTms, oRAll, oBndL] [oWst, oBst] [] [lpLgp, lpLgi]

theorem enLgp_ok : EnvOK Tryz.prog enLgp := by
 refine envH_ok lks_ok ty_ok ?_ ?_
 ·simp only [List.forall_mem_cons]
  exact ⟨okChC, okIta, okTms, okRAll, okBndL, by simp⟩
 ·simp only [List.forall_mem_cons]
  exact ⟨okWst, okBst, by simp⟩

theorem evLgiL (l : List Cap) (ls : List ByteArray) (k : Nat) (s : ByteArray) (j : Nat) : ((exec enLgp (loopN Tryz.f45 1) (stLgi l ls k s j)).bind (lessX ([43, 42, 41, 18, 17, 16, 5], [16000, 5]) ([18, 17, 16, 5], [16000, 5]) ([], []))).val =
 (fun (q : List (Nat × Blk)) => (fun (q_1 : List (Nat × AV)) => bif decide ((↑j : Int) < (↑(List.length ls) : Int)) then Option.bind (unenc (List.map eStr) (List.map eStr ls)) fun z => bif decide (j < List.length z) then Option.bind (unenc encRAll [(vS (List.getD z j (ByteArray.mk (Array.mk [])))), (vS ⟨⟨[38]⟩⟩), (vS ⟨⟨[38, 97, 109, 112, 59]⟩⟩)]) fun z => bif decide (ByteArray.size z.1 ≤ 100000) && decide (ByteArray.size z.2.1 = (1 : Nat)) && decide (ByteArray.size z.2.2 ≤ 5) && decide (ByteArray.size (F.rpl z.1 z.2.1 z.2.2) ≤ 1000000) then Option.bind (unenc encRAll [(vS (F.rpl z.1 z.2.1 z.2.2)), (vS ⟨⟨[60]⟩⟩), (vS ⟨⟨[38, 108, 116, 59]⟩⟩)]) fun z => (fun (q_2 : Nat) => bif decide (ByteArray.size z.1 ≤ 100000) && decide (ByteArray.size z.2.1 = (1 : Nat)) && decide (ByteArray.size z.2.2 ≤ 5) && decide (q_2 ≤ 1000000) then bif Nat.ble (q_2 + ByteArray.size (ByteArray.mk (Array.mk [(10 : UInt8)]))) 9223372036854775807 then Option.bind (unenc encWst ([.ptr 900 0 0, (vS (F.rpl z.1 z.2.1 z.2.2 ++ ByteArray.mk (Array.mk [(10 : UInt8)])))], [(901, Blk.mk false 5 1 (F.eUs s)), (900, Blk.mk true 162 0 [[.ptr 900 0 0, .own 901]])])) fun z => bif F.wstB z.1 z.2 then bif match z.1 with | some val => false | none => true then none else some (Ex.normal, St.mk ((43, (vI (IntKind.i64.wrap ((↑j : Int) + 1)))) :: (42, (vI (↑(List.length ls) : Int))) :: (41, AV.sl (List.map eStr ls)) :: q_1) ((16000, Blk.mk false 5 1 (F.eUs (F.bldS z.1 ++ z.2))) :: q)) else none else none else none) (ByteArray.size (F.rpl z.1 z.2.1 z.2.2)) else none else none else some (Ex.exit (2 : Nat), St.mk q_1 ((16000, Blk.mk false 5 1 (F.eUs s)) :: q))) [(18, (vI (↑k : Int))), (17, (vI (↑(List.length l) : Int))), (16, AV.sl (List.map eCap l)), (5, .ptr 5 0 0)]) [(5, Blk.mk true 162 0 [[.ptr 5 0 0, .own 16000]])] := (execR_bind _ _ _).symm.trans (by kernel_rfl)

theorem lpLgi_ok (l : List Cap) (ls : List ByteArray) (k : Nat) (s : ByteArray) (j : Nat) (hp : prlLgi l ls k s j = true) : ∀ ex s', (outLgi l ls k s j).val = some (ex, s') → LoopOK enLgp (loopN Tryz.f45 1) (stLgi l ls k s j) ex s' := by
 simp only [prlLgi, Bool.and_eq_true, decide_eq_true_eq] at hp
 obtain ⟨⟨⟨h1, h2⟩, h3⟩, h4⟩ := hp
 have hw := List.all_eq_true.1 (h1 : ls.all F.line = true)
 have hx : ls.length ≤ 9223372036854775807 := by omega
 refine loop_gen (st := fun b : ByteArray × Nat => stLgi l ls k b.1 b.2) (out := fun b => outLgi l ls k b.1 b.2) (I := fun b => b.2 ≤ ls.length ∧ b.1.size ≤ 100000000 + 1001 * b.2) (n := ([43, 42, 41, 18, 17, 16, 5], [16000, 5])) (e := ([18, 17, 16, 5], [16000, 5])) (r := ([], [])) (fun b => ls.length - b.2) ?_ (s, j) ⟨h3, by simp only; omega⟩
 rintro ⟨s, j⟩ ⟨i1, i2⟩
 simp only at i1 i2
 by_cases hlt : j < ls.length
 ·have hy : ls[j]? = some ls[j] := List.getElem?_eq_getElem hlt
  generalize ls[j] = y at hy
  have hd := drop_q hy
  have hl := hw y (List.mem_of_getElem? hy)
  have hs := F.line_size hl
  have e1 := (F.esc_size y).2
  have ee : F.rpl (F.rpl y (ByteArray.mk (Array.mk [38])) (ByteArray.mk (Array.mk [38, 97, 109, 112, 59]))) (ByteArray.mk (Array.mk [60])) (ByteArray.mk (Array.mk [38, 108, 116, 59])) = F.esc y := rfl
  have er : (F.rpl y (ByteArray.mk (Array.mk [38])) (ByteArray.mk (Array.mk [38, 97, 109, 112, 59]))).size ≤ 1000 := F.rpl1_size hs
  right
  refine ⟨(s ++ (F.esc y ++ F.nl), j + 1), ?_, rfl, ⟨by simp only; omega, by simp only [ByteArray.size_append, show F.nl.size = 1 from rfl]; omega⟩, by simp only; omega, ?_⟩
  ·rw [evLgiL]
   simp only [unRAll, Option.bind_some, unStrs, cond_true, cond_false, unWstU, F.bldS_some, F.wstB_eq, cast_lt hlt, decide_eq_true hlt, getD_at hy, next_at hlt hx, ee]
   simp only [ByteArray.size_append, show (ByteArray.mk (Array.mk [10])).size = 1 from rfl, show (ByteArray.mk (Array.mk [38])).size = 1 from rfl, show (ByteArray.mk (Array.mk [60])).size = 1 from rfl, show (ByteArray.mk (Array.mk [38, 97, 109, 112, 59])).size = 5 from rfl, show (ByteArray.mk (Array.mk [38, 108, 116, 59])).size = 4 from rfl]
   simp (disch := omega) only [decide_eq_true, decide_true, ble_t, cond_true, Bool.and_self]
   try rfl
  ·simp only [outLgi, hd, F.lgW]
 ·have hd : ls.drop j = [] := List.drop_eq_nil_of_le (by omega)
  left
  refine ⟨(.exit 2, ⟨[(18, vI k), (17, vI l.length), (16, .sl (l.map eCap)), (5, .ptr 5 0 0)], [(16000, ⟨false, 5, 1, F.eUs s⟩), (5, ⟨true, 162, 0, [[.ptr 5 0 0, .own 16000]]⟩)]⟩), ?_, ?_, by simp, rfl⟩
  ·rw [evLgiL]
   simp only [unRAll, Option.bind_some, unStrs, cond_false, unWstU, F.bldS_some, F.wstB_eq, decide_eq_false (show ¬ (j : Int) < (ls.length : Int) by omega)]
   try rfl
  ·simp only [outLgi, hd, F.lgW]
   rfl

theorem evLgpL (l : List Cap) (s : ByteArray) (k : Nat) : ((exec enLgp (loopN Tryz.f45 0) (stLgp l s k)).bind (lessX ([18, 17, 16, 5], [16000, 5]) ([5], [16000, 5]) ([], []))).val =
 (fun (q : Nat × AV) => (fun (q_1 : Cap) => (fun (q_2 : List (Nat × AV)) => (fun (q_3 : List AV) => (fun (q_4 : ByteArray) => (fun (q_5 : List (Nat × Blk)) => (fun (q_6 : List (Nat × Blk)) => (fun (q_7 : List AV) => (fun (q_8 : List AV) => (fun (q_9 : List (Nat × AV)) => bif decide ((↑k : Int) < (↑(List.length l) : Int)) then Option.bind (unenc (List.map eCap) (List.map eCap l)) fun z => (fun (q_10 : Bool) => (fun (q : List (Nat × AV)) => bif decide (k < List.length z) then Option.bind (unenc encTms [AV.agg [(vI (List.getD z k q_1).fr), (vI (List.getD z k q_1).to), AV.sl (List.map eStr (List.getD z k q_1).lines), (vI (List.getD z k q_1).row), (vB (List.getD z k q_1).bef), (vB q_10)], (vS ⟨⟨[46]⟩⟩)]) fun z_1 => bif decide ((0 : Int) ≤ z_1.1.fr) && decide (z_1.1.fr ≤ 359999999) && decide ((0 : Int) ≤ z_1.1.to) && decide (z_1.1.to ≤ 359999999) && decide (ByteArray.size z_1.2 = (1 : Nat)) then Option.bind (unenc encWst ([.ptr 900 0 0, (vS (F.tms z_1.1 z_1.2))], (901, Blk.mk false 5 1 (F.eUs s)) :: q_5)) fun z_2 => (fun (q_11 : List (Nat × Blk)) => bif F.wstB z_2.1 z_2.2 then bif match z_2.1 with | some val => false | none => true then none else bif (List.getD z k q_1).row != 0 then Option.bind (unenc encIta [(vI (List.getD z k q_1).row)]) fun z_3 => bif decide ((-9223372036854775808 : Int) ≤ z_3) && decide (z_3 ≤ 9223372036854775807) then bif Nat.ble (ByteArray.size q_4 + ByteArray.size (F.itoa z_3)) 9223372036854775807 then Option.bind (unenc encWst ([.ptr 900 0 0, (vS (q_4 ++ F.itoa z_3))], q_11)) fun z_4 => (fun (q_12 : List (Nat × Blk)) => bif F.wstB z_4.1 z_4.2 then bif match z_4.1 with | some val => false | none => true then none else bif (List.getD z k q_1).bef then Option.bind (unenc encWst (q_8, q_12)) fun z => (fun (q_13 : List (Nat × Blk)) => bif F.wstB z.1 z.2 then bif match z.1 with | some val => false | none => true then none else bif q_10 then Option.bind (unenc encWst (q_7, q_13)) fun z => bif F.wstB z.1 z.2 then bif match z.1 with | some val => false | none => true then none else Option.bind (unenc encWst (q_3, (901, Blk.mk false 5 1 (F.eUs (F.bldS z.1 ++ z.2))) :: q_5)) fun z => bif F.wstB z.1 z.2 then bif match z.1 with | some val => false | none => true then none else Option.bind (unenc stLgi1 (St.mk q ((16000, Blk.mk false 5 1 (F.eUs (F.bldS z.1 ++ z.2))) :: q_6))) fun z => bif F.allL z.2.1 && decide (List.length z.2.1 ≤ 15) && decide (z.2.2.2.2 ≤ List.length z.2.1) && decide (ByteArray.size z.2.2.2.1 ≤ 100000000) && true then Option.bind (unenc encWst (q_3, (901, Blk.mk false 5 1 (F.eUs (F.lgW (List.drop z.2.2.2.2 z.2.1) z.2.2.2.1))) :: q_5)) fun z_5 => bif F.wstB z_5.1 z_5.2 then bif match z_5.1 with | some val => false | none => true then none else some (Ex.normal, St.mk ((18, (vI (IntKind.i64.wrap ((↑z.2.2.1 : Int) + 1)))) :: (17, (vI (↑(List.length z.1) : Int))) :: (16, AV.sl (List.map eCap z.1)) :: q_2) ((16000, Blk.mk false 5 1 (F.eUs (F.bldS z_5.1 ++ z_5.2))) :: q_6)) else none else none else none else none else Option.bind (unenc encWst (q_3, q_13)) fun z => bif F.wstB z.1 z.2 then bif match z.1 with | some val => false | none => true then none else Option.bind (unenc stLgi1 (St.mk q ((16000, Blk.mk false 5 1 (F.eUs (F.bldS z.1 ++ z.2))) :: q_6))) fun z => bif F.allL z.2.1 && decide (List.length z.2.1 ≤ 15) && decide (z.2.2.2.2 ≤ List.length z.2.1) && decide (ByteArray.size z.2.2.2.1 ≤ 100000000) && true then Option.bind (unenc encWst (q_3, (901, Blk.mk false 5 1 (F.eUs (F.lgW (List.drop z.2.2.2.2 z.2.1) z.2.2.2.1))) :: q_5)) fun z_5 => bif F.wstB z_5.1 z_5.2 then bif match z_5.1 with | some val => false | none => true then none else some (Ex.normal, St.mk ((18, (vI (IntKind.i64.wrap ((↑z.2.2.1 : Int) + 1)))) :: (17, (vI (↑(List.length z.1) : Int))) :: (16, AV.sl (List.map eCap z.1)) :: q_2) ((16000, Blk.mk false 5 1 (F.eUs (F.bldS z_5.1 ++ z_5.2))) :: q_6)) else none else none else none else none) ((901, Blk.mk false 5 1 (F.eUs (F.bldS z.1 ++ z.2))) :: q_5) else bif q_10 then Option.bind (unenc encWst (q_7, q_12)) fun z => bif F.wstB z.1 z.2 then bif match z.1 with | some val => false | none => true then none else Option.bind (unenc encWst (q_3, (901, Blk.mk false 5 1 (F.eUs (F.bldS z.1 ++ z.2))) :: q_5)) fun z => bif F.wstB z.1 z.2 then bif match z.1 with | some val => false | none => true then none else Option.bind (unenc stLgi1 (St.mk q ((16000, Blk.mk false 5 1 (F.eUs (F.bldS z.1 ++ z.2))) :: q_6))) fun z => bif F.allL z.2.1 && decide (List.length z.2.1 ≤ 15) && decide (z.2.2.2.2 ≤ List.length z.2.1) && decide (ByteArray.size z.2.2.2.1 ≤ 100000000) && true then Option.bind (unenc encWst (q_3, (901, Blk.mk false 5 1 (F.eUs (F.lgW (List.drop z.2.2.2.2 z.2.1) z.2.2.2.1))) :: q_5)) fun z_5 => bif F.wstB z_5.1 z_5.2 then bif match z_5.1 with | some val => false | none => true then none else some (Ex.normal, St.mk ((18, (vI (IntKind.i64.wrap ((↑z.2.2.1 : Int) + 1)))) :: (17, (vI (↑(List.length z.1) : Int))) :: (16, AV.sl (List.map eCap z.1)) :: q_2) ((16000, Blk.mk false 5 1 (F.eUs (F.bldS z_5.1 ++ z_5.2))) :: q_6)) else none else none else none else none else Option.bind (unenc encWst (q_3, q_12)) fun z => bif F.wstB z.1 z.2 then bif match z.1 with | some val => false | none => true then none else Option.bind (unenc stLgi1 (St.mk q ((16000, Blk.mk false 5 1 (F.eUs (F.bldS z.1 ++ z.2))) :: q_6))) fun z => bif F.allL z.2.1 && decide (List.length z.2.1 ≤ 15) && decide (z.2.2.2.2 ≤ List.length z.2.1) && decide (ByteArray.size z.2.2.2.1 ≤ 100000000) && true then Option.bind (unenc encWst (q_3, (901, Blk.mk false 5 1 (F.eUs (F.lgW (List.drop z.2.2.2.2 z.2.1) z.2.2.2.1))) :: q_5)) fun z_5 => bif F.wstB z_5.1 z_5.2 then bif match z_5.1 with | some val => false | none => true then none else some (Ex.normal, St.mk ((18, (vI (IntKind.i64.wrap ((↑z.2.2.1 : Int) + 1)))) :: (17, (vI (↑(List.length z.1) : Int))) :: (16, AV.sl (List.map eCap z.1)) :: q_2) ((16000, Blk.mk false 5 1 (F.eUs (F.bldS z_5.1 ++ z_5.2))) :: q_6)) else none else none else none else none) ((901, Blk.mk false 5 1 (F.eUs (F.bldS z_4.1 ++ z_4.2))) :: q_5) else none else none else bif (List.getD z k q_1).bef then Option.bind (unenc encWst (q_8, q_11)) fun z => (fun (q_12 : List (Nat × Blk)) => bif F.wstB z.1 z.2 then bif match z.1 with | some val => false | none => true then none else bif q_10 then Option.bind (unenc encWst (q_7, q_12)) fun z => bif F.wstB z.1 z.2 then bif match z.1 with | some val => false | none => true then none else Option.bind (unenc encWst (q_3, (901, Blk.mk false 5 1 (F.eUs (F.bldS z.1 ++ z.2))) :: q_5)) fun z => bif F.wstB z.1 z.2 then bif match z.1 with | some val => false | none => true then none else Option.bind (unenc stLgi1 (St.mk q ((16000, Blk.mk false 5 1 (F.eUs (F.bldS z.1 ++ z.2))) :: q_6))) fun z => bif F.allL z.2.1 && decide (List.length z.2.1 ≤ 15) && decide (z.2.2.2.2 ≤ List.length z.2.1) && decide (ByteArray.size z.2.2.2.1 ≤ 100000000) && true then Option.bind (unenc encWst (q_3, (901, Blk.mk false 5 1 (F.eUs (F.lgW (List.drop z.2.2.2.2 z.2.1) z.2.2.2.1))) :: q_5)) fun z_3 => bif F.wstB z_3.1 z_3.2 then bif match z_3.1 with | some val => false | none => true then none else some (Ex.normal, St.mk ((18, (vI (IntKind.i64.wrap ((↑z.2.2.1 : Int) + 1)))) :: (17, (vI (↑(List.length z.1) : Int))) :: (16, AV.sl (List.map eCap z.1)) :: q_2) ((16000, Blk.mk false 5 1 (F.eUs (F.bldS z_3.1 ++ z_3.2))) :: q_6)) else none else none else none else none else Option.bind (unenc encWst (q_3, q_12)) fun z => bif F.wstB z.1 z.2 then bif match z.1 with | some val => false | none => true then none else Option.bind (unenc stLgi1 (St.mk q ((16000, Blk.mk false 5 1 (F.eUs (F.bldS z.1 ++ z.2))) :: q_6))) fun z => bif F.allL z.2.1 && decide (List.length z.2.1 ≤ 15) && decide (z.2.2.2.2 ≤ List.length z.2.1) && decide (ByteArray.size z.2.2.2.1 ≤ 100000000) && true then Option.bind (unenc encWst (q_3, (901, Blk.mk false 5 1 (F.eUs (F.lgW (List.drop z.2.2.2.2 z.2.1) z.2.2.2.1))) :: q_5)) fun z_3 => bif F.wstB z_3.1 z_3.2 then bif match z_3.1 with | some val => false | none => true then none else some (Ex.normal, St.mk ((18, (vI (IntKind.i64.wrap ((↑z.2.2.1 : Int) + 1)))) :: (17, (vI (↑(List.length z.1) : Int))) :: (16, AV.sl (List.map eCap z.1)) :: q_2) ((16000, Blk.mk false 5 1 (F.eUs (F.bldS z_3.1 ++ z_3.2))) :: q_6)) else none else none else none else none) ((901, Blk.mk false 5 1 (F.eUs (F.bldS z.1 ++ z.2))) :: q_5) else bif q_10 then Option.bind (unenc encWst (q_7, q_11)) fun z => bif F.wstB z.1 z.2 then bif match z.1 with | some val => false | none => true then none else Option.bind (unenc encWst (q_3, (901, Blk.mk false 5 1 (F.eUs (F.bldS z.1 ++ z.2))) :: q_5)) fun z => bif F.wstB z.1 z.2 then bif match z.1 with | some val => false | none => true then none else Option.bind (unenc stLgi1 (St.mk q ((16000, Blk.mk false 5 1 (F.eUs (F.bldS z.1 ++ z.2))) :: q_6))) fun z => bif F.allL z.2.1 && decide (List.length z.2.1 ≤ 15) && decide (z.2.2.2.2 ≤ List.length z.2.1) && decide (ByteArray.size z.2.2.2.1 ≤ 100000000) && true then Option.bind (unenc encWst (q_3, (901, Blk.mk false 5 1 (F.eUs (F.lgW (List.drop z.2.2.2.2 z.2.1) z.2.2.2.1))) :: q_5)) fun z_3 => bif F.wstB z_3.1 z_3.2 then bif match z_3.1 with | some val => false | none => true then none else some (Ex.normal, St.mk ((18, (vI (IntKind.i64.wrap ((↑z.2.2.1 : Int) + 1)))) :: (17, (vI (↑(List.length z.1) : Int))) :: (16, AV.sl (List.map eCap z.1)) :: q_2) ((16000, Blk.mk false 5 1 (F.eUs (F.bldS z_3.1 ++ z_3.2))) :: q_6)) else none else none else none else none else Option.bind (unenc encWst (q_3, q_11)) fun z => bif F.wstB z.1 z.2 then bif match z.1 with | some val => false | none => true then none else Option.bind (unenc stLgi1 (St.mk q ((16000, Blk.mk false 5 1 (F.eUs (F.bldS z.1 ++ z.2))) :: q_6))) fun z => bif F.allL z.2.1 && decide (List.length z.2.1 ≤ 15) && decide (z.2.2.2.2 ≤ List.length z.2.1) && decide (ByteArray.size z.2.2.2.1 ≤ 100000000) && true then Option.bind (unenc encWst (q_3, (901, Blk.mk false 5 1 (F.eUs (F.lgW (List.drop z.2.2.2.2 z.2.1) z.2.2.2.1))) :: q_5)) fun z_3 => bif F.wstB z_3.1 z_3.2 then bif match z_3.1 with | some val => false | none => true then none else some (Ex.normal, St.mk ((18, (vI (IntKind.i64.wrap ((↑z.2.2.1 : Int) + 1)))) :: (17, (vI (↑(List.length z.1) : Int))) :: (16, AV.sl (List.map eCap z.1)) :: q_2) ((16000, Blk.mk false 5 1 (F.eUs (F.bldS z_3.1 ++ z_3.2))) :: q_6)) else none else none else none else none) ((901, Blk.mk false 5 1 (F.eUs (F.bldS z_2.1 ++ z_2.2))) :: q_5) else none else none) (q :: (42, (vI (↑(List.length (List.map eStr (List.getD z k q_1).lines)) : Int))) :: (41, AV.sl (List.map eStr (List.getD z k q_1).lines)) :: q_9)) (List.getD z k q_1).aft else some (Ex.exit (0 : Nat), St.mk q_2 ((16000, Blk.mk false 5 1 (F.eUs s)) :: q_6))) ((18, (vI (↑k : Int))) :: (17, (vI (↑(List.length l) : Int))) :: (16, AV.sl (List.map eCap l)) :: q_2)) [.ptr 900 0 0, (vS ⟨⟨[32, 98, 101, 102, 111, 114, 101]⟩⟩)]) [.ptr 900 0 0, (vS ⟨⟨[32, 97, 102, 116, 101, 114]⟩⟩)]) [(5, Blk.mk true 162 0 [[.ptr 5 0 0, .own 16000]])]) [(900, Blk.mk true 162 0 [[.ptr 900 0 0, .own 901]])]) (ByteArray.mk (Array.mk [(32 : UInt8), (108 : UInt8), (105 : UInt8), (110 : UInt8), (101 : UInt8), (58 : UInt8)]))) [.ptr 900 0 0, (vS ⟨⟨[10]⟩⟩)]) [(5, .ptr 5 0 0)]) (Cap.mk (0 : Int) (0 : Int) [] (0 : Int) false false)) (43, (vI 0)) := (execR_bind _ _ _).symm.trans (by kernel_rfl)

theorem lpLgp_ok (l : List Cap) (s : ByteArray) (k : Nat) (hp : prlLgp l s k = true) : ∀ ex s', (outLgp l s k).val = some (ex, s') → LoopOK enLgp (loopN Tryz.f45 0) (stLgp l s k) ex s' := by
 simp only [prlLgp, Bool.and_eq_true, decide_eq_true_eq] at hp
 obtain ⟨⟨⟨h1, h2⟩, h3⟩, h4⟩ := hp
 have hw := List.all_eq_true.1 (h1 : l.all F.capW = true)
 have hx : l.length ≤ 9223372036854775807 := by omega
 refine loop_gen (st := fun b : ByteArray × Nat => stLgp l b.1 b.2) (out := fun b => outLgp l b.1 b.2) (I := fun b => b.2 ≤ l.length ∧ b.1.size ≤ 100 + 16000 * b.2) (n := ([18, 17, 16, 5], [16000, 5])) (e := ([5], [16000, 5])) (r := ([], [])) (fun b => l.length - b.2) ?_ (s, k) ⟨h3, h4⟩
 rintro ⟨s, k⟩ ⟨i1, i2⟩
 simp only at i1 i2
 by_cases hlt : k < l.length
 ·have hy : l[k]? = some l[k] := List.getElem?_eq_getElem hlt
  generalize l[k] = y at hy
  have hd := drop_q hy
  have hc := hw y (List.mem_of_getElem? hy)
  obtain ⟨c1, c2, c3, c4, c5, c6, c7, c8, c9⟩ := F.capW_spec hc
  have hall : F.allL y.lines = true := List.all_eq_true.2 c9
  have z1 := F.itoa_size (n := y.row) (by omega) (by omega)
  have z2 := F.tms_size hc (show (ByteArray.mk (Array.mk [46])).size = 1 from rfl)
  have z3 : (ByteArray.mk (Array.mk [46])).size = 1 := rfl
  have z4 : (ByteArray.mk (Array.mk [10])).size = 1 := rfl
  have z5 : (ByteArray.mk (Array.mk [32, 108, 105, 110, 101, 58])).size = 6 := rfl
  have z6 : (ByteArray.mk (Array.mk [32, 98, 101, 102, 111, 114, 101])).size = 7 := rfl
  have z7 : (ByteArray.mk (Array.mk [32, 97, 102, 116, 101, 114])).size = 6 := rfl
  have y1 := F.lgC_size s hc
  have y2 := F.lgH_size s hc
  have y3 := F.lgW_size y.lines (F.lgH y s) fun x hx => F.line_size (c9 x hx)
  have hC : F.lgW y.lines (F.lgH y s) ++ ByteArray.mk (Array.mk [10]) = F.lgC y s := rfl
  right
  refine ⟨(F.lgC y s, k + 1), ?_, rfl, ⟨by simp only; omega, by simp only; omega⟩, by simp only; omega, ?_⟩
  ·rw [evLgpL]
   cases ha : y.aft <;> cases hb : y.bef <;> cases hr : (y.row != 0)
   all_goals
    have hH : F.lgH y s = F.lgH y s := rfl
    conv at hH => lhs; unfold F.lgH
    simp only [ha, hb, hr, cond_true, cond_false, F.dot, F.nl, F.lineB, F.befB, F.aftB] at hH
    simp only [unIta, unTmsw, unstLgi0, etaCap, Option.bind_some, List.length_map, unCaps, cond_true, cond_false, Bool.and_true, Bool.true_and, unWstU, F.bldS_some, F.wstB_eq, cast_lt hlt, decide_eq_true hlt, getD_at hy, next_at hlt hx, ha, hb, hr, decide_eq_true c1, decide_eq_true c2, decide_eq_true c3, decide_eq_true c4, z3, decide_true, hall, List.drop_zero]
    simp only [hH]
    simp only [ByteArray.size_append, z2, z4, z5, z6, z7]
    simp (disch := omega) only [decide_eq_true, ble_t, cond_true, Bool.and_self]
    rfl
  ·simp only [outLgp, hd, F.lgA1]
 ·have hd : l.drop k = [] := List.drop_eq_nil_of_le (by omega)
  left
  refine ⟨(.exit 0, ⟨[(5, .ptr 5 0 0)], [(16000, ⟨false, 5, 1, F.eUs s⟩), (5, ⟨true, 162, 0, [[.ptr 5 0 0, .own 16000]]⟩)]⟩), ?_, ?_, by simp, rfl⟩
  ·rw [evLgpL]
   simp only [unIta, unTmsw, unstLgi0, etaCap, Option.bind_some, List.length_map, unCaps, cond_false, Bool.and_true, unWstU, F.bldS_some, F.wstB_eq, decide_eq_false (show ¬ (k : Int) < (l.length : Int) by omega)]
   try rfl
  ·simp only [outLgp, hd, F.lgA1]
   rfl

end M

def F.sp : ByteArray := ⟨⟨[32]⟩⟩

namespace M

theorem idx_nat (n : Nat) : idx (n : Int) = some n := rfl

end M

namespace M

end M

def F.sameSs (l : List (ByteArray × ByteArray)) : Bool := l.all fun p => F.seq p.1 p.2

def F.sameSL (a b : List ByteArray) : Bool := decide (a.length = b.length) && F.sameSs (a.zip b)

theorem F.zip_all {α : Type} (p : α → α → Bool) (h : ∀ a, p a a = true) : ∀ l : List α, ((l.zip l).all fun q => p q.1 q.2) = true
 | [] => rfl
 | y :: l => by simp only [List.zip_cons_cons, List.all_cons, h, Bool.true_and]; exact F.zip_all p h l

theorem F.sameSL_refl (a : List ByteArray) : F.sameSL a a = true := by
 simp only [F.sameSL, F.sameSs, F.zip_all F.seq F.seq_refl]
 simp

theorem F.zip_at {α β : Type} {a : List α} {b : List β} {k : Nat} {y : α × β} (h : (a.zip b)[k]? = some y) : a[k]? = some y.1 ∧ b[k]? = some y.2 := by
 rw [List.getElem?_zip_eq_some] at h
 exact h

theorem F.len_eq (n m : Nat) : ((n : Int) == (m : Int)) = decide (n = m) := by by_cases h : n = m <;> simp [h]; omega

theorem F.fold_app {α : Type} : ∀ (l acc : List α), l.foldl (fun a y => a ++ [y]) acc = acc ++ l
 | [], acc => by simp
 | y :: l, acc => by rw [List.foldl_cons, F.fold_app l]; simp

def F.capSm (l : List Cap) : Bool := decide (l.length ≤ 500) && l.all fun c => decide (c.lines.length ≤ 15)

theorem F.chkP_ok {α : Type} {f : Option α → α → Int} : ∀ {l : List α} {p : Option α}, F.chkP f p l = 0 → ∀ c ∈ l, ∃ q, f q c = 0
 | c :: l, p, h, d, hd => by
  rw [F.chkP] at h
  by_cases hf : f p c = 0
  ·rcases List.mem_cons.1 hd with rfl | hd
   ·exact ⟨p, hf⟩
   ·rw [M.bne0 hf] at h
    exact F.chkP_ok h d hd
  ·rw [M.bne1 hf] at h
   exact absurd h hf

theorem F.chk_len {l : List Cap} (h : F.chkC l = 0) : l.length ≤ 500 := by
 unfold F.chkC at h
 by_cases hh : 500 < l.length
 ·rw [decide_eq_true hh] at h; cases h
 ·omega

theorem F.chk_at {l : List Cap} (h : F.chkC l = 0) {c : Cap} (hc : c ∈ l) : ∃ q, F.capF q c = 0 := by
 have h1 := F.chk_len h
 unfold F.chkC at h
 rw [decide_eq_false (by omega)] at h
 exact F.chkP_ok h c hc

theorem F.linesF_ok {ls : List ByteArray} (h : F.linesF ls = 0) : ls ≠ [] ∧ ls.length ≤ 15 ∧ F.allL ls = true := by
 unfold F.linesF at h
 cases h1 : ls.isEmpty <;> rw [h1] at h
 ·by_cases h2 : 15 < ls.length
  ·rw [decide_eq_true h2] at h; cases h
  ·rw [decide_eq_false h2] at h
   cases h3 : F.allL ls <;> rw [h3] at h
   ·cases h
   ·refine ⟨?_, by omega, rfl⟩
    intro e
    rw [e] at h1
    cases h1
 ·cases h

theorem F.capF_ok {q : Option Cap} {c : Cap} (h : F.capF q c = 0) : F.noTime c.fr = false ∧ F.noTime c.to = false ∧ F.le c.to c.fr = false ∧ F.befP q c = false ∧ F.out c.row 0 15 = false ∧ F.linesF c.lines = 0 := by
 unfold F.capF at h
 cases h1 : F.noTime c.fr <;> rw [h1] at h <;> simp only [Bool.true_or, Bool.false_or, cond_true] at h
 ·cases h2 : F.noTime c.to <;> rw [h2] at h <;> simp only [cond_true, cond_false] at h
  ·cases h3 : F.le c.to c.fr <;> rw [h3] at h <;> simp only [Bool.true_or, Bool.false_or, cond_true] at h
   ·cases h4 : F.befP q c <;> rw [h4] at h <;> simp only [cond_true, cond_false] at h
    ·cases h5 : F.out c.row 0 15 <;> rw [h5] at h <;> simp only [cond_true, cond_false] at h
     ·exact ⟨rfl, rfl, rfl, rfl, rfl, h⟩
     ·cases h
    ·cases h
   ·cases h
  ·cases h
 ·cases h

theorem F.chk_sm {l : List Cap} (h : F.chkC l = 0) : F.capSm l = true := by
 refine Bool.and_eq_true_iff.2 ⟨decide_eq_true (F.chk_len h), List.all_eq_true.2 fun c hc => ?_⟩
 obtain ⟨q, hq⟩ := F.chk_at h hc
 exact decide_eq_true (F.linesF_ok (F.capF_ok hq).2.2.2.2.2).2.1

namespace M

def stEqS (a : List ByteArray) (b : List ByteArray) (k : Nat) : St := ⟨[(13, vI k), (12, vI a.length), (1, .sl (b.map eStr)), (0, .sl (a.map eStr))], []⟩

def stEqS1 (a : (List ByteArray) × (List ByteArray) × Nat) : St := stEqS a.1 a.2.1 a.2.2

theorem stEqS_inj (a a' : (List ByteArray) × (List ByteArray) × Nat) (h : stEqS1 a = stEqS1 a') : a = a' := by
 simp only [stEqS1, stEqS] at h
 try simp [strs_inj] at h
 grind

theorem unstEqS0 (a : List ByteArray) (b : List ByteArray)  : unenc stEqS1 (St.mk [(13, (vI (0 : Int))), (12, (vI (↑(List.length a) : Int))), (1, AV.sl (List.map eStr b)), (0, AV.sl (List.map eStr a))] []) = some (a, b, 0) := unenc_of stEqS_inj (a, b, 0) rfl

def outEqS (a : List ByteArray) (b : List ByteArray) (k : Nat) : T (Ex × St) := .ifB (F.sameSs ((a.zip b).drop k)) (.ret (.exit 0, ⟨[], []⟩)) (.ret (.ret, ⟨[(4, vB false)], []⟩))

noncomputable def prlEqS (a : List ByteArray) (b : List ByteArray) (k : Nat) : Bool := decide (a.length ≤ 9223372036854775807) && decide (k ≤ a.length) && decide (a.length = b.length)

noncomputable def lpEqS : Nat × (St → T (Ex × St)) := (4, lpo [13, 12, 1, 0] [] stEqS1 (fun a => prlEqS a.1 a.2.1 a.2.2) fun a => outEqS a.1 a.2.1 a.2.2)

noncomputable def enEqS : Env := envH ty noG lks [] [] [] [lpEqS]

theorem enEqS_ok : EnvOK Tryz.prog enEqS := by
 refine envH_ok lks_ok ty_ok ?_ ?_
 ·simp
 ·simp

theorem evEqSL (a : List ByteArray) (b : List ByteArray) (k : Nat) : ((exec enEqS (loopN Tryz.f15 0) (stEqS a b k)).bind (lessX ([13, 12, 1, 0], []) ([], []) ([4], []))).val =
 bif decide ((↑k : Int) < (↑(List.length a) : Int)) then Option.bind (unenc (List.map eStr) (List.map eStr a)) fun z => bif decide (k < List.length z)
 then Option.bind (unenc (List.map eStr) (List.map eStr b)) fun z_1 => bif decide (k < List.length z_1) then bif !ByteArray.toList (List.getD z k
 (ByteArray.mk (Array.mk []))) == ByteArray.toList (List.getD z_1 k (ByteArray.mk (Array.mk []))) then some (Ex.ret, St.mk [(4, (vB false))] []) else some (Ex.normal, St.mk
 [(13, (vI (IntKind.i64.wrap ((↑k : Int) + 1)))), (12, (vI (↑(List.length a) : Int))), (1, AV.sl (List.map eStr b)), (0, AV.sl (List.map eStr a))] []) else
 none else none else some (Ex.exit (0 : Nat), St.mk [] []) := by kernel_rfl

theorem lpEqS_ok (a : List ByteArray) (b : List ByteArray) (k : Nat) (hp : prlEqS a b k = true) : ∀ ex s', (outEqS a b k).val = some (ex, s') → LoopOK enEqS (loopN Tryz.f15 0) (stEqS a b k) ex s' := by
 simp only [prlEqS, Bool.and_eq_true, decide_eq_true_eq] at hp
 obtain ⟨⟨h1, h2⟩, h3⟩ := hp
 have hz : (a.zip b).length = a.length := by rw [List.length_zip]; omega
 refine loop_all (xs := a.zip b) (st := stEqS a b) (p := fun p => F.seq p.1 p.2) (n := ([13, 12, 1, 0], [])) (e := ([], [])) (r := ([4], [])) ?_ ⟨by simp, rfl⟩ ⟨by simp, rfl⟩ (fun _ => rfl) ?_ k (by omega)
 ·rw [hz]; rw [evEqSL]; simp
 ·intro k y hy
  obtain ⟨ha, hb⟩ := F.zip_at hy
  have hlt := lt_at ha
  have hlt' := lt_at hb
  rw [evEqSL]
  simp only [Option.bind_some, unStrs, cond_true, cast_lt hlt, decide_eq_true hlt, decide_eq_true hlt', next_at hlt h1, getD_at ha, getD_at hb, stEqS, F.seq]
  cases (y.1.toList == y.2.toList) <;> rfl

theorem evEqS (a : List ByteArray) (b : List ByteArray) : (runF enEqS false Tryz.f15 [.sl (a.map eStr), .sl (b.map eStr)]).val =
 bif (↑(List.length (List.map eStr a)) : Int) != (↑(List.length (List.map eStr b)) : Int) then some ((vB false), []) else Option.bind (unenc stEqS1 (St.mk [(13, (vI 0)), (12, (vI (↑(List.length (List.map eStr a)) : Int))), (1, AV.sl (List.map eStr b)), (0, AV.sl (List.map eStr a))] [])) fun z => bif decide (List.length z.1 ≤ 9223372036854775807) && decide (z.2.2 ≤ List.length z.1) && decide (List.length z.1 = List.length z.2.1) &&
 true then bif F.sameSs (List.drop z.2.2 (List.zip z.1 z.2.1)) then some ((vB true), []) else some ((vB false), []) else none := by kernel_rfl

def encEqS1 (a : List ByteArray) (b : List ByteArray) : List AV := [.sl (a.map eStr), .sl (b.map eStr)]

def encEqS (a : (List ByteArray) × (List ByteArray)) : List AV := encEqS1 a.1 a.2

theorem encEqS_inj (a a' : (List ByteArray) × (List ByteArray)) (h : encEqS a = encEqS a') : a = a' := by
 simp only [encEqS, encEqS1] at h
 try simp [strs_inj] at h
 grind

theorem unEqS (a : List ByteArray) (b : List ByteArray) : unenc encEqS ([AV.sl (List.map eStr a), AV.sl (List.map eStr b)]) = some (a, b) := unenc_of encEqS_inj (a, b) rfl

def resEqS1 (a : List ByteArray) (b : List ByteArray) : AV × Heap := (vB (F.sameSL a b), [])

def preEqS1 (a : List ByteArray) (b : List ByteArray) : Bool := true

noncomputable def oEqS : Orc := orc 15 true encEqS (fun a => preEqS1 a.1 a.2) fun a => resEqS1 a.1 a.2

theorem okEqS : OrcOK Tryz.prog noG oEqS := by
 refine mk_ok Tryz.f15 (keep := false) (by kernel_rfl) (by kernel_rfl) enEqS_ok mixed (one_loop (x0 := loopN Tryz.f15 0) (by kernel_rfl) (lpo_ok ?_)) (by first | exact fun _ _ => ⟨rfl, rfl⟩ | (intro h; cases h)) ?_
 ·rintro ⟨a, b, k⟩ hp
  exact lpEqS_ok a b k hp
 rintro ⟨a, b⟩ hpre hok
 show (runF enEqS false _ (encEqS1 _ _)).val = some (resEqS1 _ _)
 unfold encEqS1 resEqS1
 rw [evEqS]
 have hx : a.length ≤ 9223372036854775807 := by simpa using (okA_sl (hok _ (List.mem_cons_self ..))).1
 simp only [unstEqS0, Option.bind_some, List.length_map, Bool.and_true, Bool.true_and, F.sameSL, hx, List.drop_zero, Nat.zero_le, decide_true, F.len_eq, bne]
 cases decide (a.length = b.length) <;> cases F.sameSs (a.zip b) <;> rfl

theorem evCln0 : (runF en0 false Tryz.f28 [.nz true []]).val =
 some (AV.sl [], []) := by kernel_rfl

theorem evCln1 (xs : List ByteArray) : (runF en0 false Tryz.f28 [.nz false (xs.map eStr)]).val =
 bif Nat.ble (((0 : Nat) + List.length (List.map eStr xs)) * 16) 140737488355328 && List.all (List.map eStr xs) fun (r : Row) => Nat.beq (List.length r)
 (TI.mk false (1 : Nat) [] [AV.e0] (9 : Nat) (1 : Nat) (16 : Nat) [(vS ⟨⟨[]⟩⟩)] none (4 : Nat) []).esize then some (AV.sl (List.map eStr xs), []) else
 none := by kernel_rfl

def encCln1 (xs : List ByteArray) : List AV := [.sl (xs.map eStr)]

def encCln (a : (List ByteArray)) : List AV := encCln1 a

theorem encCln_inj (a a' : (List ByteArray)) (h : encCln a = encCln a') : a = a' := by
 simp only [encCln, encCln1] at h
 try simp [strs_inj] at h
 grind

theorem unCln (xs : List ByteArray) : unenc encCln ([AV.sl (List.map eStr xs)]) = some (xs) := unenc_of encCln_inj (xs) rfl

def resCln1 (xs : List ByteArray) : AV × Heap := (.sl (xs.map eStr), [])

def preCln1 (xs : List ByteArray) : Bool := decide (xs.length * 16 ≤ 140737488355328)

noncomputable def oCln : Orc := orc 28 false encCln (fun a => preCln1 a) fun a => resCln1 a

theorem okCln : OrcOK Tryz.prog noG oCln := by
 refine orc_ok ⟨Tryz.f28, by kernel_rfl, by kernel_rfl, by kernel_rfl⟩ (fun xs hp _ => ?_) (by intro h; cases h)
 simp only [preCln1, decide_eq_true_eq] at hp
 have hb : Nat.ble (xs.length * 16) 140737488355328 = true := ble_t (by omega)
 show SpecP _ _ _ [.sl (xs.map eStr)] (.sl (xs.map eStr)) []
 refine SpecP.nil (fun e => ?_) ?_
 ·have : xs = [] := by simpa using e
  subst this
  exact runF_sound (E := en0) en0_ok mixed (fn := Tryz.f28) (by kernel_rfl) (no_loops (by kernel_rfl)) (keep := false) evCln0
 ·refine runF_sound (E := en0) en0_ok mixed (fn := Tryz.f28) (by kernel_rfl) (no_loops (by kernel_rfl)) (keep := false) ?_
  rw [evCln1]
  simp only [List.length_map, Nat.zero_add, hb, all_strs, Bool.and_true, cond_true]

def stCpO (l : List Cap) (out : List Cap) (k : Nat) : St := ⟨[(8, vI k), (7, vI l.length), (6, .sl (l.map eCap)), (3, .own 3)], [(3, ⟨false, 122, 6, out.map eCap⟩)]⟩

def stCpO1 (a : (List Cap) × (List Cap) × Nat) : St := stCpO a.1 a.2.1 a.2.2

theorem stCpO_inj (a a' : (List Cap) × (List Cap) × Nat) (h : stCpO1 a = stCpO1 a') : a = a' := by
 simp only [stCpO1, stCpO] at h
 try simp [eCaps_inj] at h
 grind

theorem unstCpO0 (l : List Cap)  : unenc stCpO1 (St.mk [(8, (vI (0 : Int))), (7, (vI (↑(List.length l) : Int))), (6, AV.sl (List.map eCap l)), (3, .own 3)] [(3, Blk.mk false 122 6 [])]) = some (l, [], 0) := unenc_of stCpO_inj (l, [], 0) rfl

def outCpO (l : List Cap) (out : List Cap) (k : Nat) : T (Ex × St) := .ret (.exit 0, ⟨[(3, .own 3)], [(3, ⟨false, 122, 6, (out ++ l.drop k).map eCap⟩)]⟩)

noncomputable def prlCpO (l : List Cap) (out : List Cap) (k : Nat) : Bool := F.capSm l && decide (k ≤ l.length) && decide (out.length = k)

noncomputable def lpCpO : Nat × (St → T (Ex × St)) := (3, lpo [8, 7, 6, 3] [3] stCpO1 (fun a => prlCpO a.1 a.2.1 a.2.2) fun a => outCpO a.1 a.2.1 a.2.2)

noncomputable def enCpO : Env := envH ty noG lks [oCln] [] [] [lpCpO]

theorem enCpO_ok : EnvOK Tryz.prog enCpO := by
 refine envH_ok lks_ok ty_ok ?_ ?_
 ·simp only [List.forall_mem_cons]
  exact ⟨okCln, by simp⟩
 ·simp

theorem evCpOL (l : List Cap) (out : List Cap) (k : Nat) : ((exec enCpO (loopN Tryz.f62 0) (stCpO l out k)).bind (lessX ([8, 7, 6, 3], [3]) ([3], [3]) ([], []))).val =
 bif decide ((↑k : Int) < (↑(List.length l) : Int)) then Option.bind (unenc (List.map eCap) (List.map eCap l)) fun z => bif decide (k < List.length z) then
 Option.bind (unenc encCln [AV.sl (List.map eStr (List.getD z k (Cap.mk (0 : Int) (0 : Int) [] (0 : Int) false false)).lines)]) fun z_1 => bif decide
 (List.length z_1 * 16 ≤ 140737488355328) then bif Nat.ble ((List.length (List.map eCap out) + 1) * 56) 140737488355328 && true then
 some (Ex.normal, St.mk [(8, (vI (IntKind.i64.wrap ((↑k : Int) + 1)))), (7, (vI (↑(List.length l) : Int))), (6, AV.sl (List.map eCap l)), (3, .own 3)] [(3,
 Blk.mk false 122 6 (List.map eCap out ++ [[(vI (List.getD z k (Cap.mk (0 : Int) (0 : Int) [] (0 : Int) false false)).fr), (vI (List.getD z k (Cap.mk (0 : Int) (0 : Int) []
 (0 : Int) false false)).to), AV.sl (List.map eStr z_1), (vI (List.getD z k (Cap.mk (0 : Int) (0 : Int) [] (0 : Int) false false)).row), (vB (List.getD z k (Cap.mk (0 :
 Int) (0 : Int) [] (0 : Int) false false)).bef), (vB (List.getD z k (Cap.mk (0 : Int) (0 : Int) [] (0 : Int) false false)).aft)]]))]) else none else none else none else
 some (Ex.exit (0 : Nat), St.mk [(3, .own 3)] [(3, Blk.mk false 122 6 (List.map eCap out))]) := by kernel_rfl

theorem lpCpO_ok (l : List Cap) (out : List Cap) (k : Nat) (hp : prlCpO l out k = true) : ∀ ex s', (outCpO l out k).val = some (ex, s') → LoopOK enCpO (loopN Tryz.f62 0) (stCpO l out k) ex s' := by
 simp only [prlCpO, Bool.and_eq_true, decide_eq_true_eq] at hp
 obtain ⟨⟨h1, h2⟩, h3⟩ := hp
 obtain ⟨h4, h5⟩ := Bool.and_eq_true_iff.1 h1
 have h4 := of_decide_eq_true h4
 intro ex s' hh
 refine loop_fold (xs := l) (st := stCpO l) (f := fun a y => a ++ [y]) (fin := fun a => (.exit 0, ⟨[(3, .own 3)], [(3, ⟨false, 122, 6, a.map eCap⟩)]⟩)) (I := fun a k => a.length = k) (n := ([8, 7, 6, 3], [3])) (e := ([3], [3])) (r := ([], [])) ?_ (fun _ => ⟨by simp, rfl⟩) (fun _ _ => rfl) ?_ out k h2 h3 ex s' (by rw [F.fold_app]; exact hh)
 ·intro a _
  rw [evCpOL]; simp
 ·intro a k y hy ha
  have hlt := lt_at hy
  have hl := of_decide_eq_true (List.all_eq_true.1 h5 y (List.mem_of_getElem? hy))
  have d1 : decide (y.lines.length * 16 ≤ 140737488355328) = true := decide_eq_true (by omega)
  have d2 : Nat.ble ((a.length + 1) * 56) 140737488355328 = true := ble_t (by omega)
  refine ⟨?_, by simp [ha]⟩
  rw [evCpOL]
  simp only [unCln, etaCap, Option.bind_some, List.length_map, unCaps, cond_true, Bool.and_true, cast_lt hlt, decide_eq_true hlt, next_at hlt (by omega : l.length ≤ 9223372036854775807), getD_at hy, stCpO, d1, d2, appWCaps]

theorem evCpO (l : List Cap) : (runF enCpO true Tryz.f62 [.sl (l.map eCap)]).val =
 Option.bind (unenc stCpO1 (St.mk [(8, (vI 0)), (7, (vI (↑(List.length (List.map eCap l)) : Int))), (6, AV.sl (List.map eCap l)), (3, .own 3)] [(3, Blk.mk false 122
 6 [])])) fun z => bif F.capSm z.1 && decide (z.2.2 ≤ List.length z.1) && decide (List.length z.2.1 = z.2.2) && true then some
 (.own 0, [(0, Blk.mk false 122 6 (List.map eCap (z.2.1 ++ List.drop z.2.2 z.1)))]) else none := by kernel_rfl

def encCpO1 (l : List Cap) : List AV := [.sl (l.map eCap)]

def encCpO (a : (List Cap)) : List AV := encCpO1 a

theorem encCpO_inj (a a' : (List Cap)) (h : encCpO a = encCpO a') : a = a' := by
 simp only [encCpO, encCpO1] at h
 try simp [eCaps_inj] at h
 grind

theorem unCpO (l : List Cap) : unenc encCpO ([AV.sl (List.map eCap l)]) = some (l) := unenc_of encCpO_inj (l) rfl

def resCpO1 (l : List Cap) : AV × Heap := (.own 0, [(0, ⟨false, 122, 6, l.map eCap⟩)])

def preCpO1 (l : List Cap) : Bool := F.capSm l

noncomputable def oCpO : Orc := orc 62 false encCpO (fun a => preCpO1 a) fun a => resCpO1 a

theorem okCpO : OrcOK Tryz.prog noG oCpO := by
 refine mk_ok Tryz.f62 (keep := true) (by kernel_rfl) (by kernel_rfl) enCpO_ok mixed (one_loop (x0 := loopN Tryz.f62 0) (by kernel_rfl) (lpo_ok ?_)) (by first | exact fun _ _ => ⟨rfl, rfl⟩ | (intro h; cases h)) ?_
 ·rintro ⟨l, out, k⟩ hp
  exact lpCpO_ok l out k hp
 rintro l hpre hok
 show (runF enCpO true _ (encCpO1 _)).val = some (resCpO1 _)
 unfold encCpO1 resCpO1
 rw [evCpO]
 simp only [preCpO1] at hpre
 simp only [unstCpO0, Option.bind_some, List.length_map, cond_true, Bool.and_true, hpre, List.drop_zero, Nat.zero_le, decide_true, List.length_nil, List.nil_append]

end M

theorem F.lgA1_ge : ∀ (m : List Cap) (s : ByteArray), (∀ c ∈ m, F.capW c = true) → s.size ≤ (F.lgA1 m s).size
 | [], s, _ => Nat.le_refl _
 | c :: r, s, h => by
  have h1 := F.lgA1_ge r (F.lgC c s) fun d hd => h d (List.mem_cons_of_mem _ hd)
  have h2 := (F.lgC_size s (h c (List.mem_cons_self ..))).2
  rw [F.lgA1]
  omega

namespace M

theorem evLgp (l : List Cap) : (runF enLgp false Tryz.f45 [.sl (l.map eCap)]).val =
 Option.bind (unenc encChC [AV.sl (List.map eCap l)]) fun z => bif F.smC z then bif F.chkC z != 0 then some (AV.tup [(vS ⟨⟨[]⟩⟩), (vI (F.chkC z))], []) else Option.bind (unenc encWst ([.ptr 900 0 0, (vS ⟨⟨[87, 69, 66, 86, 84, 84, 10, 10]⟩⟩)], [(900, Blk.mk true 162 0 [[AV.v (Value.pointer none), AV.v (Value.slice none (0 : Nat) (0 : Nat))]])])) fun z => bif F.wstB z.1 z.2 then bif match z.1 with | some val => false | none => true then Option.bind (unenc stLgp1 (St.mk [(18, (vI 0)), (17, (vI (↑(List.length (List.map eCap l)) : Int))), (16, AV.sl (List.map eCap l)), (5, .ptr 5 0 0)] [(16000, Blk.mk false 5 1 (F.eUs z.2)), (5, Blk.mk true 162 0 [[.ptr 5 0 0, .own 16000]])])) fun z => bif List.all z.1 F.capW && decide (List.length z.1 ≤ 500) && decide (z.2.2 ≤ List.length z.1) && decide (ByteArray.size z.2.1 ≤ 100 + 16000 * z.2.2) && true then Option.bind (unenc encBst ([.ptr 900 0 0], [(901, Blk.mk false 5 1 (F.eUs (F.lgA1 (List.drop z.2.2 z.1) z.2.1))), (900, Blk.mk true 162 0 [[.ptr 900 0 0, .own 901]])])) fun z => bif F.bstB z then bif match z with | some val => false | none => true then none else Option.bind (unenc encBndL [(vS (F.bldS z))]) fun z => some (AV.tup [(vS (F.bndS z)), (vI (F.bnfL z))], []) else none else none else none else none else none := (runFR_val).symm.trans (by kernel_rfl)

def encLgp1 (l : List Cap) : List AV := [.sl (l.map eCap)]

def encLgp (a : (List Cap)) : List AV := encLgp1 a

theorem encLgp_inj (a a' : (List Cap)) (h : encLgp a = encLgp a') : a = a' := by
 simp only [encLgp, encLgp1] at h
 try simp [eCaps_inj] at h
 grind

theorem unLgp (l : List Cap) : unenc encLgp ([AV.sl (List.map eCap l)]) = some (l) := unenc_of encLgp_inj (l) rfl

def resLgp1 (l : List Cap) : AV × Heap := (.tup [vS (F.longS l), vI (F.longF l)], [])

def preLgp1 (l : List Cap) : Bool := F.smC l

noncomputable def oLgp : Orc := orc 45 false encLgp (fun a => preLgp1 a) fun a => resLgp1 a

theorem okLgp : OrcOK Tryz.prog noG oLgp := by
 refine mk_ok Tryz.f45 (keep := false) (by kernel_rfl) (by kernel_rfl) enLgp_ok mixed (two_loops (x0 := loopN Tryz.f45 0) (x1 := loopN Tryz.f45 1) (by kernel_rfl) (lpo_ok ?_) (lpo_ok ?_)) (by first | exact fun _ _ => ⟨rfl, rfl⟩ | (intro h; cases h)) ?_
 ·rintro ⟨l, s, k⟩ hp
  exact lpLgp_ok l s k hp
 ·rintro ⟨l, ls, k, s, j⟩ hp
  exact lpLgi_ok l ls k s j hp
 rintro l hpre hok
 show (runF enLgp false _ (encLgp1 _)).val = some (resLgp1 _)
 unfold encLgp1 resLgp1
 rw [evLgp]
 simp only [preLgp1] at hpre
 simp only [unChC, unBndL, unWst, unstLgp0, Option.bind_some, List.length_map, cond_true, cond_false, Bool.and_true, unBstU, F.bldS_some, hpre, F.longS, F.longF]
 cases hc : F.chkC l != 0
 ·have hc0 : F.chkC l = 0 := by simpa using hc
  obtain ⟨g1, g2⟩ := F.chkC_w hc0
  have hp := F.lgA1_ge l F.web2 (List.all_eq_true.1 g2)
  have w8 : F.web2.size = 8 := rfl
  have e0 : F.wstB none (ByteArray.mk (Array.mk [87, 69, 66, 86, 84, 84, 10, 10])) = true := rfl
  have e1 : decide ((ByteArray.mk (Array.mk [87, 69, 66, 86, 84, 84, 10, 10])).size ≤ 100 + 16000 * 0) = true := rfl
  have u1 : unenc stLgp1 (St.mk [(18, vI 0), (17, vI (l.length : Int)), (16, .sl (l.map eCap)), (5, .ptr 5 0 0)] [(16000, Blk.mk false 5 1 (F.eUs (ByteArray.mk (Array.mk [87, 69, 66, 86, 84, 84, 10, 10])))), (5, Blk.mk true 162 0 [[.ptr 5 0 0, .own 16000]])]) = some (l, ByteArray.mk (Array.mk [87, 69, 66, 86, 84, 84, 10, 10]), 0) := unstLgp l _ 0
  have u2 : unenc encBst ([.ptr 900 0 0], [(901, ⟨false, 5, 1, F.eUs (F.lgA1 l (ByteArray.mk (Array.mk [87, 69, 66, 86, 84, 84, 10, 10])))⟩), (900, ⟨true, 162, 0, [[.ptr 900 0 0, .own 901]]⟩)]) = some (some (F.lgA1 l (ByteArray.mk (Array.mk [87, 69, 66, 86, 84, 84, 10, 10])))) := unBstU _
  have p2 : decide (0 < (F.lgA1 l (ByteArray.mk (Array.mk [87, 69, 66, 86, 84, 84, 10, 10]))).size) = true := decide_eq_true (by show 0 < (F.lgA1 l F.web2).size; omega)
  rw [e0]
  simp only [g2, decide_eq_true g1, decide_eq_true (Nat.zero_le l.length), e1, List.drop_zero, Bool.and_self, cond_true, cond_false, F.bstB_eq, p2]
  rfl
 ·rfl

def stRLi (l : List Cap) (ls : List ByteArray) (k : Nat) (s : ByteArray) (j : Nat) : St := ⟨[(53, vI j), (52, vI ls.length), (51, .sl (ls.map eStr)), (17, vI k), (16, vI l.length), (15, .sl (l.map eCap)), (5, vS s)], []⟩

def stRLi1 (a : (List Cap) × (List ByteArray) × Nat × ByteArray × Nat) : St := stRLi a.1 a.2.1 a.2.2.1 a.2.2.2.1 a.2.2.2.2

theorem stRLi_inj (a a' : (List Cap) × (List ByteArray) × Nat × ByteArray × Nat) (h : stRLi1 a = stRLi1 a') : a = a' := by
 simp only [stRLi1, stRLi] at h
 try simp [strs_inj, eCaps_inj] at h
 grind

theorem unstRLi0 (l : List Cap) (ls : List ByteArray) (k : Nat) (s : ByteArray)  : unenc stRLi1 (St.mk [(53, (vI (0 : Int))), (52, (vI (↑(List.length ls) : Int))), (51, AV.sl (List.map eStr ls)), (17, (vI (↑k : Int))), (16, (vI (↑(List.length l) : Int))), (15, AV.sl
 (List.map eCap l)), (5, (vS s))] []) = some (l, ls, k, s, 0) := unenc_of stRLi_inj (l, ls, k, s, 0) rfl

def outRLi (l : List Cap) (ls : List ByteArray) (k : Nat) (s : ByteArray) (j : Nat) : T (Ex × St) := .ret (.exit 2, ⟨[(17, vI k), (16, vI l.length), (15, .sl (l.map eCap)), (5, vS (F.lgW (ls.drop j) s))], []⟩)

noncomputable def prlRLi (l : List Cap) (ls : List ByteArray) (k : Nat) (s : ByteArray) (j : Nat) : Bool := F.allL ls && decide (ls.length ≤ 15) && decide (j ≤ ls.length) && decide (s.size ≤ 100000000)

noncomputable def lpRLi : Nat × (St → T (Ex × St)) := (17, lpo [53, 52, 51, 17, 16, 15, 5] [] stRLi1 (fun a => prlRLi a.1 a.2.1 a.2.2.1 a.2.2.2.1 a.2.2.2.2) fun a => outRLi a.1 a.2.1 a.2.2.1 a.2.2.2.1 a.2.2.2.2)

def stRLw (l : List Cap) (s : ByteArray) (k : Nat) : St := ⟨[(17, vI k), (16, vI l.length), (15, .sl (l.map eCap)), (5, vS s)], []⟩

def stRLw1 (a : (List Cap) × ByteArray × Nat) : St := stRLw a.1 a.2.1 a.2.2

theorem stRLw_inj (a a' : (List Cap) × ByteArray × Nat) (h : stRLw1 a = stRLw1 a') : a = a' := by
 simp only [stRLw1, stRLw] at h
 try simp [eCaps_inj] at h
 grind

theorem unstRLw0 (l : List Cap)  : unenc stRLw1 (St.mk [(17, (vI (0 : Int))), (16, (vI (↑(List.length l) : Int))), (15, AV.sl (List.map eCap l)), (5, (vS (ByteArray.mk (Array.mk [(87 : UInt8), (69 : UInt8), (66 : UInt8),
 (86 : UInt8), (84 : UInt8), (84 : UInt8), (10 : UInt8), (10 : UInt8)]))))] []) = some (l, ⟨⟨[87, 69, 66, 86, 84, 84, 10, 10]⟩⟩, 0) := unenc_of stRLw_inj (l, ⟨⟨[87, 69, 66, 86, 84, 84, 10, 10]⟩⟩, 0) rfl

def outRLw (l : List Cap) (s : ByteArray) (k : Nat) : T (Ex × St) := .ret (.exit 0, ⟨[(5, vS (F.lgA1 (l.drop k) s))], []⟩)

noncomputable def prlRLw (l : List Cap) (s : ByteArray) (k : Nat) : Bool := l.all F.capW && decide (l.length ≤ 500) && decide (k ≤ l.length) && decide (s.size ≤ 100 + 16000 * k)

noncomputable def lpRLw : Nat × (St → T (Ex × St)) := (6, lpo [17, 16, 15, 5] [] stRLw1 (fun a => prlRLw a.1 a.2.1 a.2.2) fun a => outRLw a.1 a.2.1 a.2.2)

noncomputable def enRLw : Env := envH ty noG lks [oRhC, oIta, oRCk, oRAll] [] [] [lpRLw, lpRLi]

theorem enRLw_ok : EnvOK Tryz.prog enRLw := by
 refine envH_ok lks_ok ty_ok ?_ ?_
 ·simp only [List.forall_mem_cons]
  exact ⟨okRhC, okIta, okRCk, okRAll, by simp⟩
 ·simp

theorem evRLiL (l : List Cap) (ls : List ByteArray) (k : Nat) (s : ByteArray) (j : Nat) : ((exec enRLw (loopN Tryz.f52 1) (stRLi l ls k s j)).bind (lessX ([53, 52, 51, 17, 16, 15, 5], []) ([17, 16, 15, 5], []) ([], []))).val =
 bif decide ((↑j : Int) < (↑(List.length ls) : Int)) then Option.bind (unenc (List.map eStr) (List.map eStr ls)) fun z => bif decide (j < List.length z)
 then Option.bind (unenc encRAll [(vS (List.getD z j (ByteArray.mk (Array.mk [])))), (vS ⟨⟨[38]⟩⟩), (vS ⟨⟨[38, 97, 109, 112, 59]⟩⟩)]) fun z => bif decide (ByteArray.size z.1 ≤ 100000) &&
 decide (ByteArray.size z.2.1 = (1 : Nat)) && decide (ByteArray.size z.2.2 ≤ 5) && decide (ByteArray.size (F.rpl z.1 z.2.1 z.2.2) ≤ 1000000) then Option.bind (unenc encRAll [(vS (F.rpl z.1 z.2.1 z.2.2)), (vS ⟨⟨[60]⟩⟩), (vS ⟨⟨[38,
 108, 116, 59]⟩⟩)]) fun z => bif decide (ByteArray.size z.1 ≤ 100000) && decide
 (ByteArray.size z.2.1 = (1 : Nat)) && decide (ByteArray.size z.2.2 ≤ 5) && decide (ByteArray.size (F.rpl z.1 z.2.1 z.2.2) ≤ 1000000) then
 bif Nat.ble (ByteArray.size (F.rpl z.1 z.2.1 z.2.2) + ByteArray.size (ByteArray.mk (Array.mk [(10 : UInt8)]))) 9223372036854775807 then bif Nat.ble
 (ByteArray.size s + ByteArray.size (F.rpl z.1 z.2.1 z.2.2 ++ ByteArray.mk (Array.mk [(10 : UInt8)]))) (9223372036854775807 : Nat) then some (Ex.normal, St.mk
 [(53, (vI (IntKind.i64.wrap ((↑j : Int) + 1)))), (52, (vI (↑(List.length ls) : Int))), (51, AV.sl (List.map eStr ls)), (17, (vI (↑k : Int))), (16, (vI
 (↑(List.length l) : Int))), (15, AV.sl (List.map eCap l)), (5, (vS (s ++ (F.rpl z.1 z.2.1 z.2.2 ++ ByteArray.mk (Array.mk [(10 : UInt8)])))))] []) else none else
 none else none else none else none else some (Ex.exit (2 : Nat), St.mk [(17, (vI (↑k : Int))), (16, (vI (↑(List.length l) : Int))), (15, AV.sl (List.map eCap l)), (5, (vS
 s))] []) := (execR_bind _ _ _).symm.trans (by kernel_rfl)

theorem lpRLi_ok (l : List Cap) (ls : List ByteArray) (k : Nat) (s : ByteArray) (j : Nat) (hp : prlRLi l ls k s j = true) : ∀ ex s', (outRLi l ls k s j).val = some (ex, s') → LoopOK enRLw (loopN Tryz.f52 1) (stRLi l ls k s j) ex s' := by
 simp only [prlRLi, Bool.and_eq_true, decide_eq_true_eq] at hp
 obtain ⟨⟨⟨h1, h2⟩, h3⟩, h4⟩ := hp
 have hw := List.all_eq_true.1 (h1 : ls.all F.line = true)
 have hx : ls.length ≤ 9223372036854775807 := by omega
 refine loop_gen (st := fun b : ByteArray × Nat => stRLi l ls k b.1 b.2) (out := fun b => outRLi l ls k b.1 b.2) (I := fun b => b.2 ≤ ls.length ∧ b.1.size ≤ 100000000 + 1001 * b.2) (n := ([53, 52, 51, 17, 16, 15, 5], [])) (e := ([17, 16, 15, 5], [])) (r := ([], [])) (fun b => ls.length - b.2) ?_ (s, j) ⟨h3, by simp only; omega⟩
 rintro ⟨s, j⟩ ⟨i1, i2⟩
 simp only at i1 i2
 by_cases hlt : j < ls.length
 ·have hy : ls[j]? = some ls[j] := List.getElem?_eq_getElem hlt
  generalize ls[j] = y at hy
  have hd := drop_q hy
  have hl := hw y (List.mem_of_getElem? hy)
  have hs := F.line_size hl
  have e1 := (F.esc_size y).2
  have ee : F.rpl (F.rpl y (ByteArray.mk (Array.mk [38])) (ByteArray.mk (Array.mk [38, 97, 109, 112, 59]))) (ByteArray.mk (Array.mk [60])) (ByteArray.mk (Array.mk [38, 108, 116, 59])) = F.esc y := rfl
  have er : (F.rpl y (ByteArray.mk (Array.mk [38])) (ByteArray.mk (Array.mk [38, 97, 109, 112, 59]))).size ≤ 1000 := F.rpl1_size hs
  right
  refine ⟨(s ++ (F.esc y ++ F.nl), j + 1), ?_, rfl, ⟨by simp only; omega, by simp only [ByteArray.size_append, show F.nl.size = 1 from rfl]; omega⟩, by simp only; omega, ?_⟩
  ·rw [evRLiL]
   simp only [unRAll, Option.bind_some, unStrs, cond_true, cast_lt hlt, decide_eq_true hlt, getD_at hy, next_at hlt hx, ee]
   simp only [ByteArray.size_append, show (ByteArray.mk (Array.mk [10])).size = 1 from rfl, show (ByteArray.mk (Array.mk [38])).size = 1 from rfl, show (ByteArray.mk (Array.mk [60])).size = 1 from rfl, show (ByteArray.mk (Array.mk [38, 97, 109, 112, 59])).size = 5 from rfl, show (ByteArray.mk (Array.mk [38, 108, 116, 59])).size = 4 from rfl]
   simp (disch := omega) only [decide_eq_true, ble_t, cond_true]
   rfl
  ·simp only [outRLi, hd, F.lgW]
 ·have hd : ls.drop j = [] := List.drop_eq_nil_of_le (by omega)
  left
  refine ⟨(.exit 2, ⟨[(17, vI k), (16, vI l.length), (15, .sl (l.map eCap)), (5, vS s)], []⟩), ?_, ?_, by simp, rfl⟩
  ·rw [evRLiL]
   simp only [unRAll, Option.bind_some, unStrs, cond_false, decide_eq_false (show ¬ (j : Int) < (ls.length : Int) by omega)]
   try rfl
  ·simp only [outRLi, hd, F.lgW]
   rfl

theorem evRLwL (l : List Cap) (s : ByteArray) (k : Nat) : ((exec enRLw (loopN Tryz.f52 0) (stRLw l s k)).bind (lessX ([17, 16, 15, 5], []) ([5], []) ([], []))).val =
 (fun (q : ByteArray) => (fun (q_1 : Nat) => (fun (q_2 : Nat × AV) => (fun (q_3 : Nat × AV) => (fun (q_4 : Cap) => (fun (q_5 : Nat × AV) => (fun (q_6 : Nat × AV) => (fun
 (q_7 : ByteArray) => (fun (q_8 : ByteArray) => (fun (q_9 : ByteArray) => (fun (q_10 : Nat) => (fun (q_11 : ByteArray) => (fun (q_12 : Nat) => bif decide ((↑k : Int) <
 (↑(List.length l) : Int)) then Option.bind (unenc (List.map eCap) (List.map eCap l)) fun z => (fun (q_13 : Nat × AV) => (fun (q_14 : Nat × AV) => bif decide
 (k < List.length z) then Option.bind (unenc encRCk [(vI (List.getD z k q_4).fr), (vS ⟨⟨[46]⟩⟩)]) fun z_1 => (fun (q_15
 : ByteArray) => bif decide ((0 : Int) ≤ z_1.1) && decide (z_1.1 ≤ 359999999) && decide (ByteArray.size z_1.2 = (1 : Nat)) then bif Nat.ble (ByteArray.size
 (F.clk z_1.1 z_1.2) + ByteArray.size q_7) 9223372036854775807 then Option.bind (unenc encRCk [(vI (List.getD z k q_4).to), (vS ⟨⟨[46]⟩⟩)]) fun z_2 => (fun (q_16 : ByteArray) => (fun (q_17 : Nat) => (fun (q_18 : ByteArray) => bif decide ((0 : Int) ≤ z_2.1) && decide (z_2.1
 ≤ 359999999) && decide (ByteArray.size z_2.2 = (1 : Nat)) then bif Nat.ble (ByteArray.size q_15 + ByteArray.size (F.clk z_2.1 z_2.2)) 9223372036854775807 then bif Nat.ble (ByteArray.size s + ByteArray.size (q_15 ++ F.clk z_2.1 z_2.2)) 9223372036854775807 then bif (List.getD z k q_4).row != 0 then
 Option.bind (unenc encIta [(vI (List.getD z k q_4).row)]) fun z_3 => (fun (q_19 : ByteArray) => (fun (q_20 : Nat) => (fun (q_21 : ByteArray) => bif decide
 ((-9223372036854775808 : Int) ≤ z_3) && decide (z_3 ≤ 9223372036854775807) then bif Nat.ble (ByteArray.size q_9 + ByteArray.size (F.itoa z_3)) 9223372036854775807 then bif Nat.ble (q_17 + ByteArray.size (q_9 ++ F.itoa z_3)) 9223372036854775807 then bif (List.getD z k q_4).bef then bif Nat.ble (q_20 + q_12)
 (9223372036854775807 : Nat) then bif (List.getD z k q_4).aft then bif Nat.ble (ByteArray.size q_21 + q_10) 9223372036854775807 then bif Nat.ble (ByteArray.size
 (q_21 ++ q_8) + q_1) 9223372036854775807 then Option.bind (unenc stRLi1 (St.mk [q_2, q_14, q_13, q_5, q_6, q_3, (5, (vS (q_21 ++ q_8 ++ q)))] [])) fun z => bif F.allL z.2.1 && decide (List.length z.2.1 ≤ 15) && decide (z.2.2.2.2 ≤ List.length z.2.1)
 && decide (ByteArray.size z.2.2.2.1 ≤ 100000000) && true then bif Nat.ble (ByteArray.size (F.lgW (List.drop z.2.2.2.2 z.2.1) z.2.2.2.1)
 + q_1) 9223372036854775807 then some (Ex.normal, St.mk [(17, (vI (IntKind.i64.wrap ((↑z.2.2.1 : Int) + 1)))), (16, (vI (↑(List.length z.1)
 : Int))), (15, AV.sl (List.map eCap z.1)), (5, (vS (F.lgW (List.drop z.2.2.2.2 z.2.1) z.2.2.2.1 ++ q)))] []) else none else none else none else none
 else bif Nat.ble (ByteArray.size q_21 + q_1) 9223372036854775807 then Option.bind (unenc stRLi1 (St.mk [q_2, q_14, q_13, q_5, q_6, q_3, (5, (vS (q_21 ++ q)))] []))
 fun z => bif F.allL z.2.1 && decide (List.length z.2.1 ≤ 15) && decide (z.2.2.2.2 ≤
 List.length z.2.1) && decide (ByteArray.size z.2.2.2.1 ≤ 100000000) && true then bif Nat.ble (ByteArray.size (F.lgW (List.drop z.2.2.2.2
 z.2.1) z.2.2.2.1) + q_1) 9223372036854775807 then some (Ex.normal, St.mk [(17, (vI (IntKind.i64.wrap ((↑z.2.2.1 : Int) + 1)))),
 (16, (vI (↑(List.length z.1) : Int))), (15, AV.sl (List.map eCap z.1)), (5, (vS (F.lgW (List.drop z.2.2.2.2 z.2.1) z.2.2.2.1 ++ q)))] []) else none
 else none else none else none else bif (List.getD z k q_4).aft then bif Nat.ble (q_20 + q_10) 9223372036854775807 then bif Nat.ble (ByteArray.size (q_19 ++ q_8) +
 q_1) 9223372036854775807 then Option.bind (unenc stRLi1 (St.mk [q_2, q_14, q_13, q_5, q_6, q_3, (5, (vS (q_19 ++ q_8 ++ q)))] [])) fun z => bif F.allL z.2.1 && decide (List.length z.2.1 ≤ 15) && decide (z.2.2.2.2 ≤ List.length z.2.1) && decide
 (ByteArray.size z.2.2.2.1 ≤ 100000000) && true then bif Nat.ble (ByteArray.size (F.lgW (List.drop z.2.2.2.2 z.2.1) z.2.2.2.1) + q_1)
 (9223372036854775807 : Nat) then some (Ex.normal, St.mk [(17, (vI (IntKind.i64.wrap ((↑z.2.2.1 : Int) + 1)))), (16, (vI (↑(List.length z.1) :
 Int))), (15, AV.sl (List.map eCap z.1)), (5, (vS (F.lgW (List.drop z.2.2.2.2 z.2.1) z.2.2.2.1 ++ q)))] []) else none else none else none else none
 else bif Nat.ble (q_20 + q_1) 9223372036854775807 then Option.bind (unenc stRLi1 (St.mk [q_2, q_14, q_13, q_5, q_6, q_3, (5, (vS (q_19 ++ q)))] [])) fun z => bif F.allL z.2.1 && decide (List.length z.2.1 ≤ 15) && decide (z.2.2.2.2 ≤ List.length z.2.1)
 && decide (ByteArray.size z.2.2.2.1 ≤ 100000000) && true then bif Nat.ble (ByteArray.size (F.lgW (List.drop z.2.2.2.2 z.2.1) z.2.2.2.1)
 + q_1) 9223372036854775807 then some (Ex.normal, St.mk [(17, (vI (IntKind.i64.wrap ((↑z.2.2.1 : Int) + 1)))), (16, (vI (↑(List.length z.1)
 : Int))), (15, AV.sl (List.map eCap z.1)), (5, (vS (F.lgW (List.drop z.2.2.2.2 z.2.1) z.2.2.2.1 ++ q)))] []) else none else none else none else none
 else none else none) (q_19 ++ q_11)) (ByteArray.size q_19)) (q_16 ++ (q_9 ++ F.itoa z_3)) else bif (List.getD z k q_4).bef then bif Nat.ble (q_17 + q_12)
 (9223372036854775807 : Nat) then bif (List.getD z k q_4).aft then bif Nat.ble (ByteArray.size q_18 + q_10) 9223372036854775807 then bif Nat.ble (ByteArray.size
 (q_18 ++ q_8) + q_1) 9223372036854775807 then Option.bind (unenc stRLi1 (St.mk [q_2, q_14, q_13, q_5, q_6, q_3, (5, (vS (q_18 ++ q_8 ++ q)))] [])) fun z => bif F.allL z.2.1 && decide (List.length z.2.1 ≤ 15) && decide (z.2.2.2.2 ≤ List.length z.2.1)
 && decide (ByteArray.size z.2.2.2.1 ≤ 100000000) && true then bif Nat.ble (ByteArray.size (F.lgW (List.drop z.2.2.2.2 z.2.1) z.2.2.2.1)
 + q_1) 9223372036854775807 then some (Ex.normal, St.mk [(17, (vI (IntKind.i64.wrap ((↑z.2.2.1 : Int) + 1)))), (16, (vI (↑(List.length z.1)
 : Int))), (15, AV.sl (List.map eCap z.1)), (5, (vS (F.lgW (List.drop z.2.2.2.2 z.2.1) z.2.2.2.1 ++ q)))] []) else none else none else none else none
 else bif Nat.ble (ByteArray.size q_18 + q_1) 9223372036854775807 then Option.bind (unenc stRLi1 (St.mk [q_2, q_14, q_13, q_5, q_6, q_3, (5, (vS (q_18 ++ q)))] []))
 fun z => bif F.allL z.2.1 && decide (List.length z.2.1 ≤ 15) && decide (z.2.2.2.2 ≤
 List.length z.2.1) && decide (ByteArray.size z.2.2.2.1 ≤ 100000000) && true then bif Nat.ble (ByteArray.size (F.lgW (List.drop z.2.2.2.2
 z.2.1) z.2.2.2.1) + q_1) 9223372036854775807 then some (Ex.normal, St.mk [(17, (vI (IntKind.i64.wrap ((↑z.2.2.1 : Int) + 1)))),
 (16, (vI (↑(List.length z.1) : Int))), (15, AV.sl (List.map eCap z.1)), (5, (vS (F.lgW (List.drop z.2.2.2.2 z.2.1) z.2.2.2.1 ++ q)))] []) else none
 else none else none else none else bif (List.getD z k q_4).aft then bif Nat.ble (q_17 + q_10) 9223372036854775807 then bif Nat.ble (ByteArray.size (q_16 ++ q_8) +
 q_1) 9223372036854775807 then Option.bind (unenc stRLi1 (St.mk [q_2, q_14, q_13, q_5, q_6, q_3, (5, (vS (q_16 ++ q_8 ++ q)))] [])) fun z => bif F.allL z.2.1 && decide (List.length z.2.1 ≤ 15) && decide (z.2.2.2.2 ≤ List.length z.2.1) && decide
 (ByteArray.size z.2.2.2.1 ≤ 100000000) && true then bif Nat.ble (ByteArray.size (F.lgW (List.drop z.2.2.2.2 z.2.1) z.2.2.2.1) + q_1)
 (9223372036854775807 : Nat) then some (Ex.normal, St.mk [(17, (vI (IntKind.i64.wrap ((↑z.2.2.1 : Int) + 1)))), (16, (vI (↑(List.length z.1) :
 Int))), (15, AV.sl (List.map eCap z.1)), (5, (vS (F.lgW (List.drop z.2.2.2.2 z.2.1) z.2.2.2.1 ++ q)))] []) else none else none else none else none
 else bif Nat.ble (q_17 + q_1) 9223372036854775807 then Option.bind (unenc stRLi1 (St.mk [q_2, q_14, q_13, q_5, q_6, q_3, (5, (vS (q_16 ++ q)))] [])) fun z => bif F.allL z.2.1 && decide (List.length z.2.1 ≤ 15) && decide (z.2.2.2.2 ≤ List.length z.2.1)
 && decide (ByteArray.size z.2.2.2.1 ≤ 100000000) && true then bif Nat.ble (ByteArray.size (F.lgW (List.drop z.2.2.2.2 z.2.1) z.2.2.2.1)
 + q_1) 9223372036854775807 then some (Ex.normal, St.mk [(17, (vI (IntKind.i64.wrap ((↑z.2.2.1 : Int) + 1)))), (16, (vI (↑(List.length z.1)
 : Int))), (15, AV.sl (List.map eCap z.1)), (5, (vS (F.lgW (List.drop z.2.2.2.2 z.2.1) z.2.2.2.1 ++ q)))] []) else none else none else none else none
 else none else none) (q_16 ++ q_11)) (ByteArray.size q_16)) (s ++ (q_15 ++ F.clk z_2.1 z_2.2)) else none else none) (F.clk z_1.1 z_1.2 ++ q_7) else none) (52, (vI
 (↑(List.length (List.map eStr (List.getD z k q_4).lines)) : Int)))) (51, AV.sl (List.map eStr (List.getD z k q_4).lines)) else some (Ex.exit (0 : Nat), St.mk [(5, (vS s))]
 [])) (ByteArray.size q_11)) (ByteArray.mk (Array.mk [(32 : UInt8), (98 : UInt8), (101 : UInt8), (102 : UInt8), (111 : UInt8), (114 : UInt8), (101 : UInt8)])))
 (ByteArray.size q_8)) (ByteArray.mk (Array.mk [(32 : UInt8), (108 : UInt8), (105 : UInt8), (110 : UInt8), (101 : UInt8), (58 : UInt8)]))) (ByteArray.mk (Array.mk [(32 :
 UInt8), (97 : UInt8), (102 : UInt8), (116 : UInt8), (101 : UInt8), (114 : UInt8)]))) (ByteArray.mk (Array.mk [(32 : UInt8), (45 : UInt8), (45 : UInt8), (62 : UInt8), (32 :
 UInt8)]))) (16, (vI (↑(List.length l) : Int)))) (17, (vI (↑k : Int)))) (Cap.mk (0 : Int) (0 : Int) [] (0 : Int) false false)) (15, AV.sl (List.map eCap l))) (53, (vI 0))) (ByteArray.size q)) (ByteArray.mk (Array.mk [(10 : UInt8)])) := (execR_bind _ _ _).symm.trans (by kernel_rfl)

theorem lpRLw_ok (l : List Cap) (s : ByteArray) (k : Nat) (hp : prlRLw l s k = true) : ∀ ex s', (outRLw l s k).val = some (ex, s') → LoopOK enRLw (loopN Tryz.f52 0) (stRLw l s k) ex s' := by
 simp only [prlRLw, Bool.and_eq_true, decide_eq_true_eq] at hp
 obtain ⟨⟨⟨h1, h2⟩, h3⟩, h4⟩ := hp
 have hw := List.all_eq_true.1 (h1 : l.all F.capW = true)
 have hx : l.length ≤ 9223372036854775807 := by omega
 refine loop_gen (st := fun b : ByteArray × Nat => stRLw l b.1 b.2) (out := fun b => outRLw l b.1 b.2) (I := fun b => b.2 ≤ l.length ∧ b.1.size ≤ 100 + 16000 * b.2) (n := ([17, 16, 15, 5], [])) (e := ([5], [])) (r := ([], [])) (fun b => l.length - b.2) ?_ (s, k) ⟨h3, h4⟩
 rintro ⟨s, k⟩ ⟨i1, i2⟩
 simp only at i1 i2
 by_cases hlt : k < l.length
 ·have hy : l[k]? = some l[k] := List.getElem?_eq_getElem hlt
  generalize l[k] = y at hy
  have hd := drop_q hy
  have hc := hw y (List.mem_of_getElem? hy)
  obtain ⟨c1, c2, c3, c4, c5, c6, c7, c8, c9⟩ := F.capW_spec hc
  have hall : F.allL y.lines = true := List.all_eq_true.2 c9
  have z1 := F.itoa_size (n := y.row) (by omega) (by omega)
  have hT : F.clk y.fr (ByteArray.mk (Array.mk [46])) ++ ByteArray.mk (Array.mk [32, 45, 45, 62, 32]) ++ F.clk y.to (ByteArray.mk (Array.mk [46])) = F.tms y F.dot := rfl
  have za : (F.clk y.fr (ByteArray.mk (Array.mk [46]))).size = 12 := by
   obtain ⟨j, hj⟩ := Int.eq_ofNat_of_zero_le c1
   rw [hj, F.clk_size (by omega)]; rfl
  have zb : (F.clk y.to (ByteArray.mk (Array.mk [46]))).size = 12 := by
   obtain ⟨j, hj⟩ := Int.eq_ofNat_of_zero_le c3
   rw [hj, F.clk_size (by omega)]; rfl
  have z2 := F.tms_size hc (show F.dot.size = 1 from rfl)
  have z3 : (ByteArray.mk (Array.mk [46])).size = 1 := rfl
  have z4 : (ByteArray.mk (Array.mk [10])).size = 1 := rfl
  have z5 : (ByteArray.mk (Array.mk [32, 108, 105, 110, 101, 58])).size = 6 := rfl
  have z6 : (ByteArray.mk (Array.mk [32, 98, 101, 102, 111, 114, 101])).size = 7 := rfl
  have z7 : (ByteArray.mk (Array.mk [32, 97, 102, 116, 101, 114])).size = 6 := rfl
  have z8 : (ByteArray.mk (Array.mk [32, 45, 45, 62, 32])).size = 5 := rfl
  have y1 := F.lgC_size s hc
  have y2 := F.lgH_size s hc
  have y3 := F.lgW_size y.lines (F.lgH y s) fun x hx => F.line_size (c9 x hx)
  right
  refine ⟨(F.lgC y s, k + 1), ?_, rfl, ⟨by simp only; omega, by simp only; omega⟩, by simp only; omega, ?_⟩
  ·rw [evRLwL]
   cases ha : y.aft <;> cases hb : y.bef <;> cases hr : (y.row != 0)
   all_goals
    have hH : F.lgH y s = F.lgH y s := rfl
    conv at hH => lhs; unfold F.lgH
    simp only [ha, hb, hr, cond_true, cond_false, F.dot, F.nl, F.lineB, F.befB, F.aftB] at hH
    simp only [unIta, unRCk, unstRLi0, Option.bind_some, List.length_map, unCaps, cond_true, cond_false, Bool.and_true, Bool.true_and, cast_lt hlt, decide_eq_true hlt, getD_at hy, next_at hlt hx, ha, hb, hr, decide_eq_true c1, decide_eq_true c2, decide_eq_true c3, decide_eq_true c4, z3, decide_true, hall, List.drop_zero, hT]
    simp only [F.dot] at z2
    simp only [F.dot, hH]
    simp only [ByteArray.size_append, z2, z4, z5, z6, z7, z8, za, zb]
    simp (disch := omega) only [decide_eq_true, ble_t, cond_true, Bool.and_self]
    rfl
  ·simp only [outRLw, hd, F.lgA1]
 ·have hd : l.drop k = [] := List.drop_eq_nil_of_le (by omega)
  left
  refine ⟨(.exit 0, ⟨[(5, vS s)], []⟩), ?_, ?_, by simp, rfl⟩
  ·rw [evRLwL]
   simp only [unIta, unRCk, unstRLi0, Option.bind_some, List.length_map, unCaps, cond_false, Bool.and_true, decide_eq_false (show ¬ (k : Int) < (l.length : Int) by omega)]
   try rfl
  ·simp only [outRLw, hd, F.lgA1]
   rfl

theorem evRLw (l : List Cap) : (runF enRLw false Tryz.f52 [.sl (l.map eCap)]).val =
 Option.bind (unenc encRhC [AV.sl (List.map eCap l)]) fun z => bif F.smC z then bif F.chkC z != 0 then some (AV.tup [(vS ⟨⟨[]⟩⟩),
 (vI (F.chkC z))], []) else Option.bind (unenc stRLw1 (St.mk [(17, (vI 0)), (16, (vI (↑(List.length (List.map eCap l)) : Int))), (15, AV.sl (List.map eCap l)), (5,
 (vS ⟨⟨[87, 69, 66, 86, 84, 84, 10, 10]⟩⟩))] [])) fun z => bif List.all z.1 F.capW && decide (List.length z.1 ≤ 500) && decide (z.2.2 ≤ List.length z.1) && decide (ByteArray.size z.2.1 ≤
 (100 : Nat) + 16000 * z.2.2) && true then bif decide ((200000 : Int) < (↑(ByteArray.size (F.lgA1 (List.drop z.2.2 z.1) z.2.1)) : Int)) then some
 (AV.tup [(vS ⟨⟨[]⟩⟩), (vI 2)], []) else some (AV.tup [(vS (F.lgA1 (List.drop z.2.2 z.1) z.2.1)), (vI 0)], []) else none
 else none := (runFR_val).symm.trans (by kernel_rfl)

def encRLw1 (l : List Cap) : List AV := [.sl (l.map eCap)]

def encRLw (a : (List Cap)) : List AV := encRLw1 a

theorem encRLw_inj (a a' : (List Cap)) (h : encRLw a = encRLw a') : a = a' := by
 simp only [encRLw, encRLw1] at h
 try simp [eCaps_inj] at h
 grind

theorem unRLw (l : List Cap) : unenc encRLw ([AV.sl (List.map eCap l)]) = some (l) := unenc_of encRLw_inj (l) rfl

def resRLw1 (l : List Cap) : AV × Heap := (.tup [vS (F.longS l), vI (F.longF l)], [])

def preRLw1 (l : List Cap) : Bool := F.smC l

noncomputable def oRLw : Orc := orc 52 false encRLw (fun a => preRLw1 a) fun a => resRLw1 a

theorem okRLw : OrcOK Tryz.prog noG oRLw := by
 refine mk_ok Tryz.f52 (keep := false) (by kernel_rfl) (by kernel_rfl) enRLw_ok mixed (two_loops (x0 := loopN Tryz.f52 0) (x1 := loopN Tryz.f52 1) (by kernel_rfl) (lpo_ok ?_) (lpo_ok ?_)) (by first | exact fun _ _ => ⟨rfl, rfl⟩ | (intro h; cases h)) ?_
 ·rintro ⟨l, s, k⟩ hp
  exact lpRLw_ok l s k hp
 ·rintro ⟨l, ls, k, s, j⟩ hp
  exact lpRLi_ok l ls k s j hp
 rintro l hpre hok
 show (runF enRLw false _ (encRLw1 _)).val = some (resRLw1 _)
 unfold encRLw1 resRLw1
 rw [evRLw]
 simp only [preRLw1] at hpre
 simp only [unRhC, unstRLw0, Option.bind_some, List.length_map, cond_true, Bool.and_true, hpre, F.longS, F.longF]
 cases hc : F.chkC l != 0
 ·have hc0 : F.chkC l = 0 := by simpa using hc
  obtain ⟨g1, g2⟩ := F.chkC_w hc0
  have e1 : decide ((ByteArray.mk (Array.mk [87, 69, 66, 86, 84, 84, 10, 10])).size ≤ 100 + 16000 * 0) = true := rfl
  rw [g2, decide_eq_true g1, decide_eq_true (Nat.zero_le l.length), e1, List.drop_zero]
  simp only [F.bndS, F.bnfL]
  rw [show F.longT l = F.lgA1 l (ByteArray.mk (Array.mk [87, 69, 66, 86, 84, 84, 10, 10])) from rfl]
  generalize F.lgA1 l (ByteArray.mk (Array.mk [87, 69, 66, 86, 84, 84, 10, 10])) = T
  by_cases h : 200000 < T.size
  ·rw [decide_eq_true h, decide_eq_true (show (200000 : Int) < T.size by omega)]; rfl
  ·rw [decide_eq_false h, decide_eq_false (show ¬ (200000 : Int) < T.size by omega)]; rfl
 ·rfl

end M

namespace M

theorem drop_at {α : Type} {xs : List α} {k : Nat} {y : α} (h : xs[k]? = some y) : xs.drop k = y :: xs.drop (k + 1) := by
 have hlt := lt_at h
 rw [List.drop_eq_getElem_cons hlt]
 congr 1
 exact (List.getElem?_eq_some_iff.1 h).2

end M

def F.leP (p : Option Int) (t : Int) : Bool := match p with
 | none => false
 | some o => F.le t o

def F.bndF (p : Option Int) (t : Int) : Int := bif F.noTime t then 1 else bif F.leP p t then 8 else 0

def F.bnds (l : List Int) : Int := bif decide (l.length < 2) then 9 else bif decide (200 < l.length) then 2 else F.chkP F.bndF none l

namespace M

theorem cast_lt2 (n : Nat) : decide ((n : Int) < 2) = decide (n < 2) := by
 by_cases h : n < 2
 ·rw [decide_eq_true h, decide_eq_true (by omega)]
 ·rw [decide_eq_false h, decide_eq_false (by omega)]

theorem cast_gt200 (n : Nat) : decide ((200 : Int) < (n : Int)) = decide (200 < n) := cast_gt 200 n

def stBF (l : List Int) (k : Nat) : St := ⟨[(15, vI k), (14, vI l.length), (13, .sl (l.map eI)), (0, .sl (l.map eI))], []⟩

def stBF1 (a : (List Int) × Nat) : St := stBF a.1 a.2

theorem stBF_inj (a a' : (List Int) × Nat) (h : stBF1 a = stBF1 a') : a = a' := by
 simp only [stBF1, stBF] at h
 try simp [ints_inj] at h
 grind

theorem unstBF0 (l : List Int)  : unenc stBF1 (St.mk [(15, (vI (0 : Int))), (14, (vI (↑(List.length l) : Int))), (13, AV.sl (List.map eI l)), (0, AV.sl (List.map eI l))] []) = some (l, 0) := unenc_of stBF_inj (l, 0) rfl

def outBF (l : List Int) (k : Nat) : T (Ex × St) := .ifB (decide (F.chkP F.bndF (F.prev l k) (l.drop k) = 0)) (.ret (.exit 1, ⟨[], []⟩)) (.ret (.ret, ⟨[(2, vI (F.chkP F.bndF (F.prev l k) (l.drop k)))], []⟩))

noncomputable def prlBF (l : List Int) (k : Nat) : Bool := decide (l.length ≤ 9223372036854775807) && decide (k ≤ l.length)

noncomputable def lpBF : Nat × (St → T (Ex × St)) := (6, lpo [15, 14, 13, 0] [] stBF1 (fun a => prlBF a.1 a.2) fun a => outBF a.1 a.2)

noncomputable def enBF : Env := envH ty noG lks [oNoT] [] [] [lpBF]

theorem enBF_ok : EnvOK Tryz.prog enBF := by
 refine envH_ok lks_ok ty_ok ?_ ?_
 ·simp only [List.forall_mem_cons]
  exact ⟨okNoT, by simp⟩
 ·simp

theorem evBFL (l : List Int) (k : Nat) : ((exec enBF (loopN Tryz.f98 0) (stBF l k)).bind (lessX ([15, 14, 13, 0], []) ([], []) ([2], []))).val =
 bif decide ((↑k : Int) < (↑(List.length l) : Int)) then Option.bind (unenc (List.map eI) (List.map eI l)) fun z => bif decide (k < List.length z) then
 Option.bind (unenc encNoT [(vI (List.getD z k 0))]) fun z_1 => bif F.noTime z_1 then some (Ex.ret, St.mk [(2, (vI 1))] []) else bif decide ((0 :
 Int) < (↑k : Int)) then Option.bind (idx (IntKind.i64.wrap ((↑k : Int) - (1 : Int)))) fun z_2 => Option.bind (unenc (List.map eI) (List.map eI l)) fun (z_3
 : List Int) => bif decide (z_2 < List.length z_3) then bif decide (List.getD z k 0 ≤ List.getD z_3 z_2 0) then some (Ex.ret, St.mk [(2, (vI 8))]
 []) else some (Ex.normal, St.mk [(15, (vI (IntKind.i64.wrap ((↑k : Int) + 1)))), (14, (vI (↑(List.length l) : Int))), (13, AV.sl (List.map eI l)), (0,
 AV.sl (List.map eI l))] []) else none else some (Ex.normal, St.mk [(15, (vI (IntKind.i64.wrap ((↑k : Int) + 1)))), (14, (vI (↑(List.length l) : Int))),
 (13, AV.sl (List.map eI l)), (0, AV.sl (List.map eI l))] []) else none else some (Ex.exit (1 : Nat), St.mk [] []) := (execR_bind _ _ _).symm.trans (by kernel_rfl)

theorem lpBF_ok (l : List Int) (k : Nat) (hp : prlBF l k = true) : ∀ ex s', (outBF l k).val = some (ex, s') → LoopOK enBF (loopN Tryz.f98 0) (stBF l k) ex s' := by
 simp only [prlBF, Bool.and_eq_true, decide_eq_true_eq] at hp
 obtain ⟨h1, h2⟩ := hp
 refine loop_chkP (l := l) (f := F.bndF) (st := stBF l) (o := fun c => (.ret, ⟨[(2, vI c)], []⟩)) (n := ([15, 14, 13, 0], [])) (e := ([], [])) (r := ([2], [])) ?_ ⟨by simp, rfl⟩ (fun _ => ⟨by simp, rfl⟩) (fun _ => rfl) ?_ k h2
 ·rw [evBFL]; simp
 ·intro k y hy
  have hlt := lt_at hy
  rw [evBFL]
  cases k with
  | zero =>
   simp only [unNoT, Option.bind_some, unInts, cond_true, cond_false, cast_lt hlt, decide_eq_true hlt, next_at hlt h1, getD_at hy, stBF, F.prev, F.bndF, F.leP]
   have hz : decide ((0 : Int) < ((0 : Nat) : Int)) = false := rfl
   simp only [hz]
   cases F.noTime y <;> rfl
  | succ j =>
   have ho : l[j]? = some l[j] := List.getElem?_eq_getElem (by omega)
   generalize l[j] = o at ho
   have hlo := lt_at ho
   simp only [unNoT, Option.bind_some, unInts, F.le, cond_true, cast_lt hlt, decide_eq_true hlt, decide_eq_true hlo, next_at hlt h1, getD_at hy, getD_at ho, ho, stBF, F.prev, F.bndF, F.leP, idx_sub (by omega : j + 1 ≤ 9223372036854775807)]
   have hz : decide ((0 : Int) < ((j + 1 : Nat) : Int)) = true := decide_eq_true (by omega)
   simp only [hz]
   cases F.noTime y
   ·cases decide (y ≤ o) <;> rfl
   ·rfl

theorem evBF (l : List Int) : (runF enBF false Tryz.f98 [.sl (l.map eI)]).val =
 bif decide ((↑(List.length (List.map eI l)) : Int) < 2) then some ((vI 9), []) else bif decide ((200 : Int) < (↑(List.length (List.map eI l)) : Int)) then
 some ((vI 2), []) else Option.bind (unenc stBF1 (St.mk [(15, (vI 0)), (14, (vI (↑(List.length (List.map eI l)) : Int))), (13, AV.sl (List.map eI l)), (0,
 AV.sl (List.map eI l))] [])) fun z => bif decide (List.length z.1 ≤ 9223372036854775807) && decide (z.2 ≤ List.length z.1) && true then
 bif decide (F.chkP F.bndF (F.prev z.1 z.2) (List.drop z.2 z.1) = (0 : Int)) then some ((vI 0), []) else some ((vI (F.chkP F.bndF (F.prev z.1 z.2)
 (List.drop z.2 z.1))), []) else none := (runFR_val).symm.trans (by kernel_rfl)

def encBF1 (l : List Int) : List AV := [.sl (l.map eI)]

def encBF (a : (List Int)) : List AV := encBF1 a

theorem encBF_inj (a a' : (List Int)) (h : encBF a = encBF a') : a = a' := by
 simp only [encBF, encBF1] at h
 try simp [ints_inj] at h
 grind

theorem unBF (l : List Int) : unenc encBF ([AV.sl (List.map eI l)]) = some (l) := unenc_of encBF_inj (l) rfl

def resBF1 (l : List Int) : AV × Heap := (vI (F.bnds l), [])

def preBF1 (l : List Int) : Bool := true

noncomputable def oBF : Orc := orc 98 true encBF (fun a => preBF1 a) fun a => resBF1 a

theorem okBF : OrcOK Tryz.prog noG oBF := by
 refine mk_ok Tryz.f98 (keep := false) (by kernel_rfl) (by kernel_rfl) enBF_ok mixed (one_loop (x0 := loopN Tryz.f98 0) (by kernel_rfl) (lpo_ok ?_)) (by first | exact fun _ _ => ⟨rfl, rfl⟩ | (intro h; cases h)) ?_
 ·rintro ⟨l, k⟩ hp
  exact lpBF_ok l k hp
 rintro l hpre hok
 show (runF enBF false _ (encBF1 _)).val = some (resBF1 _)
 unfold encBF1 resBF1
 rw [evBF]
 have hx : l.length ≤ 9223372036854775807 := by simpa using (okA_sl (hok _ (List.mem_cons_self ..))).1
 simp only [unstBF0, Option.bind_some, List.length_map, cond_true, Bool.and_true, F.bnds, hx, List.drop_zero, Nat.zero_le, decide_true, F.prev, cast_lt2, cast_gt200]
 cases decide (l.length < 2)
 ·cases decide (200 < l.length)
  ·by_cases h : F.chkP F.bndF none l = 0 <;> simp [h]
  ·rfl
 ·rfl

def stRBF (l : List Int) (k : Nat) : St := ⟨[(13, vI k), (12, vI l.length), (11, .sl (l.map eI)), (0, .sl (l.map eI))], []⟩

def stRBF1 (a : (List Int) × Nat) : St := stRBF a.1 a.2

theorem stRBF_inj (a a' : (List Int) × Nat) (h : stRBF1 a = stRBF1 a') : a = a' := by
 simp only [stRBF1, stRBF] at h
 try simp [ints_inj] at h
 grind

theorem unstRBF0 (l : List Int)  : unenc stRBF1 (St.mk [(13, (vI (0 : Int))), (12, (vI (↑(List.length l) : Int))), (11, AV.sl (List.map eI l)), (0, AV.sl (List.map eI l))] []) = some (l, 0) := unenc_of stRBF_inj (l, 0) rfl

def outRBF (l : List Int) (k : Nat) : T (Ex × St) := .ifB (decide (F.chkP F.bndF (F.prev l k) (l.drop k) = 0)) (.ret (.exit 0, ⟨[], []⟩)) (.ret (.ret, ⟨[(2, vI (F.chkP F.bndF (F.prev l k) (l.drop k)))], []⟩))

noncomputable def prlRBF (l : List Int) (k : Nat) : Bool := decide (l.length ≤ 9223372036854775807) && decide (k ≤ l.length)

noncomputable def lpRBF : Nat × (St → T (Ex × St)) := (6, lpo [13, 12, 11, 0] [] stRBF1 (fun a => prlRBF a.1 a.2) fun a => outRBF a.1 a.2)

noncomputable def enRBF : Env := envH ty noG lks [oIsTm] [] [] [lpRBF]

theorem enRBF_ok : EnvOK Tryz.prog enRBF := by
 refine envH_ok lks_ok ty_ok ?_ ?_
 ·simp only [List.forall_mem_cons]
  exact ⟨okIsTm, by simp⟩
 ·simp

theorem evRBFL (l : List Int) (k : Nat) : ((exec enRBF (loopN Tryz.f112 0) (stRBF l k)).bind (lessX ([13, 12, 11, 0], []) ([], []) ([2], []))).val =
 bif decide ((↑k : Int) < (↑(List.length l) : Int)) then Option.bind (unenc (List.map eI) (List.map eI l)) fun z => bif decide (k < List.length z) then
 Option.bind (unenc encIsTm [(vI (List.getD z k 0))]) fun z_1 => bif !!F.noTime z_1 then some (Ex.ret, St.mk [(2, (vI 1))] []) else bif decide ((0 :
 Int) < (↑k : Int)) then Option.bind (idx (IntKind.i64.wrap ((↑k : Int) - (1 : Int)))) fun z_2 => Option.bind (unenc (List.map eI) (List.map eI l)) fun (z_3
 : List Int) => bif decide (z_2 < List.length z_3) then bif decide (List.getD z k 0 ≤ List.getD z_3 z_2 0) then some (Ex.ret, St.mk [(2, (vI 8))]
 []) else some (Ex.normal, St.mk [(13, (vI (IntKind.i64.wrap ((↑k : Int) + 1)))), (12, (vI (↑(List.length l) : Int))), (11, AV.sl (List.map eI l)), (0,
 AV.sl (List.map eI l))] []) else none else some (Ex.normal, St.mk [(13, (vI (IntKind.i64.wrap ((↑k : Int) + 1)))), (12, (vI (↑(List.length l) : Int))),
 (11, AV.sl (List.map eI l)), (0, AV.sl (List.map eI l))] []) else none else some (Ex.exit (0 : Nat), St.mk [] []) := (execR_bind _ _ _).symm.trans (by kernel_rfl)

theorem lpRBF_ok (l : List Int) (k : Nat) (hp : prlRBF l k = true) : ∀ ex s', (outRBF l k).val = some (ex, s') → LoopOK enRBF (loopN Tryz.f112 0) (stRBF l k) ex s' := by
 simp only [prlRBF, Bool.and_eq_true, decide_eq_true_eq] at hp
 obtain ⟨h1, h2⟩ := hp
 refine loop_chkP (l := l) (f := F.bndF) (st := stRBF l) (o := fun c => (.ret, ⟨[(2, vI c)], []⟩)) (n := ([13, 12, 11, 0], [])) (e := ([], [])) (r := ([2], [])) ?_ ⟨by simp, rfl⟩ (fun _ => ⟨by simp, rfl⟩) (fun _ => rfl) ?_ k h2
 ·rw [evRBFL]; simp
 ·intro k y hy
  have hlt := lt_at hy
  rw [evRBFL]
  cases k with
  | zero =>
   simp only [unIsTm, Option.bind_some, unInts, cond_true, cond_false, cast_lt hlt, decide_eq_true hlt, next_at hlt h1, getD_at hy, stRBF, F.prev, F.bndF, F.leP, Bool.not_not]
   have hz : decide ((0 : Int) < ((0 : Nat) : Int)) = false := rfl
   simp only [hz]
   cases F.noTime y <;> rfl
  | succ j =>
   have ho : l[j]? = some l[j] := List.getElem?_eq_getElem (by omega)
   generalize l[j] = o at ho
   have hlo := lt_at ho
   simp only [unIsTm, Option.bind_some, unInts, F.le, cond_true, cast_lt hlt, decide_eq_true hlt, decide_eq_true hlo, next_at hlt h1, getD_at hy, getD_at ho, ho, stRBF, F.prev, F.bndF, F.leP, idx_sub (by omega : j + 1 ≤ 9223372036854775807), Bool.not_not]
   have hz : decide ((0 : Int) < ((j + 1 : Nat) : Int)) = true := decide_eq_true (by omega)
   simp only [hz]
   cases F.noTime y
   ·cases decide (y ≤ o) <;> rfl
   ·rfl

theorem evRBF (l : List Int) : (runF enRBF false Tryz.f112 [.sl (l.map eI)]).val =
 bif decide ((↑(List.length (List.map eI l)) : Int) < 2) then some ((vI 9), []) else bif decide ((200 : Int) < (↑(List.length (List.map eI l)) : Int)) then
 some ((vI 2), []) else Option.bind (unenc stRBF1 (St.mk [(13, (vI 0)), (12, (vI (↑(List.length (List.map eI l)) : Int))), (11, AV.sl (List.map eI l)), (0,
 AV.sl (List.map eI l))] [])) fun z => bif decide (List.length z.1 ≤ 9223372036854775807) && decide (z.2 ≤ List.length z.1) && true then
 bif decide (F.chkP F.bndF (F.prev z.1 z.2) (List.drop z.2 z.1) = (0 : Int)) then some ((vI 0), []) else some ((vI (F.chkP F.bndF (F.prev z.1 z.2)
 (List.drop z.2 z.1))), []) else none := (runFR_val).symm.trans (by kernel_rfl)

def encRBF1 (l : List Int) : List AV := [.sl (l.map eI)]

def encRBF (a : (List Int)) : List AV := encRBF1 a

theorem encRBF_inj (a a' : (List Int)) (h : encRBF a = encRBF a') : a = a' := by
 simp only [encRBF, encRBF1] at h
 try simp [ints_inj] at h
 grind

theorem unRBF (l : List Int) : unenc encRBF ([AV.sl (List.map eI l)]) = some (l) := unenc_of encRBF_inj (l) rfl

def resRBF1 (l : List Int) : AV × Heap := (vI (F.bnds l), [])

def preRBF1 (l : List Int) : Bool := true

noncomputable def oRBF : Orc := orc 112 true encRBF (fun a => preRBF1 a) fun a => resRBF1 a

theorem okRBF : OrcOK Tryz.prog noG oRBF := by
 refine mk_ok Tryz.f112 (keep := false) (by kernel_rfl) (by kernel_rfl) enRBF_ok mixed (one_loop (x0 := loopN Tryz.f112 0) (by kernel_rfl) (lpo_ok ?_)) (by first | exact fun _ _ => ⟨rfl, rfl⟩ | (intro h; cases h)) ?_
 ·rintro ⟨l, k⟩ hp
  exact lpRBF_ok l k hp
 rintro l hpre hok
 show (runF enRBF false _ (encRBF1 _)).val = some (resRBF1 _)
 unfold encRBF1 resRBF1
 rw [evRBF]
 have hx : l.length ≤ 9223372036854775807 := by simpa using (okA_sl (hok _ (List.mem_cons_self ..))).1
 simp only [unstRBF0, Option.bind_some, List.length_map, cond_true, Bool.and_true, F.bnds, hx, List.drop_zero, Nat.zero_le, decide_true, F.prev, cast_lt2, cast_gt200]
 cases decide (l.length < 2)
 ·cases decide (200 < l.length)
  ·by_cases h : F.chkP F.bndF none l = 0 <;> simp [h]
  ·rfl
 ·rfl

def stFst (l : List Int) (k : Nat) : St := ⟨[(7, vI k), (6, vI l.length), (5, .sl (l.map eI))], []⟩

def stFst1 (a : (List Int) × Nat) : St := stFst a.1 a.2

theorem stFst_inj (a a' : (List Int) × Nat) (h : stFst1 a = stFst1 a') : a = a' := by
 simp only [stFst1, stFst] at h
 try simp [ints_inj] at h
 grind

theorem unstFst0 (l : List Int)  : unenc stFst1 (St.mk [(7, (vI (0 : Int))), (6, (vI (↑(List.length l) : Int))), (5, AV.sl (List.map eI l))] []) = some (l, 0) := unenc_of stFst_inj (l, 0) rfl

def outFst (l : List Int) (k : Nat) : T (Ex × St) := .ifB (decide (M.ffI id (l.drop k) = 0)) (.ret (.exit 0, ⟨[], []⟩)) (.ret (.ret, ⟨[(2, vI (M.ffI id (l.drop k)))], []⟩))

noncomputable def prlFst (l : List Int) (k : Nat) : Bool := decide (l.length ≤ 9223372036854775807) && decide (k ≤ l.length)

noncomputable def lpFst : Nat × (St → T (Ex × St)) := (2, lpo [7, 6, 5] [] stFst1 (fun a => prlFst a.1 a.2) fun a => outFst a.1 a.2)

noncomputable def enFst : Env := envH ty noG lks [] [] [] [lpFst]

theorem enFst_ok : EnvOK Tryz.prog enFst := by
 refine envH_ok lks_ok ty_ok ?_ ?_
 ·simp
 ·simp

theorem evFstL (l : List Int) (k : Nat) : ((exec enFst (loopN Tryz.f82 0) (stFst l k)).bind (lessX ([7, 6, 5], []) ([], []) ([2], []))).val =
 bif decide ((↑k : Int) < (↑(List.length l) : Int)) then Option.bind (unenc (List.map eI) (List.map eI l)) fun z => bif decide (k < List.length z) then bif
 List.getD z k 0 != 0 then some (Ex.ret, St.mk [(2, (vI (List.getD z k 0)))] []) else some (Ex.normal, St.mk [(7, (vI (IntKind.i64.wrap ((↑k
 : Int) + 1)))), (6, (vI (↑(List.length l) : Int))), (5, AV.sl (List.map eI l))] []) else none else some (Ex.exit (0 : Nat), St.mk [] []) := (execR_bind _ _ _).symm.trans (by kernel_rfl)

theorem lpFst_ok (l : List Int) (k : Nat) (hp : prlFst l k = true) : ∀ ex s', (outFst l k).val = some (ex, s') → LoopOK enFst (loopN Tryz.f82 0) (stFst l k) ex s' := by
 simp only [prlFst, Bool.and_eq_true, decide_eq_true_eq] at hp
 refine loop_code (xs := l) (st := stFst l) (g := id) (o := fun c => (.ret, ⟨[(2, vI c)], []⟩)) (n := ([7, 6, 5], [])) (e := ([], [])) (r := ([2], [])) ?_ ⟨by simp, rfl⟩ (fun _ => ⟨by simp, rfl⟩) (fun _ => rfl) ?_ k hp.2
 ·rw [evFstL]; simp
 ·intro k y hy
  have hlt := lt_at hy
  rw [evFstL]
  simp only [Option.bind_some, unInts, cond_true, cast_lt hlt, decide_eq_true hlt, next_at hlt hp.1, getD_at hy, stFst]
  by_cases h : y = 0
  ·subst h; rfl
  ·have hb : (y != 0) = true := by simp [h]
   simp only [hb, cond_true, id, h, if_false]

theorem evFst (l : List Int) : (runF enFst false Tryz.f82 [.sl (l.map eI)]).val =
 Option.bind (unenc stFst1 (St.mk [(7, (vI 0)), (6, (vI (↑(List.length (List.map eI l)) : Int))), (5, AV.sl (List.map eI l))] [])) fun z => bif
 decide (List.length z.1 ≤ 9223372036854775807) && decide (z.2 ≤ List.length z.1) && true then bif decide (ffI id (List.drop z.2 z.1) = (0 : Int)) then
 some ((vI 0), []) else some ((vI (ffI id (List.drop z.2 z.1))), []) else none := (runFR_val).symm.trans (by kernel_rfl)

def encFst1 (l : List Int) : List AV := [.sl (l.map eI)]

def encFst (a : (List Int)) : List AV := encFst1 a

theorem encFst_inj (a a' : (List Int)) (h : encFst a = encFst a') : a = a' := by
 simp only [encFst, encFst1] at h
 try simp [ints_inj] at h
 grind

def resFst1 (l : List Int) : AV × Heap := (vI (M.ffI id l), [])

def preFst1 (l : List Int) : Bool := true

noncomputable def oFst : Orc := orc 82 true encFst (fun a => preFst1 a) fun a => resFst1 a

theorem okFst : OrcOK Tryz.prog noG oFst := by
 refine mk_ok Tryz.f82 (keep := false) (by kernel_rfl) (by kernel_rfl) enFst_ok mixed (one_loop (x0 := loopN Tryz.f82 0) (by kernel_rfl) (lpo_ok ?_)) (by first | exact fun _ _ => ⟨rfl, rfl⟩ | (intro h; cases h)) ?_
 ·rintro ⟨l, k⟩ hp
  exact lpFst_ok l k hp
 rintro l hpre hok
 show (runF enFst false _ (encFst1 _)).val = some (resFst1 _)
 unfold encFst1 resFst1
 rw [evFst]
 have hx : l.length ≤ 9223372036854775807 := by simpa using (okA_sl (hok _ (List.mem_cons_self ..))).1
 simp only [unstFst0, Option.bind_some, List.length_map, cond_true, Bool.and_true, hx, List.drop_zero, Nat.zero_le, decide_true]
 by_cases h : M.ffI id l = 0 <;> simp [h]

theorem fst_two (a b : Int) : unenc encFst [.sl [[vI a], [vI b]]] = some [a, b] := unenc_of encFst_inj [a, b] rfl

theorem ff_two (a b : Int) : M.ffI id [a, b] = (bif a != 0 then a else b) := by
 simp only [M.ffI, id]
 by_cases h : a = 0
 ·subst h
  by_cases h2 : b = 0
  ·subst h2; rfl
  ·simp [h2]
 ·rw [if_neg h, bne1 h]; rfl

end M

end Go.Proofs.YtbeobbjiogbdlaaGreatDoor

namespace Go.Proofs.YtbeobbjiogbdlaaGreatDoor
set_option linter.unusedVariables false
set_option maxHeartbeats 4000000
namespace K
variable {α : Type}
structure SW (lt : α → α → Bool) : Prop where
 asym : ∀ a b, lt a b = true → lt b a = false
 tr : ∀ a b c, lt b a = false → lt c b = false → lt c a = false

def eqv (lt : α → α → Bool) (z a : α) : Bool := !lt z a && !lt a z

def Srt (lt : α → α → Bool) (xs : List α) : Prop := xs.Pairwise fun a b => lt b a = false

structure Stb (lt : α → α → Bool) (xs ys : List α) : Prop where
 perm : ys.Perm xs
 ord : Srt lt ys
 fil : ∀ z, ys.filter (eqv lt z) = xs.filter (eqv lt z)

variable {lt : α → α → Bool}

theorem SW.irr (h : SW lt) (a : α) : lt a a = false := by
 cases e : lt a a
 ·rfl
 ·rw [h.asym a a e] at e; cases e

theorem SW.eqv_self (h : SW lt) (a : α) : eqv lt a a = true := by simp [eqv, h.irr]

theorem mem_fil (h : SW lt) {xs : List α} {a : α} : a ∈ xs ↔ a ∈ xs.filter (eqv lt a) := by simp [h.eqv_self]

theorem srt_uniq (h : SW lt) : ∀ {ys zs : List α}, Srt lt ys → Srt lt zs → (∀ z, ys.filter (eqv lt z) = zs.filter (eqv lt z)) → ys = zs
  | [], [], _, _, _ => rfl
  | [], z :: zs, _, _, e => by
    have := (mem_fil h (a := z)).1 (List.mem_cons_self (a := z) (l := zs))
    rw [← e z] at this; cases this
  | y :: ys, [], _, _, e => by
    have := (mem_fil h (a := y)).1 (List.mem_cons_self (a := y) (l := ys))
    rw [e y] at this; cases this
  | y :: ys, z :: zs, h1, h2, e => by
    have m1 := (mem_fil h (a := y)).1 (List.mem_cons_self (a := y) (l := ys))
    have m2 := (mem_fil h (a := z)).1 (List.mem_cons_self (a := z) (l := zs))
    rw [e y] at m1; rw [← e z] at m2
    have m1 := (mem_fil h).2 m1
    have m2 := (mem_fil h).2 m2
    obtain ⟨p1, p2⟩ := List.pairwise_cons.1 h1
    obtain ⟨q1, q2⟩ := List.pairwise_cons.1 h2
    have a1 : lt z y = false := by rcases List.mem_cons.1 m2 with rfl | m
                                   · exact h.irr _
                                   · exact p1 _ m
    have a2 : lt y z = false := by rcases List.mem_cons.1 m1 with rfl | m
                                   · exact h.irr _
                                   · exact q1 _ m
    have ey := e y
    rw [List.filter_cons_of_pos (h.eqv_self y), List.filter_cons_of_pos (by simp [eqv, a1, a2])] at ey
    have e0 : y = z := (List.cons.inj ey).1
    subst e0
    rw [srt_uniq h p2 q2 fun w => ?_]
    have ew := e w
    by_cases hw : eqv lt w y = true
    · rw [List.filter_cons_of_pos hw, List.filter_cons_of_pos hw] at ew
      exact (List.cons.inj ew).2
    · rw [List.filter_cons_of_neg hw, List.filter_cons_of_neg hw] at ew
      exact ew

theorem Stb.uniq (h : SW lt) {xs ys zs : List α} (h1 : Stb lt xs ys) (h2 : Stb lt xs zs) : ys = zs :=
 srt_uniq h h1.ord h2.ord fun z => (h1.fil z).trans (h2.fil z).symm

theorem Stb.refl {xs : List α} (h1 : Srt lt xs) : Stb lt xs xs := ⟨.refl _, h1, fun _ => rfl⟩

def Le (lt : α → α → Bool) (xs ys : List α) : Prop := ∀ a ∈ xs, ∀ b ∈ ys, lt b a = false

def Lt (lt : α → α → Bool) (xs ys : List α) : Prop := ∀ a ∈ xs, ∀ b ∈ ys, lt a b = true

theorem Stb.app {a b c d : List α} (h1 : Stb lt a c) (h2 : Stb lt b d) (h : Le lt a b) : Stb lt (a ++ b) (c ++ d) :=
 ⟨h1.perm.append h2.perm, List.pairwise_append.2 ⟨h1.ord, h2.ord, fun x hx y hy => h x (h1.perm.subset hx) y (h2.perm.subset hy)⟩, fun z => by rw [List.filter_append, List.filter_append, h1.fil, h2.fil]⟩

theorem fil_none (h : SW lt) {a b : List α} (hab : Lt lt a b) (z : α) : a.filter (eqv lt z) = [] ∨ b.filter (eqv lt z) = [] := by
 by_cases ha : a.filter (eqv lt z) = []
 ·exact .inl ha
 ·right
  obtain ⟨x, hx⟩ := List.exists_mem_of_ne_nil _ ha
  obtain ⟨hx, hxz⟩ := List.mem_filter.1 hx
  simp only [eqv, Bool.and_eq_true, Bool.not_eq_true'] at hxz
  refine List.filter_eq_nil_iff.2 fun y hy hyz => ?_
  simp only [eqv, Bool.and_eq_true, Bool.not_eq_true'] at hyz
  have := hab x hx y hy
  rw [h.tr y z x hyz.1 hxz.2] at this
  cases this

theorem fil_comm (h : SW lt) {a b : List α} (hab : Lt lt a b) (z : α) : (a ++ b).filter (eqv lt z) = (b ++ a).filter (eqv lt z) := by
 rw [List.filter_append, List.filter_append]
 rcases fil_none h hab z with e | e <;> rw [e] <;> simp

def ins (lt : α → α → Bool) (c : α) : List α → List α
 | [] => [c]
 | x :: l => bif lt c x then c :: x :: l else x :: ins lt c l

def srt (lt : α → α → Bool) (xs : List α) : List α := xs.foldl (fun out c => ins lt c out) []

theorem ins_mem {c a : α} : ∀ {l : List α}, a ∈ ins lt c l → a = c ∨ a ∈ l
 | [], h => .inl (List.mem_singleton.1 h)
 | x :: l, h => by
  unfold ins at h
  cases e : lt c x <;> rw [e] at h
  ·rcases List.mem_cons.1 h with rfl | h
   ·exact .inr (List.mem_cons_self ..)
   ·exact (ins_mem h).imp id (List.mem_cons_of_mem _)
  ·rcases List.mem_cons.1 h with rfl | h
   ·exact .inl rfl
   ·exact .inr h

theorem ins_perm {c : α} : ∀ {l : List α}, (ins lt c l).Perm (l ++ [c])
 | [] => .refl _
 | x :: l => by
  unfold ins
  cases lt c x
  ·exact ins_perm.cons x
  ·exact (List.perm_append_singleton c (x :: l)).symm

theorem ins_srt (h : SW lt) {c : α} : ∀ {l : List α}, Srt lt l → Srt lt (ins lt c l)
 | [], _ => List.pairwise_singleton ..
 | x :: l, hl => by
  obtain ⟨p1, p2⟩ := List.pairwise_cons.1 hl
  unfold ins
  cases e : lt c x
  ·refine List.pairwise_cons.2 ⟨fun y hy => ?_, ins_srt h p2⟩
   rcases ins_mem hy with rfl | hy
   ·exact e
   ·exact p1 _ hy
  ·refine List.pairwise_cons.2 ⟨fun y hy => ?_, hl⟩
   rcases List.mem_cons.1 hy with rfl | hy
   ·exact h.asym _ _ e
   ·exact h.tr _ _ _ (h.asym _ _ e) (p1 _ hy)

theorem ins_fil (h : SW lt) {c : α} (z : α) : ∀ {l : List α}, Srt lt l → (ins lt c l).filter (eqv lt z) = (l ++ [c]).filter (eqv lt z)
 | [], _ => rfl
 | x :: l, hl => by
  obtain ⟨p1, p2⟩ := List.pairwise_cons.1 hl
  unfold ins
  cases e : lt c x
  ·rw [cond_false, List.cons_append, List.filter_cons, List.filter_cons, ins_fil h z p2]
  ·rw [cond_true]
   refine fil_comm h (a := [c]) (b := x :: l) (fun a ha b hb => ?_) z
   rcases List.mem_singleton.1 ha with rfl
   rcases List.mem_cons.1 hb with rfl | hb
   ·exact e
   ·cases e2 : lt a b
    ·rw [h.tr x b a (p1 b hb) e2] at e; cases e
    ·rfl

theorem ins_stb (h : SW lt) {c : α} {xs ys : List α} (h1 : Stb lt xs ys) : Stb lt (xs ++ [c]) (ins lt c ys) :=
 ⟨ins_perm.trans (h1.perm.append_right _), ins_srt h h1.ord, fun z => by rw [ins_fil h z h1.ord, List.filter_append, List.filter_append, h1.fil]⟩

theorem srt_snoc {xs : List α} {c : α} : srt lt (xs ++ [c]) = ins lt c (srt lt xs) := by unfold srt; rw [List.foldl_append]; rfl

theorem srt_stb (h : SW lt) (xs : List α) : Stb lt xs (srt lt xs) := by
 rw [← List.reverse_reverse xs]
 generalize xs.reverse = r
 induction r with
 | nil => exact ⟨.refl _, .nil, fun _ => rfl⟩
 | cons c r ih => rw [List.reverse_cons, srt_snoc]; exact ins_stb h ih

theorem Stb.eq (h : SW lt) {xs ys : List α} (h1 : Stb lt xs ys) : ys = srt lt xs := h1.uniq h (srt_stb h xs)

theorem srt_id (h : SW lt) {xs : List α} (h1 : Srt lt xs) : srt lt xs = xs := ((Stb.refl h1).eq h).symm

theorem srt_len {xs : List α} (h : SW lt) : (srt lt xs).length = xs.length := (srt_stb h xs).perm.length_eq

theorem srt_app (h : SW lt) (a b : List α) : srt lt (srt lt a ++ srt lt b) = srt lt (a ++ b) := by
 have h1 := srt_stb h (srt lt a ++ srt lt b)
 refine Stb.eq h ⟨h1.perm.trans ((srt_stb h a).perm.append (srt_stb h b).perm), h1.ord, fun z => ?_⟩
 rw [h1.fil, List.filter_append, List.filter_append, (srt_stb h a).fil, (srt_stb h b).fil]

theorem merge_two (h : SW lt) {a1 a2 b1 b2 : List α} (ha : Srt lt (a1 ++ a2)) (hb : Srt lt (b1 ++ b2)) (h1 : Le lt a1 b2) (h2 : Lt lt b1 a2) : srt lt (a1 ++ b1) ++ srt lt (a2 ++ b2) = srt lt (a1 ++ a2 ++ (b1 ++ b2)) := by
 obtain ⟨p1, p2, p3⟩ := List.pairwise_append.1 ha
 obtain ⟨q1, q2, q3⟩ := List.pairwise_append.1 hb
 have hs := (srt_stb h (a1 ++ b1)).app (srt_stb h (a2 ++ b2)) (fun x hx y hy => by
  rcases List.mem_append.1 hx with hx | hx <;> rcases List.mem_append.1 hy with hy | hy
  ·exact p3 x hx y hy
  ·exact h1 x hx y hy
  ·exact h.asym _ _ (h2 x hx y hy)
  ·exact q3 x hx y hy)
 refine Stb.eq h ⟨hs.perm.trans ?_, hs.ord, fun z => (hs.fil z).trans ?_⟩
 ·rw [List.append_assoc, List.append_assoc, ← List.append_assoc b1, ← List.append_assoc a2]
  exact (List.perm_append_comm.append_right _).append_left _
 ·have e := fil_comm h h2 z
  simp only [List.filter_append] at e ⊢
  rw [List.append_assoc, ← List.append_assoc (b1.filter _), e]
  simp

end K
namespace K
variable {α : Type} {lt : α → α → Bool}

def sw2 (xs : List α) (i j : Nat) : List α := match xs[i]?, xs[j]? with
 | some x, some y => (xs.set i y).set j x
 | _, _ => xs

theorem sw2_eq {xs : List α} {i j : Nat} {x y : α} (hi : xs[i]? = some x) (hj : xs[j]? = some y) : sw2 xs i j = (xs.set i y).set j x := by
 unfold sw2; rw [hi, hj]

theorem sw2_len {xs : List α} {i j : Nat} : (sw2 xs i j).length = xs.length := by
 unfold sw2; split <;> simp

theorem sw2_parts {P M Q : List α} {x y : α} {i j : Nat} (h1 : P.length = i) (h2 : i + 1 + M.length = j) : sw2 (P ++ x :: (M ++ y :: Q)) i j = P ++ y :: (M ++ x :: Q) := by
 have e1 : (P ++ x :: (M ++ y :: Q))[i]? = some x := by rw [List.getElem?_append_right (by omega)]; simp [h1]
 have e2 : (P ++ x :: (M ++ y :: Q))[j]? = some y := by
  rw [List.getElem?_append_right (by omega), show j - P.length = M.length + 1 by omega, List.getElem?_cons_succ, List.getElem?_append_right (Nat.le_refl _)]; simp
 rw [sw2_eq e1 e2, List.set_append_right _ _ (by omega), List.set_append_right _ _ (by omega)]
 congr 1
 rw [show i - P.length = 0 by omega, show j - P.length = M.length + 1 by omega, List.set_cons_zero, List.set_cons_succ, List.set_append_right _ _ (Nat.le_refl _), Nat.sub_self, List.set_cons_zero]

theorem sw2_comm {xs : List α} {i j : Nat} (h : i ≠ j) : sw2 xs i j = sw2 xs j i := by
 unfold sw2
 cases xs[i]? <;> cases xs[j]? <;> try rfl
 exact List.set_comm _ _ h

def swr (a b : Nat) : Nat → List α → List α
 | 0, xs => xs
 | n + 1, xs => swr (a + 1) (b + 1) n (sw2 xs a b)

theorem swr_len : ∀ (n a b : Nat) (xs : List α), (swr a b n xs).length = xs.length
 | 0, _, _, _ => rfl
 | n + 1, a, b, xs => by rw [swr, swr_len, sw2_len]

theorem swr_parts : ∀ (X Y P Z Q : List α) (a b n : Nat), P.length = a → X.length = n → Y.length = n → a + n + Z.length = b → swr a b n (P ++ X ++ Z ++ Y ++ Q) = P ++ Y ++ Z ++ X ++ Q
 | [], Y, P, Z, Q, a, b, n, h1, h2, h3, h4 => by
  have : Y = [] := List.length_eq_zero_iff.1 (by rw [h3, ← h2]; rfl)
  subst this
  have : n = 0 := h2.symm
  subst this
  rfl
 | x :: X, [], P, Z, Q, a, b, n, h1, h2, h3, h4 => by rw [← h2] at h3; cases h3
 | x :: X, y :: Y, P, Z, Q, a, b, n, h1, h2, h3, h4 => by
  cases n with
  | zero => cases h2
  | succ n =>
   have h2 : X.length = n := Nat.succ.inj h2
   have h3 : Y.length = n := Nat.succ.inj h3
   have e : P ++ x :: X ++ Z ++ y :: Y ++ Q = P ++ x :: ((X ++ Z) ++ y :: (Y ++ Q)) := by simp
   rw [swr, e, sw2_parts h1 (by rw [List.length_append]; omega)]
   have e2 : P ++ y :: (X ++ Z ++ x :: (Y ++ Q)) = (P ++ [y]) ++ X ++ (Z ++ [x]) ++ Y ++ Q := by simp
   rw [e2, swr_parts X Y (P ++ [y]) (Z ++ [x]) Q (a + 1) (b + 1) n (by simp [h1]) h2 h3 (by simp; omega)]
   simp

def rotS (m i j : Nat) (xs : List α) : List α := xs.take (m - i) ++ ((xs.drop m).take j ++ ((xs.drop (m - i)).take i ++ xs.drop (m + j)))

theorem rotS_parts {P X Y Q : List α} {m i j : Nat} (h1 : P.length + i = m) (h2 : X.length = i) (h3 : Y.length = j) : rotS m i j (P ++ (X ++ (Y ++ Q))) = P ++ (Y ++ (X ++ Q)) := by
 subst h1 h2 h3
 unfold rotS
 rw [show P.length + X.length - X.length = P.length by omega, List.take_left, List.drop_left, List.take_left]
 have e1 : (P ++ (X ++ (Y ++ Q))).drop (P.length + X.length) = Y ++ Q := by
  rw [show P ++ (X ++ (Y ++ Q)) = (P ++ X) ++ (Y ++ Q) by simp, show P.length + X.length = (P ++ X).length by simp, List.drop_left]
 have e2 : (P ++ (X ++ (Y ++ Q))).drop (P.length + X.length + Y.length) = Q := by
  rw [show P ++ (X ++ (Y ++ Q)) = (P ++ X ++ Y) ++ Q by simp, show P.length + X.length + Y.length = (P ++ X ++ Y).length by simp; omega, List.drop_left]
 rw [e1, e2, List.take_left]

theorem parts4 (xs : List α) {m i j : Nat} (h1 : i ≤ m) (h2 : m + j ≤ xs.length) : ∃ P X Y Q, xs = P ++ (X ++ (Y ++ Q)) ∧ P.length + i = m ∧ X.length = i ∧ Y.length = j := by
 refine ⟨xs.take (m - i), (xs.drop (m - i)).take i, (xs.drop m).take j, xs.drop (m + j), ?_, by rw [List.length_take]; omega, by rw [List.length_take, List.length_drop]; omega, by rw [List.length_take, List.length_drop]; omega⟩
 have e1 : xs.drop (m + j) = (xs.drop m).drop j := by rw [List.drop_drop]
 have e2 : xs.drop m = (xs.drop (m - i)).drop i := by rw [List.drop_drop]; congr 1; omega
 rw [e1, List.take_append_drop, e2, List.take_append_drop, List.take_append_drop]

theorem rotS_len {xs : List α} {m i j : Nat} (h1 : i ≤ m) (h2 : m + j ≤ xs.length) : (rotS m i j xs).length = xs.length := by
 obtain ⟨P, X, Y, Q, rfl, e1, e2, e3⟩ := parts4 xs h1 h2
 rw [rotS_parts e1 e2 e3]
 simp; omega

theorem rotS_gt {xs : List α} {m i j : Nat} (h1 : i ≤ m) (h2 : m + j ≤ xs.length) (h : j < i) : rotS m (i - j) j (swr (m - i) m j xs) = rotS m i j xs := by
 obtain ⟨P, X, Y, Q, rfl, e1, e2, e3⟩ := parts4 xs h1 h2
 rw [rotS_parts e1 e2 e3]
 have ex : X = X.take j ++ X.drop j := (List.take_append_drop ..).symm
 have l1 : (X.take j).length = j := by rw [List.length_take]; omega
 have l2 : (X.drop j).length = i - j := by rw [List.length_drop]; omega
 generalize X.take j = A at ex l1
 generalize X.drop j = B at ex l2
 subst ex
 have e : P ++ ((A ++ B) ++ (Y ++ Q)) = P ++ A ++ B ++ Y ++ Q := by simp
 rw [e, swr_parts A Y P B Q (m - i) m j (by omega) l1 e3 (by omega)]
 have e' : P ++ Y ++ B ++ A ++ Q = (P ++ Y) ++ (B ++ (A ++ Q)) := by simp
 rw [e', rotS_parts (by rw [List.length_append]; omega) l2 l1]
 simp

theorem rotS_lt {xs : List α} {m i j : Nat} (h1 : i ≤ m) (h2 : m + j ≤ xs.length) (h : i < j) : rotS m i (j - i) (swr (m - i) (m + j - i) i xs) = rotS m i j xs := by
 obtain ⟨P, X, Y, Q, rfl, e1, e2, e3⟩ := parts4 xs h1 h2
 rw [rotS_parts e1 e2 e3]
 have ex : Y = Y.take (j - i) ++ Y.drop (j - i) := (List.take_append_drop ..).symm
 have l1 : (Y.take (j - i)).length = j - i := by rw [List.length_take]; omega
 have l2 : (Y.drop (j - i)).length = i := by rw [List.length_drop]; omega
 generalize Y.take (j - i) = A at ex l1
 generalize Y.drop (j - i) = B at ex l2
 subst ex
 have e : P ++ (X ++ ((A ++ B) ++ Q)) = P ++ X ++ A ++ B ++ Q := by simp
 rw [e, swr_parts X B P A Q (m - i) (m + j - i) i (by omega) e2 l2 (by omega)]
 have e' : P ++ B ++ A ++ X ++ Q = P ++ (B ++ (A ++ (X ++ Q))) := by simp
 rw [e', rotS_parts (by omega) l2 l1]
 simp

theorem rotS_eq {xs : List α} {m i : Nat} (h1 : i ≤ m) (h2 : m + i ≤ xs.length) : swr (m - i) m i xs = rotS m i i xs := by
 obtain ⟨P, X, Y, Q, rfl, e1, e2, e3⟩ := parts4 xs h1 h2
 rw [rotS_parts e1 e2 e3]
 have e : P ++ (X ++ (Y ++ Q)) = P ++ X ++ [] ++ Y ++ Q := by simp
 rw [e, swr_parts X Y P [] Q (m - i) m i (by omega) e2 e3 (by simp; omega)]
 simp

def sink (lt : α → α → Bool) (a : Nat) : Nat → List α → List α
 | 0, xs => xs
 | j + 1, xs => match xs[j + 1]?, xs[j]? with
  | some x, some y => bif decide (a < j + 1) && lt x y then sink lt a j (sw2 xs (j + 1) j) else xs
  | _, _ => xs

theorem sink_len (a : Nat) : ∀ (j : Nat) (xs : List α), (sink lt a j xs).length = xs.length
 | 0, _ => rfl
 | j + 1, xs => by
  unfold sink
  split
  ·rename_i x y _ _
   cases decide (a < j + 1) && lt x y
   ·rfl
   ·rw [cond_true, sink_len, sw2_len]
  ·rfl

theorem ins_app (h : SW lt) {c : α} {A B : List α} (h1 : Srt lt (A ++ B)) (h2 : ∀ a ∈ A, lt c a = false) : ins lt c (A ++ B) = A ++ ins lt c B := by
 induction A with
 | nil => rfl
 | cons x A ih =>
  rw [List.cons_append, ins, h2 x (List.mem_cons_self ..), cond_false, ih (List.pairwise_cons.1 h1).2 fun a ha => h2 a (List.mem_cons_of_mem _ ha)]
  rfl

theorem ins_head {c : α} {D : List α} (hd : ∀ d ∈ D, lt c d = true) : ins lt c D = c :: D := by
 cases D with
 | nil => rfl
 | cons d D => rw [ins, hd d (List.mem_cons_self ..)]; rfl

theorem sink_stop (a : Nat) (xs : List α) : sink lt a a xs = xs := by
 cases a with
 | zero => rfl
 | succ j =>
  unfold sink
  split
  ·rw [decide_eq_false (Nat.lt_irrefl _)]; rfl
  ·rfl

theorem sink_parts (h : SW lt) (P Q : List α) : ∀ (r : List α) (D : List α) (c : α) (a j : Nat), P.length = a → a + r.length = j → Srt lt (r.reverse ++ D) → (∀ d ∈ D, lt c d = true) → sink lt a j (P ++ (r.reverse ++ (c :: (D ++ Q)))) = P ++ (ins lt c (r.reverse ++ D) ++ Q)
 | [], D, c, a, j, h1, h2, hs, hd => by
  have hj : j = a := by rw [← h2]; rfl
  subst hj
  rw [sink_stop, List.reverse_nil, List.nil_append, List.nil_append, ins_head hd]
  rfl
 | x :: r, D, c, a, j, h1, h2, hs, hd => by
  have hl : (x :: r).length = r.length + 1 := rfl
  obtain ⟨k, rfl⟩ : ∃ k, j = k + 1 := ⟨a + r.length, by omega⟩
  have e1 : P ++ ((x :: r).reverse ++ (c :: (D ++ Q))) = (P ++ r.reverse) ++ x :: ([] ++ c :: (D ++ Q)) := by simp
  have hk : (P ++ r.reverse).length = k := by simp; omega
  have ej : ((P ++ r.reverse) ++ x :: ([] ++ c :: (D ++ Q)))[k + 1]? = some c := by
   rw [List.getElem?_append_right (by omega), hk, show k + 1 - k = 1 by omega]; rfl
  have ek : ((P ++ r.reverse) ++ x :: ([] ++ c :: (D ++ Q)))[k]? = some x := by
   rw [List.getElem?_append_right (by omega), hk, Nat.sub_self]; rfl
  rw [e1, sink, ej, ek]
  simp only
  rw [decide_eq_true (show a < k + 1 by omega), Bool.true_and]
  have er : (x :: r).reverse ++ D = r.reverse ++ x :: D := by simp
  cases hc : lt c x
  ·rw [cond_false]
   rw [er] at hs ⊢
   have hx : ∀ y ∈ r.reverse, lt x y = false := fun y hy => (List.pairwise_append.1 hs).2.2 y hy x (List.mem_cons_self ..)
   rw [ins_app h hs fun y hy => h.tr _ _ _ (hx y hy) hc, ins, hc, cond_false, ins_head hd]
   simp
  ·rw [cond_true, sw2_comm (by omega), sw2_parts hk (by simp)]
   have e2 : (P ++ r.reverse) ++ c :: ([] ++ x :: (D ++ Q)) = P ++ (r.reverse ++ (c :: ((x :: D) ++ Q))) := by simp
   rw [e2, sink_parts h P Q r (x :: D) c a k h1 (by omega) (by rw [← er]; exact hs) (fun d hd' => by
    rcases List.mem_cons.1 hd' with rfl | hd'
    ·exact hc
    ·exact hd d hd'), er]

def seg (a b : Nat) (f : List α → List α) (xs : List α) : List α := xs.take a ++ (f ((xs.drop a).take (b - a)) ++ xs.drop b)

theorem seg_parts {P M Q : List α} {a b : Nat} {f : List α → List α} (h1 : P.length = a) (h2 : a + M.length = b) : seg a b f (P ++ (M ++ Q)) = P ++ (f M ++ Q) := by
 subst h1 h2
 unfold seg
 rw [List.take_left, List.drop_left, Nat.add_sub_cancel_left, List.take_left]
 congr 2
 rw [← List.drop_drop, List.drop_left, List.drop_left]

theorem parts3 (xs : List α) {a b : Nat} (h1 : a ≤ b) (h2 : b ≤ xs.length) : ∃ P M Q, xs = P ++ (M ++ Q) ∧ P.length = a ∧ a + M.length = b := by
 refine ⟨xs.take a, (xs.drop a).take (b - a), xs.drop b, ?_, by rw [List.length_take]; omega, by rw [List.length_take, List.length_drop]; omega⟩
 have e1 : xs.drop b = (xs.drop a).drop (b - a) := by rw [List.drop_drop]; congr 1; omega
 rw [e1, List.take_append_drop, List.take_append_drop]

theorem seg_len (h : SW lt) {a b : Nat} {xs : List α} (h1 : a ≤ b) (h2 : b ≤ xs.length) : (seg a b (srt lt) xs).length = xs.length := by
 obtain ⟨P, M, Q, rfl, e1, e2⟩ := parts3 xs h1 h2
 rw [seg_parts e1 e2]
 simp [srt_len h]

def isort (lt : α → α → Bool) (a : Nat) : Nat → Nat → List α → List α
 | 0, _, xs => xs
 | n + 1, i, xs => isort lt a n (i + 1) (sink lt a i xs)

theorem isort_parts (h : SW lt) (P : List α) : ∀ (n : Nat) (L M Q : List α) (i a : Nat), P.length = a → a + L.length = i → M.length = n → isort lt a n i (P ++ (srt lt L ++ (M ++ Q))) = P ++ (srt lt (L ++ M) ++ Q)
 | 0, L, [], Q, i, a, _, _, _ => by simp [isort]
 | 0, L, x :: M, Q, i, a, _, _, h3 => by cases h3
 | n + 1, L, [], Q, i, a, _, _, h3 => by cases h3
 | n + 1, L, x :: M, Q, i, a, h1, h2, h3 => by
  have e := sink_parts h P (M ++ Q) (srt lt L).reverse [] x a i h1 (by rw [List.length_reverse, srt_len h, h2]) (by rw [List.reverse_reverse, List.append_nil]; exact (srt_stb h L).ord) (fun d hd => by cases hd)
  rw [List.reverse_reverse, List.append_nil] at e
  rw [isort, List.cons_append, ← List.nil_append (M ++ Q), e, ← srt_snoc, isort_parts h P n (L ++ [x]) M Q (i + 1) a h1 (by simp; omega) (Nat.succ.inj h3)]
  simp

theorem isort_seg (h : SW lt) {a b : Nat} {xs : List α} (h1 : a ≤ b) (h2 : b ≤ xs.length) : isort lt a (b - (a + 1)) (a + 1) xs = seg a b (srt lt) xs := by
 obtain ⟨P, M, Q, rfl, e1, e2⟩ := parts3 xs h1 h2
 rw [seg_parts e1 e2]
 cases M with
 | nil =>
  have : b - (a + 1) = 0 := by simp at e2; omega
  rw [this]; rfl
 | cons x M =>
  have := isort_parts h P (b - (a + 1)) [x] M Q (a + 1) a e1 (by simp) (by simp at e2; omega)
  exact this

end K
namespace K
variable {α : Type} {lt : α → α → Bool}

def bs (p : Nat → Bool) (i j : Nat) : Nat :=
 if i < j then bif p ((i + j) / 2) then bs p ((i + j) / 2 + 1) j else bs p i ((i + j) / 2) else i
termination_by j - i

theorem bs_spec (p : Nat → Bool) (i j : Nat) : i ≤ j → i ≤ bs p i j ∧ bs p i j ≤ j ∧ (bs p i j = i ∨ ∃ k, bs p i j = k + 1 ∧ i ≤ k ∧ p k = true) ∧ (bs p i j = j ∨ p (bs p i j) = false) := by
 intro h
 induction i, j using bs.induct (p := p) with
 | case1 i j hlt hp ih =>
  obtain ⟨a1, a2, a3, a4⟩ := ih (by omega)
  rw [bs, if_pos hlt, hp, cond_true]
  refine ⟨by omega, a2, ?_, a4⟩
  rcases a3 with e | ⟨k, e1, e2, e3⟩
  ·exact .inr ⟨(i + j) / 2, e, by omega, hp⟩
  ·exact .inr ⟨k, e1, by omega, e3⟩
 | case2 i j hlt hp ih =>
  obtain ⟨a1, a2, a3, a4⟩ := ih (by omega)
  have hp : p ((i + j) / 2) = false := by simpa using hp
  rw [bs, if_pos hlt, hp, cond_false]
  refine ⟨a1, by omega, a3, ?_⟩
  rcases a4 with e | e
  ·exact .inr (by rw [e]; exact hp)
  ·exact .inr e
 | case3 i j hlt =>
  rw [bs, if_neg hlt]
  exact ⟨Nat.le_refl _, h, .inl rfl, .inl (by omega)⟩

def bubU : Nat → Nat → List α → List α
 | 0, _, xs => xs
 | n + 1, k, xs => bubU n (k + 1) (sw2 xs k (k + 1))

def bubD : Nat → Nat → List α → List α
 | 0, _, xs => xs
 | n + 1, k, xs => bubD n (k - 1) (sw2 xs k (k - 1))

theorem bubU_parts : ∀ (M P Q : List α) (x : α) (k n : Nat), P.length = k → M.length = n → bubU n k (P ++ x :: (M ++ Q)) = P ++ (M ++ x :: Q)
 | [], P, Q, x, k, n, h1, h2 => by cases h2; rfl
 | y :: M, P, Q, x, k, n, h1, h2 => by
  cases n with
  | zero => cases h2
  | succ n =>
   have e : P ++ x :: (y :: M ++ Q) = P ++ x :: ([] ++ y :: (M ++ Q)) := rfl
   rw [bubU, e, sw2_parts h1 (by simp)]
   have e2 : P ++ y :: ([] ++ x :: (M ++ Q)) = (P ++ [y]) ++ x :: (M ++ Q) := by simp
   rw [e2, bubU_parts M (P ++ [y]) Q x (k + 1) n (by simp [h1]) (Nat.succ.inj h2)]
   simp

theorem bubD_parts : ∀ (r P Q : List α) (x : α) (k n : Nat), P.length + n = k → r.length = n → bubD n k (P ++ (r.reverse ++ x :: Q)) = P ++ x :: (r.reverse ++ Q)
 | [], P, Q, x, k, n, h1, h2 => by cases h2; rfl
 | y :: r, P, Q, x, k, n, h1, h2 => by
  cases n with
  | zero => cases h2
  | succ n =>
   have h2 : r.length = n := Nat.succ.inj h2
   have e : P ++ ((y :: r).reverse ++ x :: Q) = (P ++ r.reverse) ++ y :: ([] ++ x :: Q) := by simp
   rw [bubD, sw2_comm (by omega), e, sw2_parts (by simp; omega) (by simp; omega)]
   have e2 : (P ++ r.reverse) ++ x :: ([] ++ y :: Q) = P ++ (r.reverse ++ x :: (y :: Q)) := by simp
   rw [e2, bubD_parts r P (y :: Q) x (k - 1) n (by omega) h2]
   simp

theorem srt_cons (h : SW lt) {x : α} {A B : List α} (h1 : Srt lt (A ++ B)) (h2 : Lt lt A [x]) (h3 : Le lt [x] B) : srt lt (x :: (A ++ B)) = A ++ x :: B := by
 have h0 : Srt lt (A ++ x :: B) := by
  obtain ⟨p1, p2, p3⟩ := List.pairwise_append.1 h1
  refine List.pairwise_append.2 ⟨p1, List.pairwise_cons.2 ⟨fun y hy => h3 x (List.mem_singleton.2 rfl) y hy, p2⟩, fun a ha b hb => ?_⟩
  rcases List.mem_cons.1 hb with rfl | hb
  ·exact h.asym _ _ (h2 a ha b (List.mem_singleton.2 rfl))
  ·exact p3 a ha b hb
 refine (Stb.eq h ⟨?_, h0, fun z => ?_⟩).symm
 ·exact List.perm_middle
 ·have := fil_comm h h2 z
  rw [show A ++ x :: B = (A ++ [x]) ++ B by simp, show x :: (A ++ B) = ([x] ++ A) ++ B by simp, List.filter_append, this, ← List.filter_append]

theorem srt_snoc2 (h : SW lt) {x : α} {A B : List α} (h1 : Srt lt (A ++ B)) (h2 : Le lt A [x]) (h3 : Lt lt [x] B) : srt lt (A ++ B ++ [x]) = A ++ x :: B := by
 rw [srt_snoc, srt_id h h1, ins_app h h1 fun a ha => h2 a ha x (List.mem_singleton.2 rfl), ins_head fun d hd => h3 x (List.mem_singleton.2 rfl) d hd]

def SrtAt (lt : α → α → Bool) (a b : Nat) (xs : List α) : Prop := Srt lt ((xs.drop a).take (b - a))

theorem SrtAt_parts {P M Q : List α} {a b : Nat} (h1 : P.length = a) (h2 : a + M.length = b) : SrtAt lt a b (P ++ (M ++ Q)) ↔ Srt lt M := by
 subst h1 h2
 unfold SrtAt
 rw [List.drop_left, Nat.add_sub_cancel_left, List.take_left]

theorem parts2 (xs : List α) {a : Nat} (h1 : a ≤ xs.length) : ∃ P Q, xs = P ++ Q ∧ P.length = a := ⟨xs.take a, xs.drop a, (List.take_append_drop ..).symm, by rw [List.length_take]; omega⟩

theorem at_parts {P Q : List α} {i : Nat} (h : P.length ≤ i) : (P ++ Q)[i]? = Q[i - P.length]? := List.getElem?_append_right h

theorem sym_one (h : SW lt) {a b : Nat} {xs : List α} {x : α} (hb : b ≤ xs.length) (hab : a + 1 ≤ b) (hx : xs[a]? = some x) (hs : SrtAt lt (a + 1) b xs) (p : Nat → Bool) (hp : ∀ k y, xs[k]? = some y → p k = lt y x) :
  bubU (bs p (a + 1) b - 1 - a) a xs = seg a b (srt lt) xs := by
 obtain ⟨s1, s2, s3, s4⟩ := bs_spec p (a + 1) b hab
 generalize bs p (a + 1) b = i at s1 s2 s3 s4
 obtain ⟨P, M, Q, rfl, e1, e2⟩ := parts3 xs (show a ≤ b by omega) hb
 cases M with
 | nil => simp at e2; omega
 | cons x' M =>
  have hx' : x' = x := by
   rw [at_parts (by omega), e1, Nat.sub_self] at hx
   simpa using hx
  subst hx'
  rw [show P ++ (x' :: M ++ Q) = (P ++ [x']) ++ (M ++ Q) by simp, SrtAt_parts (by simp [e1]) (by simp at e2; omega)] at hs
  have hM : a + 1 + M.length = b := by simp at e2; omega
  obtain ⟨A, B, rfl, hA⟩ := parts2 M (show i - (a + 1) ≤ M.length by omega)
  have hl : A.length + B.length = (A ++ B).length := by simp
  obtain ⟨q1, q2, q3⟩ := List.pairwise_append.1 hs
  have at2 : ∀ k, a + 1 ≤ k → k < b → ∀ y, (A ++ B)[k - (a + 1)]? = some y → (P ++ ((x' :: (A ++ B)) ++ Q))[k]? = some y := fun k h1 h2 y hy => by
   rw [at_parts (by omega), e1, show k - a = k - (a + 1) + 1 by omega, List.cons_append, List.getElem?_cons_succ, List.getElem?_append_left (by omega)]
   exact hy
  have hLt : Lt lt A [x'] := by
   rcases s3 with e | ⟨k, e3, e4, e5⟩
   ·have : A = [] := List.length_eq_zero_iff.1 (by omega)
    subst this
    intro a ha; cases ha
   ·intro c hc d hd
    rcases List.mem_singleton.1 hd with rfl
    have hz : A[A.length - 1]? = some A[A.length - 1] := List.getElem?_eq_getElem (by omega)
    have h0 := at2 k e4 (by omega) A[A.length - 1] (by rw [List.getElem?_append_left (by omega), show k - (a + 1) = A.length - 1 by omega]; exact hz)
    rw [hp k _ h0] at e5
    generalize A[A.length - 1] = z at e5 hz
    obtain ⟨j, hj, hj2⟩ := List.mem_iff_getElem.1 hc
    by_cases hlast : j = A.length - 1
    ·subst hlast
     rw [List.getElem?_eq_getElem hj] at hz
     rw [← hj2, Option.some.inj hz]; exact e5
    ·have hle : lt z c = false := by
      have := List.pairwise_iff_getElem.1 q1 j (A.length - 1) hj (by omega) (by omega)
      rw [hj2] at this
      have hz2 : A[A.length - 1] = z := by
       have := List.getElem?_eq_getElem (l := A) (i := A.length - 1) (by omega)
       rw [hz] at this; exact (Option.some.inj this).symm
      rw [hz2] at this; exact this
     cases hcd : lt c d
     ·rw [h.tr d c z hcd hle] at e5; cases e5
     ·rfl
  have hLe : Le lt [x'] B := by
   intro c hc d hd
   rcases List.mem_singleton.1 hc with rfl
   rcases s4 with e | e
   ·have : B = [] := List.length_eq_zero_iff.1 (by omega)
    subst this; cases hd
   ·cases B with
    | nil => cases hd
    | cons z B =>
     have hlB : (A ++ z :: B).length = A.length + (B.length + 1) := by simp
     have h0 := at2 i (by omega) (by omega) z (by rw [show i - (a + 1) = A.length by omega, List.getElem?_append_right (Nat.le_refl _), Nat.sub_self]; rfl)
     rw [hp i _ h0] at e
     rcases List.mem_cons.1 hd with rfl | hd
     ·exact e
     ·exact h.tr _ _ _ e ((List.pairwise_cons.1 q2).1 d hd)
  rw [seg_parts e1 e2, srt_cons h hs hLt hLe]
  have e : P ++ ((x' :: (A ++ B)) ++ Q) = P ++ x' :: (A ++ (B ++ Q)) := by simp
  rw [e, bubU_parts A P (B ++ Q) x' a (i - 1 - a) e1 (by omega)]
  simp

theorem sym_last (h : SW lt) {a m : Nat} {xs : List α} {x : α} (hb : m + 1 ≤ xs.length) (hab : a ≤ m) (hx : xs[m]? = some x) (hs : SrtAt lt a m xs) (p : Nat → Bool) (hp : ∀ k y, xs[k]? = some y → p k = !lt x y) :
  bubD (m - bs p a m) m xs = seg a (m + 1) (srt lt) xs := by
 obtain ⟨s1, s2, s3, s4⟩ := bs_spec p a m hab
 generalize bs p a m = i at s1 s2 s3 s4
 obtain ⟨P, M0, Q, rfl, e1, e2⟩ := parts3 xs (show a ≤ m + 1 by omega) hb
 obtain ⟨M, N, rfl, hM⟩ := parts2 M0 (show m - a ≤ M0.length by omega)
 have hN : N.length = 1 := by simp at e2; omega
 obtain ⟨x', rfl⟩ := List.length_eq_one_iff.1 hN
 have hx' : x' = x := by
  rw [at_parts (by omega), e1, List.append_assoc, at_parts (by omega), hM, Nat.sub_self] at hx
  simpa using hx
 subst hx'
 rw [show P ++ ((M ++ [x']) ++ Q) = P ++ (M ++ ([x'] ++ Q)) by simp, SrtAt_parts e1 (by omega)] at hs
 obtain ⟨A, B, rfl, hA⟩ := parts2 M (show i - a ≤ M.length by omega)
 have hl : A.length + B.length = (A ++ B).length := by simp
 obtain ⟨q1, q2, q3⟩ := List.pairwise_append.1 hs
 have at2 : ∀ k, a ≤ k → k < m → ∀ y, (A ++ B)[k - a]? = some y → (P ++ ((A ++ B ++ [x']) ++ Q))[k]? = some y := fun k h1 h2 y hy => by
  rw [at_parts (by omega), e1, List.append_assoc, List.getElem?_append_left (by omega)]
  exact hy
 have hLe : Le lt A [x'] := by
  rcases s3 with e | ⟨k, e3, e4, e5⟩
  ·have : A = [] := List.length_eq_zero_iff.1 (by omega)
   subst this
   intro a ha; cases ha
  ·intro c hc d hd
   rcases List.mem_singleton.1 hd with rfl
   have hz : A[A.length - 1]? = some A[A.length - 1] := List.getElem?_eq_getElem (by omega)
   have h0 := at2 k e4 (by omega) A[A.length - 1] (by rw [List.getElem?_append_left (by omega), show k - a = A.length - 1 by omega]; exact hz)
   rw [hp k _ h0, Bool.not_eq_true'] at e5
   generalize hzz : A[A.length - 1] = z at e5 hz
   obtain ⟨j, hj, hj2⟩ := List.mem_iff_getElem.1 hc
   by_cases hlast : j = A.length - 1
   ·subst hlast
    rw [← hj2, hzz]; exact e5
   ·have hle := List.pairwise_iff_getElem.1 q1 j (A.length - 1) hj (by omega) (by omega)
    rw [hj2, hzz] at hle
    exact h.tr c z d hle e5
 have hLt : Lt lt [x'] B := by
  intro c hc d hd
  rcases List.mem_singleton.1 hc with rfl
  rcases s4 with e | e
  ·have : B = [] := List.length_eq_zero_iff.1 (by omega)
   subst this; cases hd
  ·cases B with
   | nil => cases hd
   | cons z B =>
    have hlB : (A ++ z :: B).length = A.length + (B.length + 1) := by simp
    have h0 := at2 i (by omega) (by omega) z (by rw [show i - a = A.length by omega, List.getElem?_append_right (Nat.le_refl _), Nat.sub_self]; rfl)
    rw [hp i _ h0, Bool.not_eq_false'] at e
    rcases List.mem_cons.1 hd with rfl | hd
    ·exact e
    ·cases hcd : lt c d
     ·rw [h.tr z d c ((List.pairwise_cons.1 q2).1 d hd) hcd] at e; cases e
     ·rfl
 rw [seg_parts e1 e2, srt_snoc2 h hs hLe hLt]
 have e : P ++ ((A ++ B ++ [x']) ++ Q) = (P ++ A) ++ (B.reverse.reverse ++ x' :: Q) := by simp
 rw [e, bubD_parts B.reverse (P ++ A) Q x' m (m - i) (by rw [List.length_append]; omega) (by rw [List.length_reverse]; omega)]
 simp

end K
namespace K
variable {α : Type} {lt : α → α → Bool}

theorem Le_ends (h : SW lt) {A B : List α} {x y : α} (hA : Srt lt (A ++ [x])) (hB : Srt lt (y :: B)) (e : lt y x = false) : Le lt (A ++ [x]) (y :: B) := by
 intro a ha b hb
 have h1 : lt x a = false := by
  rcases List.mem_append.1 ha with ha | ha
  ·exact (List.pairwise_append.1 hA).2.2 a ha x (List.mem_singleton.2 rfl)
  ·rcases List.mem_singleton.1 ha with rfl; exact h.irr _
 have h2 : lt b y = false := by
  rcases List.mem_cons.1 hb with rfl | hb
  ·exact h.irr _
  ·exact (List.pairwise_cons.1 hB).1 b hb
 exact h.tr _ _ _ (h.tr _ _ _ h1 e) h2

theorem Lt_ends (h : SW lt) {A B : List α} {x y : α} (hA : Srt lt (A ++ [x])) (hB : Srt lt (y :: B)) (e : lt x y = true) : Lt lt (A ++ [x]) (y :: B) := by
 intro a ha b hb
 have h1 : lt x a = false := by
  rcases List.mem_append.1 ha with ha | ha
  ·exact (List.pairwise_append.1 hA).2.2 a ha x (List.mem_singleton.2 rfl)
  ·rcases List.mem_singleton.1 ha with rfl; exact h.irr _
 have h2 : lt b y = false := by
  rcases List.mem_cons.1 hb with rfl | hb
  ·exact h.irr _
  ·exact (List.pairwise_cons.1 hB).1 b hb
 cases hab : lt a b
 ·rw [h.tr y b x h2 (h.tr b a x hab h1)] at e; cases e
 ·rfl

theorem Le_of (h : SW lt) {A B : List α} (hA : Srt lt A) (hB : Srt lt B) (e : A = [] ∨ B = [] ∨ ∃ x y, A[A.length - 1]? = some x ∧ B[0]? = some y ∧ lt y x = false) : Le lt A B := by
 rcases e with rfl | rfl | ⟨x, y, hx, hy, e⟩
 ·intro a ha; cases ha
 ·intro a _ b hb; cases hb
 ·rcases List.eq_nil_or_concat A with rfl | ⟨A', x', rfl⟩
  ·cases hx
  ·cases B with
   | nil => cases hy
   | cons y' B =>
    rw [List.concat_eq_append] at hx hA ⊢
    rw [List.length_append, List.length_singleton, Nat.add_sub_cancel, List.getElem?_append_right (Nat.le_refl _), Nat.sub_self] at hx
    cases hx; cases hy
    exact Le_ends h hA hB e

theorem Lt_of (h : SW lt) {A B : List α} (hA : Srt lt A) (hB : Srt lt B) (e : A = [] ∨ B = [] ∨ ∃ x y, A[A.length - 1]? = some x ∧ B[0]? = some y ∧ lt x y = true) : Lt lt A B := by
 rcases e with rfl | rfl | ⟨x, y, hx, hy, e⟩
 ·intro a ha; cases ha
 ·intro a _ b hb; cases hb
 ·rcases List.eq_nil_or_concat A with rfl | ⟨A', x', rfl⟩
  ·cases hx
  ·cases B with
   | nil => cases hy
   | cons y' B =>
    rw [List.concat_eq_append] at hx hA ⊢
    rw [List.length_append, List.length_singleton, Nat.add_sub_cancel, List.getElem?_append_right (Nat.le_refl _), Nat.sub_self] at hx
    cases hx; cases hy
    exact Lt_ends h hA hB e

theorem seg_id (h : SW lt) {a b : Nat} {xs : List α} (h1 : a ≤ b) (h2 : b ≤ xs.length) (hs : SrtAt lt a b xs) : seg a b (srt lt) xs = xs := by
 obtain ⟨P, M, Q, rfl, e1, e2⟩ := parts3 xs h1 h2
 rw [seg_parts e1 e2, srt_id h ((SrtAt_parts e1 e2).1 hs)]

theorem rotS_zeroL {m j : Nat} {xs : List α} (h2 : m + j ≤ xs.length) : rotS m 0 j xs = xs := by
 obtain ⟨P, X, Y, Q, rfl, e1, e2, e3⟩ := parts4 xs (Nat.zero_le m) h2
 have : X = [] := List.length_eq_zero_iff.1 e2
 subst this
 rw [rotS_parts e1 e2 e3]; rfl

theorem rotS_zeroR {m i : Nat} {xs : List α} (h1 : i ≤ m) (h2 : m ≤ xs.length) : rotS m i 0 xs = xs := by
 obtain ⟨P, X, Y, Q, rfl, e1, e2, e3⟩ := parts4 xs h1 (j := 0) (by omega)
 have : Y = [] := List.length_eq_zero_iff.1 e3
 subst this
 rw [rotS_parts e1 e2 e3]; rfl

structure SymOK (lt : α → α → Bool) (a m b s e : Nat) (xs : List α) : Prop where
 has : a ≤ s
 hsm : s ≤ m
 hme : m ≤ e
 heb : e ≤ b
 hsd : s ≤ (a + b) / 2
 hde : (a + b) / 2 ≤ e
 heq : e + s = (a + b) / 2 + m
 s1 : SrtAt lt a s (rotS m (m - s) (e - m) xs)
 s2 : SrtAt lt s ((a + b) / 2) (rotS m (m - s) (e - m) xs)
 s3 : SrtAt lt ((a + b) / 2) e (seg a ((a + b) / 2) (srt lt) (rotS m (m - s) (e - m) xs))
 s4 : SrtAt lt e b (seg a ((a + b) / 2) (srt lt) (rotS m (m - s) (e - m) xs))
 res : seg ((a + b) / 2) b (srt lt) (seg a ((a + b) / 2) (srt lt) (rotS m (m - s) (e - m) xs)) = seg a b (srt lt) xs

theorem sym_two (h : SW lt) {a m b s0 r0 : Nat} {xs : List α} (hb : b ≤ xs.length) (ham : a < m) (hmb : m < b) (h1 : SrtAt lt a m xs) (h2 : SrtAt lt m b xs)
  (h0 : ((a + b) / 2 < m ∧ s0 = (a + b) / 2 + m - b ∧ r0 = (a + b) / 2) ∨ (m ≤ (a + b) / 2 ∧ s0 = a ∧ r0 = m)) (p : Nat → Bool)
  (hp : ∀ k x y, xs[k]? = some x → xs[(a + b) / 2 + m - 1 - k]? = some y → p k = !lt y x) :
  SymOK lt a m b (bs p s0 r0) ((a + b) / 2 + m - bs p s0 r0) xs := by
 obtain ⟨t1, t2, t3, t4⟩ := bs_spec p s0 r0 (by omega)
 generalize bs p s0 r0 = s at t1 t2 t3 t4
 generalize hd : (a + b) / 2 = d at h0 hp t1 t2 t3 t4
 have hd1 : 2 * d ≤ a + b := by omega
 have hd2 : a + b ≤ 2 * d + 1 := by omega
 generalize he : d + m - s = e
 have q1 : a ≤ s := by omega
 have q2 : s ≤ m := by omega
 have q3 : m ≤ e := by omega
 have q4 : e ≤ b := by omega
 have q5 : s ≤ d := by omega
 have q6 : d ≤ e := by omega
 have q7 : e + s = d + m := by omega
 obtain ⟨P, AB, Q, rfl, e1, e2⟩ := parts3 xs (show a ≤ b by omega) hb
 obtain ⟨A, B, rfl, hA⟩ := parts2 AB (show m - a ≤ AB.length by omega)
 obtain ⟨A1, A2, rfl, hA1⟩ := parts2 A (show s - a ≤ A.length by omega)
 obtain ⟨B1, B2, rfl, hB1⟩ := parts2 B (show e - m ≤ B.length by rw [List.length_append] at e2; omega)
 simp only [List.length_append] at e2 hA
 have l2 : A2.length = m - s := by omega
 have l4 : B2.length = b - e := by omega
 have hsA : Srt lt (A1 ++ A2) := (SrtAt_parts (b := m) (Q := (B1 ++ B2) ++ Q) e1 (by rw [List.length_append]; omega)).1 (by rw [← List.append_assoc (A1 ++ A2)]; exact h1)
 have hsB : Srt lt (B1 ++ B2) := (SrtAt_parts (a := m) (b := b) (P := P ++ (A1 ++ A2)) (Q := Q) (by simp only [List.length_append]; omega) (by rw [List.length_append]; omega)).1 (by rw [List.append_assoc P, ← List.append_assoc (A1 ++ A2)]; exact h2)
 obtain ⟨pa1, pa2, pa3⟩ := List.pairwise_append.1 hsA
 obtain ⟨pb1, pb2, pb3⟩ := List.pairwise_append.1 hsB
 have hLe : Le lt A1 B2 := by
  refine Le_of h pa1 pb2 ?_
  rcases t3 with t3 | ⟨k, k1, k2, k3⟩
  ·rcases h0 with ⟨g1, g2, g3⟩ | ⟨g1, g2, g3⟩
   ·exact .inr (.inl (List.length_eq_zero_iff.1 (by omega)))
   ·exact .inl (List.length_eq_zero_iff.1 (by omega))
  ·right; right
   have hx : A1[A1.length - 1]? = some A1[A1.length - 1] := List.getElem?_eq_getElem (by omega)
   have hy : B2[0]? = some B2[0] := List.getElem?_eq_getElem (by omega)
   generalize A1[A1.length - 1] = x at hx
   generalize B2[0] = y at hy
   refine ⟨x, y, hx, hy, ?_⟩
   have := hp k x y (by
    rw [at_parts (by omega), List.append_assoc, List.append_assoc, List.getElem?_append_left (by omega), show k - P.length = A1.length - 1 by omega]; exact hx) (by
    rw [show d + m - 1 - k = e by omega, at_parts (by omega), List.append_assoc, List.append_assoc, at_parts (by omega), at_parts (by omega), List.append_assoc, at_parts (by omega), List.getElem?_append_left (by omega), show e - P.length - A1.length - A2.length - B1.length = 0 by omega]; exact hy)
   rw [k3] at this
   simpa using this.symm
 have hLt : Lt lt B1 A2 := by
  refine Lt_of h pb1 pa2 ?_
  rcases t4 with t4 | t4
  ·rcases h0 with ⟨g1, g2, g3⟩ | ⟨g1, g2, g3⟩
   ·exact .inl (List.length_eq_zero_iff.1 (by omega))
   ·exact .inr (.inl (List.length_eq_zero_iff.1 (by omega)))
  ·by_cases hr : s = r0
   ·rcases h0 with ⟨g1, g2, g3⟩ | ⟨g1, g2, g3⟩
    ·exact .inl (List.length_eq_zero_iff.1 (by omega))
    ·exact .inr (.inl (List.length_eq_zero_iff.1 (by omega)))
   ·right; right
    have hx : B1[B1.length - 1]? = some B1[B1.length - 1] := List.getElem?_eq_getElem (by omega)
    have hy : A2[0]? = some A2[0] := List.getElem?_eq_getElem (by omega)
    generalize B1[B1.length - 1] = x at hx
    generalize A2[0] = y at hy
    refine ⟨x, y, hx, hy, ?_⟩
    have := hp s y x (by
     rw [at_parts (by omega), List.append_assoc, List.append_assoc, at_parts (by omega), List.getElem?_append_left (by omega), show s - P.length - A1.length = 0 by omega]; exact hy) (by
     rw [show d + m - 1 - s = e - 1 by omega, at_parts (by omega), List.append_assoc, List.append_assoc, at_parts (by omega), at_parts (by omega), List.append_assoc, List.getElem?_append_left (by omega), show e - 1 - P.length - A1.length - A2.length = B1.length - 1 by omega]; exact hx)
    rw [t4] at this
    simpa using this.symm
 have ex : P ++ (A1 ++ A2 ++ (B1 ++ B2) ++ Q) = (P ++ A1) ++ (A2 ++ (B1 ++ (B2 ++ Q))) := by simp
 have er : rotS m (m - s) (e - m) (P ++ (A1 ++ A2 ++ (B1 ++ B2) ++ Q)) = P ++ (A1 ++ (B1 ++ (A2 ++ (B2 ++ Q)))) := by
  rw [ex, rotS_parts (by rw [List.length_append]; omega) l2 hB1]
  simp
 have ez : seg a d (srt lt) (P ++ (A1 ++ (B1 ++ (A2 ++ (B2 ++ Q))))) = P ++ (srt lt (A1 ++ B1) ++ (A2 ++ (B2 ++ Q))) := by
  rw [← List.append_assoc A1, seg_parts e1 (by rw [List.length_append]; omega)]
 have hln : (srt lt (A1 ++ B1)).length = d - a := by rw [srt_len h, List.length_append]; omega
 have ey : seg d b (srt lt) (P ++ (srt lt (A1 ++ B1) ++ (A2 ++ (B2 ++ Q)))) = P ++ (srt lt (A1 ++ B1) ++ (srt lt (A2 ++ B2) ++ Q)) := by
  rw [← List.append_assoc A2, ← List.append_assoc P, seg_parts (by rw [List.length_append]; omega) (by rw [List.length_append]; omega), List.append_assoc]
 refine ⟨q1, q2, q3, q4, hd ▸ q5, hd ▸ q6, hd ▸ q7, ?_, ?_, ?_, ?_, ?_⟩ <;> (try rw [hd]) <;> rw [er]
 ·exact (SrtAt_parts e1 (by omega)).2 pa1
 ·rw [← List.append_assoc P]
  exact (SrtAt_parts (by rw [List.length_append]; omega) (by omega)).2 pb1
 ·rw [ez, ← List.append_assoc P]
  exact (SrtAt_parts (by rw [List.length_append]; omega) (by omega)).2 pa2
 ·rw [ez, ← List.append_assoc P, ← List.append_assoc (P ++ _)]
  exact (SrtAt_parts (by simp only [List.length_append]; omega) (by omega)).2 pb2
 ·rw [ez, ey, seg_parts e1 (by simp only [List.length_append]; omega), ← merge_two h hsA hsB hLe hLt]
  simp

end K
namespace K
variable {α : Type} {lt : α → α → Bool}

def runs (lt : α → α → Bool) (k : Nat) (xs : List α) : List α :=
 if h : 0 < k ∧ 0 < xs.length then srt lt (xs.take k) ++ runs lt k (xs.drop k) else []
termination_by xs.length
decreasing_by rw [List.length_drop]; omega

theorem runs_nil {k : Nat} : runs lt k [] = [] := by rw [runs]; simp

theorem runs_short {k : Nat} {xs : List α} (hk : 0 < k) (h : xs.length ≤ k) : runs lt k xs = srt lt xs := by
 rw [runs]
 by_cases h0 : 0 < xs.length
 ·rw [dif_pos ⟨hk, h0⟩, List.take_of_length_le h, List.drop_of_length_le h, runs_nil, List.append_nil]
 ·rw [dif_neg (fun e => h0 e.2)]
  have : xs = [] := List.length_eq_zero_iff.1 (by omega)
  subst this; rfl

theorem runs_cons {k : Nat} {M R : List α} (hk : 0 < k) (h : M.length = k) : runs lt k (M ++ R) = srt lt M ++ runs lt k R := by
 subst h
 rw [runs, dif_pos ⟨hk, by rw [List.length_append]; omega⟩, List.take_left, List.drop_left]

theorem runs_len (h : SW lt) {k : Nat} (hk : 0 < k) (xs : List α) : (runs lt k xs).length = xs.length := by
 rw [runs]
 by_cases h0 : 0 < xs.length
 ·have : (xs.drop k).length < xs.length := by rw [List.length_drop]; omega
  rw [dif_pos ⟨hk, h0⟩, List.length_append, srt_len h, runs_len h hk (xs.drop k), ← List.length_append, List.take_append_drop]
 ·rw [dif_neg (fun e => h0 e.2)]
  simp; omega
termination_by xs.length

theorem runs_app {k : Nat} (hk : 0 < k) (B : List α) (A : List α) (t : Nat) (h : A.length = t * k) : runs lt k (A ++ B) = runs lt k A ++ runs lt k B := by
 induction t generalizing A with
 | zero =>
  have : A = [] := List.length_eq_zero_iff.1 (by omega)
  subst this; rw [runs_nil]; rfl
 | succ t ih =>
  rw [Nat.succ_mul] at h
  have e : A = A.take k ++ A.drop k := (List.take_append_drop ..).symm
  have l1 : (A.take k).length = k := by rw [List.length_take]; omega
  have l2 : (A.drop k).length = t * k := by rw [List.length_drop]; omega
  generalize A.take k = X at e l1
  generalize A.drop k = Y at e l2
  subst e
  rw [List.append_assoc, runs_cons hk l1, runs_cons hk l1, ih Y l2, List.append_assoc]

def blk1 (lt : α → α → Bool) (a : Nat) (H : List α) : Nat × List α :=
 if h : a + 20 ≤ H.length ∧ (seg a (a + 20) (srt lt) H).length = H.length then blk1 lt (a + 20) (seg a (a + 20) (srt lt) H) else (a, H)
termination_by H.length - a
decreasing_by rw [h.2]; omega

def mrg (lt : α → α → Bool) (k a : Nat) (H : List α) : Nat × List α :=
 if h : (0 < k ∧ a + 2 * k ≤ H.length) ∧ (seg a (a + 2 * k) (srt lt) H).length = H.length then mrg lt k (a + 2 * k) (seg a (a + 2 * k) (srt lt) H) else (a, H)
termination_by H.length - a
decreasing_by rw [h.2]; omega

theorem blk1_go (h : SW lt) {a : Nat} {H : List α} (ha : a + 20 ≤ H.length) : blk1 lt a H = blk1 lt (a + 20) (seg a (a + 20) (srt lt) H) := by
 rw [blk1, dif_pos ⟨ha, seg_len h (by omega) ha⟩]

theorem blk1_stop {a : Nat} {H : List α} (ha : ¬ a + 20 ≤ H.length) : blk1 lt a H = (a, H) := by
 rw [blk1, dif_neg (fun e => ha e.1)]

theorem mrg_go (h : SW lt) {k a : Nat} {H : List α} (hk : 0 < k) (ha : a + 2 * k ≤ H.length) : mrg lt k a H = mrg lt k (a + 2 * k) (seg a (a + 2 * k) (srt lt) H) := by
 rw [mrg, dif_pos ⟨⟨hk, ha⟩, seg_len h (by omega) ha⟩]

theorem mrg_stop {k a : Nat} {H : List α} (ha : ¬ a + 2 * k ≤ H.length) : mrg lt k a H = (a, H) := by
 rw [mrg, dif_neg (fun e => ha e.1.2)]

def InRuns (lt : α → α → Bool) (k a : Nat) (H : List α) : Prop := ∃ A B, H = A ++ runs lt k B ∧ A.length = a

theorem InRuns.at (h : SW lt) {k a : Nat} {H : List α} (hk : 0 < k) (hr : InRuns lt k a H) (hb : a + k < H.length) (b : Nat) (hb1 : a + k < b) (hb2 : b ≤ a + 2 * k) (hb3 : b ≤ H.length) (hb4 : b = a + 2 * k ∨ b = H.length) :
  SrtAt lt a (a + k) H ∧ SrtAt lt (a + k) b H ∧ ∀ A M B, H = A ++ runs lt k (M ++ B) → A.length = a → a + M.length = b → seg a b (srt lt) H = A ++ (srt lt M ++ runs lt k B) := by
 obtain ⟨A, B, rfl, hA⟩ := hr
 rw [List.length_append, runs_len h hk] at hb hb3 hb4
 obtain ⟨M1, B1, rfl, h1⟩ := parts2 B (show k ≤ B.length by omega)
 obtain ⟨M2, B2, rfl, h2⟩ := parts2 B1 (show b - (a + k) ≤ B1.length by simp only [List.length_append] at hb3; omega)
 simp only [List.length_append] at hb hb3 hb4
 have e : runs lt k (M1 ++ (M2 ++ B2)) = srt lt M1 ++ (srt lt M2 ++ runs lt k B2) := by
  rw [runs_cons hk h1]
  congr 1
  rcases hb4 with hb4 | hb4
  ·rw [runs_cons hk (by omega)]
  ·have : B2 = [] := List.length_eq_zero_iff.1 (by omega)
   subst this
   rw [List.append_nil, runs_nil, List.append_nil, runs_short hk (by omega)]
 refine ⟨?_, ?_, fun A' M B' e1 e2 e3 => ?_⟩
 ·rw [e, SrtAt_parts hA (by rw [srt_len h]; omega)]; exact (srt_stb h M1).ord
 ·rw [e, ← List.append_assoc A, SrtAt_parts (by rw [List.length_append, srt_len h]; omega) (by rw [srt_len h]; omega)]; exact (srt_stb h M2).ord
 ·have hA' : A' = A := by
   have := congrArg (List.take a) e1
   rw [List.take_left' hA, List.take_left' e2] at this
   exact this.symm
  subst hA'
  rw [e1]
  have e4 : ∃ X, runs lt k (M ++ B') = X ++ runs lt k B' ∧ X.length = M.length ∧ srt lt X = srt lt M := by
   obtain ⟨N1, N2, rfl, g1⟩ := parts2 M (show k ≤ M.length by omega)
   rw [List.length_append] at e3
   refine ⟨srt lt N1 ++ srt lt N2, ?_, by simp [srt_len h], srt_app h _ _⟩
   have hl := congrArg List.length e1
   simp only [List.length_append, runs_len h hk] at hl
   rw [List.append_assoc, runs_cons hk g1, List.append_assoc]
   congr 1
   rcases hb4 with hb4 | hb4
   ·rw [runs_cons hk (by omega)]
   ·have : B' = [] := List.length_eq_zero_iff.1 (by omega)
    subst this
    rw [List.append_nil, runs_nil, List.append_nil, runs_short hk (by omega)]
  obtain ⟨X, x1, x2, x3⟩ := e4
  rw [x1, seg_parts e2 (by omega), x3]

theorem blk1_all (h : SW lt) (n : Nat) : ∀ (A B : List α) (t : Nat), A.length = t * 20 → B.length ≤ n → ∃ A' B', A ++ B = A' ++ B' ∧ B'.length < 20 ∧ (∃ t', A'.length = t' * 20) ∧ blk1 lt A.length (runs lt 20 A ++ B) = (A'.length, runs lt 20 A' ++ B') := by
 induction n with
 | zero =>
  intro A B t hA hB
  refine ⟨A, B, rfl, by omega, ⟨t, hA⟩, blk1_stop ?_⟩
  rw [List.length_append, runs_len h (by omega)]; omega
 | succ n ih =>
  intro A B t hA hB
  by_cases hb : 20 ≤ B.length
  ·obtain ⟨M, R, rfl, hM⟩ := parts2 B hb
   rw [List.length_append] at hB
   rw [blk1_go h (by simp only [List.length_append, runs_len h (show 0 < 20 by omega)]; omega), seg_parts (runs_len h (by omega) A) (by omega)]
   have e : runs lt 20 A ++ (srt lt M ++ R) = runs lt 20 (A ++ M) ++ R := by
    rw [runs_app (by omega) M A t hA, runs_short (by omega) (by omega : M.length ≤ 20), List.append_assoc]
   have := ih (A ++ M) R (t + 1) (by rw [List.length_append]; omega) (by omega)
   rw [List.append_assoc] at this
   rw [e, show A.length + 20 = (A ++ M).length by rw [List.length_append, hM]]
   exact this
  ·refine ⟨A, B, rfl, by omega, ⟨t, hA⟩, blk1_stop ?_⟩
   rw [List.length_append, runs_len h (by omega)]; omega

def stab1 (lt : α → α → Bool) (xs : List α) : List α := seg (blk1 lt 0 xs).1 xs.length (srt lt) (blk1 lt 0 xs).2

theorem stab1_eq (h : SW lt) (xs : List α) : stab1 lt xs = runs lt 20 xs := by
 obtain ⟨A, B, e, hB, ⟨t, ht⟩, hb⟩ := blk1_all h xs.length [] xs 0 rfl (Nat.le_refl _)
 rw [runs_nil, List.nil_append, List.length_nil] at hb
 rw [List.nil_append] at e
 subst e
 unfold stab1
 rw [hb]
 have e2 : runs lt 20 A ++ B = runs lt 20 A ++ (B ++ []) := by simp
 rw [e2, seg_parts (runs_len h (by omega) A) (by rw [List.length_append]), List.append_nil, runs_app (by omega) B A t ht, runs_short (by omega) (by omega : B.length ≤ 20)]

theorem blk1_bd (h : SW lt) (xs : List α) : (blk1 lt 0 xs).1 ≤ xs.length ∧ (blk1 lt 0 xs).2.length = xs.length := by
 obtain ⟨A, B, e, hB, ⟨t, ht⟩, hb⟩ := blk1_all h xs.length [] xs 0 rfl (Nat.le_refl _)
 rw [runs_nil, List.nil_append, List.length_nil] at hb
 rw [List.nil_append] at e
 subst e
 rw [hb]
 exact ⟨by simp only [List.length_append]; omega, by simp only [List.length_append, runs_len h (show 0 < 20 by omega)]⟩

theorem mrg_all (h : SW lt) {k : Nat} (hk : 0 < k) (n : Nat) : ∀ (A B : List α) (t : Nat), A.length = t * (2 * k) → B.length ≤ n → ∃ A' B', A ++ B = A' ++ B' ∧ B'.length < 2 * k ∧ (∃ t', A'.length = t' * (2 * k)) ∧ mrg lt k A.length (runs lt (2 * k) A ++ runs lt k B) = (A'.length, runs lt (2 * k) A' ++ runs lt k B') := by
 induction n with
 | zero =>
  intro A B t hA hB
  refine ⟨A, B, rfl, by omega, ⟨t, hA⟩, mrg_stop ?_⟩
  rw [List.length_append, runs_len h (by omega), runs_len h hk]; omega
 | succ n ih =>
  intro A B t hA hB
  by_cases hb : 2 * k ≤ B.length
  ·obtain ⟨M, R, rfl, hM⟩ := parts2 B hb
   rw [List.length_append] at hB
   have hl : (runs lt (2 * k) A ++ runs lt k (M ++ R)).length = A.length + (M.length + R.length) := by simp only [List.length_append, runs_len h (show 0 < 2 * k by omega), runs_len h hk]
   rw [mrg_go h hk (by omega), ((InRuns.at h hk ⟨_, _, rfl, runs_len h (by omega) A⟩ (by omega) (A.length + 2 * k) (by omega) (by omega) (by omega) (.inl rfl)).2.2 _ M R rfl (runs_len h (by omega) A) (by omega))]
   have e : runs lt (2 * k) A ++ (srt lt M ++ runs lt k R) = runs lt (2 * k) (A ++ M) ++ runs lt k R := by
    rw [runs_app (by omega) M A t hA, runs_short (by omega) (by omega : M.length ≤ 2 * k), List.append_assoc]
   have := ih (A ++ M) R (t + 1) (by rw [List.length_append, Nat.succ_mul]; omega) (by omega)
   rw [List.append_assoc] at this
   rw [e, show A.length + 2 * k = (A ++ M).length by rw [List.length_append, hM]]
   exact this
  ·refine ⟨A, B, rfl, by omega, ⟨t, hA⟩, mrg_stop ?_⟩
   rw [List.length_append, runs_len h (by omega), runs_len h hk]; omega

def rnd (lt : α → α → Bool) (k : Nat) (H : List α) : List α :=
 bif decide ((mrg lt k 0 H).1 + k < H.length) then seg (mrg lt k 0 H).1 H.length (srt lt) (mrg lt k 0 H).2 else (mrg lt k 0 H).2

theorem rnd_eq (h : SW lt) {k : Nat} (hk : 0 < k) (xs : List α) : rnd lt k (runs lt k xs) = runs lt (2 * k) xs := by
 obtain ⟨A, B, e, hB, ⟨t, ht⟩, hb⟩ := mrg_all h hk xs.length [] xs 0 (by simp) (Nat.le_refl _)
 rw [runs_nil, List.nil_append, List.length_nil] at hb
 rw [List.nil_append] at e
 unfold rnd
 rw [hb, runs_len h hk]
 subst e
 rw [runs_app (by omega) B A t ht, runs_short (by omega) (by omega : B.length ≤ 2 * k), List.length_append]
 by_cases hc : A.length + k < A.length + B.length
 ·rw [decide_eq_true hc, cond_true]
  have hl : (runs lt (2 * k) A ++ runs lt k B).length = A.length + B.length := by simp only [List.length_append, runs_len h (show 0 < 2 * k by omega), runs_len h hk]
  rw [((InRuns.at h hk ⟨_, _, rfl, runs_len h (by omega) A⟩ (by omega) (A.length + B.length) (by omega) (by omega) (by omega) (.inr hl.symm)).2.2 _ B [] (by rw [List.append_nil]) (runs_len h (by omega) A) rfl), runs_nil, List.append_nil]
 ·rw [decide_eq_false hc, cond_false, runs_short hk (by omega)]

theorem mrg_bd (h : SW lt) {k : Nat} (hk : 0 < k) (xs : List α) : (mrg lt k 0 (runs lt k xs)).1 ≤ xs.length ∧ (mrg lt k 0 (runs lt k xs)).2.length = xs.length ∧ InRuns lt k (mrg lt k 0 (runs lt k xs)).1 (mrg lt k 0 (runs lt k xs)).2 ∧ xs.length < (mrg lt k 0 (runs lt k xs)).1 + 2 * k := by
 obtain ⟨A, B, e, hB, ⟨t, ht⟩, hb⟩ := mrg_all h hk xs.length [] xs 0 (by simp) (Nat.le_refl _)
 rw [runs_nil, List.nil_append, List.length_nil] at hb
 rw [List.nil_append] at e
 subst e
 rw [hb]
 refine ⟨by rw [List.length_append]; omega, by simp only [List.length_append, runs_len h (show 0 < 2 * k by omega), runs_len h hk], ⟨_, _, rfl, runs_len h (by omega) A⟩, by rw [List.length_append]; omega⟩

theorem mrg_step (h : SW lt) {k a : Nat} {H : List α} (hk : 0 < k) (hr : InRuns lt k a H) (hb : a + 2 * k ≤ H.length) : InRuns lt k (a + 2 * k) (seg a (a + 2 * k) (srt lt) H) := by
 obtain ⟨A, B, e, hA⟩ := hr
 have hl := congrArg List.length e
 rw [List.length_append, runs_len h hk] at hl
 obtain ⟨M, R, rfl, hM⟩ := parts2 B (show 2 * k ≤ B.length by omega)
 rw [(InRuns.at h hk ⟨A, _, e, hA⟩ (by omega) (a + 2 * k) (by omega) (by omega) hb (.inl rfl)).2.2 A M R e hA (by omega), ← List.append_assoc]
 exact ⟨_, _, rfl, by rw [List.length_append, srt_len h]; omega⟩

end K
namespace K
variable {α : Type} {lt : α → α → Bool}

theorem srt_runs (h : SW lt) {k : Nat} (hk : 0 < k) (xs : List α) : srt lt (runs lt k xs) = srt lt xs := by
 rw [runs]
 by_cases h0 : 0 < xs.length
 ·have : (xs.drop k).length < xs.length := by rw [List.length_drop]; omega
  rw [dif_pos ⟨hk, h0⟩, ← srt_app h, srt_id h (srt_stb h _).ord, srt_runs h hk (xs.drop k), srt_app h, List.take_append_drop]
 ·rw [dif_neg (fun e => h0 e.2)]
  have : xs = [] := List.length_eq_zero_iff.1 (by omega)
  subst this; rfl
termination_by xs.length

def AllRuns (lt : α → α → Bool) (k : Nat) (H : List α) : Prop := ∃ xs, H = runs lt k xs

theorem AllRuns.start (h : SW lt) (xs : List α) : AllRuns lt 20 (stab1 lt xs) ∧ srt lt (stab1 lt xs) = srt lt xs ∧ (stab1 lt xs).length = xs.length := by
 rw [stab1_eq h]
 exact ⟨⟨xs, rfl⟩, srt_runs h (by omega) xs, runs_len h (by omega) xs⟩

theorem AllRuns.next (h : SW lt) {k : Nat} (hk : 0 < k) {H : List α} (hr : AllRuns lt k H) : AllRuns lt (2 * k) (rnd lt k H) ∧ srt lt (rnd lt k H) = srt lt H ∧ (rnd lt k H).length = H.length := by
 obtain ⟨xs, rfl⟩ := hr
 rw [rnd_eq h hk]
 exact ⟨⟨xs, rfl⟩, by rw [srt_runs h (by omega), srt_runs h hk], by rw [runs_len h (by omega), runs_len h hk]⟩

theorem AllRuns.done (h : SW lt) {k : Nat} (hk : 0 < k) {H : List α} (hr : AllRuns lt k H) (hl : H.length ≤ k) : srt lt H = H := by
 obtain ⟨xs, rfl⟩ := hr
 rw [runs_len h hk] at hl
 rw [srt_runs h hk, runs_short hk hl]

theorem AllRuns.inRuns {k : Nat} {H : List α} (hr : AllRuns lt k H) : InRuns lt k 0 H := by
 obtain ⟨xs, e⟩ := hr
 exact ⟨[], xs, e, rfl⟩

theorem InRuns.srts (h : SW lt) {k a b : Nat} {H : List α} (hk : 0 < k) (hr : InRuns lt k a H) (hb : a + k < b) (hb2 : b = a + 2 * k ∨ b = H.length) (hb3 : b ≤ H.length) (hb4 : b ≤ a + 2 * k) : SrtAt lt a (a + k) H ∧ SrtAt lt (a + k) b H := by
 have := InRuns.at h hk hr (by omega) b hb hb4 hb3 hb2
 exact ⟨this.1, this.2.1⟩

theorem AllRuns.mrg_bd (h : SW lt) {k : Nat} (hk : 0 < k) {H : List α} (hr : AllRuns lt k H) : (mrg lt k 0 H).1 ≤ H.length ∧ (mrg lt k 0 H).2.length = H.length ∧ InRuns lt k (mrg lt k 0 H).1 (mrg lt k 0 H).2 ∧ H.length < (mrg lt k 0 H).1 + 2 * k := by
 obtain ⟨xs, rfl⟩ := hr
 have := K.mrg_bd h hk xs
 rw [runs_len h hk]
 exact this

end K
end Go.Proofs.YtbeobbjiogbdlaaGreatDoor

namespace Go.Proofs.YtbeobbjiogbdlaaGreatDoor
open Go Go.RowKit
set_option linter.unusedVariables false
set_option linter.unusedSimpArgs false
set_option maxHeartbeats 1000000

def F.ordC (a b : Cap) : Int := bif F.before a b then -1 else bif F.before b a then 1 else 0

def F.ltC (a b : Cap) : Bool := decide (F.ordC a b < 0)

theorem F.ltC_eq (a b : Cap) : F.ltC a b = F.before a b := by
 unfold F.ltC F.ordC
 cases F.before a b <;> cases F.before b a <;> rfl

theorem F.before_iff {a b : Cap} : F.before a b = true ↔ a.fr < b.fr ∨ (a.fr = b.fr ∧ a.to < b.to) := by
 simp [F.before, F.lt]

theorem F.swC : K.SW F.ltC := by
 refine ⟨fun a b h => ?_, fun a b c h1 h2 => ?_⟩
 ·rw [F.ltC_eq] at h ⊢
  cases h2 : F.before b a
  ·rfl
  ·rw [F.before_iff] at h h2; omega
 ·rw [F.ltC_eq] at h1 h2 ⊢
  cases h3 : F.before c a
  ·rfl
  ·have n1 : ¬ (b.fr < a.fr ∨ (b.fr = a.fr ∧ b.to < a.to)) := fun e => by rw [F.before_iff.2 e] at h1; cases h1
   have n2 : ¬ (c.fr < b.fr ∨ (c.fr = b.fr ∧ c.to < b.to)) := fun e => by rw [F.before_iff.2 e] at h2; cases h2
   rw [F.before_iff] at h3; omega

namespace M

noncomputable def enOrd : Env := envH ty noG lks [oBef] [] [] []

theorem enOrd_ok : EnvOK Tryz.prog enOrd := by
 refine envH_ok lks_ok ty_ok ?_ ?_
 ·simp only [List.forall_mem_cons]
  exact ⟨okBef, by simp⟩
 ·simp

theorem evOrd (a : Cap) (b : Cap) : (runF enOrd false Tryz.f66 [.agg (eCap a), .agg (eCap b)]).val =
 Option.bind (unenc encBef [AV.agg [(vI a.fr), (vI a.to), AV.sl (List.map eStr a.lines), (vI a.row), (vB a.bef), (vB a.aft)], AV.agg [(vI b.fr), (vI b.to), AV.sl (List.map
 eStr b.lines), (vI b.row), (vB b.bef), (vB b.aft)]]) fun z => bif F.before z.1 z.2 then some ((vI (-1 : Int)), []) else Option.bind (unenc encBef [AV.agg
 [(vI b.fr), (vI b.to), AV.sl (List.map eStr b.lines), (vI b.row), (vB b.bef), (vB b.aft)], AV.agg [(vI a.fr), (vI a.to), AV.sl (List.map eStr a.lines), (vI a.row), (vB
 a.bef), (vB a.aft)]]) fun z => bif F.before z.1 z.2 then some ((vI 1), []) else some ((vI 0), []) := by kernel_rfl

def encOrd1 (a : Cap) (b : Cap) : List AV := [.agg (eCap a), .agg (eCap b)]

def encOrd (a : Cap × Cap) : List AV := encOrd1 a.1 a.2

theorem encOrd_inj (a a' : Cap × Cap) (h : encOrd a = encOrd a') : a = a' := by
 simp only [encOrd, encOrd1] at h
 try simp [eCap_iff] at h
 grind

theorem unOrdw (a_fr : Int) (a_to : Int) (a_lines : List ByteArray) (a_row : Int) (a_bef : Bool) (a_aft : Bool) (b_fr : Int) (b_to : Int) (b_lines : List ByteArray) (b_row : Int) (b_bef : Bool) (b_aft : Bool) : unenc encOrd ([AV.agg [(vI a_fr), (vI a_to), AV.sl (List.map eStr a_lines), (vI a_row), (vB a_bef), (vB a_aft)], AV.agg [(vI b_fr), (vI b_to), AV.sl (List.map eStr b_lines), (vI b_row),
 (vB b_bef), (vB b_aft)]]) = some ((Cap.mk a_fr a_to a_lines a_row a_bef a_aft), (Cap.mk b_fr b_to b_lines b_row b_bef b_aft)) := unenc_of encOrd_inj ((Cap.mk a_fr a_to a_lines a_row a_bef a_aft), (Cap.mk b_fr b_to b_lines b_row b_bef b_aft)) rfl

def resOrd1 (a : Cap) (b : Cap) : AV × Heap := (vI (F.ordC a b), [])

def preOrd1 (a : Cap) (b : Cap) : Bool := true

noncomputable def oOrd : Orc := orc 66 true encOrd (fun a => preOrd1 a.1 a.2) fun a => resOrd1 a.1 a.2

theorem okOrd : OrcOK Tryz.prog noG oOrd := by
 refine mk_ok Tryz.f66 (keep := false) (by kernel_rfl) (by kernel_rfl) enOrd_ok mixed (no_loops (by kernel_rfl)) (by first | exact fun _ _ => ⟨rfl, rfl⟩ | (intro h; cases h)) ?_
 rintro ⟨a, b⟩ hpre hok
 show (runF enOrd false _ (encOrd1 _ _)).val = some (resOrd1 _ _)
 unfold encOrd1 resOrd1
 rw [evOrd]
 simp only [unBefw, etaCap, Option.bind_some, F.ordC]
 cases F.before a b <;> cases F.before b a <;> rfl

end M

end Go.Proofs.YtbeobbjiogbdlaaGreatDoor

namespace Go.Proofs.YtbeobbjiogbdlaaGreatDoor
open Go Go.RowKit Go.Lib
set_option linter.unusedVariables false
set_option linter.unusedSimpArgs false
set_option maxHeartbeats 4000000
set_option maxRecDepth 100000

namespace K

theorem run_copy_rowK {P : Program} (w : World) (dT sT ty elem : TypeId) (g o dLen dCap : Nat) (a : Addr) (sLen sCap : Nat) (cur : Array Value) (t : TypeId) (cs : List Value) (K : Nat)
  (hu : P.underlying dT = some (.slice elem)) (hs : (P.info? elem).map (·.size) = some K)
  (hg : w.heap[g]? = some (.cells cur t (0, 0))) (hn : cs.length = Nat.min sLen dLen * K)
  (hsrc : ∀ j v, cs[j]? = some v → w.cell? (a.add j) = some v) (hfit : o + cs.length ≤ cur.size) (h1 : ∀ v ∈ cs, v.oneCell' = true) :
  (Builtin.copy_ #[dT, sT] ty #[.slice (some ⟨g, o, none⟩) dLen dCap, .slice (some a) sLen sCap]).run P w =
   .ok (goInt (Nat.min sLen dLen)) (w.setRow g (cur.toList.take o ++ cs ++ cur.toList.drop (o + cs.length)).toArray) := by
 have hl := run_loadCells_list (P := P) w a cs hsrc
 have hst := run_storeCells_at P g o t cs 0 cur w hg (by simpa using hfit) h1
 cases hq : P.info? elem with
 | none => simp [hq] at hs
 | some i =>
  have hi : i.size = K := by simpa [hq] using hs
  simp [Builtin.copy_, run_underlying hu, Builtin.lenOf, Builtin.firstCells, sizeOf, typeInfo, hq, hi, ← hn, hl, hst]

end K

theorem ins_und : Tryz.prog.underlying 53 = some (.slice 122) := by kernel_rfl

theorem ins_size : (Tryz.prog.info? 122).map (·.size) = some 6 := by kernel_rfl

def insCells (i n : Nat) (cur news : List Value) : List Value :=
 let A := cur.take ((i + 1) * 6) ++ (cur.drop (i * 6)).take ((n - i) * 6) ++ cur.drop ((i + 1) * 6 + (n - i) * 6)
 A.take (i * 6) ++ news ++ A.drop (i * 6 + 6)

theorem ins_shift (b n c i vb vc : Nat) (cur curv : Array Value) (t tv : TypeId) (news : List Value) (w : World) (hi : i < n) (hroom : n + 1 ≤ c) (hc63 : c ≤ 9223372036854775807) (hvb : vb ≠ b)
  (hb : w.heap[b]? = some (.cells cur t (0, 0))) (hsz : cur.size = c * 6) (hv : w.heap[vb]? = some (.cells curv tv (0, 0))) (hnl : news.length = 6) (hnews : ∀ (j : Nat) v, news[j]? = some v → curv[j]? = some v)
  (h1c : ∀ (j : Nat) v, j < n * 6 → cur[j]? = some v → v.oneCell' = true) (h1v : ∀ v ∈ news, v.oneCell' = true) :
  Calls Tryz.prog 169 #[.slice (some ⟨b, 0, none⟩) n c, .int .i64 i, .slice (some ⟨vb, 0, none⟩) 1 vc] w fun e w' =>
   e = .returned (.slice (some ⟨b, 0, none⟩) (n + 1) c) ∧ w' = w.drew.setRow b (insCells i n cur.toList news).toArray := by
 have hz2 : ¬ ((i : Int) = (n : Int)) := by omega
 have hn1 : IntKind.i64.wrap ((n : Int) + 1) = (n : Int) + 1 := by rw [IntKind.wrap_i64]; omega
 have hi1 : IntKind.i64.wrap ((i : Int) + 1) = (i : Int) + 1 := by rw [IntKind.wrap_i64]; omega
 have hcv : 6 ≤ curv.size := by
  have h := List.getElem?_eq_getElem (l := news) (i := 6 - 1) (by omega)
  have := (Array.getElem?_eq_some_iff.1 (hnews _ _ h)).1
  omega
 have hov : ∀ lb cb, (callFunc 214 #[.slice (some ⟨vb, 0, none⟩) 1 vc, .slice (some ⟨b, (i + 1) * 6, none⟩) lb cb]).run Tryz.prog w = .ok (.value (.bool false)) w := fun lb cb => by
  rw [run_callFunc_extern (fn := Tryz.f214) (by kernel_rfl) (by kernel_rfl) (by kernel_rfl) (by kernel_rfl) (e := Extern.SlicesOverlaps.overlaps #[53, 53] #[4]) (by kernel_rfl),
   Lib.run_overlaps_apart w 53 4 122 ins_und 6 (fun w => by unfold Go.sizeOf; kernel_rfl) ⟨vb, 0, none⟩ ⟨b, (i + 1) * 6, none⟩ 1 vc lb cb hvb tv t curv.size cur.size (by simp [World.shape?, hv]) (by simp [World.shape?, hb]) (by rw [hsz]; have := Nat.mul_le_mul_right 6 (show 1 ≤ c by omega); omega) (by simp [World.frozen?, hv]) (by simp [World.frozen?, hv])]
  rfl
 obtain ⟨cs, hcs⟩ : ∃ cs, cs = (cur.toList.drop (i * 6)).take ((n - i) * 6) := ⟨_, rfl⟩
 have hcn : n * 6 ≤ cur.size := by rw [hsz]; exact Nat.mul_le_mul_right _ (by omega)
 have hcl : cs.length = (n - i) * 6 := by rw [hcs, List.length_take, List.length_drop, Array.length_toList]; omega
 have hcsat : ∀ (j : Nat) v, cs[j]? = some v → cur[i * 6 + j]? = some v ∧ i * 6 + j < n * 6 := fun j v hj => by
  have hlt := (List.getElem?_eq_some_iff.1 hj).1
  rw [hcs, List.getElem?_take, List.getElem?_drop] at hj
  split at hj
  ·refine ⟨by simpa using hj, by omega⟩
  ·cases hj
 have hmin1 : Nat.min (n + 1 - i) (n - i) = n - i := by simp only [Nat.min_def]; split <;> omega
 have hfit1 : (i + 1) * 6 + cs.length ≤ cur.size := by
  have : (n + 1) * 6 ≤ cur.size := by rw [hsz]; exact Nat.mul_le_mul_right _ (by omega)
  omega
 obtain ⟨A1, hA1⟩ : ∃ A1, A1 = (cur.toList.take ((i + 1) * 6) ++ cs ++ cur.toList.drop ((i + 1) * 6 + cs.length)).toArray := ⟨_, rfl⟩
 have hA1s : A1.size = cur.size := by rw [hA1]; simp only [List.size_toArray, List.length_append, List.length_take, List.length_drop, Array.length_toList]; omega
 have hcp1 : ∀ ty dc sc, (Builtin.copy_ #[53, 53] ty #[.slice (some ⟨b, (i + 1) * 6, none⟩) (n - i) dc, .slice (some ⟨b, i * 6, none⟩) (n + 1 - i) sc]).run Tryz.prog w.drew = .ok (goInt (Nat.min (n + 1 - i) (n - i))) (w.drew.setRow b A1) := fun ty dc sc => by
  rw [hA1]
  exact K.run_copy_rowK w.drew _ _ ty 122 b ((i + 1) * 6) (n - i) dc ⟨b, i * 6, none⟩ (n + 1 - i) sc cur t cs 6 ins_und ins_size hb (by rw [hcl, hmin1])
   (fun j v hj => by rw [Addr.add_lit]; simp only [World.cell?]; rw [show w.drew.heap = w.heap from rfl, hb]; simpa using (hcsat j v hj).1) hfit1 (fun v hv => by
    obtain ⟨j, hj⟩ := List.getElem?_of_mem hv
    exact h1c _ v (hcsat j v hj).2 (hcsat j v hj).1)
 have hH1 : (w.drew.setRow b A1).heap[b]? = some (.cells A1 t (0, 0)) := setRow_heap w.drew b cur A1 t (0, 0) hb
 have hV1 : (w.drew.setRow b A1).heap[vb]? = some (.cells curv tv (0, 0)) := by
  rw [← hv]
  show (w.drew.setRow b A1).heap[vb]? = w.drew.heap[vb]?
  unfold World.setRow
  simp only [Array.getElem?_modify]
  rw [if_neg (fun e => hvb e.symm)]
 have hfit2 : i * 6 + news.length ≤ A1.size := by
  have : (n + 1) * 6 ≤ cur.size := by rw [hsz]; exact Nat.mul_le_mul_right _ (by omega)
  omega
 have hmin2 : Nat.min 1 (n + 1 - i) = 1 := by simp only [Nat.min_def]; split <;> omega
 have hcp2 : ∀ ty dc, (Builtin.copy_ #[53, 53] ty #[.slice (some ⟨b, i * 6, none⟩) (n + 1 - i) dc, .slice (some ⟨vb, 0, none⟩) 1 vc]).run Tryz.prog (w.drew.setRow b A1) = .ok (goInt (Nat.min 1 (n + 1 - i))) ((w.drew.setRow b A1).setRow b (A1.toList.take (i * 6) ++ news ++ A1.toList.drop (i * 6 + news.length)).toArray) := fun ty dc =>
  K.run_copy_rowK (w.drew.setRow b A1) _ _ ty 122 b (i * 6) (n + 1 - i) dc ⟨vb, 0, none⟩ 1 vc A1 t news 6 ins_und ins_size hH1 (by rw [hnl, hmin2])
   (fun j v hj => by rw [Addr.add_lit]; simp only [World.cell?]; rw [hV1, Nat.zero_add]; simpa using hnews j v hj) hfit2 h1v
 have hfin : (w.drew.setRow b A1).setRow b (A1.toList.take (i * 6) ++ news ++ A1.toList.drop (i * 6 + news.length)).toArray = w.drew.setRow b (insCells i n cur.toList news).toArray := by
  rw [setRow_setRow, hA1, hnl, hcl, hcs]
  rfl
 rw [hfin] at hcp2
 clear hfin
 generalize w.drew.setRow b (insCells i n cur.toList news).toArray = W2 at hcp2 ⊢
 generalize hW1 : w.drew.setRow b A1 = W1 at hcp1 hcp2
 clear hW1 hH1 hV1 hfit1 hfit2 hA1s hA1 hcsat hcl hcs hmin1 hmin2 hcn
 have hb1 : (0 : Int) ≤ (i : Int) + 1 := by omega
 have htn : ((i : Int) + 1).toNat = i + 1 := by omega
 have hb2 : ¬ (c = i + 1) := by omega
 have hb3 : (i : Int) ≤ (n : Int) + 1 := by omega
 have hb4 : ¬ (c = i) := by omega
 have hin : i ≤ n := by omega
 have hin1 : i + 1 ≤ n + 1 := by omega
 have hin2 : ¬ (n + 1 < i + 1) := by omega
 go_enter Tryz.func169, Tryz.ntmps169
 go_wp2_with (simp only [hov])
 go_region_law (refine step_copy_runI rfl _ _ 53 53 rfl _ _ (by simp [Act.eval, Act.put]) (by simp [Act.eval, Act.put]) (hcp1 _ _ _) ?_)
 go_wp2_with (at_builtin; refine wpList_copy_runI _ rfl _ _ 53 53 rfl _ _ rfl rfl (hcp2 _ _) ?_)
 go_ret
 exact ⟨rfl, rfl⟩

namespace K

def put (o : Nat) (xs R : List Value) : List Value := R.take o ++ xs ++ R.drop (o + xs.length)

theorem put_len {o : Nat} {xs R : List Value} (h : o + xs.length ≤ R.length) : (put o xs R).length = R.length := by
 unfold put
 simp only [List.length_append, List.length_take, List.length_drop]
 omega

theorem put_at {o : Nat} {xs R : List Value} (h : o + xs.length ≤ R.length) (q : Nat) : (put o xs R)[q]? = if q < o then R[q]? else if q < o + xs.length then xs[q - o]? else R[q]? := by
 unfold put
 have ht : (R.take o).length = o := by rw [List.length_take]; omega
 by_cases h1 : q < o
 ·rw [if_pos h1, List.append_assoc, List.getElem?_append_left (by omega), List.getElem?_take, if_pos h1]
 ·rw [if_neg h1, List.append_assoc, List.getElem?_append_right (by omega), ht]
  by_cases h2 : q < o + xs.length
  ·rw [if_pos h2, List.getElem?_append_left (by omega)]
  ·rw [if_neg h2, List.getElem?_append_right (by omega), List.getElem?_drop]
   congr 1
   omega

end K

theorem ins_grow (b n c i vb vc : Nat) (cur curv : Array Value) (t tv : TypeId) (news : List Value) (w : World) (hi : i < n) (hnc : n ≤ c) (hroom : c < n + 1) (hbig : (n + 1) * 56 ≤ 140737488355328) (hvb : vb ≠ b)
  (hb : w.heap[b]? = some (.cells cur t (0, 0))) (hsz : cur.size = c * 6) (hv : w.heap[vb]? = some (.cells curv tv (0, 0))) (hnl : news.length = 6) (hnews : ∀ (j : Nat) v, news[j]? = some v → curv[j]? = some v)
  (h1c : ∀ (j : Nat) v, j < n * 6 → cur[j]? = some v → v.oneCell' = true) (h1v : ∀ v ∈ news, v.oneCell' = true) :
  Calls Tryz.prog 169 #[.slice (some ⟨b, 0, none⟩) n c, .int .i64 i, .slice (some ⟨vb, 0, none⟩) 1 vc] w fun e w' =>
   ∃ (G : Nat) (R : List Value), n + 1 ≤ G ∧ G ≤ 9223372036854775807 ∧ R.length = G * 6 ∧ R.take (i * 6) = cur.toList.take (i * 6) ∧ e = .returned (.slice (some ⟨w.heap.size, 0, none⟩) (n + 1) G) ∧
   w' = (((w.drew.alloc (.cells R.toArray 122)).setRow w.heap.size (K.put (i * 6) news R).toArray).drew).setRow w.heap.size (K.put ((i + 1) * 6) ((cur.toList.drop (i * 6)).take ((n - i) * 6)) (K.put (i * 6) news R)).toArray := by
 obtain ⟨i0, hi0, hz0, hzs, hzb⟩ := info_parts (show (Tryz.prog.info? 122).map (fun i => (i.zero, i.size, i.bytes)) = some (some (.agg #[.int .i64 0, .int .i64 0, .slice none 0 0, .int .i64 0, .bool false, .bool false]), 6, 56) by kernel_rfl)
 have hz2 : ¬ ((i : Int) = (n : Int)) := by omega
 have hz3 : (c : Int) < (n : Int) + 1 := by omega
 have hn1 : IntKind.i64.wrap ((n : Int) + 1) = (n : Int) + 1 := by rw [IntKind.wrap_i64]; omega
 have hi1 : IntKind.i64.wrap ((i : Int) + 1) = (i : Int) + 1 := by rw [IntKind.wrap_i64]; omega
 have hni : IntKind.i64.wrap ((n : Int) + 1 - (i : Int)) = (n : Int) + 1 - (i : Int) := by rw [IntKind.wrap_i64]; omega
 have hik : i + (n + 1 - i) = n + 1 := by omega
 have hkk : (n : Int) + 1 - (i : Int) = ((n + 1 - i : Nat) : Int) := by omega
 have hcn : n * 6 ≤ cur.size := by rw [hsz]; exact Nat.mul_le_mul_right _ (by omega)
 have hbl : b < w.heap.size := (Array.getElem?_eq_some_iff.1 hb).1
 have hvl : vb < w.heap.size := (Array.getElem?_eq_some_iff.1 hv).1
 obtain ⟨olds, holds⟩ : ∃ l, l = cur.toList.take (i * 6) := ⟨_, rfl⟩
 have hol : olds.length = i * 6 := by rw [holds, List.length_take, Array.length_toList]; omega
 have hold : (Builtin.firstCells i0.size i (.slice (some ⟨b, 0, none⟩) i c)).run Tryz.prog w.drew = .ok olds.toArray w.drew := by
  have hl := run_loadCells_list (P := Tryz.prog) w.drew ⟨b, 0, none⟩ olds (fun j v hj => by
   rw [Addr.add_lit]
   simp only [World.cell?]
   rw [show w.drew.heap = w.heap from rfl, hb, Nat.zero_add]
   rw [holds, List.getElem?_take] at hj
   split at hj
   ·simpa using hj
   ·cases hj)
  rw [hzs]
  simp [Builtin.firstCells, ← hol, hl]
 have hrz : ∀ ty, (Builtin.append_ #[53, 3] ty #[.slice (some ⟨b, 0, none⟩) i c, .int .i64 ((n : Int) + 1 - (i : Int))]).run Tryz.prog w =
   .ok (.slice (some ⟨w.heap.size, 0, none⟩) (n + 1) (grownCap w (n + 1) c 122)) (w.drew.alloc (.cells (olds.toArray ++ Builtin.zeroCells (Value.cells (.agg #[.int .i64 0, .int .i64 0, .slice none 0 0, .int .i64 0, .bool false, .bool false])) (n + 1 - i) ++ Builtin.zeroCells (Value.cells (.agg #[.int .i64 0, .int .i64 0, .slice none 0 0, .int .i64 0, .bool false, .bool false])) (grownCap w (n + 1) c 122 - (n + 1))) 122)) := fun ty => by
  have h := Lib.run_append_grow_zeros w 53 3 ty 122 i0 _ .i64 .i64 ins_und (by kernel_rfl) hi0 hz0 (some ⟨b, 0, none⟩) i c olds hold (n + 1 - i) (by omega) (by rw [hzs]; decide) (by omega) (by omega) (by rw [hzb]; omega) (by rw [hzb, hik]; exact growslice_fits hroom hbig)
  rw [hik] at h
  rw [hkk]
  exact h
 obtain ⟨G, hG⟩ : ∃ G, G = grownCap w (n + 1) c 122 := ⟨_, rfl⟩
 have hGn : n + 1 ≤ G := by rw [hG]; exact grownCap_ge w _ _ _
 have hG63 : G ≤ 9223372036854775807 := by
  have := grownCap_le_maxLen w (n + 1) c 122 (by unfold maxLen; omega)
  rw [← hG] at this
  unfold maxLen at this
  omega
 rw [← hG] at hrz
 obtain ⟨R, hR⟩ : ∃ R : List Value, R = (olds.toArray ++ Builtin.zeroCells (Value.cells (.agg #[.int .i64 0, .int .i64 0, .slice none 0 0, .int .i64 0, .bool false, .bool false])) (n + 1 - i) ++ Builtin.zeroCells (Value.cells (.agg #[.int .i64 0, .int .i64 0, .slice none 0 0, .int .i64 0, .bool false, .bool false])) (G - (n + 1))).toList := ⟨_, rfl⟩
 have hRl : R.length = G * 6 := by
  rw [hR]
  have e : (Value.cells (.agg #[.int .i64 0, .int .i64 0, .slice none 0 0, .int .i64 0, .bool false, .bool false])).size = 6 := by rfl
  simp only [Array.toList_append, List.length_append, Array.length_toList, size_zeroCells, e, hol]
  omega
 have hRt : R.take (i * 6) = cur.toList.take (i * 6) := by
  rw [hR, ← holds, Array.toList_append, Array.toList_append, List.append_assoc, ← hol, List.take_left' (by simp)]
 rw [show olds.toArray ++ Builtin.zeroCells (Value.cells (.agg #[.int .i64 0, .int .i64 0, .slice none 0 0, .int .i64 0, .bool false, .bool false])) (n + 1 - i) ++ Builtin.zeroCells (Value.cells (.agg #[.int .i64 0, .int .i64 0, .slice none 0 0, .int .i64 0, .bool false, .bool false])) (G - (n + 1)) = R.toArray by rw [hR]] at hrz
 have hGK : (n + 1) * 6 ≤ G * 6 := Nat.mul_le_mul_right _ hGn
 obtain ⟨cs, hcs⟩ : ∃ cs, cs = (cur.toList.drop (i * 6)).take ((n - i) * 6) := ⟨_, rfl⟩
 have hcl : cs.length = (n - i) * 6 := by rw [hcs, List.length_take, List.length_drop, Array.length_toList]; omega
 have hcsat : ∀ (j : Nat) v, cs[j]? = some v → cur[i * 6 + j]? = some v ∧ i * 6 + j < n * 6 := fun j v hj => by
  have hlt := (List.getElem?_eq_some_iff.1 hj).1
  rw [hcs, List.getElem?_take, List.getElem?_drop] at hj
  split at hj
  ·refine ⟨by simpa using hj, by omega⟩
  ·cases hj
 have hNb : w.heap.size ≠ b := by omega
 have hNv : w.heap.size ≠ vb := by omega
 obtain ⟨W1, hW1⟩ : ∃ W1, W1 = w.drew.alloc (.cells R.toArray 122) := ⟨_, rfl⟩
 have hN : W1.heap[w.heap.size]? = some (.cells R.toArray 122 (0, 0)) := by
  rw [hW1]
  show (w.heap.push _)[w.heap.size]? = _
  simp
 have hold1 : ∀ g, g < w.heap.size → W1.heap[g]? = w.heap[g]? := fun g hg => by
  rw [hW1]
  show (w.heap.push _)[g]? = _
  rw [Array.getElem?_push, if_neg (by omega)]
 have hmin1 : Nat.min 1 (n + 1 - i) = 1 := by simp only [Nat.min_def]; split <;> omega
 have hfit1 : i * 6 + news.length ≤ R.toArray.size := by rw [List.size_toArray, hRl, hnl]; omega
 obtain ⟨A1, hA1⟩ : ∃ A1, A1 = (K.put (i * 6) news R).toArray := ⟨_, rfl⟩
 have hA1s : A1.size = G * 6 := by rw [hA1, List.size_toArray, K.put_len (by simpa using hfit1), hRl]
 have hcpA : ∀ ty dc, (Builtin.copy_ #[53, 53] ty #[.slice (some ⟨w.heap.size, i * 6, none⟩) (n + 1 - i) dc, .slice (some ⟨vb, 0, none⟩) 1 vc]).run Tryz.prog W1 = .ok (goInt (Nat.min 1 (n + 1 - i))) (W1.setRow w.heap.size A1) := fun ty dc => by
  rw [hA1]
  exact K.run_copy_rowK W1 _ _ ty 122 w.heap.size (i * 6) (n + 1 - i) dc ⟨vb, 0, none⟩ 1 vc R.toArray 122 news 6 ins_und ins_size hN (by rw [hnl, hmin1])
   (fun j v hj => by rw [Addr.add_lit]; simp only [World.cell?]; rw [hold1 vb hvl, hv, Nat.zero_add]; simpa using hnews j v hj) hfit1 h1v
 obtain ⟨W2, hW2⟩ : ∃ W2, W2 = W1.setRow w.heap.size A1 := ⟨_, rfl⟩
 have hN2 : W2.drew.heap[w.heap.size]? = some (.cells A1 122 (0, 0)) := by rw [hW2]; exact setRow_heap W1 w.heap.size R.toArray A1 122 (0, 0) hN
 have hB2 : W2.drew.heap[b]? = some (.cells cur t (0, 0)) := by
  rw [← hb, ← hold1 b hbl, hW2]
  show (W1.setRow w.heap.size A1).heap[b]? = _
  unfold World.setRow
  simp only [Array.getElem?_modify]
  rw [if_neg hNb]
 have hmin2 : Nat.min (n - i) (n - i) = n - i := by simp only [Nat.min_def]; split <;> omega
 have hfit2 : (i + 1) * 6 + cs.length ≤ A1.size := by rw [hA1s, hcl]; omega
 have hcpB : ∀ ty dc sc, (Builtin.copy_ #[53, 53] ty #[.slice (some ⟨w.heap.size, (i + 1) * 6, none⟩) (n - i) dc, .slice (some ⟨b, i * 6, none⟩) (n - i) sc]).run Tryz.prog W2.drew = .ok (goInt (Nat.min (n - i) (n - i))) (W2.drew.setRow w.heap.size (K.put ((i + 1) * 6) cs A1.toList).toArray) := fun ty dc sc =>
  K.run_copy_rowK W2.drew _ _ ty 122 w.heap.size ((i + 1) * 6) (n - i) dc ⟨b, i * 6, none⟩ (n - i) sc A1 122 cs 6 ins_und ins_size hN2 (by rw [hcl, hmin2])
   (fun j v hj => by rw [Addr.add_lit]; simp only [World.cell?]; rw [hB2]; simpa using (hcsat j v hj).1) hfit2 (fun v hv => by
    obtain ⟨j, hj⟩ := List.getElem?_of_mem hv
    exact h1c _ v (hcsat j v hj).2 (hcsat j v hj).1)
 have hfin : W2.drew.setRow w.heap.size (K.put ((i + 1) * 6) cs A1.toList).toArray = (((w.drew.alloc (.cells R.toArray 122)).setRow w.heap.size (K.put (i * 6) news R).toArray).drew).setRow w.heap.size (K.put ((i + 1) * 6) ((cur.toList.drop (i * 6)).take ((n - i) * 6)) (K.put (i * 6) news R)).toArray := by
  rw [hW2, hW1, hA1, hcs]
 rw [← hW2] at hcpA
 refine Calls.mono (R := fun e w' => e = .returned (.slice (some ⟨w.heap.size, 0, none⟩) (n + 1) G) ∧ w' = W2.drew.setRow w.heap.size (K.put ((i + 1) * 6) cs A1.toList).toArray) ?_ (fun e w' h => ⟨G, R, hGn, hG63, hRl, hRt, h.1, h.2.trans hfin⟩)
 rw [← hW1] at hrz
 clear hfin
 generalize W2.drew.setRow w.heap.size (K.put ((i + 1) * 6) cs A1.toList).toArray = W3 at hcpB ⊢
 clear hW1 hW2 hN hN2 hB2 hfit1 hfit2 hA1s hA1 hcsat hcl hcs hmin1 hmin2 hcn hRl hRt hR hG hold hol holds hold1 hGK hkk hik hz0 hzs hzb hi0 h1c h1v hnews hnl hsz
 have hb1 : (0 : Int) ≤ (i : Int) + 1 := by omega
 have htn : ((i : Int) + 1).toNat = i + 1 := by omega
 have hGi : ¬ (G = i) := by omega
 have hGim : ¬ (G = i + 1) := by omega
 have hci : ¬ (c = i) := by omega
 have hin : i ≤ n := by omega
 have hin1 : i + 1 ≤ n + 1 := by omega
 have hin2 : ¬ (n + 1 < i + 1) := by omega
 have hb3 : (i : Int) ≤ (n : Int) := by omega
 have hb4 : (i : Int) ≤ (n : Int) + 1 := by omega
 go_enter Tryz.func169, Tryz.ntmps169
 go_wp2_with (first
  | (at_builtin; refine Lib.wpList_append_run _ rfl _ _ _ _ rfl _ _ rfl rfl _ _ (hrz _) ?_)
  | (at_builtin; refine wpList_copy_runI _ rfl _ _ 53 53 rfl _ _ rfl rfl (hcpA _ _) ?_))
 go_region_law (refine step_copy_runI rfl _ _ 53 53 rfl _ _ (by simp [Act.eval, Act.put]) (by simp [Act.eval, Act.put]) (hcpB _ _ _) ?_)
 go_wp2
 go_ret
 exact ⟨rfl, rfl⟩

end Go.Proofs.YtbeobbjiogbdlaaGreatDoor

namespace Go.Proofs.YtbeobbjiogbdlaaGreatDoor
open Go Go.RowKit
set_option linter.unusedVariables false
set_option linter.unusedSimpArgs false
set_option maxHeartbeats 1000000

def F.insAt {α : Type} (i : Nat) (c : α) (xs : List α) : List α := xs.take i ++ c :: xs.drop i

namespace K

theorem insAt_lt {α : Type} {i q : Nat} {c : α} {xs : List α} (h : i ≤ xs.length) (hq : q < i) : (F.insAt i c xs)[q]? = xs[q]? := by
 unfold F.insAt
 rw [List.getElem?_append_left (by rw [List.length_take]; omega), List.getElem?_take, if_pos hq]

theorem insAt_eq {α : Type} {i : Nat} {c : α} {xs : List α} (h : i ≤ xs.length) : (F.insAt i c xs)[i]? = some c := by
 unfold F.insAt
 rw [List.getElem?_append_right (by rw [List.length_take]; omega), List.length_take, show i - min i xs.length = 0 by omega]
 rfl

theorem insAt_gt {α : Type} {i q : Nat} {c : α} {xs : List α} (h : i ≤ xs.length) (hq : i < q) : (F.insAt i c xs)[q]? = xs[q - 1]? := by
 unfold F.insAt
 rw [List.getElem?_append_right (by rw [List.length_take]; omega), List.length_take, show q - min i xs.length = (q - i - 1) + 1 by omega, List.getElem?_cons_succ, List.getElem?_drop]
 congr 1
 omega

theorem insAt_len {α : Type} {i : Nat} {c : α} {xs : List α} (h : i ≤ xs.length) : (F.insAt i c xs).length = xs.length + 1 := by
 unfold F.insAt
 rw [List.length_append, List.length_cons, List.length_take, List.length_drop]
 omega

end K

namespace M

def encInsO1 (xs : List Cap) (i : Nat) (c : Cap) : List AV × Heap := ([.own 900, vI i, .own 901], [(901, ⟨false, 122, 6, [eCap c]⟩), (900, ⟨false, 122, 6, xs.map eCap⟩)])

def encInsO (a : (List Cap) × Nat × Cap) : List AV × Heap := encInsO1 a.1 a.2.1 a.2.2

theorem encInsO_inj (a a' : (List Cap) × Nat × Cap) (h : encInsO a = encInsO a') : a = a' := by
 simp only [encInsO, encInsO1] at h
 try simp [eCaps_inj, eCap_iff] at h
 grind

theorem unInsOw (xs : List Cap) (i : Nat) (c_fr : Int) (c_to : Int) (c_lines : List ByteArray) (c_row : Int) (c_bef : Bool) (c_aft : Bool) : unenc encInsO (([.own 900, (vI (↑i : Int)), .own 901], [(901, Blk.mk false 122 6 [[(vI c_fr), (vI c_to), AV.sl (List.map eStr c_lines), (vI c_row), (vB c_bef), (vB c_aft)]]), (900,
 Blk.mk false 122 6 (List.map eCap xs))])) = some (xs, i, (Cap.mk c_fr c_to c_lines c_row c_bef c_aft)) := unenc_of encInsO_inj (xs, i, (Cap.mk c_fr c_to c_lines c_row c_bef c_aft)) rfl

def resInsO1 (xs : List Cap) (i : Nat) (c : Cap) : AV × Heap × List Nat := (.own 900, [(901, ⟨false, 122, 6, [eCap c]⟩), (900, ⟨false, 122, 6, (F.insAt i c xs).map eCap⟩)], [900])

def preInsO1 (xs : List Cap) (i : Nat) (c : Cap) : Bool := decide (i ≤ xs.length ∧ xs.length ≤ 100000)

noncomputable def oInsO : OrcH := orcH 169 encInsO (fun a => preInsO1 a.1 a.2.1 a.2.2) fun a => resInsO1 a.1 a.2.1 a.2.2

noncomputable def enInsE : Env := envH ty noG lks [] [] [900, 12] []

theorem enInsE_ok : EnvOK Tryz.prog enInsE := by
 refine envH_ok lks_ok ty_ok ?_ ?_
 ·simp
 ·simp

theorem evInsE (xs : List Cap) (c : Cap) : (runH enInsE [900] Tryz.f169 [.own 900, vI xs.length, .own 901] [(901, ⟨false, 122, 6, [eCap c]⟩), (900, ⟨false, 122, 6, xs.map eCap⟩)]).val =
 bif Nat.ble (List.length xs) (List.length (List.map eCap xs)) && Nat.ble (List.length (List.map eCap xs)) (List.length (List.map eCap xs)) then bif (↑(List.length xs) :
 Int) == (↑(List.length (List.map eCap xs)) : Int) then bif Nat.ble ((List.length (List.map eCap xs) + 1) * 56) 140737488355328 && true then some
 (.own 900, [(901, Blk.mk false 122 6 [[(vI c.fr), (vI c.to), AV.sl (List.map eStr c.lines), (vI c.row), (vB c.bef), (vB c.aft)]]), (900, Blk.mk false 122 6 (List.map eCap
 xs ++ [[(vI c.fr), (vI c.to), AV.sl (List.map eStr c.lines), (vI c.row), (vB c.bef), (vB c.aft)]]))], [(900 : Nat)]) else none else none else none := (runHR_val).symm.trans (by kernel_rfl)

theorem rv_ownk2 {w : World} {S : Nat → Prop} {β : Nat → Option BI} {k : Nat} {v : Value} (h : RV w S β (.own k) v) : ∃ x, β k = some x ∧ (x.real = true → v = .slice (some ⟨x.b, 0, none⟩) x.len x.cap) ∧ (x.real = false → ∃ A, v = .slice A 0 0) := h

theorem enc_len (c : Cap) : (eCap c).length = 6 := rfl

theorem rows_cells {G : Nat → Option GR} {B : Nat → Prop} {w : World} {S : Nat → Prop} {β : Nat → Option BI} {h : Heap} {k : Nat} {xs : List Cap} {X : BI} (inv : InvG G B w S β h) (hX : β k = some X) (hk : mget h k = some ⟨false, 122, 6, xs.map eCap⟩) (hne : xs ≠ []) :
  X.real = true ∧ ∃ cur ty, w.heap[X.b]? = some (.cells cur ty (0, 0)) ∧ cur.size = X.cap * 6 ∧ X.len = xs.length ∧ X.len ≤ X.cap ∧ X.cap ≤ 9223372036854775807 ∧ X.size = 6 ∧ ty = 122 ∧
   ∀ (i : Nat) (x : Cap), xs[i]? = some x → ∀ (j : Nat) (a : AV), (eCap x)[j]? = some a → ∃ v, cur[i * 6 + j]? = some v ∧ R0 w S a v := by
 obtain ⟨bl, hb, h3, h4⟩ := inv.dom k X hX
 rw [hk] at hb
 cases hb
 have hr : X.real = true := by
  cases hr : X.real
  ·have := (h4 hr).1
   exact absurd (by simpa using this) hne
  ·rfl
 obtain ⟨cs, ty, c1, c2, c3, c4, c5, c6, c7, c8⟩ := h3 hr
 obtain ⟨e1, e2⟩ := c6 rfl
 have e2 : X.size = 6 := e2
 rw [e2] at c2
 refine ⟨hr, cs, ty, c1, c2, by rw [← c3]; simp, c4, c5, e2, e1, fun i x hx j a hj => ?_⟩
 obtain ⟨v, hv, hrv⟩ := (c8 i (eCap x) (by simp [hx])).2 j a hj
 rw [e2] at hv
 exact ⟨v, hv, hrv⟩

theorem rows_one {w : World} {S : Nat → Prop} {cur : Array Value} {xs : List Cap} (h : ∀ (i : Nat) (x : Cap), xs[i]? = some x → ∀ (j : Nat) (a : AV), (eCap x)[j]? = some a → ∃ v, cur[i * 6 + j]? = some v ∧ R0 w S a v) :
  ∀ (q : Nat) v, q < xs.length * 6 → cur[q]? = some v → v.oneCell' = true := by
 intro q v hq hv
 have h1 : q / 6 < xs.length := by omega
 have h2 : q % 6 < 6 := Nat.mod_lt _ (by decide)
 obtain ⟨u, hu, hr⟩ := h (q / 6) _ (List.getElem?_eq_getElem h1) (q % 6) _ (List.getElem?_eq_getElem (by rw [enc_len]; exact h2))
 rw [show q / 6 * 6 + q % 6 = q by omega, hv] at hu
 cases hu
 exact R0.one hr

def InsAt (i n : Nat) (cur news R : List Value) : Prop := ∀ q, q < (n + 1) * 6 → R[q]? = if q < i * 6 then cur[q]? else if q < i * 6 + 6 then news[q - i * 6]? else cur[q - 6]?

theorem insAt_shift {i n : Nat} {cur news : List Value} (hi : i < n) (hn : news.length = 6) (hc : (n + 1) * 6 ≤ cur.length) : (insCells i n cur news).length = cur.length ∧ InsAt i n cur news (insCells i n cur news) := by
 have hcl : ((cur.drop (i * 6)).take ((n - i) * 6)).length = (n - i) * 6 := by rw [List.length_take, List.length_drop]; omega
 have e : insCells i n cur news = K.put (i * 6) news (K.put ((i + 1) * 6) ((cur.drop (i * 6)).take ((n - i) * 6)) cur) := by
  unfold insCells K.put
  rw [hcl, hn]
 have l1 := K.put_len (o := (i + 1) * 6) (xs := (cur.drop (i * 6)).take ((n - i) * 6)) (R := cur) (by rw [hcl]; omega)
 have l2 := K.put_len (o := i * 6) (xs := news) (R := K.put ((i + 1) * 6) ((cur.drop (i * 6)).take ((n - i) * 6)) cur) (by rw [l1, hn]; omega)
 rw [e]
 refine ⟨l2.trans l1, fun q hq => ?_⟩
 rw [K.put_at (by rw [l1, hn]; omega), K.put_at (by rw [hcl]; omega), hn, hcl]
 by_cases h1 : q < i * 6
 ·rw [if_pos h1, if_pos h1, if_pos (by omega)]
 ·rw [if_neg h1, if_neg h1]
  by_cases h2 : q < i * 6 + 6
  ·rw [if_pos h2, if_pos h2]
  ·rw [if_neg h2, if_neg h2, if_neg (by omega), if_pos (by omega), List.getElem?_take, if_pos (by omega), List.getElem?_drop]
   congr 1
   omega

theorem insAt_grow {i n : Nat} {cur news R : List Value} (hi : i < n) (hn : news.length = 6) (hc : n * 6 ≤ cur.length) (hR : (n + 1) * 6 ≤ R.length) (ht : R.take (i * 6) = cur.take (i * 6)) :
  (K.put ((i + 1) * 6) ((cur.drop (i * 6)).take ((n - i) * 6)) (K.put (i * 6) news R)).length = R.length ∧ InsAt i n cur news (K.put ((i + 1) * 6) ((cur.drop (i * 6)).take ((n - i) * 6)) (K.put (i * 6) news R)) := by
 have hcl : ((cur.drop (i * 6)).take ((n - i) * 6)).length = (n - i) * 6 := by rw [List.length_take, List.length_drop]; omega
 have l1 := K.put_len (o := i * 6) (xs := news) (R := R) (by rw [hn]; omega)
 have l2 := K.put_len (o := (i + 1) * 6) (xs := (cur.drop (i * 6)).take ((n - i) * 6)) (R := K.put (i * 6) news R) (by rw [hcl, l1]; omega)
 refine ⟨l2.trans l1, fun q hq => ?_⟩
 rw [K.put_at (by rw [hcl, l1]; omega), K.put_at (by rw [hn]; omega), hn, hcl]
 by_cases h1 : q < i * 6
 ·have e := congrArg (fun l : List Value => l[q]?) ht
  simp only [List.getElem?_take, if_pos h1] at e
  rw [if_pos (by omega), if_pos h1, if_pos h1, e]
 ·rw [if_neg h1, if_neg h1]
  by_cases h2 : q < i * 6 + 6
  ·rw [if_pos (by omega), if_pos h2, if_pos h2]
  ·rw [if_neg (by omega), if_pos (by omega), if_neg h2, List.getElem?_take, if_pos (by omega), List.getElem?_drop]
   congr 1
   omega

theorem ins_rows {w w' : World} {S : Nat → Prop} {i : Nat} {c : Cap} {xs : List Cap} {cur curv : Array Value} {R news : List Value} (hi : i < xs.length) (hkeep : ∀ b, S b → w'.heap[b]? = w.heap[b]?)
  (h : ∀ (i : Nat) (x : Cap), xs[i]? = some x → ∀ (j : Nat) (a : AV), (eCap x)[j]? = some a → ∃ v, cur[i * 6 + j]? = some v ∧ R0 w S a v)
  (hv : ∀ (i : Nat) (x : Cap), [c][i]? = some x → ∀ (j : Nat) (a : AV), (eCap x)[j]? = some a → ∃ v, curv[i * 6 + j]? = some v ∧ R0 w S a v)
  (hn : news = curv.toList.take 6) (hR : InsAt i xs.length cur.toList news R) :
  ∀ (q : Nat) (row : Row), ((F.insAt i c xs).map eCap)[q]? = some row → row.length = 6 ∧ ∀ (j : Nat) (a : AV), row[j]? = some a → ∃ v, R.toArray[q * 6 + j]? = some v ∧ R0 w' S a v := by
 intro q row hq
 simp only [List.getElem?_map, Option.map_eq_some_iff] at hq
 obtain ⟨x, hx, rfl⟩ := hq
 refine ⟨enc_len x, fun j a hj => ?_⟩
 have hj6 : j < 6 := by have := (List.getElem?_eq_some_iff.1 hj).1; rw [enc_len] at this; exact this
 have hql : q < xs.length + 1 := by have := (List.getElem?_eq_some_iff.1 hx).1; rw [K.insAt_len (by omega)] at this; exact this
 have hRq := hR (q * 6 + j) (by omega)
 rw [List.getElem?_toArray, hRq]
 rcases Nat.lt_trichotomy q i with h1 | h1 | h1
 ·rw [K.insAt_lt (by omega) h1] at hx
  obtain ⟨v, hv1, hr⟩ := h q x hx j a hj
  exact ⟨v, by rw [if_pos (by omega)]; simpa using hv1, hr.mono hkeep (fun _ h => h)⟩
 ·subst h1
  rw [K.insAt_eq (by omega)] at hx
  cases hx
  obtain ⟨v, hv1, hr⟩ := hv 0 c rfl j a hj
  refine ⟨v, ?_, hr.mono hkeep (fun _ h => h)⟩
  rw [if_neg (by omega), if_pos (by omega), show q * 6 + j - q * 6 = j by omega, hn, List.getElem?_take, if_pos hj6]
  simpa using hv1
 ·rw [K.insAt_gt (by omega) h1] at hx
  obtain ⟨v, hv1, hr⟩ := h (q - 1) x hx j a hj
  refine ⟨v, ?_, hr.mono hkeep (fun _ h => h)⟩
  rw [if_neg (by omega), if_neg (by omega), show q * 6 + j - 6 = (q - 1) * 6 + j by omega]
  simpa using hv1

end M

end Go.Proofs.YtbeobbjiogbdlaaGreatDoor
