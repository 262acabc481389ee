/- What is proved here: ReadDate of the reference (no statement of the seat). -/
import Derived.Test.YtllagmepnmdeoaaDoorE79
namespace Go.Proofs.YtllagmepnmdeoaaDoor
open Go Go.RowKit
set_option linter.unusedVariables false
set_option linter.unusedSimpArgs false
set_option maxHeartbeats 1000000

theorem F.l24 {α : Type} (l : List α) (h : l.length = 24) : ∃ c0 c1 c2 c3 c4 c5 c6 c7 c8 c9 d0 d1 d2 d3 d4 d5 d6 d7 d8 d9 e0 e1 e2 e3 : α, l = [c0, c1, c2, c3, c4, c5, c6, c7, c8, c9, d0, d1, d2, d3, d4, d5, d6, d7, d8, d9, e0, e1, e2, e3] := by
  obtain ⟨c0, l0, h0⟩ := List.exists_cons_of_length_eq_add_one (l := l) (n := 23) h
  have g0 : l0.length = 23 := by rw [h0] at h; simpa using h
  obtain ⟨c1, l1, h1⟩ := List.exists_cons_of_length_eq_add_one (l := l0) (n := 22) g0
  have g1 : l1.length = 22 := by rw [h1] at g0; simpa using g0
  obtain ⟨c2, l2, h2⟩ := List.exists_cons_of_length_eq_add_one (l := l1) (n := 21) g1
  have g2 : l2.length = 21 := by rw [h2] at g1; simpa using g1
  obtain ⟨c3, l3, h3⟩ := List.exists_cons_of_length_eq_add_one (l := l2) (n := 20) g2
  have g3 : l3.length = 20 := by rw [h3] at g2; simpa using g2
  obtain ⟨c4, l4, h4⟩ := List.exists_cons_of_length_eq_add_one (l := l3) (n := 19) g3
  have g4 : l4.length = 19 := by rw [h4] at g3; simpa using g3
  obtain ⟨c5, l5, h5⟩ := List.exists_cons_of_length_eq_add_one (l := l4) (n := 18) g4
  have g5 : l5.length = 18 := by rw [h5] at g4; simpa using g4
  obtain ⟨c6, l6, h6⟩ := List.exists_cons_of_length_eq_add_one (l := l5) (n := 17) g5
  have g6 : l6.length = 17 := by rw [h6] at g5; simpa using g5
  obtain ⟨c7, l7, h7⟩ := List.exists_cons_of_length_eq_add_one (l := l6) (n := 16) g6
  have g7 : l7.length = 16 := by rw [h7] at g6; simpa using g6
  obtain ⟨c8, l8, h8⟩ := List.exists_cons_of_length_eq_add_one (l := l7) (n := 15) g7
  have g8 : l8.length = 15 := by rw [h8] at g7; simpa using g7
  obtain ⟨c9, l9, h9⟩ := List.exists_cons_of_length_eq_add_one (l := l8) (n := 14) g8
  have g9 : l9.length = 14 := by rw [h9] at g8; simpa using g8
  obtain ⟨d0, l10, h10⟩ := List.exists_cons_of_length_eq_add_one (l := l9) (n := 13) g9
  have g10 : l10.length = 13 := by rw [h10] at g9; simpa using g9
  obtain ⟨d1, l11, h11⟩ := List.exists_cons_of_length_eq_add_one (l := l10) (n := 12) g10
  have g11 : l11.length = 12 := by rw [h11] at g10; simpa using g10
  obtain ⟨d2, l12, h12⟩ := List.exists_cons_of_length_eq_add_one (l := l11) (n := 11) g11
  have g12 : l12.length = 11 := by rw [h12] at g11; simpa using g11
  obtain ⟨d3, l13, h13⟩ := List.exists_cons_of_length_eq_add_one (l := l12) (n := 10) g12
  have g13 : l13.length = 10 := by rw [h13] at g12; simpa using g12
  obtain ⟨d4, l14, h14⟩ := List.exists_cons_of_length_eq_add_one (l := l13) (n := 9) g13
  have g14 : l14.length = 9 := by rw [h14] at g13; simpa using g13
  obtain ⟨d5, l15, h15⟩ := List.exists_cons_of_length_eq_add_one (l := l14) (n := 8) g14
  have g15 : l15.length = 8 := by rw [h15] at g14; simpa using g14
  obtain ⟨d6, l16, h16⟩ := List.exists_cons_of_length_eq_add_one (l := l15) (n := 7) g15
  have g16 : l16.length = 7 := by rw [h16] at g15; simpa using g15
  obtain ⟨d7, l17, h17⟩ := List.exists_cons_of_length_eq_add_one (l := l16) (n := 6) g16
  have g17 : l17.length = 6 := by rw [h17] at g16; simpa using g16
  obtain ⟨d8, l18, h18⟩ := List.exists_cons_of_length_eq_add_one (l := l17) (n := 5) g17
  have g18 : l18.length = 5 := by rw [h18] at g17; simpa using g17
  obtain ⟨d9, l19, h19⟩ := List.exists_cons_of_length_eq_add_one (l := l18) (n := 4) g18
  have g19 : l19.length = 4 := by rw [h19] at g18; simpa using g18
  obtain ⟨e0, l20, h20⟩ := List.exists_cons_of_length_eq_add_one (l := l19) (n := 3) g19
  have g20 : l20.length = 3 := by rw [h20] at g19; simpa using g19
  obtain ⟨e1, l21, h21⟩ := List.exists_cons_of_length_eq_add_one (l := l20) (n := 2) g20
  have g21 : l21.length = 2 := by rw [h21] at g20; simpa using g20
  obtain ⟨e2, l22, h22⟩ := List.exists_cons_of_length_eq_add_one (l := l21) (n := 1) g21
  have g22 : l22.length = 1 := by rw [h22] at g21; simpa using g21
  obtain ⟨e3, l23, h23⟩ := List.exists_cons_of_length_eq_add_one (l := l22) (n := 0) g22
  have g23 : l23.length = 0 := by rw [h23] at g22; simpa using g22
  have e : l23 = [] := List.length_eq_zero_iff.1 g23
  exact ⟨c0, c1, c2, c3, c4, c5, c6, c7, c8, c9, d0, d1, d2, d3, d4, d5, d6, d7, d8, d9, e0, e1, e2, e3, by rw [h0, h1, h2, h3, h4, h5, h6, h7, h8, h9, h10, h11, h12, h13, h14, h15, h16, h17, h18, h19, h20, h21, h22, h23, e]⟩

theorem F.sub_at {s : ByteArray} {l : List UInt8} (h : F.bs s = l) (a b : Nat) : s.extract a b = ⟨⟨(l.drop a).take (b - a)⟩⟩ := by
  apply F.bsx
  rw [F.sub_bs, h]
  exact (F.bs_mk _).symm

theorem F.rdD_s {s : ByteArray} (h24 : s.size = 24) : F.rdD (F.dfP s) ⟨⟨[]⟩⟩ [] =
    bif F.dfA s then some [(F.dN s 0 4 : Int), (F.dN s 5 7 : Int), (F.dN s 8 10 : Int), (F.dN s 11 13 : Int), (F.dN s 14 16 : Int), (F.dN s 17 19 : Int), (F.dN s 20 23 : Int)] else none := by
  obtain ⟨c0, c1, c2, c3, c4, c5, c6, c7, c8, c9, d0, d1, d2, d3, d4, d5, d6, d7, d8, d9, e0, e1, e2, e3, hl⟩ := F.l24 (F.bs s) (by rw [F.bs_len, h24])
  unfold F.dN
  rw [F.sub_at hl, F.sub_at hl, F.sub_at hl, F.sub_at hl, F.sub_at hl, F.sub_at hl, F.sub_at hl]
  unfold F.dfA F.dfP
  rw [hl]
  exact F.rdD_24 c0 c1 c2 c3 c4 c5 c6 c7 c8 c9 d0 d1 d2 d3 d4 d5 d6 d7 d8 d9 e0 e1 e2 e3

theorem F.sub_of (y : Int) (h : 1970 ≤ y) : F.ydays y = F.ysum (y - 1970).toNat 1970 := by
  have := F.ysum_eq (y - 1970).toNat 1970 (by omega)
  rw [F.ydays_0, show (1970 : Int) + ((y - 1970).toNat : Nat) = y by omega] at this
  omega

namespace M


theorem evRDa (s : ByteArray) : (runF enRDt false Tryd.f41 [vS s]).val =
  bif (↑(ByteArray.size s) : Int) != (24 : Int) then some (AV.tup [(vI (0 : Int)), (vI (10 : Int))], []) else Option.bind (unenc stRpl1 (St.mk [(7, (vI (0 : Int))), (6, (vS (ByteArray.mk (Array.mk [])))), (5, (vS (ByteArray.mk (Array.mk [(48 : UInt8), (48 : UInt8), (48 : UInt8), (48 : UInt8), (45 : UInt8), (48 : UInt8), (48 : UInt8), (45 : UInt8), (48 : UInt8), (48 : UInt8), (84 : UInt8), (48 : UInt8), (48 : UInt8), (58 : UInt8), (48 : UInt8), (48 : UInt8), (58 : UInt8), (48 : UInt8), (48 : UInt8), (46 : UInt8), (48 : UInt8), (48 : UInt8), (48 : UInt8), (90 : UInt8)])))), (4, .own 4), (0, (vS s))] [(4, Blk.mk false 3 1 [])])) fun (z : ByteArray × List Int × ByteArray × Nat) => bif decide (ByteArray.size z.fst = (24 : Nat)) && decide (z.snd.snd.snd ≤ (24 : Nat)) && decide (ByteArray.size z.snd.snd.fst = F.runs z.snd.snd.snd) && List.all (F.bs z.snd.snd.fst) F.dgB && decide (List.length z.snd.fst ≤ z.snd.snd.snd) && true then bif match F.rdD (List.drop z.snd.snd.snd (F.dfP z.fst)) z.snd.snd.fst z.snd.fst with | some val => true | none => false then bif decide ((0 : Nat) < List.length (Blk.mk false 3 1 (List.map eI (match F.rdD (List.drop z.snd.snd.snd (F.dfP z.fst)) z.snd.snd.fst z.snd.fst with | some x => x | none => []))).rows) then Option.bind (unenc (List.map eI) (List.map eI (match F.rdD (List.drop z.snd.snd.snd (F.dfP z.fst)) z.snd.snd.fst z.snd.fst with | some x => x | none => []))) fun (z_1 : List Int) => bif decide ((0 : Nat) < List.length z_1) then bif !decide (List.getD z_1 (0 : Nat) (0 : Int) < (1970 : Int)) then bif decide ((1 : Nat) < List.length (Blk.mk false 3 1 (List.map eI (match F.rdD (List.drop z.snd.snd.snd (F.dfP z.fst)) z.snd.snd.fst z.snd.fst with | some x => x | none => []))).rows) then Option.bind (unenc (List.map eI) (List.map eI (match F.rdD (List.drop z.snd.snd.snd (F.dfP z.fst)) z.snd.snd.fst z.snd.fst with | some x => x | none => []))) fun (z_2 : List Int) => bif decide ((1 : Nat) < List.length z_2) then bif !decide (List.getD z_2 (1 : Nat) (0 : Int) < (1 : Int)) then bif decide ((1 : Nat) < List.length (Blk.mk false 3 1 (List.map eI (match F.rdD (List.drop z.snd.snd.snd (F.dfP z.fst)) z.snd.snd.fst z.snd.fst with | some x => x | none => []))).rows) then Option.bind (unenc (List.map eI) (List.map eI (match F.rdD (List.drop z.snd.snd.snd (F.dfP z.fst)) z.snd.snd.fst z.snd.fst with | some x => x | none => []))) fun (z_3 : List Int) => bif decide ((1 : Nat) < List.length z_3) then bif !decide ((12 : Int) < List.getD z_3 (1 : Nat) (0 : Int)) then bif decide ((2 : Nat) < List.length (Blk.mk false 3 1 (List.map eI (match F.rdD (List.drop z.snd.snd.snd (F.dfP z.fst)) z.snd.snd.fst z.snd.fst with | some x => x | none => []))).rows) then Option.bind (unenc (List.map eI) (List.map eI (match F.rdD (List.drop z.snd.snd.snd (F.dfP z.fst)) z.snd.snd.fst z.snd.fst with | some x => x | none => []))) fun (z_4 : List Int) => bif decide ((2 : Nat) < List.length z_4) then bif !decide (List.getD z_4 (2 : Nat) (0 : Int) < (1 : Int)) then bif decide ((2 : Nat) < List.length (Blk.mk false 3 1 (List.map eI (match F.rdD (List.drop z.snd.snd.snd (F.dfP z.fst)) z.snd.snd.fst z.snd.fst with | some x => x | none => []))).rows) then Option.bind (unenc (List.map eI) (List.map eI (match F.rdD (List.drop z.snd.snd.snd (F.dfP z.fst)) z.snd.snd.fst z.snd.fst with | some x => x | none => []))) fun (z_5 : List Int) => bif decide ((2 : Nat) < List.length z_5) then bif decide ((0 : Nat) < List.length (Blk.mk false 3 1 (List.map eI (match F.rdD (List.drop z.snd.snd.snd (F.dfP z.fst)) z.snd.snd.fst z.snd.fst with | some x => x | none => []))).rows) then Option.bind (unenc (List.map eI) (List.map eI (match F.rdD (List.drop z.snd.snd.snd (F.dfP z.fst)) z.snd.snd.fst z.snd.fst with | some x => x | none => []))) fun (z_6 : List Int) => bif decide ((0 : Nat) < List.length z_6) then bif decide ((1 : Nat) < List.length (Blk.mk false 3 1 (List.map eI (match F.rdD (List.drop z.snd.snd.snd (F.dfP z.fst)) z.snd.snd.fst z.snd.fst with | some x => x | none => []))).rows) then Option.bind (unenc (List.map eI) (List.map eI (match F.rdD (List.drop z.snd.snd.snd (F.dfP z.fst)) z.snd.snd.fst z.snd.fst with | some x => x | none => []))) fun (z_7 : List Int) => bif decide ((1 : Nat) < List.length z_7) then Option.bind (unenc encRDy [(vI (List.getD z_6 (0 : Nat) (0 : Int))), (vI (List.getD z_7 (1 : Nat) (0 : Int)))]) fun (z_8 : Int × Int) => bif decide ((0 : Int) ≤ z_8.fst) && decide (z_8.fst ≤ (100000 : Int)) then bif !decide (F.mdays z_8.fst z_8.snd < List.getD z_5 (2 : Nat) (0 : Int)) then bif decide ((3 : Nat) < List.length (Blk.mk false 3 1 (List.map eI (match F.rdD (List.drop z.snd.snd.snd (F.dfP z.fst)) z.snd.snd.fst z.snd.fst with | some x => x | none => []))).rows) then Option.bind (unenc (List.map eI) (List.map eI (match F.rdD (List.drop z.snd.snd.snd (F.dfP z.fst)) z.snd.snd.fst z.snd.fst with | some x => x | none => []))) fun (z_9 : List Int) => bif decide ((3 : Nat) < List.length z_9) then bif !decide ((23 : Int) < List.getD z_9 (3 : Nat) (0 : Int)) then bif decide ((4 : Nat) < List.length (Blk.mk false 3 1 (List.map eI (match F.rdD (List.drop z.snd.snd.snd (F.dfP z.fst)) z.snd.snd.fst z.snd.fst with | some x => x | none => []))).rows) then Option.bind (unenc (List.map eI) (List.map eI (match F.rdD (List.drop z.snd.snd.snd (F.dfP z.fst)) z.snd.snd.fst z.snd.fst with | some x => x | none => []))) fun (z_10 : List Int) => bif decide ((4 : Nat) < List.length z_10) then bif !decide ((59 : Int) < List.getD z_10 (4 : Nat) (0 : Int)) then bif decide ((5 : Nat) < List.length (Blk.mk false 3 1 (List.map eI (match F.rdD (List.drop z.snd.snd.snd (F.dfP z.fst)) z.snd.snd.fst z.snd.fst with | some x => x | none => []))).rows) then Option.bind (unenc (List.map eI) (List.map eI (match F.rdD (List.drop z.snd.snd.snd (F.dfP z.fst)) z.snd.snd.fst z.snd.fst with | some x => x | none => []))) fun (z_11 : List Int) => bif decide ((5 : Nat) < List.length z_11) then bif decide ((59 : Int) < List.getD z_11 (5 : Nat) (0 : Int)) then some (AV.tup [(vI (0 : Int)), (vI (10 : Int))], []) else bif decide ((2 : Nat) < List.length (Blk.mk false 3 1 (List.map eI (match F.rdD (List.drop z.snd.snd.snd (F.dfP z.fst)) z.snd.snd.fst z.snd.fst with | some x => x | none => []))).rows) then Option.bind (unenc (List.map eI) (List.map eI (match F.rdD (List.drop z.snd.snd.snd (F.dfP z.fst)) z.snd.snd.fst z.snd.fst with | some x => x | none => []))) fun (z_12 : List Int) => bif decide ((2 : Nat) < List.length z_12) then Option.bind (unenc stRd21 (St.mk [(11, (vI (1970 : Int))), (10, (vI (IntKind.wrap IntKind.i64 (List.getD z_12 (2 : Nat) (0 : Int) - (1 : Int))))), (4, .own 4)] [(4, Blk.mk false 3 1 (List.map eI (match F.rdD (List.drop z.snd.snd.snd (F.dfP z.fst)) z.snd.snd.fst z.snd.fst with | some x => x | none => [])))])) fun (z : List Int × Int × Int) => bif decide ((2 : Nat) ≤ List.length z.fst) && decide (List.getD z.fst (0 : Nat) (0 : Int) ≤ (9999 : Int)) && decide ((1970 : Int) ≤ z.snd.snd) && decide (z.snd.snd ≤ (10000 : Int)) && decide ((0 : Int) ≤ z.snd.fst) && decide (z.snd.fst ≤ (1000 : Int)) && true then Option.bind (unenc stRd31 (St.mk [(12, (vI (1 : Int))), (10, (vI (z.snd.fst + F.ysum (Int.toNat (List.getD z.fst (0 : Nat) (0 : Int) - z.snd.snd)) z.snd.snd))), (4, .own 4)] [(4, Blk.mk false 3 1 (List.map eI z.fst))])) fun (z : List Int × Int × Int) => bif decide ((2 : Nat) ≤ List.length z.fst) && decide ((0 : Int) ≤ List.getD z.fst (0 : Nat) (0 : Int)) && decide (List.getD z.fst (0 : Nat) (0 : Int) ≤ (9999 : Int)) && decide (List.getD z.fst (1 : Nat) (0 : Int) ≤ (12 : Int)) && decide ((1 : Int) ≤ z.snd.snd) && decide (z.snd.snd ≤ (13 : Int)) && decide ((0 : Int) ≤ z.snd.fst) && decide (z.snd.fst ≤ (100000000 : Int)) && true then bif decide ((3 : Nat) < List.length (Blk.mk false 3 1 (List.map eI z.fst)).rows) then Option.bind (unenc (List.map eI) (List.map eI z.fst)) fun (z_13 : List Int) => bif decide ((3 : Nat) < List.length z_13) then bif decide ((4 : Nat) < List.length (Blk.mk false 3 1 (List.map eI z.fst)).rows) then Option.bind (unenc (List.map eI) (List.map eI z.fst)) fun (z_14 : List Int) => bif decide ((4 : Nat) < List.length z_14) then bif decide ((5 : Nat) < List.length (Blk.mk false 3 1 (List.map eI z.fst)).rows) then Option.bind (unenc (List.map eI) (List.map eI z.fst)) fun (z_15 : List Int) => bif decide ((5 : Nat) < List.length z_15) then bif decide ((6 : Nat) < List.length (Blk.mk false 3 1 (List.map eI z.fst)).rows) then Option.bind (unenc (List.map eI) (List.map eI z.fst)) fun (z_16 : List Int) => bif decide ((6 : Nat) < List.length z_16) then some (AV.tup [(vI (IntKind.wrap IntKind.i64 (IntKind.wrap IntKind.i64 (IntKind.wrap IntKind.i64 (IntKind.wrap IntKind.i64 (IntKind.wrap IntKind.i64 ((z.snd.fst + F.msum (List.getD z.fst (0 : Nat) (0 : Int)) (Int.toNat (List.getD z.fst (1 : Nat) (0 : Int) - z.snd.snd)) (Int.toNat z.snd.snd)) * (86400000 : Int)) + IntKind.wrap IntKind.i64 (List.getD z_13 (3 : Nat) (0 : Int) * (3600000 : Int))) + IntKind.wrap IntKind.i64 (List.getD z_14 (4 : Nat) (0 : Int) * (60000 : Int))) + IntKind.wrap IntKind.i64 (List.getD z_15 (5 : Nat) (0 : Int) * (1000 : Int))) + List.getD z_16 (6 : Nat) (0 : Int)))), (vI (0 : Int))], []) else none else none else none else none else none else none else none else none else none else none else none else none else none else none else some (AV.tup [(vI (0 : Int)), (vI (10 : Int))], []) else none else none else some (AV.tup [(vI (0 : Int)), (vI (10 : Int))], []) else none else none else some (AV.tup [(vI (0 : Int)), (vI (10 : Int))], []) else none else none else none else none else none else none else none else some (AV.tup [(vI (0 : Int)), (vI (10 : Int))], []) else none else none else some (AV.tup [(vI (0 : Int)), (vI (10 : Int))], []) else none else none else some (AV.tup [(vI (0 : Int)), (vI (10 : Int))], []) else none else none else some (AV.tup [(vI (0 : Int)), (vI (10 : Int))], []) else none else none else some (AV.tup [(vI (0 : Int)), (vI (10 : Int))], []) else none := (runFR_val).symm.trans (by kernel_rfl)

def encRDa1 (s : ByteArray) : List AV := [vS s]

def encRDa (a : ByteArray) : List AV := encRDa1 a

theorem encRDa_inj (a a' : ByteArray) (h : encRDa a = encRDa a') : a = a' := by
  simp only [encRDa, encRDa1] at h
  try simp [strs_inj, ints_inj, ents_inj, eEnt_iff, eLst_iff, eSnds_inj, eStrms_inj] at h
  grind

theorem unRDa (s : ByteArray) : unenc encRDa ([(vS s)]) = some (s) := unenc_of encRDa_inj (s) rfl

def resRDa1 (s : ByteArray) : AV × Heap := (.tup [vI (F.dtV s), vI (bif F.dtOk s then 0 else 10)], [])

def preRDa1 (s : ByteArray) : Bool := true

noncomputable def oRDa : Orc := orc 41 true encRDa (fun a => preRDa1 a) fun a => resRDa1 a

theorem okRDa : OrcOK Tryd.prog noG oRDa := by
  refine mk_ok Tryd.f41 (keep := false) (by kernel_rfl) (by kernel_rfl) enRDt_ok mixed (three_loops (x0 := loopN Tryd.f41 0) (x1 := loopN Tryd.f41 1) (x2 := loopN Tryd.f41 2) (by kernel_rfl) (lpo_ok ?_) (lpo_ok ?_) (lpo_ok ?_)) (by first | exact fun _ _ => ⟨rfl, rfl⟩ | (intro h; cases h)) ?_
  · rintro ⟨s, ns, now, k⟩ hp
    exact lpRpl_ok s ns now k hp
  · rintro ⟨ns, d, y⟩ hp
    exact lpRd2_ok ns d y hp
  · rintro ⟨ns, d, m⟩ hp
    exact lpRd3_ok ns d m hp
  rintro s hpre hok
  show (runF enRDt false _ (encRDa1 _)).val = some (resRDa1 _)
  unfold encRDa1 resRDa1
  rw [evRDa]
  simp only [unAto, unRDy, unRLep, preAto1, preRDy1, preRLep1, unstRpl, unstRd2, unstRd3, unstRd20, unstRd30, prlRpl, prlRd2, prlRd3, outRpl, outRd2, outRd3, etaEnt, etaLst, etaSnd, etaStrm, etaMas, Option.bind_some, List.length_map, unStrs, unInts, unBools, unEnts, unItms, unTrns, cond_true, cond_false, Bool.and_true, Bool.true_and, List.drop_zero, Nat.zero_le, decide_true]
  have un0 : unenc stRpl1 (St.mk [(7, (vI (0 : Int))), (6, (vS ⟨⟨[]⟩⟩)), (5, (vS ⟨⟨[48, 48, 48, 48, 45, 48, 48, 45, 48, 48, 84, 48, 48, 58, 48, 48, 58, 48, 48, 46, 48, 48, 48, 90]⟩⟩)), (4, .own 4), (0, (vS s))] [(4, Blk.mk false 3 1 [])]) = some (s, [], ⟨⟨[]⟩⟩, 0) := unenc_of stRpl_inj (s, [], ⟨⟨[]⟩⟩, 0) rfl
  rw [un0]
  by_cases h24 : s.size = 24
  rotate_left
  · have e : ((s.size : Int) != 24) = true := by simp; omega
    have hk : F.dtOk s = false := by simp only [F.dtOk, decide_eq_false h24, Bool.false_and]
    simp only [F.dtV, e, hk, cond_true, cond_false]
  have e : ((s.size : Int) != 24) = false := by rw [h24]; rfl
  have r0 : F.runs 0 = 0 := rfl
  have r1 : (F.bs (⟨⟨[]⟩⟩ : ByteArray)).all F.dgB = true := rfl
  have r2 : (⟨⟨[]⟩⟩ : ByteArray).size = 0 := rfl
  rw [e]
  simp only [Option.bind_some, cond_false, List.drop_zero, r0, r1, r2, decide_eq_true h24, List.length_nil, Nat.le_refl, decide_true, Bool.and_self, cond_true, Nat.zero_le]
  rw [F.rdD_s h24]
  cases hd : F.dfA s
  · have hk : F.dtOk s = false := by simp only [F.dtOk, hd, Bool.and_false, Bool.false_and]
    simp only [F.dtV, hk, cond_true, cond_false]
  have hk : F.dtOk s = F.dtB (F.dN s 0 4) (F.dN s 5 7) (F.dN s 8 10) (F.dN s 11 13) (F.dN s 14 16) (F.dN s 17 19) := by simp only [F.dtOk, hd, decide_eq_true h24, Bool.true_and]
  have b1 : F.dN s 0 4 < 10 ^ 4 := F.dv_b (k := 4) (by rw [F.sub_sz h24 (by decide)]; decide) (F.sub_dg h24 hd (a := 0) (b := 4) (by decide) (by decide))
  have b2 : F.dN s 5 7 < 10 ^ 2 := F.dv_b (k := 2) (by rw [F.sub_sz h24 (by decide)]; decide) (F.sub_dg h24 hd (a := 5) (b := 7) (by decide) (by decide))
  have b3 : F.dN s 8 10 < 10 ^ 2 := F.dv_b (k := 2) (by rw [F.sub_sz h24 (by decide)]; decide) (F.sub_dg h24 hd (a := 8) (b := 10) (by decide) (by decide))
  have b4 : F.dN s 11 13 < 10 ^ 2 := F.dv_b (k := 2) (by rw [F.sub_sz h24 (by decide)]; decide) (F.sub_dg h24 hd (a := 11) (b := 13) (by decide) (by decide))
  have b5 : F.dN s 14 16 < 10 ^ 2 := F.dv_b (k := 2) (by rw [F.sub_sz h24 (by decide)]; decide) (F.sub_dg h24 hd (a := 14) (b := 16) (by decide) (by decide))
  have b6 : F.dN s 17 19 < 10 ^ 2 := F.dv_b (k := 2) (by rw [F.sub_sz h24 (by decide)]; decide) (F.sub_dg h24 hd (a := 17) (b := 19) (by decide) (by decide))
  have b7 : F.dN s 20 23 < 10 ^ 3 := F.dv_b (k := 3) (by rw [F.sub_sz h24 (by decide)]; decide) (F.sub_dg h24 hd (a := 20) (b := 23) (by decide) (by decide))
  simp only [F.dtV, hk]
  clear hk un0
  generalize F.dN s 0 4 = y at *
  generalize F.dN s 5 7 = m at *
  generalize F.dN s 8 10 = d at *
  generalize F.dN s 11 13 = h at *
  generalize F.dN s 14 16 = i at *
  generalize F.dN s 17 19 = g at *
  generalize F.dN s 20 23 = w at *
  simp only [cond_true, List.length_cons, List.length_nil, List.getD_cons_zero, List.getD_cons_succ, Nat.reduceAdd, Nat.zero_add, Nat.reduceLT, decide_true, Nat.lt_irrefl]
  have y1 : decide ((0 : Int) ≤ (y : Int)) = true := decide_eq_true (by omega)
  have y2 : decide ((y : Int) ≤ 100000) = true := decide_eq_true (by omega)
  have y3 : decide ((y : Int) ≤ 9999) = true := decide_eq_true (by omega)
  unfold F.dtB F.out
  cases q1 : decide ((y : Int) < 1970)
  rotate_left
  · rfl
  cases q2 : decide ((m : Int) < 1)
  rotate_left
  · rfl
  cases q3 : decide ((12 : Int) < (m : Int))
  rotate_left
  · rfl
  cases q4 : decide ((d : Int) < 1)
  rotate_left
  · rfl
  rw [y1, y2, y3]
  cases q5 : decide (F.mdays (y : Int) (m : Int) < (d : Int))
  rotate_left
  · rfl
  cases q6 : decide ((23 : Int) < (h : Int))
  rotate_left
  · rfl
  cases q7 : decide ((59 : Int) < (i : Int))
  rotate_left
  · rfl
  cases q8 : decide ((59 : Int) < (g : Int))
  rotate_left
  · rfl
  have q1' := of_decide_eq_false q1
  have q2' := of_decide_eq_false q2
  have q3' := of_decide_eq_false q3
  have q4' := of_decide_eq_false q4
  have hy := F.ydays_b (y := y) (by omega) (by omega)
  have hm := F.msum_b y (m - 1) 1
  rw [← F.sub_of y (by omega), show ((m : Int) - 1).toNat = m - 1 by omega, show Int.toNat 1 = 1 from rfl]
  generalize F.ydays y = Y at *
  generalize F.msum y (m - 1) 1 = M at *
  have w1 : IntKind.i64.wrap ((d : Int) - 1) = (d : Int) - 1 := wrap_id (by omega) (by omega)
  rw [w1]
  rw [decide_eq_true (by omega : (0 : Int) ≤ (d : Int) - 1), decide_eq_true (by omega : (d : Int) - 1 ≤ 1000), decide_eq_true (by omega : (m : Int) ≤ 12), decide_eq_true (by omega : (0 : Int) ≤ (d : Int) - 1 + Y), decide_eq_true (by omega : (d : Int) - 1 + Y ≤ 100000000)]
  have w2 : IntKind.i64.wrap (((d : Int) - 1 + Y + M) * 86400000) = ((d : Int) - 1 + Y + M) * 86400000 := wrap_id (by omega) (by omega)
  have w3 : IntKind.i64.wrap ((h : Int) * 3600000) = (h : Int) * 3600000 := wrap_id (by omega) (by omega)
  have w4 : IntKind.i64.wrap ((i : Int) * 60000) = (i : Int) * 60000 := wrap_id (by omega) (by omega)
  have w5 : IntKind.i64.wrap ((g : Int) * 1000) = (g : Int) * 1000 := wrap_id (by omega) (by omega)
  have w6 : IntKind.i64.wrap (((d : Int) - 1 + Y + M) * 86400000 + (h : Int) * 3600000) = ((d : Int) - 1 + Y + M) * 86400000 + (h : Int) * 3600000 := wrap_id (by omega) (by omega)
  have w7 : IntKind.i64.wrap (((d : Int) - 1 + Y + M) * 86400000 + (h : Int) * 3600000 + (i : Int) * 60000) = ((d : Int) - 1 + Y + M) * 86400000 + (h : Int) * 3600000 + (i : Int) * 60000 := wrap_id (by omega) (by omega)
  have w8 : IntKind.i64.wrap (((d : Int) - 1 + Y + M) * 86400000 + (h : Int) * 3600000 + (i : Int) * 60000 + (g : Int) * 1000) = ((d : Int) - 1 + Y + M) * 86400000 + (h : Int) * 3600000 + (i : Int) * 60000 + (g : Int) * 1000 := wrap_id (by omega) (by omega)
  have w9 : IntKind.i64.wrap (((d : Int) - 1 + Y + M) * 86400000 + (h : Int) * 3600000 + (i : Int) * 60000 + (g : Int) * 1000 + (w : Int)) = ((d : Int) - 1 + Y + M) * 86400000 + (h : Int) * 3600000 + (i : Int) * 60000 + (g : Int) * 1000 + (w : Int) := wrap_id (by omega) (by omega)
  rw [w2, w3, w4, w5, w6, w7, w8, w9, show (d : Int) - 1 + Y + M = Y + (d : Int) - 1 + M by omega]
  rfl


end M
end Go.Proofs.YtllagmepnmdeoaaDoor
