/- What is proved here: ReadDate of the program (no statement of the seat). -/
import Derived.Test.YtgkjfochkhiojaaDoorE75
namespace Go.Proofs.YtgkjfochkhiojaaDoor
open Go Go.RowKit
set_option linter.unusedVariables false
set_option linter.unusedSimpArgs false

def F.dN (s : ByteArray) (a b : Nat) : Nat := F.dv (s.extract a b)

/-- The numbers of a date are in their bounds. -/
def F.dtB (y m d h i e : Int) : Bool := !(decide (y < 1970) || F.out m 1 12 || F.out d 1 (F.mdays y m) || decide (23 < h) || decide (59 < i) || decide (59 < e))

def F.dtOk (s : ByteArray) : Bool := decide (s.size = 24) && F.dfA s && F.dtB (F.dN s 0 4) (F.dN s 5 7) (F.dN s 8 10) (F.dN s 11 13) (F.dN s 14 16) (F.dN s 17 19)

def F.dtV (s : ByteArray) : Int := bif F.dtOk s then (F.ydays (F.dN s 0 4) + (F.dN s 8 10 : Nat) - 1 + F.msum (F.dN s 0 4) (F.dN s 5 7 - 1) 1) * 86400000 + (F.dN s 11 13 : Nat) * 3600000 + (F.dN s 14 16 : Nat) * 60000 + (F.dN s 17 19 : Nat) * 1000 + (F.dN s 20 23 : Nat) else 0

theorem F.sub_bs (s : ByteArray) (a b : Nat) : F.bs (s.extract a b) = ((F.bs s).drop a).take (b - a) := Lib.extract_data s a b

theorem F.sub_dg {s : ByteArray} (h24 : s.size = 24) (h : F.dfA s = true) {a b : Nat} (hb : b ≤ 24) (hf : ∀ i : Fin 24, a ≤ i.val → i.val < b → (F.bs F.dForm)[i.val]? = some 48) : (F.bs (s.extract a b)).all F.dgB = true := by
  rw [F.sub_bs]
  refine List.all_eq_true.2 fun y hy => ?_
  obtain ⟨k, hk⟩ := List.mem_iff_getElem?.1 hy
  rw [List.getElem?_take] at hk
  split at hk
  · rename_i hlt
    rw [List.getElem?_drop] at hk
    have hff := hf ⟨a + k, by omega⟩ (by simp only; omega) (by simp only; omega)
    have hz : (F.dfP s)[a + k]? = some (y, 48) := List.getElem?_zip_eq_some.2 ⟨hk, hff⟩
    have := List.all_eq_true.1 h _ (List.mem_of_getElem? hz)
    simpa [F.dfB] using this
  · cases hk

theorem F.sub_sz {s : ByteArray} (h24 : s.size = 24) {a b : Nat} (hb : b ≤ 24) : (s.extract a b).size = b - a := by
  rw [ByteArray.size_extract]; omega

theorem F.dv_b {s : ByteArray} {k : Nat} (h : s.size ≤ k) (ha : (F.bs s).all F.dgB = true) : F.dv s < 10 ^ k := by
  have := F.dvA_lt _ ha
  rw [F.bs_len] at this
  exact Nat.lt_of_lt_of_le this (Nat.pow_le_pow_right (by decide) h)

theorem F.ydays_b {y : Int} (h1 : 1970 ≤ y) (h2 : y ≤ 9999) : 0 ≤ F.ydays y ∧ F.ydays y ≤ 4000000 := by
  unfold F.ydays
  rw [Int.tdiv_eq_ediv_of_nonneg (by omega), Int.tdiv_eq_ediv_of_nonneg (by omega), Int.tdiv_eq_ediv_of_nonneg (by omega)]
  omega

theorem F.msum_b (y : Int) : ∀ (n j : Nat), 0 ≤ F.msum y n j ∧ F.msum y n j ≤ 31 * n
  | 0, j => by simp [F.msum]
  | n + 1, j => by
    have h1 := F.mdays_b y j
    have h2 := F.msum_b y n (j + 1)
    rw [F.msum]
    omega

set_option maxHeartbeats 1000000

namespace M


theorem evDa (s : ByteArray) : (runF enDa false Tryd.f59 [vS s]).val =
  bif (↑(ByteArray.size s) : Int) != (24 : Int) then some (AV.tup [(vI (0 : Int)), (vI (10 : Int))], []) else Option.bind (unenc stDa11 (St.mk [(18, (vI (0 : Int))), (17,
  (vI (↑(ByteArray.size s) : Int))), (0, (vS s))] [])) fun (z : ByteArray × Nat) => bif decide (ByteArray.size z.fst = (24 : Nat)) && decide (z.snd ≤ (24 : Nat)) && true
  then bif List.all (List.drop z.snd (F.dfP z.fst)) fun (p : UInt8 × UInt8) => F.dfB p.fst p.snd then bif Nat.ble (4 : Nat) (ByteArray.size z.fst) then Option.bind (unenc
  encTnu [(vS (ByteArray.extract z.fst (0 : Nat) (4 : Nat)))]) fun (z_1 : ByteArray) => bif decide (ByteArray.size z_1 ≤ (18 : Nat)) && List.all (F.bs z_1) F.dgB then bif
  Nat.ble (7 : Nat) (ByteArray.size z.fst) then Option.bind (unenc encTnu [(vS (ByteArray.extract z.fst (5 : Nat) (7 : Nat)))]) fun (z_2 : ByteArray) => bif decide
  (ByteArray.size z_2 ≤ (18 : Nat)) && List.all (F.bs z_2) F.dgB then bif Nat.ble (10 : Nat) (ByteArray.size z.fst) then Option.bind (unenc encTnu [(vS (ByteArray.extract
  z.fst (8 : Nat) (10 : Nat)))]) fun (z_3 : ByteArray) => bif decide (ByteArray.size z_3 ≤ (18 : Nat)) && List.all (F.bs z_3) F.dgB then bif Nat.ble (13 : Nat)
  (ByteArray.size z.fst) then Option.bind (unenc encTnu [(vS (ByteArray.extract z.fst (11 : Nat) (13 : Nat)))]) fun (z_4 : ByteArray) => bif decide (ByteArray.size z_4 ≤ (18
  : Nat)) && List.all (F.bs z_4) F.dgB then bif Nat.ble (16 : Nat) (ByteArray.size z.fst) then Option.bind (unenc encTnu [(vS (ByteArray.extract z.fst (14 : Nat) (16 :
  Nat)))]) fun (z_5 : ByteArray) => bif decide (ByteArray.size z_5 ≤ (18 : Nat)) && List.all (F.bs z_5) F.dgB then bif Nat.ble (19 : Nat) (ByteArray.size z.fst) then
  Option.bind (unenc encTnu [(vS (ByteArray.extract z.fst (17 : Nat) (19 : Nat)))]) fun (z_6 : ByteArray) => bif decide (ByteArray.size z_6 ≤ (18 : Nat)) && List.all (F.bs
  z_6) F.dgB then bif !decide ((↑(F.dv z_1) : Int) < (1970 : Int)) then Option.bind (unenc encOut [(vI (↑(F.dv z_2) : Int)), (vI (1 : Int)), (vI (12 : Int))]) fun (z_7 : Int
  × Int × Int) => bif !F.out z_7.fst z_7.snd.fst z_7.snd.snd then Option.bind (unenc encMdy [(vI (↑(F.dv z_1) : Int)), (vI (↑(F.dv z_2) : Int))]) fun (z_8 : Int × Int) =>
  bif decide ((0 : Int) ≤ z_8.fst) && decide (z_8.fst ≤ (100000 : Int)) then Option.bind (unenc encOut [(vI (↑(F.dv z_3) : Int)), (vI (1 : Int)), (vI (F.mdays z_8.fst
  z_8.snd))]) fun (z_9 : Int × Int × Int) => bif bif bif bif F.out z_9.fst z_9.snd.fst z_9.snd.snd then true else decide ((23 : Int) < (↑(F.dv z_4) : Int)) then true else
  decide ((59 : Int) < (↑(F.dv z_5) : Int)) then true else decide ((59 : Int) < (↑(F.dv z_6) : Int)) then some (AV.tup [(vI (0 : Int)), (vI (10 : Int))], []) else
  Option.bind (unenc encYdy [(vI (↑(F.dv z_1) : Int))]) fun (z_10 : Int) => bif decide ((1970 : Int) ≤ z_10) && decide (z_10 ≤ (9999 : Int)) then Option.bind (unenc stDa21
  (St.mk [(12, (vI (1 : Int))), (11, (vI (IntKind.wrap IntKind.i64 (IntKind.wrap IntKind.i64 (F.ydays z_10 + (↑(F.dv z_3) : Int)) - (1 : Int))))), (10, (vI (↑(F.dv z_6) :
  Int))), (9, (vI (↑(F.dv z_5) : Int))), (8, (vI (↑(F.dv z_4) : Int))), (6, (vI (↑(F.dv z_2) : Int))), (5, (vI (↑(F.dv z_1) : Int))), (0, (vS z.fst))] [])) fun (z :
  ByteArray × Int × Nat × Int × Int × Int × Int × Nat) => bif decide ((0 : Int) ≤ z.snd.fst) && decide (z.snd.fst ≤ (100000 : Int)) && decide (z.snd.snd.fst ≤ (12 : Nat)) &&
  decide (z.snd.snd.snd.snd.snd.snd.snd ≤ (12 : Nat)) && decide ((0 : Int) ≤ z.snd.snd.snd.snd.snd.snd.fst) && decide (z.snd.snd.snd.snd.snd.snd.fst ≤ (100000000 : Int)) &&
  true then bif Nat.ble (23 : Nat) (ByteArray.size z.fst) then Option.bind (unenc encTnu [(vS (ByteArray.extract z.fst (20 : Nat) (23 : Nat)))]) fun (z_11 : ByteArray) =>
  bif decide (ByteArray.size z_11 ≤ (18 : Nat)) && List.all (F.bs z_11) F.dgB then some (AV.tup [(vI (IntKind.wrap IntKind.i64 (IntKind.wrap IntKind.i64 (IntKind.wrap
  IntKind.i64 (IntKind.wrap IntKind.i64 (IntKind.wrap IntKind.i64 ((z.snd.snd.snd.snd.snd.snd.fst + F.msum z.snd.fst (z.snd.snd.fst - z.snd.snd.snd.snd.snd.snd.snd)
  z.snd.snd.snd.snd.snd.snd.snd) * (86400000 : Int)) + IntKind.wrap IntKind.i64 (z.snd.snd.snd.fst * (3600000 : Int))) + IntKind.wrap IntKind.i64 (z.snd.snd.snd.snd.fst *
  (60000 : Int))) + IntKind.wrap IntKind.i64 (z.snd.snd.snd.snd.snd.fst * (1000 : Int))) + (↑(F.dv z_11) : Int)))), (vI (0 : Int))], []) else none else none else none else
  none else none else some (AV.tup [(vI (0 : Int)), (vI (10 : Int))], []) else some (AV.tup [(vI (0 : Int)), (vI (10 : Int))], []) else none else none else none else none
  else none else none else none else none else none else none else none else none else some (AV.tup [(vI (0 : Int)), (vI (10 : Int))], []) else none := (runFR_val).symm.trans (by kernel_rfl)

def encDa1 (s : ByteArray) : List AV := [vS s]

def encDa (a : ByteArray) : List AV := encDa1 a

theorem encDa_inj (a a' : ByteArray) (h : encDa a = encDa a') : a = a' := by
  simp only [encDa, encDa1] at h
  try simp [strs_inj, ints_inj, ents_inj, eEnt_iff, eLst_iff, eSnds_inj, eStrms_inj] at h
  grind

theorem unDa (s : ByteArray) : unenc encDa ([(vS s)]) = some (s) := unenc_of encDa_inj (s) rfl

def resDa1 (s : ByteArray) : AV × Heap := (.tup [vI (F.dtV s), vI (bif F.dtOk s then 0 else 10)], [])

def preDa1 (s : ByteArray) : Bool := true

noncomputable def oDa : Orc := orc 59 true encDa (fun a => preDa1 a) fun a => resDa1 a

theorem okDa : OrcOK Tryd.prog noG oDa := by
  refine mk_ok Tryd.f59 (keep := false) (by kernel_rfl) (by kernel_rfl) enDa_ok mixed (two_loops (x0 := loopN Tryd.f59 0) (x1 := loopN Tryd.f59 1) (by kernel_rfl) (lpo_ok ?_) (lpo_ok ?_)) (by first | exact fun _ _ => ⟨rfl, rfl⟩ | (intro h; cases h)) ?_
  · rintro ⟨s, k⟩ hp
    exact lpDa1_ok s k hp
  · rintro ⟨s, y, m, h, mi, se, d, j⟩ hp
    exact lpDa2_ok s y m h mi se d j hp
  rintro s hpre hok
  show (runF enDa false _ (encDa1 _)).val = some (resDa1 _)
  unfold encDa1 resDa1
  rw [evDa]
  simp only [unDigit, unMdy, unYdy, unOut, unTnu, preDigit1, preMdy1, preYdy1, preOut1, preTnu1, unstDa1, unstDa2, unstDa10, unstDa20, prlDa1, prlDa2, outDa1, outDa2, etaEnt, etaLst, etaSnd, etaStrm, etaMas, Option.bind_some, List.length_map, unStrs, unInts, unBools, unEnts, unItms, unTrns, cond_true, cond_false, Bool.and_true, Bool.true_and, List.drop_zero, Nat.zero_le, decide_true]
  by_cases h24 : s.size = 24
  rotate_left
  · have e : ((s.size : Int) != 24) = true := by simp; omega
    have hk : F.dtOk s = false := by simp only [F.dtOk, decide_eq_false h24, Bool.false_and]
    simp only [F.dtV, e, hk, cond_true, cond_false]
  have e : ((s.size : Int) != 24) = false := by rw [h24]; rfl
  have hA : ((F.dfP s).all fun p => F.dfB p.1 p.2) = F.dfA s := rfl
  rw [e, hA, decide_eq_true h24]
  cases hd : F.dfA s
  · have hk : F.dtOk s = false := by simp only [F.dtOk, hd, Bool.and_false, Bool.false_and]
    simp only [F.dtV, hk, cond_true, cond_false]
  have hk : F.dtOk s = F.dtB (F.dN s 0 4) (F.dN s 5 7) (F.dN s 8 10) (F.dN s 11 13) (F.dN s 14 16) (F.dN s 17 19) := by simp only [F.dtOk, hd, decide_eq_true h24, Bool.true_and]
  have d1 := F.sub_dg h24 hd (a := 0) (b := 4) (by decide) (by decide)
  have d2 := F.sub_dg h24 hd (a := 5) (b := 7) (by decide) (by decide)
  have d3 := F.sub_dg h24 hd (a := 8) (b := 10) (by decide) (by decide)
  have d4 := F.sub_dg h24 hd (a := 11) (b := 13) (by decide) (by decide)
  have d5 := F.sub_dg h24 hd (a := 14) (b := 16) (by decide) (by decide)
  have d6 := F.sub_dg h24 hd (a := 17) (b := 19) (by decide) (by decide)
  have d7 := F.sub_dg h24 hd (a := 20) (b := 23) (by decide) (by decide)
  have z1 : (s.extract 0 4).size = 4 := F.sub_sz h24 (by decide)
  have z2 : (s.extract 5 7).size = 2 := F.sub_sz h24 (by decide)
  have z3 : (s.extract 8 10).size = 2 := F.sub_sz h24 (by decide)
  have z4 : (s.extract 11 13).size = 2 := F.sub_sz h24 (by decide)
  have z5 : (s.extract 14 16).size = 2 := F.sub_sz h24 (by decide)
  have z6 : (s.extract 17 19).size = 2 := F.sub_sz h24 (by decide)
  have z7 : (s.extract 20 23).size = 3 := F.sub_sz h24 (by decide)
  have b1 := F.dv_b (k := 4) (by omega) d1
  have b2 := F.dv_b (k := 2) (by omega) d2
  have b3 := F.dv_b (k := 2) (by omega) d3
  have b4 := F.dv_b (k := 2) (by omega) d4
  have b5 := F.dv_b (k := 2) (by omega) d5
  have b6 := F.dv_b (k := 2) (by omega) d6
  have b7 := F.dv_b (k := 3) (by omega) d7
  have v1 : decide ((4 : Nat) ≤ 18) = true := rfl
  have v2 : decide ((2 : Nat) ≤ 18) = true := rfl
  have v3 : decide ((3 : Nat) ≤ 18) = true := rfl
  have n1 : Nat.ble 4 24 = true := rfl
  have n2 : Nat.ble 7 24 = true := rfl
  have n3 : Nat.ble 10 24 = true := rfl
  have n4 : Nat.ble 13 24 = true := rfl
  have n5 : Nat.ble 16 24 = true := rfl
  have n6 : Nat.ble 19 24 = true := rfl
  have n7 : Nat.ble 23 24 = true := rfl
  simp only [z1, z2, z3, z4, z5, z6, z7, d1, d2, d3, d4, d5, d6, d7, h24, v1, v2, v3, n1, n2, n3, n4, n5, n6, n7, cond_true, cond_false, Bool.and_self, F.dtV, hk, F.dN]
  clear hk
  generalize F.dv (s.extract 0 4) = y at *
  generalize F.dv (s.extract 5 7) = m at *
  generalize F.dv (s.extract 8 10) = d at *
  generalize F.dv (s.extract 11 13) = h at *
  generalize F.dv (s.extract 14 16) = i at *
  generalize F.dv (s.extract 17 19) = g at *
  generalize F.dv (s.extract 20 23) = w at *
  have y1 : decide ((0 : Int) ≤ (y : Int)) = true := decide_eq_true (by omega)
  have y2 : decide ((y : Int) ≤ 100000) = true := decide_eq_true (by omega)
  have y3 : decide ((y : Int) ≤ 9999) = true := decide_eq_true (by omega)
  unfold F.dtB
  cases q1 : decide ((y : Int) < 1970)
  rotate_left
  · rfl
  have q1' := of_decide_eq_false q1
  cases q2 : F.out (m : Int) 1 12
  rotate_left
  · rfl
  have q2' : 1 ≤ m ∧ m ≤ 12 := by
    unfold F.out at q2
    simp only [Bool.or_eq_false_iff, decide_eq_false_iff_not] at q2
    omega
  rw [y1, y2, y3, decide_eq_true (by omega : (1970 : Int) ≤ (y : Int)), decide_eq_true q2'.2]
  cases q3 : F.out (d : Int) 1 (F.mdays y m)
  rotate_left
  · rfl
  have q3' : 1 ≤ d := by
    unfold F.out at q3
    simp only [Bool.or_eq_false_iff, decide_eq_false_iff_not] at q3
    omega
  cases q4 : decide ((23 : Int) < (h : Int))
  rotate_left
  · rfl
  cases q5 : decide ((59 : Int) < (i : Int))
  rotate_left
  · rfl
  cases q6 : decide ((59 : Int) < (g : Int))
  rotate_left
  · rfl
  have hy := F.ydays_b (y := y) (by omega) (by omega)
  have hm := F.msum_b y (m - 1) 1
  generalize F.ydays y = Y at *
  generalize F.msum y (m - 1) 1 = M at *
  have w1 : IntKind.i64.wrap (IntKind.i64.wrap (Y + (d : Int)) - 1) = Y + (d : Int) - 1 := by rw [wrap_id (n := Y + (d : Int)) (by omega) (by omega), wrap_id (by omega) (by omega)]
  rw [w1, decide_eq_true (by omega : 0 ≤ Y + (d : Int) - 1), decide_eq_true (by omega : Y + (d : Int) - 1 ≤ 100000000)]
  simp (disch := omega) only [wrap_id, cond_true, cond_false]
  rfl

end M
end Go.Proofs.YtgkjfochkhiojaaDoor
