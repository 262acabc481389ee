/- What is proved here: Break of the program on plain data, and the one simple thing that the laws ask (no statement of the seat). -/
import Derived.Test.YthcfbeckhgngiaaGreatDoorC7
namespace Go.Proofs.YthcfbeckhgngiaaGreatDoor
open Go Go.RowKit
set_option linter.unusedVariables false
set_option linter.unusedSimpArgs false

def F.sp2 : ByteArray := ⟨⟨[32, 32]⟩⟩

def F.way0 (w : Int) (s : ByteArray) : Way := (F.ways w (F.split s F.sp)).getD 0 default

def F.brkB (s : ByteArray) (w r : Int) : List ByteArray × Int :=
  bif (F.way0 w s).lines == 0 then ([], 17) else bif F.lt r (F.way0 w s).lines then ([], 17) else
  (F.brO (F.split s F.sp) (F.ways w (F.split s F.sp)) (F.split s F.sp).length 0, 0)

def F.brk (s : ByteArray) (w r : Int) : List ByteArray × Int :=
  bif F.out w 1 200 then ([], 1) else bif F.out r 1 15 then ([], 1) else
  bif !F.clean s then ([], 3) else bif F.cont s F.sp2 then ([], 3) else
  bif F.lt 1000 s.size then ([], 2) else F.brkB s w r

theorem F.words_len (s : ByteArray) (h : s.size ≤ 1000) : 1 ≤ (F.split s F.sp).length ∧ (F.split s F.sp).length ≤ 1001 := by
  have h1 := F.split_len (s := s) (sep := F.sp) (by decide)
  have h2 := Lib.countB_le F.sp (by decide) s.size s (Nat.le_refl _)
  omega

theorem F.words_smL (s : ByteArray) (h : s.size ≤ 1000) : F.smL (F.split s F.sp) = true := by
  refine List.all_eq_true.2 fun x hx => decide_eq_true ?_
  have := F.split_size hx
  omega

theorem F.sizes_le : ∀ (ws : List ByteArray) (b : Nat), (∀ x ∈ ws, x.size ≤ b) → F.sizes ws ≤ ws.length * (b + 1)
  | [], b, h => by simp [F.sizes]
  | x :: l, b, h => by
    have ih := F.sizes_le l b fun y hy => h y (List.mem_cons_of_mem _ hy)
    have hx := h x (List.mem_cons_self ..)
    simp only [F.sizes, List.map_cons, List.sum_cons, List.length_cons] at ih ⊢
    rw [Nat.add_mul]
    omega

theorem F.words_sizes (s : ByteArray) (h : s.size ≤ 1000) : F.sizes (F.split s F.sp) ≤ 2000000 := by
  have h1 := F.sizes_le (F.split s F.sp) 1000 fun x hx => Nat.le_trans (F.split_size hx) h
  have h2 := (F.words_len s h).2
  omega

namespace M

theorem zeroW_map (n : Nat) : List.replicate (n + 1) [vI 0, vI 0, vI 0] = (F.zeroW n).map eWay := by simp [F.zeroW, eWay]

theorem evBrk (s : ByteArray) (w : Int) (r : Int) : (runF enBk false Tryz.f21 [vS s, vI w, vI r]).val =
  Option.bind (unenc encOut [(vI w), (vI (1 : Int)), (vI (200 : Int))]) fun (z : Int × Int × Int) => bif !F.out z.fst z.snd.fst z.snd.snd then Option.bind (unenc encOut [(vI
  r), (vI (1 : Int)), (vI (15 : Int))]) fun (z_1 : Int × Int × Int) => bif bif F.out z.fst z.snd.fst z.snd.snd then true else F.out z_1.fst z_1.snd.fst z_1.snd.snd then some
  (AV.tup [AV.sl [], (vI (1 : Int))], []) else Option.bind (unenc encCle [(vS s)]) fun (z : ByteArray) => bif F.small z then bif !!F.clean z then Option.bind (unenc encCnt
  [(vS s), (vS (ByteArray.mk (Array.mk [(32 : UInt8), (32 : UInt8)])))]) fun (z_2 : ByteArray × ByteArray) => bif decide (ByteArray.size z_2.fst ≤ (4294967280 : Nat)) then
  bif bif !F.clean z then true else F.cont z_2.fst z_2.snd then some (AV.tup [AV.sl [], (vI (3 : Int))], []) else bif decide ((1000 : Int) < (↑(ByteArray.size s) : Int))
  then some (AV.tup [AV.sl [], (vI (2 : Int))], []) else Option.bind (unenc encSpl [(vS s), (vS (ByteArray.mk (Array.mk [(32 : UInt8)])))]) fun (z : ByteArray × ByteArray)
  => bif decide (ByteArray.size z.fst ≤ (4294967280 : Nat)) && decide ((1 : Nat) ≤ ByteArray.size z.snd) then Option.bind (idx (IntKind.wrap IntKind.i64 ((↑(List.length
  (List.map eStr (F.split z.fst z.snd))) : Int) + (1 : Int)))) fun (z_3 : Nat) => Option.bind (idx (IntKind.wrap IntKind.i64 ((↑(List.length (List.map eStr (F.split z.fst
  z.snd))) : Int) + (1 : Int)))) fun (z_4 : Nat) => bif Nat.ble z_3 z_4 && Nat.ble (z_4 * (24 : Nat)) (140737488355328 : Nat) then Option.bind (unenc stBk11 (St.mk [(11, (vI
  (IntKind.wrap IntKind.i64 ((↑(List.length (List.map eStr (F.split z.fst z.snd))) : Int) - (1 : Int))))), (10, .own 43), (9, (vI (↑(List.length (List.map eStr (F.split
  z.fst z.snd))) : Int))), (8, AV.sl (List.map eStr (F.split z.fst z.snd))), (2, (vI r)), (1, (vI w))] [(43, Blk.mk false 89 3 (List.replicate z_3 [(vI (0 : Int)), (vI (0 :
  Int)), (vI (0 : Int))]))])) fun (z : List ByteArray × Int × Int × List Way × Int) => bif decide (List.length z.fst ≤ (100000 : Nat)) && decide ((-1 : Int) ≤
  z.snd.snd.snd.snd) && decide (z.snd.snd.snd.snd < (↑(List.length z.fst) : Int)) && F.smL z.fst && decide (List.length z.snd.snd.snd.fst = List.length z.fst + (1 : Nat)) &&
  true then bif decide ((0 : Nat) < List.length (Blk.mk false 89 3 (List.map eWay (F.brU z.snd.fst z.fst (Int.toNat (z.snd.snd.snd.snd + (1 : Int)))
  z.snd.snd.snd.fst))).rows) then Option.bind (unenc (List.map eWay) (List.map eWay (F.brU z.snd.fst z.fst (Int.toNat (z.snd.snd.snd.snd + (1 : Int))) z.snd.snd.snd.fst)))
  fun (z_5 : List Way) => bif decide ((0 : Nat) < List.length z_5) then bif !(List.getD z_5 (0 : Nat) (Way.mk (0 : Int) (0 : Int) (0 : Int))).lines == (0 : Int) then bif
  decide ((0 : Nat) < List.length (Blk.mk false 89 3 (List.map eWay (F.brU z.snd.fst z.fst (Int.toNat (z.snd.snd.snd.snd + (1 : Int))) z.snd.snd.snd.fst))).rows) then bif
  !(List.getD z_5 (0 : Nat) (Way.mk (0 : Int) (0 : Int) (0 : Int))).lines == (0 : Int) then Option.bind (unenc (List.map eWay) (List.map eWay (F.brU z.snd.fst z.fst
  (Int.toNat (z.snd.snd.snd.snd + (1 : Int))) z.snd.snd.snd.fst))) fun (z_6 : List Way) => bif decide ((0 : Nat) < List.length z_6) then bif bif (List.getD z_5 (0 : Nat)
  (Way.mk (0 : Int) (0 : Int) (0 : Int))).lines == (0 : Int) then true else decide (z.snd.snd.fst < (List.getD z_6 (0 : Nat) (Way.mk (0 : Int) (0 : Int) (0 : Int))).lines)
  then some (AV.tup [AV.sl [], (vI (17 : Int))], []) else Option.bind (unenc stBk31 (St.mk [(17, (vI (0 : Int))), (16, .own 16), (10, .own 43), (9, (vI (↑(List.length z.fst)
  : Int))), (8, AV.sl (List.map eStr z.fst))] [(43, Blk.mk false 89 3 (List.map eWay (F.brU z.snd.fst z.fst (Int.toNat (z.snd.snd.snd.snd + (1 : Int))) z.snd.snd.snd.fst))),
  (16, Blk.mk false 9 1 [])])) fun (z : List ByteArray × List Way × Nat × List ByteArray) => bif decide (List.length z.fst ≤ (100000 : Nat)) && decide (F.sizes z.fst ≤
  (2000000 : Nat)) && decide (List.length z.snd.fst = List.length z.fst + (1 : Nat)) && decide (z.snd.snd.fst ≤ List.length z.fst) && decide (List.length z.snd.snd.snd ≤
  z.snd.snd.fst) && F.waysB (List.length z.fst) z.snd.fst && (decide (z.snd.snd.fst = List.length z.fst) || F.ne0 (List.getD z.snd.fst z.snd.snd.fst (Way.mk (0 : Int) (0 :
  Int) (0 : Int))).lines) && true then some (AV.tup [AV.sl (List.map eStr (z.snd.snd.snd ++ F.brO z.fst z.snd.fst (List.length z.fst) z.snd.snd.fst)), (vI (0 : Int))], [])
  else none else none else bif !(List.getD z_5 (0 : Nat) (Way.mk (0 : Int) (0 : Int) (0 : Int))).lines == (0 : Int) then none else some (AV.tup [AV.sl [], (vI (17 : Int))],
  []) else none else bif !(List.getD z_5 (0 : Nat) (Way.mk (0 : Int) (0 : Int) (0 : Int))).lines == (0 : Int) then none else bif !(List.getD z_5 (0 : Nat) (Way.mk (0 : Int)
  (0 : Int) (0 : Int))).lines == (0 : Int) then none else bif !(List.getD z_5 (0 : Nat) (Way.mk (0 : Int) (0 : Int) (0 : Int))).lines == (0 : Int) then none else some
  (AV.tup [AV.sl [], (vI (17 : Int))], []) else none else none else none else none else none else none else some (AV.tup [AV.sl [], (vI (3 : Int))], []) else none else some
  (AV.tup [AV.sl [], (vI (1 : Int))], []) := by kernel_rfl

def encBrk1 (s : ByteArray) (w : Int) (r : Int) : List AV := [vS s, vI w, vI r]

def encBrk (a : ByteArray × Int × Int) : List AV := encBrk1 a.1 a.2.1 a.2.2

theorem encBrk_inj (a a' : ByteArray × Int × Int) (h : encBrk a = encBrk a') : a = a' := by
  simp only [encBrk, encBrk1] at h
  try simp [strs_inj, ints_inj, bools_inj, eL_eIs_inj, eCaps_inj, eCap_iff, eL_eCaps_inj, eMchs_inj, eMch_iff, eWrds_inj, eWrd_iff, eFnds_inj, eFnd_iff, eRatios_inj, eRatio_iff, eWays_inj, eWay_iff] at h
  grind

theorem unBrk (s : ByteArray) (w : Int) (r : Int) : unenc encBrk ([(vS s), (vI w), (vI r)]) = some (s, w, r) := unenc_of encBrk_inj (s, w, r) rfl

def resBrk1 (s : ByteArray) (w : Int) (r : Int) : AV × Heap := (.tup [.sl ((F.brk s w r).1.map eStr), vI (F.brk s w r).2], [])

def preBrk1 (s : ByteArray) (w : Int) (r : Int) : Bool := F.small s

noncomputable def oBrk : Orc := orc 21 false encBrk (fun a => preBrk1 a.1 a.2.1 a.2.2) fun a => resBrk1 a.1 a.2.1 a.2.2

theorem okBrk : OrcOK Tryz.prog noG oBrk := by
  refine mk_ok Tryz.f21 (keep := false) (by kernel_rfl) (by kernel_rfl) enBk_ok mixed (three_loops (x0 := loopN Tryz.f21 0) (x1 := loopN Tryz.f21 1) (x2 := loopN Tryz.f21 2) (by kernel_rfl) (lpo_ok ?_) (lpo_ok ?_) (lpo_ok ?_)) (by first | exact fun _ _ => ⟨rfl, rfl⟩ | (intro h; cases h)) ?_
  · rintro ⟨ws, w, r, best, i⟩ hp
    exact lpBk1_ok ws w r best i hp
  · rintro ⟨ws, w, r, best, i, long, k⟩ hp
    exact lpBk2_ok ws w r best i long k hp
  · rintro ⟨ws, best, i, out⟩ hp
    exact lpBk3_ok ws best i out hp
  rintro ⟨s, w, r⟩ hpre hok
  show (runF enBk false _ (encBrk1 _ _ _)).val = some (resBrk1 _ _ _)
  unfold encBrk1 resBrk1
  rw [evBrk]
  simp only [preBrk1] at hpre
  have hsm : decide (s.size ≤ 4294967280) = true := hpre
  simp only [unOut, unCle, unCnt, unSpl, unJoi, unRun, preOut1, preCle1, preCnt1, preSpl1, preJoi1, preRun1, unstBk1, unstBk2, unstBk3, unstBk30, prlBk1, prlBk2, prlBk3, outBk1, outBk2, outBk3, etaCap, etaMch, etaWrd, etaFnd, etaRatio, etaWay, Option.bind_some, List.length_map, unStrs, unInts, unBools, uneL_eIs, unCaps, uneL_eCaps, unMchs, unWrds, unFnds, unRatios, unWays, F.lt, F.le, cond_true, cond_false, Bool.and_true, Bool.true_and, hpre, hsm, F.brk]
  cases F.out w 1 200
  case true => rfl
  cases F.out r 1 15
  case true => rfl
  cases F.clean s
  case false => rfl
  have e2 : (⟨⟨[32, 32]⟩⟩ : ByteArray) = F.sp2 := rfl
  have e1 : (⟨⟨[32]⟩⟩ : ByteArray) = F.sp := rfl
  rw [e1, e2]
  cases F.cont s F.sp2
  case true => rfl
  by_cases hb : s.size ≤ 1000
  case neg =>
    have d1 : decide ((1000 : Int) < (s.size : Int)) = true := decide_eq_true (by omega)
    have d2 : F.lt 1000 s.size = true := d1
    simp only [d1, d2]; rfl
  have d1 : decide ((1000 : Int) < (s.size : Int)) = false := decide_eq_false (by omega)
  have d2 : F.lt 1000 s.size = false := d1
  obtain ⟨n1, n2⟩ := F.words_len s hb
  have hL := F.words_smL s hb
  have hS := F.words_sizes s hb
  have h0 : F.way0 w s = (F.ways w (F.split s F.sp)).getD 0 default := rfl
  simp only [d1, d2, F.brkB, h0]
  generalize F.split s F.sp = ws at n1 n2 hL hS ⊢
  obtain ⟨k1, k2⟩ := F.ways_ok w (ws := ws) (by omega)
  have hU : F.brU w ws ws.length (F.zeroW ws.length) = F.ways w ws := rfl
  have w1 : IntKind.i64.wrap ((ws.length : Int) + 1) = ((ws.length + 1 : Nat) : Int) := wrap_id (by omega) (by omega)
  have w2 : IntKind.i64.wrap ((ws.length : Int) - 1) = (ws.length : Int) - 1 := wrap_id (by omega) (by omega)
  have w3 : ((ws.length : Int) - 1 + 1).toNat = ws.length := by omega
  have b1 : Nat.ble ((ws.length + 1) * 24) 140737488355328 = true := ble_t (by omega)
  have b2 : Nat.ble (ws.length + 1) (ws.length + 1) = true := ble_t (Nat.le_refl _)
  have b3 : decide (ws.length ≤ 100000) = true := decide_eq_true (by omega)
  have b4 : decide ((-1 : Int) ≤ (ws.length : Int) - 1) = true := decide_eq_true (by omega)
  have b5 : decide ((ws.length : Int) - 1 < (ws.length : Int)) = true := decide_eq_true (by omega)
  have b6 : decide ((F.zeroW ws.length).length = ws.length + 1) = true := decide_eq_true (by simp [F.zeroW])
  have b7 : decide (0 < (F.ways w ws).length) = true := decide_eq_true (by omega)
  have b8 : decide ((F.ways w ws).length = ws.length + 1) = true := decide_eq_true k1
  have b9 : decide (F.sizes ws ≤ 2000000) = true := decide_eq_true hS
  have b10 : F.waysB ws.length (F.ways w ws) = true := F.waysB_iff.2 k2
  have e3 : (Way.mk 0 0 0) = (default : Way) := rfl
  simp only [unOut, unCle, unCnt, unSpl, unJoi, unRun, preOut1, preCle1, preCnt1, preSpl1, preJoi1, preRun1, unstBk1, unstBk2, unstBk3, unstBk30, prlBk1, prlBk2, prlBk3, outBk1, outBk2, outBk3, etaCap, etaMch, etaWrd, etaFnd, etaRatio, etaWay, Option.bind_some, List.length_map, unStrs, unInts, unBools, uneL_eIs, unCaps, uneL_eCaps, unMchs, unWrds, unFnds, unRatios, unWays, F.lt, F.le, cond_true, cond_false, Bool.and_true, Bool.true_and, List.length_map, w1, w2, w3, b1, b2, b3, b4, b5, b6, b7, b8, b9, b10, idx_nat, zeroW_map, hU, hL, e3]
  have c1 : decide (1 ≤ F.sp.size) = true := by decide
  have c2 : F.ne0 ((F.ways w ws).getD 0 default).lines = !(((F.ways w ws).getD 0 default).lines == 0) := rfl
  simp only [c1, c2, Bool.not_true, Bool.not_false, cond_true, cond_false]
  cases ((F.ways w ws).getD 0 default).lines == 0
  case true => rfl
  simp only [Bool.not_false, cond_true, cond_false]
  cases decide (r < ((F.ways w ws).getD 0 default).lines)
  case true => rfl
  have c3 : decide (0 ≤ ws.length) = true := decide_eq_true (Nat.zero_le _)
  have c4 : decide (([] : List ByteArray).length ≤ 0) = true := rfl
  simp only [c3, c4, b3, b8, b9, b10, c2, Bool.or_true, Bool.and_self, cond_true, cond_false, Bool.not_false, Option.bind_some, List.nil_append]

end M
end Go.Proofs.YthcfbeckhgngiaaGreatDoor
