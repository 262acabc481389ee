/- What is proved here: how the program writes a time in seconds (no statement of the seat). -/
import Derived.Test.YtgkjfochkhiojaaDoorE106
import Derived.Test.YtgkjfochkhiojaaDoorE102
namespace Go.Proofs.YtgkjfochkhiojaaDoor
open Go Go.RowKit
set_option linter.unusedVariables false
set_option linter.unusedSimpArgs false
set_option maxHeartbeats 1000000

def F.p10 : Nat → Int
  | 0 => 1
  | k + 1 => F.p10 k * 10

theorem F.scl_id {x : Int} (h0 : 0 ≤ x) (h1 : x < 1000) : F.scl x 1000 1000 2 = x := by
  obtain ⟨k, rfl⟩ := Int.eq_ofNat_of_zero_le h0
  have hq : F.sclQ (k : Int) 1000 1000 = k := by
    show ((k : Int).natAbs * 1000) / 1000 = k
    omega
  have hr : F.sclR (k : Int) 1000 1000 = 0 := by
    show ((k : Int).natAbs * 1000) % 1000 = 0
    omega
  have hP : F.sclP (k : Int) 1000 1000 2 = (k : Int) := by
    unfold F.sclP
    rw [hr, hq]
    have : F.rnd 2 (decide ((k : Int) < 0)) ((0 : Nat) : Int) 1000 = false := by
      unfold F.rnd
      rfl
    rw [this]
    rfl
  unfold F.scl F.sclS
  rw [hP, decide_eq_false (by omega), decide_eq_false (by omega)]
  rfl

theorem F.itoa_1000 {k : Nat} (h : k < 1000) : (F.itoa ((1000 + k : Nat) : Int)).size = 4 ∧ (F.itoa ((1000 + k : Nat) : Int)).extract 1 (F.itoa ((1000 + k : Nat) : Int)).size = F.pad (k : Int) 3 := by
  obtain ⟨d1, d2, d3⟩ := F.dd_ok (1000 + k)
  have hb := F.itoa_n (1000 + k)
  have h4 := F.dd_len 3 (1000 + k) (by show _ < 10000; omega)
  have hge : 4 ≤ (Lib.decDigits (1000 + k)).length := by
    have := F.dvA_lt _ d1
    rw [d2] at this
    by_cases h : 4 ≤ (Lib.decDigits (1000 + k)).length
    · exact h
    · have h2 : (10 : Nat) ^ (Lib.decDigits (1000 + k)).length ≤ 10 ^ 3 := Nat.pow_le_pow_right (by decide) (by omega)
      have h3 : (10 : Nat) ^ 3 = 1000 := by decide
      omega
  obtain ⟨a, b, c, d, e⟩ := F.l4 (show (Lib.decDigits (1000 + k)).length = 4 by omega)
  rw [e] at hb d1 d2
  have hz : (F.itoa ((1000 + k : Nat) : Int)).size = 4 := by rw [← F.bs_len, hb]; rfl
  refine ⟨hz, ?_⟩
  apply F.bsx
  obtain ⟨p1, p2, p3⟩ := F.pad_ok (k := k) (many := 3) h (by decide)
  rw [F.sub_bs, hz, hb]
  simp only [List.all_cons, List.all_nil, Bool.and_true, Bool.and_eq_true] at d1
  obtain ⟨g1, g2, g3, g4⟩ := d1
  have ga := g1
  have gb := g2
  have gc := g3
  have gd := g4
  simp only [F.dgB, Bool.and_eq_true, decide_eq_true_eq] at ga gb gc gd
  rw [F.dvA_cons, F.dvA_cons, F.dvA_cons, F.dvA_cons, F.dvA_nil] at d2
  show [b, c, d] = _
  refine F.dv_inj 3 _ _ rfl p1 ?_ p2 ?_
  · simp only [List.all_cons, List.all_nil, Bool.and_true, g2, g3, g4, Bool.and_self]
  · rw [p3, F.dvA_cons, F.dvA_cons, F.dvA_cons, F.dvA_nil]
    omega

theorem F.pad_size' (k : Nat) (h : k < 1000) : (F.pad (k : Int) 3).size = 3 := by
  rw [← F.bs_len]
  exact (F.pad_ok h (by decide)).1

namespace M


noncomputable def enNoT : Env := envH ty noG lks [oOut] [] [] []

theorem enNoT_ok : EnvOK Tryd.prog enNoT := by
  refine envH_ok lks_ok ty_ok ?_ ?_
  · simp only [List.forall_mem_cons]
    exact ⟨okOut, by simp⟩
  · simp

theorem evNoT (n : Int) : (runF enNoT false Tryd.f39 [vI n]).val =
  Option.bind (unenc encOut [(vI n), (vI (-1000000000000000 : Int)), (vI (1000000000000000 : Int))]) fun (z : Int × Int × Int) => some ((vB (F.out z.fst z.snd.fst
  z.snd.snd)), []) := (runFR_val).symm.trans (by kernel_rfl)

def encNoT1 (n : Int) : List AV := [vI n]

def encNoT (a : Int) : List AV := encNoT1 a

theorem encNoT_inj (a a' : Int) (h : encNoT a = encNoT a') : a = a' := by
  simp only [encNoT, encNoT1] at h
  try simp [strs_inj, ints_inj, ents_inj, eEnt_iff, eLst_iff, eSnds_inj, eStrms_inj] at h
  grind

theorem unNoT (n : Int) : unenc encNoT ([(vI n)]) = some (n) := unenc_of encNoT_inj (n) rfl

def resNoT1 (n : Int) : AV × Heap := (vB (F.out n (-1000000000000000) 1000000000000000), [])

def preNoT1 (n : Int) : Bool := true

noncomputable def oNoT : Orc := orc 39 true encNoT (fun a => preNoT1 a) fun a => resNoT1 a

theorem okNoT : OrcOK Tryd.prog noG oNoT := by
  refine mk_ok Tryd.f39 (keep := false) (by kernel_rfl) (by kernel_rfl) enNoT_ok mixed (no_loops (by kernel_rfl)) (by first | exact fun _ _ => ⟨rfl, rfl⟩ | (intro h; cases h)) ?_
  rintro n hpre hok
  show (runF enNoT false _ (encNoT1 _)).val = some (resNoT1 _)
  unfold encNoT1 resNoT1
  rw [evNoT]
  simp only [unOut, preOut1, etaEnt, etaLst, etaSnd, etaStrm, etaMas, Option.bind_some, List.length_map, unStrs, unInts, unBools, unEnts, unItms, unTrns, cond_true, cond_false, Bool.and_true, Bool.true_and]

theorem evNoS (n : Int) : (runF enNoT false Tryd.f40 [vI n]).val =
  Option.bind (unenc encOut [(vI n), (vI (1 : Int)), (vI (1000000000 : Int))]) fun (z : Int × Int × Int) => some ((vB (F.out z.fst z.snd.fst z.snd.snd)), []) := (runFR_val).symm.trans (by kernel_rfl)

def encNoS1 (n : Int) : List AV := [vI n]

def encNoS (a : Int) : List AV := encNoS1 a

theorem encNoS_inj (a a' : Int) (h : encNoS a = encNoS a') : a = a' := by
  simp only [encNoS, encNoS1] at h
  try simp [strs_inj, ints_inj, ents_inj, eEnt_iff, eLst_iff, eSnds_inj, eStrms_inj] at h
  grind

theorem unNoS (n : Int) : unenc encNoS ([(vI n)]) = some (n) := unenc_of encNoS_inj (n) rfl

def resNoS1 (n : Int) : AV × Heap := (vB (F.out n 1 1000000000), [])

def preNoS1 (n : Int) : Bool := true

noncomputable def oNoS : Orc := orc 40 true encNoS (fun a => preNoS1 a) fun a => resNoS1 a

theorem okNoS : OrcOK Tryd.prog noG oNoS := by
  refine mk_ok Tryd.f40 (keep := false) (by kernel_rfl) (by kernel_rfl) enNoT_ok mixed (no_loops (by kernel_rfl)) (by first | exact fun _ _ => ⟨rfl, rfl⟩ | (intro h; cases h)) ?_
  rintro n hpre hok
  show (runF enNoT false _ (encNoS1 _)).val = some (resNoS1 _)
  unfold encNoS1 resNoS1
  rw [evNoS]
  simp only [unOut, preOut1, etaEnt, etaLst, etaSnd, etaStrm, etaMas, Option.bind_some, List.length_map, unStrs, unInts, unBools, unEnts, unItms, unTrns, cond_true, cond_false, Bool.and_true, Bool.true_and]

def stPw (p : Int) (k : Nat) : St := ⟨[(5, vI k), (4, vI 3), (3, vI p)], []⟩

def stPw1 (a : Int × Nat) : St := stPw a.1 a.2

theorem stPw_inj (a a' : Int × Nat) (h : stPw1 a = stPw1 a') : a = a' := by
  simp only [stPw1, stPw] at h
  try simp [strs_inj, ints_inj, ents_inj, eEnt_iff, eLst_iff, eSnds_inj, eStrms_inj] at h
  grind

theorem unstPw (p : Int) (k : Nat) : unenc stPw1 (St.mk [(5, (vI (↑k : Int))), (4, (vI (3 : Int))), (3, (vI p))] []) = some (p, k) := unenc_of stPw_inj (p, k) rfl

theorem unstPw0   : unenc stPw1 (St.mk [(5, (vI (0 : Int))), (4, (vI (3 : Int))), (3, (vI (1 : Int)))] []) = some (1, 0) := unenc_of stPw_inj (1, 0) rfl

def outPw (p : Int) (k : Nat) : T (Ex × St) := .ret (.exit 0, ⟨[(3, vI 1000)], []⟩)

noncomputable def prlPw (p : Int) (k : Nat) : Bool := decide (p = F.p10 k) && decide (k ≤ 3)

noncomputable def lpPw : Nat × (St → T (Ex × St)) := (3, lpo [5, 4, 3] [] stPw1 (fun a => prlPw a.1 a.2) fun a => outPw a.1 a.2)

noncomputable def enPw : Env := envH ty noG lks [] [] [] [lpPw]

theorem enPw_ok : EnvOK Tryd.prog enPw := by
  refine envH_ok lks_ok ty_ok ?_ ?_
  · simp
  · simp

theorem evPwL (p : Int) (k : Nat) : ((exec enPw (loopN Tryd.f41 0) (stPw p k)).bind (lessX ([5, 4, 3], []) ([3], []) ([], []))).val =
  bif decide ((↑k : Int) < (3 : Int)) then some (Ex.normal, St.mk [(5, (vI (IntKind.wrap IntKind.i64 ((↑k : Int) + (1 : Int))))), (4, (vI (3 : Int))), (3, (vI (IntKind.wrap
  IntKind.i64 (p * (10 : Int)))))] []) else some (Ex.exit (0 : Nat), St.mk [(3, (vI p))] []) := (execR_bind _ _ _).symm.trans (by kernel_rfl)

theorem lpPw_ok (p : Int) (k : Nat) (hp : prlPw p k = true) : ∀ ex s', (outPw p k).val = some (ex, s') → LoopOK enPw (loopN Tryd.f41 0) (stPw p k) ex s' := by
  simp only [prlPw, Bool.and_eq_true, decide_eq_true_eq] at hp
  obtain ⟨h1, h2⟩ := hp
  subst h1
  refine loop_gen (st := fun k : Nat => stPw (F.p10 k) k) (out := fun k => outPw (F.p10 k) k) (I := fun k => k ≤ 3) (n := ([5, 4, 3], [])) (e := ([3], [])) (r := ([], [])) (fun k => 3 - k) ?_ k h2
  clear h2
  intro k hk
  have hb : 0 ≤ F.p10 k ∧ F.p10 k ≤ 1000 := by
    match k, hk with
    | 0, _ => decide
    | 1, _ => decide
    | 2, _ => decide
    | 3, _ => decide
  have w1 : IntKind.i64.wrap (F.p10 k * 10) = F.p10 (k + 1) := by rw [wrap_id (by omega) (by omega)]; rfl
  have w2 : IntKind.i64.wrap ((k : Int) + 1) = ((k + 1 : Nat) : Int) := by rw [wrap_id (by omega) (by omega)]; rfl
  by_cases hlt : k < 3
  · right
    refine ⟨k + 1, ?_, rfl, hlt, by omega, rfl⟩
    · rw [evPwL]
      simp only [unstPw, unstPw0, prlPw, outPw, etaEnt, etaLst, etaSnd, etaStrm, etaMas, Option.bind_some, List.length_map, unStrs, unInts, unBools, unEnts, unItms, unTrns, cond_true, cond_false, Bool.and_true, Bool.true_and, decide_eq_true (show (k : Int) < 3 by omega), w1, w2, stPw]
      try rfl
  · have : k = 3 := by omega
    subst this
    left
    refine ⟨(.exit 0, ⟨[(3, vI 1000)], []⟩), ?_, rfl, by simp, rfl⟩
    rw [evPwL]
    rfl

theorem evPw  : (runF enPw false Tryd.f41 [vI 3]).val =
  Option.bind (unenc stPw1 (St.mk [(5, (vI (0 : Int))), (4, (vI (3 : Int))), (3, (vI (1 : Int)))] [])) fun (z : Int × Nat) => bif decide (z.fst = F.p10 z.snd) && decide
  (z.snd ≤ (3 : Nat)) && true then some ((vI (1000 : Int)), []) else none := (runFR_val).symm.trans (by kernel_rfl)

def encPw1  : List AV := [vI 3]

def encPw (a : Unit) : List AV := encPw1

theorem encPw_inj (a a' : Unit) (h : encPw a = encPw a') : a = a' := rfl

theorem unPw  : unenc encPw ([(vI (3 : Int))]) = some () := unenc_of encPw_inj () rfl

def resPw1  : AV × Heap := (vI 1000, [])

def prePw1  : Bool := true

noncomputable def oPw : Orc := orc 41 true encPw (fun a => prePw1) fun a => resPw1

theorem okPw : OrcOK Tryd.prog noG oPw := by
  refine mk_ok Tryd.f41 (keep := false) (by kernel_rfl) (by kernel_rfl) enPw_ok mixed (one_loop (x0 := loopN Tryd.f41 0) (by kernel_rfl) (lpo_ok ?_)) (by first | exact fun _ _ => ⟨rfl, rfl⟩ | (intro h; cases h)) ?_
  · rintro ⟨p, k⟩ hp
    exact lpPw_ok p k hp
  rintro ⟨⟩ hpre hok
  show (runF enPw false _ (encPw1 )).val = some (resPw1 )
  unfold encPw1 resPw1
  rw [evPw]
  simp only [unstPw, unstPw0, prlPw, outPw, etaEnt, etaLst, etaSnd, etaStrm, etaMas, Option.bind_some, List.length_map, unStrs, unInts, unBools, unEnts, unItms, unTrns, cond_true, cond_false, Bool.and_true, Bool.true_and]
  try rfl

noncomputable def enDcm : Env := envH ty noG lks [oNoT, oNoS, oOut, oPw, oScl, oIta] [] [] []

theorem enDcm_ok : EnvOK Tryd.prog enDcm := by
  refine envH_ok lks_ok ty_ok ?_ ?_
  · simp only [List.forall_mem_cons]
    exact ⟨okNoT, okNoS, okOut, okPw, okScl, okIta, by simp⟩
  · simp

theorem evDcm (n : Int) : (runF enDcm false Tryd.f23 [vI n, vI 1000, vI 3]).val =
  Option.bind (unenc encNoT [(vI n)]) fun (z : Int) => bif !F.out z (-1000000000000000 : Int) (1000000000000000 : Int) then Option.bind (unenc encNoS [(vI (1000 : Int))])
  fun (z : Int) => bif !F.out z (1 : Int) (1000000000 : Int) then Option.bind (unenc encOut [(vI (3 : Int)), (vI (0 : Int)), (vI (9 : Int))]) fun (z : Int × Int × Int) =>
  bif F.out z.fst z.snd.fst z.snd.snd then some (AV.tup [(vS (ByteArray.mk (Array.mk []))), (vI (1 : Int))], []) else Option.bind (unenc encPw [(vI (3 : Int))]) fun (z :
  Unit) => Option.bind (unenc encScl [(vI (Int.tmod (max n (IntKind.wrap IntKind.i64 ((0 : Int) - n))) (1000 : Int))), (vI (1000 : Int)), (vI (1000 : Int)), (vI (2 : Int))])
  fun (z : Int × Int × Int × Int) => bif F.i64B z.fst && decide ((0 : Int) ≤ z.snd.fst) && decide (z.snd.fst ≤ (1000000 : Int)) && decide ((1 : Int) ≤ z.snd.snd.fst) &&
  decide (z.snd.snd.fst ≤ (9223372036854775807 : Int)) && decide (Int.natAbs z.fst * Int.natAbs z.snd.fst < (9223372036854775808 : Nat)) then bif F.scl z.fst z.snd.fst
  z.snd.snd.fst z.snd.snd.snd == (1000 : Int) then Option.bind (unenc encIta [(vI (IntKind.wrap IntKind.i64 (IntKind.wrap IntKind.i64 (Int.tdiv (max n (IntKind.wrap
  IntKind.i64 ((0 : Int) - n))) (1000 : Int)) + (1 : Int))))]) fun (z : Int) => bif decide ((-9223372036854775808 : Int) ≤ z) && decide (z ≤ (9223372036854775807 : Int))
  then Option.bind (unenc encIta [(vI (IntKind.wrap IntKind.i64 ((1000 : Int) + (0 : Int))))]) fun (z_1 : Int) => bif decide ((-9223372036854775808 : Int) ≤ z_1) && decide
  (z_1 ≤ (9223372036854775807 : Int)) then bif Nat.ble (1 : Nat) (ByteArray.size (F.itoa z_1)) && Nat.ble (ByteArray.size (F.itoa z_1)) (ByteArray.size (F.itoa z_1)) then
  bif Nat.ble (ByteArray.size (ByteArray.mk (Array.mk [(46 : UInt8)])) + ByteArray.size (ByteArray.extract (F.itoa z_1) (1 : Nat) (ByteArray.size (F.itoa z_1))))
  (9223372036854775807 : Nat) then bif Nat.ble (ByteArray.size (F.itoa z) + ByteArray.size (ByteArray.mk (Array.mk [(46 : UInt8)]) ++ ByteArray.extract (F.itoa z_1) (1 :
  Nat) (ByteArray.size (F.itoa z_1)))) (9223372036854775807 : Nat) then bif decide (n < (0 : Int)) then bif decide ((0 : Int) < IntKind.wrap IntKind.i64 (IntKind.wrap
  IntKind.i64 (IntKind.wrap IntKind.i64 (Int.tdiv (max n (IntKind.wrap IntKind.i64 ((0 : Int) - n))) (1000 : Int)) + (1 : Int)) + (0 : Int))) then bif Nat.ble
  (ByteArray.size (ByteArray.mk (Array.mk [(45 : UInt8)])) + ByteArray.size (F.itoa z ++ (ByteArray.mk (Array.mk [(46 : UInt8)]) ++ ByteArray.extract (F.itoa z_1) (1 : Nat)
  (ByteArray.size (F.itoa z_1))))) (9223372036854775807 : Nat) then some (AV.tup [(vS (ByteArray.mk (Array.mk [(45 : UInt8)]) ++ (F.itoa z ++ (ByteArray.mk (Array.mk [(46 :
  UInt8)]) ++ ByteArray.extract (F.itoa z_1) (1 : Nat) (ByteArray.size (F.itoa z_1)))))), (vI (0 : Int))], []) else none else some (AV.tup [(vS (F.itoa z ++ (ByteArray.mk
  (Array.mk [(46 : UInt8)]) ++ ByteArray.extract (F.itoa z_1) (1 : Nat) (ByteArray.size (F.itoa z_1))))), (vI (0 : Int))], []) else some (AV.tup [(vS (F.itoa z ++
  (ByteArray.mk (Array.mk [(46 : UInt8)]) ++ ByteArray.extract (F.itoa z_1) (1 : Nat) (ByteArray.size (F.itoa z_1))))), (vI (0 : Int))], []) else none else none else none
  else none else none else Option.bind (unenc encIta [(vI (IntKind.wrap IntKind.i64 (Int.tdiv (max n (IntKind.wrap IntKind.i64 ((0 : Int) - n))) (1000 : Int))))]) fun (z_1 :
  Int) => bif decide ((-9223372036854775808 : Int) ≤ z_1) && decide (z_1 ≤ (9223372036854775807 : Int)) then Option.bind (unenc encIta [(vI (IntKind.wrap IntKind.i64 ((1000
  : Int) + F.scl z.fst z.snd.fst z.snd.snd.fst z.snd.snd.snd)))]) fun (z_2 : Int) => bif decide ((-9223372036854775808 : Int) ≤ z_2) && decide (z_2 ≤ (9223372036854775807 :
  Int)) then bif Nat.ble (1 : Nat) (ByteArray.size (F.itoa z_2)) && Nat.ble (ByteArray.size (F.itoa z_2)) (ByteArray.size (F.itoa z_2)) then bif Nat.ble (ByteArray.size
  (ByteArray.mk (Array.mk [(46 : UInt8)])) + ByteArray.size (ByteArray.extract (F.itoa z_2) (1 : Nat) (ByteArray.size (F.itoa z_2)))) (9223372036854775807 : Nat) then bif
  Nat.ble (ByteArray.size (F.itoa z_1) + ByteArray.size (ByteArray.mk (Array.mk [(46 : UInt8)]) ++ ByteArray.extract (F.itoa z_2) (1 : Nat) (ByteArray.size (F.itoa z_2))))
  (9223372036854775807 : Nat) then bif decide (n < (0 : Int)) then bif decide ((0 : Int) < IntKind.wrap IntKind.i64 (IntKind.wrap IntKind.i64 (Int.tdiv (max n (IntKind.wrap
  IntKind.i64 ((0 : Int) - n))) (1000 : Int)) + F.scl z.fst z.snd.fst z.snd.snd.fst z.snd.snd.snd)) then bif Nat.ble (ByteArray.size (ByteArray.mk (Array.mk [(45 : UInt8)]))
  + ByteArray.size (F.itoa z_1 ++ (ByteArray.mk (Array.mk [(46 : UInt8)]) ++ ByteArray.extract (F.itoa z_2) (1 : Nat) (ByteArray.size (F.itoa z_2))))) (9223372036854775807 :
  Nat) then some (AV.tup [(vS (ByteArray.mk (Array.mk [(45 : UInt8)]) ++ (F.itoa z_1 ++ (ByteArray.mk (Array.mk [(46 : UInt8)]) ++ ByteArray.extract (F.itoa z_2) (1 : Nat)
  (ByteArray.size (F.itoa z_2)))))), (vI (0 : Int))], []) else none else some (AV.tup [(vS (F.itoa z_1 ++ (ByteArray.mk (Array.mk [(46 : UInt8)]) ++ ByteArray.extract
  (F.itoa z_2) (1 : Nat) (ByteArray.size (F.itoa z_2))))), (vI (0 : Int))], []) else some (AV.tup [(vS (F.itoa z_1 ++ (ByteArray.mk (Array.mk [(46 : UInt8)]) ++
  ByteArray.extract (F.itoa z_2) (1 : Nat) (ByteArray.size (F.itoa z_2))))), (vI (0 : Int))], []) else none else none else none else none else none else none else some
  (AV.tup [(vS (ByteArray.mk (Array.mk []))), (vI (1 : Int))], []) else some (AV.tup [(vS (ByteArray.mk (Array.mk []))), (vI (1 : Int))], []) := (runFR_val).symm.trans (by kernel_rfl)

def encDcm1 (n : Int) : List AV := [vI n, vI 1000, vI 3]

def encDcm (a : Int) : List AV := encDcm1 a

theorem encDcm_inj (a a' : Int) (h : encDcm a = encDcm a') : a = a' := by
  simp only [encDcm, encDcm1] at h
  try simp [strs_inj, ints_inj, ents_inj, eEnt_iff, eLst_iff, eSnds_inj, eStrms_inj] at h
  grind

theorem unDcm (n : Int) : unenc encDcm ([(vI n), (vI (1000 : Int)), (vI (3 : Int))]) = some (n) := unenc_of encDcm_inj (n) rfl

def resDcm1 (n : Int) : AV × Heap := (.tup [vS (F.tmS n), vI 0], [])

def preDcm1 (n : Int) : Bool := decide (0 ≤ n) && decide (n ≤ 3600000)

noncomputable def oDcm : Orc := orc 23 true encDcm (fun a => preDcm1 a) fun a => resDcm1 a

theorem okDcm : OrcOK Tryd.prog noG oDcm := by
  refine mk_ok Tryd.f23 (keep := false) (by kernel_rfl) (by kernel_rfl) enDcm_ok mixed (no_loops (by kernel_rfl)) (by first | exact fun _ _ => ⟨rfl, rfl⟩ | (intro h; cases h)) ?_
  rintro n hpre hok
  show (runF enDcm false _ (encDcm1 _)).val = some (resDcm1 _)
  unfold encDcm1 resDcm1
  rw [evDcm]
  simp only [preDcm1, Bool.and_eq_true, decide_eq_true_eq] at hpre
  obtain ⟨h1, h2⟩ := hpre
  obtain ⟨N, rfl⟩ := Int.eq_ofNat_of_zero_le h1
  have hw : IntKind.i64.wrap (0 - (N : Int)) = 0 - (N : Int) := wrap_id (by omega) (by omega)
  have hm : max (N : Int) (0 - (N : Int)) = (N : Int) := Int.max_eq_left (by omega)
  have hq : (N : Int).tdiv 1000 = ((N / 1000 : Nat) : Int) := rfl
  have hx : (N : Int).tmod 1000 = ((N % 1000 : Nat) : Int) := rfl
  have hs := F.scl_id (x := ((N % 1000 : Nat) : Int)) (by omega) (by omega)
  obtain ⟨z1, z2⟩ := F.itoa_1000 (k := N % 1000) (by omega)
  have w1 : IntKind.i64.wrap ((N / 1000 : Nat) : Int) = ((N / 1000 : Nat) : Int) := wrap_id (by omega) (by omega)
  have w2 : IntKind.i64.wrap (1000 + ((N % 1000 : Nat) : Int)) = ((1000 + N % 1000 : Nat) : Int) := by rw [wrap_id (by omega) (by omega)]; rfl
  have o1 : F.out (N : Int) (-1000000000000000) 1000000000000000 = false := by unfold F.out; rw [decide_eq_false (by omega), decide_eq_false (by omega)]; rfl
  have o2 : F.out 1000 1 1000000000 = false := rfl
  have o3 : F.out 3 0 9 = false := rfl
  have hb : F.i64B ((N % 1000 : Nat) : Int) = true := by unfold F.i64B; rw [decide_eq_true (by omega), decide_eq_true (by omega)]; rfl
  have hd : decide (((N % 1000 : Nat) : Int).natAbs * Int.natAbs 1000 < 9223372036854775808) = true := decide_eq_true (by show _ * 1000 < _; omega)
  have he : (((N % 1000 : Nat) : Int) == 1000) = false := by simp; omega
  have hn : decide ((N : Int) < 0) = false := decide_eq_false (by omega)
  have k1 : decide ((0 : Int) ≤ 1000) = true := rfl
  have k2 : decide ((1000 : Int) ≤ 1000000) = true := rfl
  have k3 : decide ((1 : Int) ≤ 1000) = true := rfl
  have k4 : decide ((1000 : Int) ≤ 9223372036854775807) = true := rfl
  simp only [unNoT, unNoS, unOut, unPw, unScl, unIta, preNoT1, preNoS1, preOut1, prePw1, preScl1, preIta1, etaEnt, etaLst, etaSnd, etaStrm, etaMas, Option.bind_some, List.length_map, unStrs, unInts, unBools, unEnts, unItms, unTrns, cond_true, cond_false, Bool.and_true, Bool.true_and, hw, hm, hq, hx, hs, w1, w2, o1, o2, o3, hb, hd, he, hn, k1, k2, k3, k4, Bool.not_false]
  have t1 := F.itoa_size (n := ((N / 1000 : Nat) : Int)) (by omega) (by omega)
  have t2 := F.pad_size' (N % 1000) (by omega)
  have e1 : (⟨⟨[46]⟩⟩ : ByteArray).size = 1 := rfl
  have e2 : F.dot = ⟨⟨[46]⟩⟩ := rfl
  unfold F.tmS
  rw [hq, hx, ByteArray.append_assoc, e2]
  rw [decide_eq_true (by omega : -9223372036854775808 ≤ ((N / 1000 : Nat) : Int)), decide_eq_true (by omega : ((N / 1000 : Nat) : Int) ≤ 9223372036854775807), decide_eq_true (by omega : -9223372036854775808 ≤ ((1000 + N % 1000 : Nat) : Int)), decide_eq_true (by omega : ((1000 + N % 1000 : Nat) : Int) ≤ 9223372036854775807)]
  rw [z2, z1]
  have u1 : Nat.ble 1 4 = true := rfl
  have u2 : Nat.ble 4 4 = true := rfl
  rw [u1, u2]
  simp (disch := omega) only [ByteArray.size_append, e1, t2, ble_t, Bool.and_self, cond_true]

end M
end Go.Proofs.YtgkjfochkhiojaaDoor
