/- What is proved here: the places of a date, in the reference's ReadDate (no statement of the seat). -/
import Derived.Test.YtllagmepnmdeoaaDoorE77
namespace Go.Proofs.YtllagmepnmdeoaaDoor
open Go Go.RowKit
set_option linter.unusedVariables false
set_option linter.unusedSimpArgs false

theorem F.ysum_b : ∀ (n : Nat) (y : Int), 0 ≤ F.ysum n y ∧ F.ysum n y ≤ 366 * n
  | 0, y => by simp [F.ysum]
  | n + 1, y => by
    have h2 := F.ysum_b n (y + 1)
    rw [F.ysum]
    cases F.leap y
    · rw [cond_false]; omega
    · rw [cond_true]; omega

/-- The numbers of a date, place by place. -/
def F.rdD : List (UInt8 × UInt8) → ByteArray → List Int → Option (List Int)
  | [], _, ns => some ns
  | (y, f) :: r, now, ns => bif decide (f = 48) then (bif F.dgB y then F.rdD r (now ++ ⟨⟨[y]⟩⟩) ns else none) else bif decide (y = f) then F.rdD r ⟨⟨[]⟩⟩ (ns ++ [(F.dv now : Int)]) else none

/-- How many digits stand before a place of the form. -/
def F.runs (k : Nat) : Nat := ([0, 1, 2, 3, 4, 0, 1, 2, 0, 1, 2, 0, 1, 2, 0, 1, 2, 0, 1, 2, 0, 1, 2, 3, 0] : List Nat).getD k 0

theorem F.runs_step : ∀ k : Fin 24, ((F.bs F.dForm)[k.val]? = some 48 ∧ F.runs (k.val + 1) = F.runs k.val + 1 ∧ F.runs k.val ≤ 4) ∨ ((F.bs F.dForm)[k.val]? ≠ some 48 ∧ F.runs (k.val + 1) = 0 ∧ 1 ≤ F.runs k.val ∧ F.runs k.val ≤ 4) := by decide

theorem F.ext_one {s : ByteArray} {k : Nat} {y : UInt8} (h : (F.bs s)[k]? = some y) : s.extract k (k + 1) = ⟨⟨[y]⟩⟩ := by
  apply F.bsx
  rw [F.sub_bs, show k + 1 - k = 1 by omega]
  have hd := M.drop_y h
  rw [hd]
  rfl

namespace M


def stRpl (s : ByteArray) (ns : List Int) (now : ByteArray) (k : Nat) : St := ⟨[(7, vI k), (6, vS now), (5, vS F.dForm), (4, .own 4), (0, vS s)], [(4, ⟨false, 3, 1, ns.map eI⟩)]⟩

def stRpl1 (a : ByteArray × (List Int) × ByteArray × Nat) : St := stRpl a.1 a.2.1 a.2.2.1 a.2.2.2

theorem stRpl_inj (a a' : ByteArray × (List Int) × ByteArray × Nat) (h : stRpl1 a = stRpl1 a') : a = a' := by
  simp only [stRpl1, stRpl] at h
  try simp [strs_inj, ints_inj, ents_inj, eEnt_iff, eLst_iff, eSnds_inj, eStrms_inj] at h
  grind

theorem unstRpl (s : ByteArray) (ns : List Int) (now : ByteArray) (k : Nat) : unenc stRpl1 (St.mk [(7, (vI (↑k : Int))), (6, (vS now)), (5, (vS F.dForm)), (4, .own 4), (0, (vS s))] [(4, Blk.mk false 3 1 (List.map eI ns))]) = some (s, ns, now, k) := unenc_of stRpl_inj (s, ns, now, k) rfl

def outRpl (s : ByteArray) (ns : List Int) (now : ByteArray) (k : Nat) : T (Ex × St) := .ifB (F.rdD ((F.dfP s).drop k) now ns).isSome (.ret (.exit 0, ⟨[(4, .own 4)], [(4, ⟨false, 3, 1, ((F.rdD ((F.dfP s).drop k) now ns).getD []).map eI⟩)]⟩)) (.ret (.ret, ⟨[(3, vI 10), (2, vI 0)], []⟩))

noncomputable def prlRpl (s : ByteArray) (ns : List Int) (now : ByteArray) (k : Nat) : Bool := decide (s.size = 24) && decide (k ≤ 24) && decide (now.size = F.runs k) && (F.bs now).all F.dgB && decide (ns.length ≤ k)

noncomputable def lpRpl : Nat × (St → T (Ex × St)) := (7, lpo [7, 6, 5, 4, 0] [4] stRpl1 (fun a => prlRpl a.1 a.2.1 a.2.2.1 a.2.2.2) fun a => outRpl a.1 a.2.1 a.2.2.1 a.2.2.2)

def stRd2 (ns : List Int) (d : Int) (y : Int) : St := ⟨[(11, vI y), (10, vI d), (4, .own 4)], [(4, ⟨false, 3, 1, ns.map eI⟩)]⟩

def stRd21 (a : (List Int) × Int × Int) : St := stRd2 a.1 a.2.1 a.2.2

theorem stRd2_inj (a a' : (List Int) × Int × Int) (h : stRd21 a = stRd21 a') : a = a' := by
  simp only [stRd21, stRd2] at h
  try simp [strs_inj, ints_inj, ents_inj, eEnt_iff, eLst_iff, eSnds_inj, eStrms_inj] at h
  grind

theorem unstRd2 (ns : List Int) (d : Int) (y : Int) : unenc stRd21 (St.mk [(11, (vI y)), (10, (vI d)), (4, .own 4)] [(4, Blk.mk false 3 1 (List.map eI ns))]) = some (ns, d, y) := unenc_of stRd2_inj (ns, d, y) rfl

theorem unstRd20 (ns : List Int) (d : Int)  : unenc stRd21 (St.mk [(11, (vI (1970 : Int))), (10, (vI d)), (4, .own 4)] [(4, Blk.mk false 3 1 (List.map eI ns))]) = some (ns, d, 1970) := unenc_of stRd2_inj (ns, d, 1970) rfl

def outRd2 (ns : List Int) (d : Int) (y : Int) : T (Ex × St) := .ret (.exit 2, ⟨[(10, vI (d + F.ysum (ns.getD 0 0 - y).toNat y)), (4, .own 4)], [(4, ⟨false, 3, 1, ns.map eI⟩)]⟩)

noncomputable def prlRd2 (ns : List Int) (d : Int) (y : Int) : Bool := decide (2 ≤ ns.length) && decide (ns.getD 0 0 ≤ 9999) && decide (1970 ≤ y) && decide (y ≤ 10000) && decide (0 ≤ d) && decide (d ≤ 1000)

noncomputable def lpRd2 : Nat × (St → T (Ex × St)) := (22, lpo [11, 10, 4] [4] stRd21 (fun a => prlRd2 a.1 a.2.1 a.2.2) fun a => outRd2 a.1 a.2.1 a.2.2)

def stRd3 (ns : List Int) (d : Int) (m : Int) : St := ⟨[(12, vI m), (10, vI d), (4, .own 4)], [(4, ⟨false, 3, 1, ns.map eI⟩)]⟩

def stRd31 (a : (List Int) × Int × Int) : St := stRd3 a.1 a.2.1 a.2.2

theorem stRd3_inj (a a' : (List Int) × Int × Int) (h : stRd31 a = stRd31 a') : a = a' := by
  simp only [stRd31, stRd3] at h
  try simp [strs_inj, ints_inj, ents_inj, eEnt_iff, eLst_iff, eSnds_inj, eStrms_inj] at h
  grind

theorem unstRd3 (ns : List Int) (d : Int) (m : Int) : unenc stRd31 (St.mk [(12, (vI m)), (10, (vI d)), (4, .own 4)] [(4, Blk.mk false 3 1 (List.map eI ns))]) = some (ns, d, m) := unenc_of stRd3_inj (ns, d, m) rfl

theorem unstRd30 (ns : List Int) (d : Int)  : unenc stRd31 (St.mk [(12, (vI (1 : Int))), (10, (vI d)), (4, .own 4)] [(4, Blk.mk false 3 1 (List.map eI ns))]) = some (ns, d, 1) := unenc_of stRd3_inj (ns, d, 1) rfl

def outRd3 (ns : List Int) (d : Int) (m : Int) : T (Ex × St) := .ret (.exit 4, ⟨[(10, vI (d + F.msum (ns.getD 0 0) (ns.getD 1 0 - m).toNat m.toNat)), (4, .own 4)], [(4, ⟨false, 3, 1, ns.map eI⟩)]⟩)

noncomputable def prlRd3 (ns : List Int) (d : Int) (m : Int) : Bool := decide (2 ≤ ns.length) && decide (0 ≤ ns.getD 0 0) && decide (ns.getD 0 0 ≤ 9999) && decide (ns.getD 1 0 ≤ 12) && decide (1 ≤ m) && decide (m ≤ 13) && decide (0 ≤ d) && decide (d ≤ 100000000)

noncomputable def lpRd3 : Nat × (St → T (Ex × St)) := (28, lpo [12, 10, 4] [4] stRd31 (fun a => prlRd3 a.1 a.2.1 a.2.2) fun a => outRd3 a.1 a.2.1 a.2.2)

noncomputable def enRDt : Env := envH ty noG lks [oAto, oRDy, oRLep] [] [] [lpRpl, lpRd2, lpRd3]

theorem enRDt_ok : EnvOK Tryd.prog enRDt := by
  refine envH_ok lks_ok ty_ok ?_ ?_
  · simp only [List.forall_mem_cons]
    exact ⟨okAto, okRDy, okRLep, by simp⟩
  · simp

theorem evRplL (s : ByteArray) (ns : List Int) (now : ByteArray) (k : Nat) : ((exec enRDt (loopN Tryd.f41 0) (stRpl s ns now k)).bind (lessX ([7, 6, 5, 4, 0], [4]) ([4], [4]) ([3, 2], []))).val =
  bif decide ((↑k : Int) < (24 : Int)) then Option.bind F.dForm[k]? fun (z : UInt8) => bif (↑(UInt8.toNat z) : Int) == (48 : Int) then Option.bind s[k]? fun (z : UInt8) =>
  bif !decide ((↑(UInt8.toNat z) : Int) < (48 : Int)) then Option.bind s[k]? fun (z : UInt8) => bif decide ((57 : Int) < (↑(UInt8.toNat z) : Int)) then some (Ex.ret, St.mk
  [(3, (vI (10 : Int))), (2, (vI (0 : Int)))] []) else Option.bind (idx (IntKind.wrap IntKind.i64 ((↑k : Int) + (1 : Int)))) fun (z : Nat) => bif Nat.ble k z && Nat.ble z
  (ByteArray.size s) then bif Nat.ble (ByteArray.size now + ByteArray.size (ByteArray.extract s k z)) (9223372036854775807 : Nat) then some (Ex.normal, St.mk [(7, (vI
  (IntKind.wrap IntKind.i64 ((↑k : Int) + (1 : Int))))), (6, (vS (now ++ ByteArray.extract s k z))), (5, (vS F.dForm)), (4, .own 4), (0, (vS s))] [(4, Blk.mk false 3 1
  (List.map eI ns))]) else none else none else some (Ex.ret, St.mk [(3, (vI (10 : Int))), (2, (vI (0 : Int)))] []) else Option.bind s[k]? fun (z : UInt8) => Option.bind
  F.dForm[k]? fun (z_1 : UInt8) => bif (↑(UInt8.toNat z) : Int) != (↑(UInt8.toNat z_1) : Int) then some (Ex.ret, St.mk [(3, (vI (10 : Int))), (2, (vI (0 : Int)))] []) else
  Option.bind (unenc encAto [(vS now)]) fun (z : ByteArray) => bif F.isD z && decide (ByteArray.size z ≤ (1000 : Nat)) then bif Nat.ble ((List.length (List.map eI ns) + (1 :
  Nat)) * (8 : Nat)) (140737488355328 : Nat) && true then some (Ex.normal, St.mk [(7, (vI (IntKind.wrap IntKind.i64 ((↑k : Int) + (1 : Int))))), (6, (vS (ByteArray.mk
  (Array.mk [])))), (5, (vS F.dForm)), (4, .own 4), (0, (vS s))] [(4, Blk.mk false 3 1 (List.map eI ns ++ [[(vI (↑(F.dv z) : Int))]]))]) else none else none else some
  (Ex.exit (0 : Nat), St.mk [(4, .own 4)] [(4, Blk.mk false 3 1 (List.map eI ns))]) := (execR_bind _ _ _).symm.trans (by kernel_rfl)

theorem lpRpl_ok (s : ByteArray) (ns : List Int) (now : ByteArray) (k : Nat) (hp : prlRpl s ns now k = true) : ∀ ex s', (outRpl s ns now k).val = some (ex, s') → LoopOK enRDt (loopN Tryd.f41 0) (stRpl s ns now k) ex s' := by
  simp only [prlRpl, Bool.and_eq_true, decide_eq_true_eq] at hp
  obtain ⟨⟨⟨⟨h1, h2⟩, h3⟩, h4⟩, h5⟩ := hp
  have hl := F.bs_len s
  have hlf : (F.bs F.dForm).length = 24 := rfl
  have hz : (F.dfP s).length = 24 := by unfold F.dfP; rw [List.length_zip]; omega
  refine loop_gen (st := fun p : List Int × ByteArray × Nat => stRpl s p.1 p.2.1 p.2.2) (out := fun p => outRpl s p.1 p.2.1 p.2.2) (I := fun p => p.2.2 ≤ 24 ∧ p.2.1.size = F.runs p.2.2 ∧ (F.bs p.2.1).all F.dgB = true ∧ p.1.length ≤ p.2.2) (n := ([7, 6, 5, 4, 0], [4])) (e := ([4], [4])) (r := ([3, 2], [])) (fun p => 24 - p.2.2) ?_ (ns, now, k) ⟨h2, h3, h4, h5⟩
  clear h2 h3 h4 h5
  rintro ⟨ns, now, k⟩ ⟨g1, g2, g3, g4⟩
  simp only at g1 g2 g3 g4
  by_cases hlt : k < 24
  · have hy : (F.bs s)[k]? = some ((F.bs s)[k]'(by omega)) := List.getElem?_eq_getElem (by omega)
    generalize (F.bs s)[k]'(by omega) = y at hy
    have hf : (F.bs F.dForm)[k]? = some ((F.bs F.dForm)[k]'(by omega)) := List.getElem?_eq_getElem (by omega)
    generalize (F.bs F.dForm)[k]'(by omega) = f at hf
    have hzk : (F.dfP s)[k]? = some (y, f) := List.getElem?_zip_eq_some.2 ⟨hy, hf⟩
    have hd := drop_y hzk
    have hk : decide ((k : Int) < 24) = true := decide_eq_true (by omega)
    have e1 : ((f.toNat : Int) == 48) = decide (f = 48) := by
      by_cases h : f = 48
      · subst h; rfl
      · rw [decide_eq_false h]
        simp only [beq_eq_false_iff_ne]
        intro e; exact h (UInt8.toNat_inj.1 (by show f.toNat = 48; omega))
    have e2 : ((y.toNat : Int) == (f.toNat : Int)) = decide (y = f) := by
      by_cases h : y = f
      · subst h; simp
      · rw [decide_eq_false h]
        simp only [beq_eq_false_iff_ne]
        intro e; exact h (UInt8.toNat_inj.1 (by omega))
    have w1 : IntKind.i64.wrap ((k : Int) + 1) = ((k + 1 : Nat) : Int) := by rw [wrap_id (by omega) (by omega)]; rfl
    have hi : idx ((k + 1 : Nat) : Int) = some (k + 1) := rfl
    have n1 : Nat.ble k (k + 1) = true := ble_t (by omega)
    have n2 : Nat.ble (k + 1) s.size = true := ble_t (by omega)
    have hx := F.ext_one hy
    have hxz : (⟨⟨[y]⟩⟩ : ByteArray).size = 1 := rfl
    rcases F.runs_step ⟨k, hlt⟩ with ⟨r1, r2, r3⟩ | ⟨r1, r2, r3, r4⟩
    · have hf48 : f = 48 := Option.some.inj (hf.symm.trans r1)
      simp only at r2 r3
      have n3 : Nat.ble (now.size + 1) 9223372036854775807 = true := ble_t (by omega)
      cases hc : F.dgB y
      · left
        refine ⟨(.ret, ⟨[(3, vI 10), (2, vI 0)], []⟩), ?_, ?_, by simp, rfl⟩
        · rw [evRplL]
          simp only [unAto, unRDy, unRLep, preAto1, preRDy1, preRLep1, unstRpl, unstRd2, unstRd3, unstRd20, unstRd30, prlRpl, prlRd2, prlRd3, outRpl, outRd2, outRd3, etaEnt, etaLst, etaSnd, etaStrm, etaMas, Option.bind_some, List.length_map, unStrs, unInts, unBools, unEnts, unItms, unTrns, cond_true, cond_false, Bool.and_true, Bool.true_and, hk, F.bs_get, hy, hf, e1, decide_eq_true hf48]
          unfold F.dgB at hc
          by_cases a1 : 48 ≤ y.toNat <;> by_cases a2 : y.toNat ≤ 57
          · simp [a1, a2] at hc
          · rw [decide_eq_false (by omega : ¬ (y.toNat : Int) < 48), decide_eq_true (by omega : (57 : Int) < (y.toNat : Int))]; rfl
          · rw [decide_eq_true (by omega : (y.toNat : Int) < 48)]; rfl
          · rw [decide_eq_true (by omega : (y.toNat : Int) < 48)]; rfl
        · simp only [outRpl, hd, F.rdD, decide_eq_true hf48, hc]
          rfl
      · right
        have hc2 := hc
        unfold F.dgB at hc2
        simp only [Bool.and_eq_true, decide_eq_true_eq] at hc2
        refine ⟨(ns, now ++ ⟨⟨[y]⟩⟩, k + 1), ?_, rfl, ⟨hlt, ?_, ?_, by simp only; omega⟩, by simp only; omega, ?_⟩
        · rw [evRplL]
          simp only [unAto, unRDy, unRLep, preAto1, preRDy1, preRLep1, unstRpl, unstRd2, unstRd3, unstRd20, unstRd30, prlRpl, prlRd2, prlRd3, outRpl, outRd2, outRd3, etaEnt, etaLst, etaSnd, etaStrm, etaMas, Option.bind_some, List.length_map, unStrs, unInts, unBools, unEnts, unItms, unTrns, cond_true, cond_false, Bool.and_true, Bool.true_and, hk, F.bs_get, hy, hf, e1, decide_eq_true hf48, decide_eq_false (by omega : ¬ (y.toNat : Int) < 48), decide_eq_false (by omega : ¬ (57 : Int) < (y.toNat : Int)), w1, hi, n1, n2, hx, hxz, n3, stRpl]
          try rfl
        · simp only [ByteArray.size_append, hxz]; omega
        · simp only [F.bs_app, List.all_append, g3]
          show (true && (F.dgB y && true)) = true
          rw [hc]; rfl
        · simp only [outRpl, hd, F.rdD, decide_eq_true hf48, hc, cond_true]
    · have hf48 : ¬ f = 48 := fun e => r1 (by rw [hf, e])
      simp only at r2 r3 r4
      have hD := F.isD_of (s := now) (by omega) (by omega) g3
      have n4 : Nat.ble ((ns.length + 1) * 8) 140737488355328 = true := ble_t (by omega)
      cases hc : decide (y = f)
      · left
        refine ⟨(.ret, ⟨[(3, vI 10), (2, vI 0)], []⟩), ?_, ?_, by simp, rfl⟩
        · rw [evRplL]
          simp only [unAto, unRDy, unRLep, preAto1, preRDy1, preRLep1, unstRpl, unstRd2, unstRd3, unstRd20, unstRd30, prlRpl, prlRd2, prlRd3, outRpl, outRd2, outRd3, etaEnt, etaLst, etaSnd, etaStrm, etaMas, Option.bind_some, List.length_map, unStrs, unInts, unBools, unEnts, unItms, unTrns, cond_true, cond_false, Bool.and_true, Bool.true_and, hk, F.bs_get, hy, hf, e1, e2, bne, decide_eq_false hf48, hc]
          try rfl
        · simp only [outRpl, hd, F.rdD, decide_eq_false hf48, hc]
          rfl
      · right
        refine ⟨(ns ++ [(F.dv now : Int)], ⟨⟨[]⟩⟩, k + 1), ?_, rfl, ⟨hlt, r2.symm, rfl, by simp only [List.length_append, List.length_singleton]; omega⟩, by simp only; omega, ?_⟩
        · rw [evRplL]
          simp only [unAto, unRDy, unRLep, preAto1, preRDy1, preRLep1, unstRpl, unstRd2, unstRd3, unstRd20, unstRd30, prlRpl, prlRd2, prlRd3, outRpl, outRd2, outRd3, etaEnt, etaLst, etaSnd, etaStrm, etaMas, Option.bind_some, List.length_map, unStrs, unInts, unBools, unEnts, unItms, unTrns, cond_true, cond_false, Bool.and_true, Bool.true_and, hk, F.bs_get, hy, hf, e1, e2, bne, decide_eq_false hf48, hc, hD, decide_eq_true (by omega : now.size ≤ 1000), w1, n4, stRpl]
          rw [List.map_append]
          rfl
        · simp only [outRpl, hd, F.rdD, decide_eq_false hf48, hc, cond_true, cond_false]
  · have : k = 24 := by omega
    subst this
    have hd : (F.dfP s).drop 24 = [] := List.drop_eq_nil_of_le (by omega)
    left
    refine ⟨(.exit 0, ⟨[(4, .own 4)], [(4, ⟨false, 3, 1, ns.map eI⟩)]⟩), ?_, ?_, by simp, rfl⟩
    · rw [evRplL]
      rfl
    · simp only [outRpl, hd, F.rdD]
      rfl

theorem evRd2L (ns : List Int) (d : Int) (y : Int) : ((exec enRDt (loopN Tryd.f41 1) (stRd2 ns d y)).bind (lessX ([11, 10, 4], [4]) ([10, 4], [4]) ([3, 2], []))).val =
  bif decide ((0 : Nat) < List.length (Blk.mk false 3 1 (List.map eI ns)).rows) then Option.bind (unenc (List.map eI) (List.map eI ns)) fun (z : List Int) => bif decide ((0
  : Nat) < List.length z) then bif decide (y < List.getD z (0 : Nat) (0 : Int)) then Option.bind (unenc encRLep [(vI y)]) fun (z : Int) => bif decide ((0 : Int) ≤ z) &&
  decide (z ≤ (100000 : Int)) then bif F.leap z then some (Ex.normal, St.mk [(11, (vI (IntKind.wrap IntKind.i64 (y + (1 : Int))))), (10, (vI (IntKind.wrap IntKind.i64
  (IntKind.wrap IntKind.i64 (d + (365 : Int)) + (1 : Int))))), (4, .own 4)] [(4, Blk.mk false 3 1 (List.map eI ns))]) else some (Ex.normal, St.mk [(11, (vI (IntKind.wrap
  IntKind.i64 (y + (1 : Int))))), (10, (vI (IntKind.wrap IntKind.i64 (d + (365 : Int))))), (4, .own 4)] [(4, Blk.mk false 3 1 (List.map eI ns))]) else none else some
  (Ex.exit (2 : Nat), St.mk [(10, (vI d)), (4, .own 4)] [(4, Blk.mk false 3 1 (List.map eI ns))]) else none else none := (execR_bind _ _ _).symm.trans (by kernel_rfl)

theorem lpRd2_ok (ns : List Int) (d : Int) (y : Int) (hp : prlRd2 ns d y = true) : ∀ ex s', (outRd2 ns d y).val = some (ex, s') → LoopOK enRDt (loopN Tryd.f41 1) (stRd2 ns d y) ex s' := by
  simp only [prlRd2, Bool.and_eq_true, decide_eq_true_eq] at hp
  obtain ⟨⟨⟨⟨⟨h1, h2⟩, h3⟩, h4⟩, h5⟩, h6⟩ := hp
  refine loop_gen (st := fun p : Int × Int => stRd2 ns p.1 p.2) (out := fun p => outRd2 ns p.1 p.2) (I := fun p => 1970 ≤ p.2 ∧ p.2 ≤ 10000 ∧ 0 ≤ p.1 ∧ p.1 ≤ 1000 + 366 * (p.2 - 1970)) (n := ([11, 10, 4], [4])) (e := ([10, 4], [4])) (r := ([3, 2], [])) (fun p => (10000 - p.2).toNat) ?_ (d, y) ⟨h3, h4, h5, by simp only; omega⟩
  clear h3 h4 h5 h6
  rintro ⟨d, y⟩ ⟨g1, g2, g3, g4⟩
  simp only at g1 g2 g3 g4
  have l0 : decide (0 < ns.length) = true := decide_eq_true (by omega)
  have y1 : decide (0 ≤ y) = true := decide_eq_true (by omega)
  have y2 : decide (y ≤ 100000) = true := decide_eq_true (by omega)
  by_cases hlt : y < ns.getD 0 0
  · have w1 : IntKind.i64.wrap (d + 365) = d + 365 := wrap_id (by omega) (by omega)
    have w2 : IntKind.i64.wrap (d + 365 + 1) = d + 365 + 1 := wrap_id (by omega) (by omega)
    have w3 : IntKind.i64.wrap (y + 1) = y + 1 := wrap_id (by omega) (by omega)
    have hs : d + F.ysum (ns.getD 0 0 - y).toNat y = d + 365 + (bif F.leap y then 1 else 0) + F.ysum (ns.getD 0 0 - (y + 1)).toNat (y + 1) := by
      rw [show (ns.getD 0 0 - y).toNat = (ns.getD 0 0 - (y + 1)).toNat + 1 by omega, F.ysum]
      omega
    right
    refine ⟨(d + 365 + (bif F.leap y then 1 else 0), y + 1), ?_, rfl, ?_, by simp only; omega, ?_⟩
    · rw [evRd2L]
      simp only [unAto, unRDy, unRLep, preAto1, preRDy1, preRLep1, unstRpl, unstRd2, unstRd3, unstRd20, unstRd30, prlRpl, prlRd2, prlRd3, outRpl, outRd2, outRd3, etaEnt, etaLst, etaSnd, etaStrm, etaMas, Option.bind_some, List.length_map, unStrs, unInts, unBools, unEnts, unItms, unTrns, cond_true, cond_false, Bool.and_true, Bool.true_and, l0, y1, y2, decide_eq_true hlt, w1, w2, w3, stRd2]
      cases F.leap y
      · simp only [cond_false, Int.add_zero]
      · rfl
    · cases F.leap y
      · simp only [cond_false]; omega
      · simp only [cond_true]; omega
    · simp only [outRd2, hs]
  · left
    refine ⟨(.exit 2, ⟨[(10, vI d), (4, .own 4)], [(4, ⟨false, 3, 1, ns.map eI⟩)]⟩), ?_, ?_, by simp, rfl⟩
    · rw [evRd2L]
      simp only [unAto, unRDy, unRLep, preAto1, preRDy1, preRLep1, unstRpl, unstRd2, unstRd3, unstRd20, unstRd30, prlRpl, prlRd2, prlRd3, outRpl, outRd2, outRd3, etaEnt, etaLst, etaSnd, etaStrm, etaMas, Option.bind_some, List.length_map, unStrs, unInts, unBools, unEnts, unItms, unTrns, cond_true, cond_false, Bool.and_true, Bool.true_and, l0, decide_eq_false hlt]
      try rfl
    · simp only [outRd2]
      rw [show (ns.getD 0 0 - y).toNat = 0 by omega, F.ysum, Int.add_zero]
      rfl

theorem evRd3L (ns : List Int) (d : Int) (m : Int) : ((exec enRDt (loopN Tryd.f41 2) (stRd3 ns d m)).bind (lessX ([12, 10, 4], [4]) ([10, 4], [4]) ([3, 2], []))).val =
  bif decide ((1 : Nat) < List.length (Blk.mk false 3 1 (List.map eI ns)).rows) then Option.bind (unenc (List.map eI) (List.map eI ns)) fun (z : List Int) => bif decide ((1
  : Nat) < List.length z) then bif decide (m < List.getD z (1 : Nat) (0 : Int)) then bif decide ((0 : Nat) < List.length (Blk.mk false 3 1 (List.map eI ns)).rows) then
  Option.bind (unenc (List.map eI) (List.map eI ns)) fun (z : List Int) => bif decide ((0 : Nat) < List.length z) then Option.bind (unenc encRDy [(vI (List.getD z (0 : Nat)
  (0 : Int))), (vI m)]) fun (z : Int × Int) => bif decide ((0 : Int) ≤ z.fst) && decide (z.fst ≤ (100000 : Int)) then some (Ex.normal, St.mk [(12, (vI (IntKind.wrap
  IntKind.i64 (m + (1 : Int))))), (10, (vI (IntKind.wrap IntKind.i64 (d + F.mdays z.fst z.snd)))), (4, .own 4)] [(4, Blk.mk false 3 1 (List.map eI ns))]) else none else none
  else none else some (Ex.exit (4 : Nat), St.mk [(10, (vI d)), (4, .own 4)] [(4, Blk.mk false 3 1 (List.map eI ns))]) else none else none := (execR_bind _ _ _).symm.trans (by kernel_rfl)

theorem lpRd3_ok (ns : List Int) (d : Int) (m : Int) (hp : prlRd3 ns d m = true) : ∀ ex s', (outRd3 ns d m).val = some (ex, s') → LoopOK enRDt (loopN Tryd.f41 2) (stRd3 ns d m) ex s' := by
  simp only [prlRd3, Bool.and_eq_true, decide_eq_true_eq] at hp
  obtain ⟨⟨⟨⟨⟨⟨⟨h1, h2⟩, h3⟩, h4⟩, h5⟩, h6⟩, h7⟩, h8⟩ := hp
  refine loop_gen (st := fun p : Int × Int => stRd3 ns p.1 p.2) (out := fun p => outRd3 ns p.1 p.2) (I := fun p => 1 ≤ p.2 ∧ p.2 ≤ 13 ∧ 0 ≤ p.1 ∧ p.1 ≤ 100000000 + 31 * p.2) (n := ([12, 10, 4], [4])) (e := ([10, 4], [4])) (r := ([3, 2], [])) (fun p => (13 - p.2).toNat) ?_ (d, m) ⟨h5, h6, h7, by simp only; omega⟩
  clear h5 h6 h7 h8
  rintro ⟨d, m⟩ ⟨g1, g2, g3, g4⟩
  simp only at g1 g2 g3 g4
  have l0 : decide (0 < ns.length) = true := decide_eq_true (by omega)
  have l1 : decide (1 < ns.length) = true := decide_eq_true (by omega)
  have y1 : decide (0 ≤ ns.getD 0 0) = true := decide_eq_true h2
  have y2 : decide (ns.getD 0 0 ≤ 100000) = true := decide_eq_true (by omega)
  have hb := F.mdays_b (ns.getD 0 0) m
  by_cases hlt : m < ns.getD 1 0
  · have w1 : IntKind.i64.wrap (d + F.mdays (ns.getD 0 0) m) = d + F.mdays (ns.getD 0 0) m := wrap_id (by omega) (by omega)
    have w3 : IntKind.i64.wrap (m + 1) = m + 1 := wrap_id (by omega) (by omega)
    have hs : d + F.msum (ns.getD 0 0) (ns.getD 1 0 - m).toNat m.toNat = d + F.mdays (ns.getD 0 0) m + F.msum (ns.getD 0 0) (ns.getD 1 0 - (m + 1)).toNat (m + 1).toNat := by
      rw [show (ns.getD 1 0 - m).toNat = (ns.getD 1 0 - (m + 1)).toNat + 1 by omega, F.msum, show ((m.toNat : Nat) : Int) = m by omega, show m.toNat + 1 = (m + 1).toNat by omega]
      omega
    right
    refine ⟨(d + F.mdays (ns.getD 0 0) m, m + 1), ?_, rfl, ⟨by simp only; omega, by simp only; omega, by simp only; omega, by simp only; omega⟩, by simp only; omega, ?_⟩
    · rw [evRd3L]
      simp only [unAto, unRDy, unRLep, preAto1, preRDy1, preRLep1, unstRpl, unstRd2, unstRd3, unstRd20, unstRd30, prlRpl, prlRd2, prlRd3, outRpl, outRd2, outRd3, etaEnt, etaLst, etaSnd, etaStrm, etaMas, Option.bind_some, List.length_map, unStrs, unInts, unBools, unEnts, unItms, unTrns, cond_true, cond_false, Bool.and_true, Bool.true_and, l0, l1, y1, y2, decide_eq_true hlt, w1, w3, stRd3]
      try rfl
    · simp only [outRd3, hs]
  · left
    refine ⟨(.exit 4, ⟨[(10, vI d), (4, .own 4)], [(4, ⟨false, 3, 1, ns.map eI⟩)]⟩), ?_, ?_, by simp, rfl⟩
    · rw [evRd3L]
      simp only [unAto, unRDy, unRLep, preAto1, preRDy1, preRLep1, unstRpl, unstRd2, unstRd3, unstRd20, unstRd30, prlRpl, prlRd2, prlRd3, outRpl, outRd2, outRd3, etaEnt, etaLst, etaSnd, etaStrm, etaMas, Option.bind_some, List.length_map, unStrs, unInts, unBools, unEnts, unItms, unTrns, cond_true, cond_false, Bool.and_true, Bool.true_and, l0, l1, decide_eq_false hlt]
      try rfl
    · simp only [outRd3]
      rw [show (ns.getD 1 0 - m).toNat = 0 by omega, F.msum, Int.add_zero]
      rfl

end M
end Go.Proofs.YtllagmepnmdeoaaDoor
