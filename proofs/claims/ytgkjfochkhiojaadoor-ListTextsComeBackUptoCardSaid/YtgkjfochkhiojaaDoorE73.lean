/- What is proved here: the time of a list's entry, of the program (no statement of the seat). -/
import Derived.Test.YtgkjfochkhiojaaDoorE72
namespace Go.Proofs.YtgkjfochkhiojaaDoor
open Go Go.RowKit
set_option linter.unusedVariables false
set_option linter.unusedSimpArgs false

theorem F.dg_digit (y : UInt8) : F.digit (y.toNat : Int) = F.dgB y := by
  unfold F.digit F.dgB
  by_cases a1 : 48 ≤ y.toNat <;> by_cases a2 : y.toNat ≤ 57 <;> simp [a1, a2] <;> omega

theorem F.isD_of {s : ByteArray} (h0 : 0 < s.size) (h1 : s.size ≤ 18) (ha : (F.bs s).all F.dgB = true) : F.isD s = true := by
  have hl := F.bs_len s
  have hlt := F.dvA_lt _ ha
  rw [hl] at hlt
  have hp18 : 10 ^ s.size ≤ 10 ^ 18 := Nat.pow_le_pow_right (by decide) h1
  unfold F.isD F.dv
  rw [ha, decide_eq_true h0, decide_eq_true (by omega)]
  rfl

theorem F.dv_lt {s : ByteArray} (h1 : s.size = 3) (ha : (F.bs s).all F.dgB = true) : F.dv s < 1000 := by
  have hlt := F.dvA_lt _ ha
  rw [F.bs_len, h1] at hlt
  exact hlt

theorem F.numV_nn (s : ByteArray) (k : Int) : 0 ≤ F.numV s k := by
  unfold F.numV
  cases F.numOk s k
  · exact Int.le_refl _
  · exact Int.natCast_nonneg _

namespace M


def stMil (b : ByteArray) (n : Int) (k : Nat) : St := ⟨[(36, vI k), (35, vI b.size), (7, vI n), (5, vS b)], []⟩

def stMil1 (a : ByteArray × Int × Nat) : St := stMil a.1 a.2.1 a.2.2

theorem stMil_inj (a a' : ByteArray × Int × Nat) (h : stMil1 a = stMil1 a') : a = a' := by
  simp only [stMil1, stMil] at h
  try simp [strs_inj, ints_inj, ents_inj, eEnt_iff, eLst_iff, eSnds_inj, eStrms_inj] at h
  grind

theorem unstMil (b : ByteArray) (n : Int) (k : Nat) : unenc stMil1 (St.mk [(36, (vI (↑k : Int))), (35, (vI (↑(ByteArray.size b) : Int))), (7, (vI n)), (5, (vS b))] []) = some (b, n, k) := unenc_of stMil_inj (b, n, k) rfl

theorem unstMil0 (b : ByteArray) (n : Int)  : unenc stMil1 (St.mk [(36, (vI (0 : Int))), (35, (vI (↑(ByteArray.size b) : Int))), (7, (vI n)), (5, (vS b))] []) = some (b, n, 0) := unenc_of stMil_inj (b, n, 0) rfl

def outMil (b : ByteArray) (n : Int) (k : Nat) : T (Ex × St) := .ifB (((F.bs b).drop k).all F.dgB) (.ret (.exit 0, ⟨[(7, vI n), (5, vS b)], []⟩)) (.ret (.ret, ⟨[(3, vB false), (2, vI 0)], []⟩))

noncomputable def prlMil (b : ByteArray) (n : Int) (k : Nat) : Bool := decide (b.size ≤ 1000) && decide (k ≤ b.size)

noncomputable def lpMil : Nat × (St → T (Ex × St)) := (6, lpo [36, 35, 7, 5] [] stMil1 (fun a => prlMil a.1 a.2.1 a.2.2) fun a => outMil a.1 a.2.1 a.2.2)

noncomputable def enMil : Env := envH ty noG lks [oCut, oNum, oDigit, oAto] [] [] [lpMil]

theorem enMil_ok : EnvOK Tryd.prog enMil := by
  refine envH_ok lks_ok ty_ok ?_ ?_
  · simp only [List.forall_mem_cons]
    exact ⟨okCut, okNum, okDigit, okAto, by simp⟩
  · simp

theorem evMilL (b : ByteArray) (n : Int) (k : Nat) : ((exec enMil (loopN Tryd.f61 0) (stMil b n k)).bind (lessX ([36, 35, 7, 5], []) ([7, 5], []) ([3, 2], []))).val =
  bif decide ((↑k : Int) < (↑(ByteArray.size b) : Int)) then Option.bind b[k]? fun (z : UInt8) => Option.bind (unenc encDigit [(vU (↑(UInt8.toNat z) : Int))]) fun (z : Int)
  => bif !F.digit z then some (Ex.ret, St.mk [(3, (vB false)), (2, (vI (0 : Int)))] []) else some (Ex.normal, St.mk [(36, (vI (IntKind.wrap IntKind.i64 ((↑k : Int) + (1 :
  Int))))), (35, (vI (↑(ByteArray.size b) : Int))), (7, (vI n)), (5, (vS b))] []) else some (Ex.exit (0 : Nat), St.mk [(7, (vI n)), (5, (vS b))] []) := (execR_bind _ _ _).symm.trans (by kernel_rfl)

theorem lpMil_ok (b : ByteArray) (n : Int) (k : Nat) (hp : prlMil b n k = true) : ∀ ex s', (outMil b n k).val = some (ex, s') → LoopOK enMil (loopN Tryd.f61 0) (stMil b n k) ex s' := by
  simp only [prlMil, Bool.and_eq_true, decide_eq_true_eq] at hp
  obtain ⟨h1, h2⟩ := hp
  refine loop_gen (st := fun k => stMil b n k) (out := fun k => outMil b n k) (I := fun k => k ≤ b.size) (n := ([36, 35, 7, 5], [])) (e := ([7, 5], [])) (r := ([3, 2], [])) (fun k => b.size - k) ?_ k h2
  clear h2
  intro k hk
  have hl := F.bs_len b
  by_cases hlt : k < b.size
  · have hy : (F.bs b)[k]? = some ((F.bs b)[k]'(by omega)) := List.getElem?_eq_getElem (by omega)
    generalize (F.bs b)[k]'(by omega) = y at hy
    have hd := drop_y hy
    cases hc : F.dgB y
    · left
      refine ⟨(.ret, ⟨[(3, vB false), (2, vI 0)], []⟩), ?_, ?_, by simp, rfl⟩
      · rw [evMilL]
        simp only [unCut, unNum, unDigit, unAto, preCut1, preNum1, preDigit1, preAto1, unstMil, unstMil0, prlMil, outMil, etaEnt, etaLst, etaSnd, etaStrm, etaMas, Option.bind_some, List.length_map, unStrs, unInts, unBools, unEnts, unItms, unTrns, cond_true, cond_false, Bool.and_true, Bool.true_and, cast_lt hlt, F.bs_get, hy, F.dg_digit, hc]
        rfl
      · simp only [outMil, hd, List.all_cons, hc]
        rfl
    · right
      refine ⟨k + 1, ?_, rfl, hlt, by omega, ?_⟩
      · rw [evMilL]
        simp only [unCut, unNum, unDigit, unAto, preCut1, preNum1, preDigit1, preAto1, unstMil, unstMil0, prlMil, outMil, etaEnt, etaLst, etaSnd, etaStrm, etaMas, Option.bind_some, List.length_map, unStrs, unInts, unBools, unEnts, unItms, unTrns, cond_true, cond_false, Bool.and_true, Bool.true_and, cast_lt hlt, F.bs_get, hy, F.dg_digit, hc, next_at hlt (by omega : b.size ≤ 9223372036854775807), stMil]
        try rfl
      · simp only [outMil, hd, List.all_cons, hc, Bool.true_and]
  · have : k = b.size := by omega
    subst this
    have hd : (F.bs b).drop b.size = [] := List.drop_eq_nil_of_le (by omega)
    left
    refine ⟨(.exit 0, ⟨[(7, vI n), (5, vS b)], []⟩), ?_, ?_, by simp, rfl⟩
    · rw [evMilL]; simp
    · simp only [outMil, hd, List.all_nil]
      rfl

theorem evMil (s : ByteArray) : (runF enMil false Tryd.f61 [vS s]).val =
  Option.bind (unenc encCut [(vS s), (vS (ByteArray.mk (Array.mk [(46 : UInt8)])))]) fun (z : ByteArray × ByteArray) => bif decide (ByteArray.size z.fst ≤ (4294967280 :
  Nat)) then Option.bind (unenc encNum [(vS (F.cutH z.fst z.snd)), (vI (16 : Int))]) fun (z_1 : ByteArray × Int) => bif decide (z_1.snd ≤ (18 : Int)) then bif bif bif
  !F.numOk z_1.fst z_1.snd then true else !F.cutF z.fst z.snd then true else (↑(ByteArray.size (F.cutT z.fst z.snd)) : Int) != (3 : Int) then some (AV.tup [(vI (0 : Int)),
  (vB false)], []) else Option.bind (unenc stMil1 (St.mk [(36, (vI (0 : Int))), (35, (vI (↑(ByteArray.size (F.cutT z.fst z.snd)) : Int))), (7, (vI (F.numV z_1.fst
  z_1.snd))), (5, (vS (F.cutT z.fst z.snd)))] [])) fun (z : ByteArray × Int × Nat) => bif decide (ByteArray.size z.fst ≤ (1000 : Nat)) && decide (z.snd.snd ≤ ByteArray.size
  z.fst) && true then bif List.all (List.drop z.snd.snd (F.bs z.fst)) F.dgB then Option.bind (unenc encAto [(vS z.fst)]) fun (z_2 : ByteArray) => bif F.isD z_2 && decide
  (ByteArray.size z_2 ≤ (1000 : Nat)) then some (AV.tup [(vI (IntKind.wrap IntKind.i64 (IntKind.wrap IntKind.i64 (min z.snd.fst (1000000000000000 : Int) * (1000 : Int)) +
  (↑(F.dv z_2) : Int)))), (vB true)], []) else none else some (AV.tup [(vI (0 : Int)), (vB false)], []) else none else none else none := (runFR_val).symm.trans (by kernel_rfl)

def encMil1 (s : ByteArray) : List AV := [vS s]

def encMil (a : ByteArray) : List AV := encMil1 a

theorem encMil_inj (a a' : ByteArray) (h : encMil a = encMil a') : a = a' := by
  simp only [encMil, encMil1] at h
  try simp [strs_inj, ints_inj, ents_inj, eEnt_iff, eLst_iff, eSnds_inj, eStrms_inj] at h
  grind

theorem unMil (s : ByteArray) : unenc encMil ([(vS s)]) = some (s) := unenc_of encMil_inj (s) rfl

def resMil1 (s : ByteArray) : AV × Heap := (.tup [vI (F.milV s), vB (F.milOk s)], [])

def preMil1 (s : ByteArray) : Bool := decide (s.size ≤ 500000)

noncomputable def oMil : Orc := orc 61 true encMil (fun a => preMil1 a) fun a => resMil1 a

theorem okMil : OrcOK Tryd.prog noG oMil := by
  refine mk_ok Tryd.f61 (keep := false) (by kernel_rfl) (by kernel_rfl) enMil_ok mixed (one_loop (x0 := loopN Tryd.f61 0) (by kernel_rfl) (lpo_ok ?_)) (by first | exact fun _ _ => ⟨rfl, rfl⟩ | (intro h; cases h)) ?_
  · rintro ⟨b, n, k⟩ hp
    exact lpMil_ok b n k hp
  rintro s hpre hok
  show (runF enMil false _ (encMil1 _)).val = some (resMil1 _)
  unfold encMil1 resMil1
  rw [evMil]
  have hpre : s.size ≤ 500000 := of_decide_eq_true hpre
  have q : (⟨⟨[46]⟩⟩ : ByteArray) = F.dot := rfl
  have h16 : decide ((16 : Int) ≤ 18) = true := rfl
  simp only [unCut, unNum, unDigit, unAto, preCut1, preNum1, preDigit1, preAto1, unstMil, unstMil0, prlMil, outMil, etaEnt, etaLst, etaSnd, etaStrm, etaMas, Option.bind_some, List.length_map, unStrs, unInts, unBools, unEnts, unItms, unTrns, cond_true, cond_false, Bool.and_true, Bool.true_and, q, decide_eq_true (by omega : s.size ≤ 4294967280), h16, List.drop_zero, Nat.zero_le, decide_true]
  unfold F.milV F.milOk
  have hn := F.numV_nn (F.cutH s F.dot) 16
  generalize F.numV (F.cutH s F.dot) 16 = n at hn
  generalize F.cutT s F.dot = b
  cases F.numOk (F.cutH s F.dot) 16
  · rfl
  cases F.cutF s F.dot
  · rfl
  by_cases h3 : b.size = 3
  · have e3 : ((b.size : Int) != 3) = false := by rw [h3]; rfl
    rw [e3, decide_eq_true h3, decide_eq_true (by omega : b.size ≤ 1000)]
    by_cases ha : (F.bs b).all F.dgB = true
    · have hd := F.dv_lt h3 ha
      rw [ha, F.isD_of (by omega) (by omega) ha]
      have w1 : IntKind.i64.wrap (min n 1000000000000000 * 1000) = min n 1000000000000000 * 1000 := wrap_id (by omega) (by omega)
      have w2 : IntKind.i64.wrap (min n 1000000000000000 * 1000 + ((F.dv b : Nat) : Int)) = min n 1000000000000000 * 1000 + ((F.dv b : Nat) : Int) := wrap_id (by omega) (by omega)
      rw [w1, w2]
      rfl
    · have ha : (F.bs b).all F.dgB = false := by cases h : (F.bs b).all F.dgB <;> simp_all
      rw [ha]
      rfl
  · have e3 : ((b.size : Int) != 3) = true := by simp; omega
    rw [e3, decide_eq_false h3]
    rfl

end M
end Go.Proofs.YtgkjfochkhiojaaDoor
