/- What is proved here: what the readers of times return on plain data (no statement of the seat). -/
import Derived.Test.YthcfbeckhgngiaaGreatDoorC114
namespace Go.Proofs.YthcfbeckhgngiaaGreatDoor
open Go Go.RowKit
set_option linter.unusedVariables false
set_option linter.unusedSimpArgs false

namespace M

def stRdT (s : ByteArray) (f : ByteArray) (n : Int) (k : Nat) : St := ⟨[(23, vI k), (22, vI f.size), (8, vI n), (7, vS f), (0, vS s)], []⟩

def stRdT1 (a : ByteArray × ByteArray × Int × Nat) : St := stRdT a.1 a.2.1 a.2.2.1 a.2.2.2

theorem stRdT_inj (a a' : ByteArray × ByteArray × Int × Nat) (h : stRdT1 a = stRdT1 a') : a = a' := by
  simp only [stRdT1, stRdT] at h
  try simp [strs_inj, ints_inj, bools_inj, eL_eIs_inj, eCaps_inj, eCap_iff, eL_eCaps_inj, eMchs_inj, eMch_iff, eWrds_inj, eWrd_iff, eFnds_inj, eFnd_iff, eRatios_inj, eRatio_iff, eWays_inj, eWay_iff] at h
  grind

theorem unstRdT (s : ByteArray) (f : ByteArray) (n : Int) (k : Nat) : unenc stRdT1 (St.mk [(23, (vI (↑k : Int))), (22, (vI (↑(ByteArray.size f) : Int))), (8, (vI n)), (7, (vS f)), (0, (vS s))] []) = some (s, f, n, k) := unenc_of stRdT_inj (s, f, n, k) rfl

theorem unstRdT0 (s : ByteArray) (f : ByteArray)  : unenc stRdT1 (St.mk [(23, (vI (0 : Int))), (22, (vI (↑(ByteArray.size f) : Int))), (8, (vI (0 : Int))), (7, (vS f)), (0, (vS s))] []) = some (s, f, 0, 0) := unenc_of stRdT_inj (s, f, 0, 0) rfl

def outRdT (s : ByteArray) (f : ByteArray) (n : Int) (k : Nat) : T (Ex × St) := .ifB (F.found (F.tmL (((F.bs f).zip (F.bs s)).drop k) n)) (.ret (.exit 0, ⟨[(8, vI (F.got (F.tmL (((F.bs f).zip (F.bs s)).drop k) n) 0)), (7, vS f), (0, vS s)], []⟩)) (.ret (.ret, ⟨[(6, vB false), (5, vS ⟨⟨[]⟩⟩), (4, vI 0)], []⟩))

noncomputable def prlRdT (s : ByteArray) (f : ByteArray) (n : Int) (k : Nat) : Bool := decide (f.size = 12) && decide (12 ≤ s.size) && decide (k ≤ 12) && decide (0 ≤ n) && decide (n + 1 ≤ 10 ^ k)

noncomputable def lpRdT : Nat × (St → T (Ex × St)) := (6, lpo [23, 22, 8, 7, 0] [] stRdT1 (fun a => prlRdT a.1 a.2.1 a.2.2.1 a.2.2.2) fun a => outRdT a.1 a.2.1 a.2.2.1 a.2.2.2)

noncomputable def enRdT : Env := envH ty noG lks [oIsD] [] [] [lpRdT]

theorem enRdT_ok : EnvOK Tryz.prog enRdT := by
  refine envH_ok lks_ok ty_ok ?_ ?_
  · simp only [List.forall_mem_cons]
    exact ⟨okIsD, by simp⟩
  · simp

theorem evRdTL (s : ByteArray) (f : ByteArray) (n : Int) (k : Nat) : ((exec enRdT (loopN Tryz.f64 0) (stRdT s f n k)).bind (lessX ([23, 22, 8, 7, 0], []) ([8, 7, 0], []) ([6, 5, 4], []))).val =
  bif decide ((↑k : Int) < (↑(ByteArray.size f) : Int)) then Option.bind f[k]? fun (z : UInt8) => bif (↑(UInt8.toNat z) : Int) != (48 : Int) then Option.bind s[k]? fun (z :
  UInt8) => Option.bind f[k]? fun (z_1 : UInt8) => bif (↑(UInt8.toNat z) : Int) != (↑(UInt8.toNat z_1) : Int) then some (Ex.ret, St.mk [(6, (vB false)), (5, (vS
  (ByteArray.mk (Array.mk [])))), (4, (vI (0 : Int)))] []) else some (Ex.normal, St.mk [(23, (vI (IntKind.wrap IntKind.i64 ((↑k : Int) + (1 : Int))))), (22, (vI
  (↑(ByteArray.size f) : Int))), (8, (vI n)), (7, (vS f)), (0, (vS s))] []) else Option.bind s[k]? fun (z : UInt8) => Option.bind (unenc encIsD [(vU (↑(UInt8.toNat z) :
  Int))]) fun (z : Int) => bif !F.digit z then some (Ex.ret, St.mk [(6, (vB false)), (5, (vS (ByteArray.mk (Array.mk [])))), (4, (vI (0 : Int)))] []) else Option.bind s[k]?
  fun (z : UInt8) => some (Ex.normal, St.mk [(23, (vI (IntKind.wrap IntKind.i64 ((↑k : Int) + (1 : Int))))), (22, (vI (↑(ByteArray.size f) : Int))), (8, (vI (IntKind.wrap
  IntKind.i64 (IntKind.wrap IntKind.i64 ((10 : Int) * n) + IntKind.wrap IntKind.i64 (IntKind.wrap IntKind.u8 ((↑(UInt8.toNat z) : Int) - (48 : Int))))))), (7, (vS f)), (0,
  (vS s))] []) else some (Ex.exit (0 : Nat), St.mk [(8, (vI n)), (7, (vS f)), (0, (vS s))] []) := (execR_bind _ _ _).symm.trans (by kernel_rfl)

theorem lpRdT_ok (s : ByteArray) (f : ByteArray) (n : Int) (k : Nat) (hp : prlRdT s f n k = true) : ∀ ex s', (outRdT s f n k).val = some (ex, s') → LoopOK enRdT (loopN Tryz.f64 0) (stRdT s f n k) ex s' := by
  simp only [prlRdT, Bool.and_eq_true, decide_eq_true_eq] at hp
  obtain ⟨⟨⟨⟨h1, h2⟩, h3⟩, h4⟩, h5⟩ := hp
  refine loop_gen (st := fun a : Int × Nat => stRdT s f a.1 a.2) (out := fun a => outRdT s f a.1 a.2) (I := fun a => a.2 ≤ 12 ∧ 0 ≤ a.1 ∧ a.1 + 1 ≤ 10 ^ a.2) (n := ([23, 22, 8, 7, 0], [])) (e := ([8, 7, 0], [])) (r := ([6, 5, 4], [])) (fun a => 12 - a.2) ?_ (n, k) ⟨h3, h4, h5⟩
  rintro ⟨n, k⟩ ⟨i1, i2, i3⟩
  simp only at i1 i2 i3
  have hzl : ((F.bs f).zip (F.bs s)).length = 12 := by rw [List.length_zip, F.bs_len, F.bs_len]; omega
  by_cases hk : k < 12
  · obtain ⟨x, y, hxy⟩ : ∃ x y, ((F.bs f).zip (F.bs s))[k]? = some (x, y) := ⟨_, _, List.getElem?_eq_getElem (by omega)⟩
    have hd := drop_q hxy
    have hx : (F.bs f)[k]? = some x := (List.getElem?_zip_eq_some.1 hxy).1
    have hy : (F.bs s)[k]? = some y := (List.getElem?_zip_eq_some.1 hxy).2
    have hpw : (10 : Int) ^ (k + 1) = 10 * 10 ^ k := by rw [Int.pow_succ, Int.mul_comm]
    have hle : (10 : Int) ^ k ≤ 1000000000000 := by
      have : (10 : Int) ^ k ≤ 10 ^ 12 := by
        have : k ≤ 12 := by omega
        exact_mod_cast Nat.pow_le_pow_right (by omega) this
      exact this
    have hkf : k < f.size := by omega
    have hnx : IntKind.i64.wrap ((k : Int) + 1) = ((k + 1 : Nat) : Int) := next_at hk (by omega)
    cases hc : ((x.toNat : Int) != 48)
    · cases hg : F.digB y
      · left
        refine ⟨(.ret, ⟨[(6, vB false), (5, vS ⟨⟨[]⟩⟩), (4, vI 0)], []⟩), ?_, ?_, by simp, rfl⟩
        · rw [evRdTL]
          rw [F.bs_get f, F.bs_get s, hx, hy]
          have hg' : F.digit (y.toNat : Int) = false := hg
          simp only [unIsD, preIsD1, unstRdT, unstRdT0, prlRdT, outRdT, etaCap, etaMch, etaWrd, etaFnd, etaRatio, etaWay, Option.bind_some, List.length_map, unStrs, unInts, unBools, uneL_eIs, unCaps, uneL_eCaps, unMchs, unWrds, unFnds, unRatios, unWays, F.lt, F.le, cond_true, cond_false, Bool.and_true, Bool.true_and, cast_lt hkf, hc, hg', hnx]
          rfl
        · simp only [outRdT, hd, F.tmL, hc, hg, cond_false, F.found]
          rfl
      · right
        have hg' : F.digit (y.toNat : Int) = true := hg
        obtain ⟨g1, g2⟩ := F.digB_t hg
        refine ⟨(10 * n + ((y.toNat : Int) - 48), k + 1), ?_, rfl, ⟨hk, by simp only; omega, by simp only [hpw]; omega⟩, by simp only; omega, ?_⟩
        · rw [evRdTL]
          rw [F.bs_get f, F.bs_get s, hx, hy]
          simp only [unIsD, preIsD1, unstRdT, unstRdT0, prlRdT, outRdT, etaCap, etaMch, etaWrd, etaFnd, etaRatio, etaWay, Option.bind_some, List.length_map, unStrs, unInts, unBools, uneL_eIs, unCaps, uneL_eCaps, unMchs, unWrds, unFnds, unRatios, unWays, F.lt, F.le, cond_true, cond_false, Bool.and_true, Bool.true_and, cast_lt hkf, hc, hg', hnx]
          rw [wrapU (by omega) (by omega), wrap_id (n := 10 * n) (by omega) (by omega), wrap_id (n := (y.toNat : Int) - 48) (by omega) (by omega), wrap_id (by omega) (by omega)]
          rfl
        · simp only [outRdT, hd, F.tmL, hc, hg, cond_true, cond_false]
    · cases he : ((y.toNat : Int) != (x.toNat : Int))
      · right
        refine ⟨(n, k + 1), ?_, rfl, ⟨hk, i2, by simp only [hpw]; omega⟩, by simp only; omega, ?_⟩
        · rw [evRdTL]
          rw [F.bs_get f, F.bs_get s, hx, hy]
          simp only [unIsD, preIsD1, unstRdT, unstRdT0, prlRdT, outRdT, etaCap, etaMch, etaWrd, etaFnd, etaRatio, etaWay, Option.bind_some, List.length_map, unStrs, unInts, unBools, uneL_eIs, unCaps, uneL_eCaps, unMchs, unWrds, unFnds, unRatios, unWays, F.lt, F.le, cond_true, cond_false, Bool.and_true, Bool.true_and, cast_lt hkf, hc, he, hnx]
          rfl
        · simp only [outRdT, hd, F.tmL, hc, he, cond_true, cond_false]
      · left
        refine ⟨(.ret, ⟨[(6, vB false), (5, vS ⟨⟨[]⟩⟩), (4, vI 0)], []⟩), ?_, ?_, by simp, rfl⟩
        · rw [evRdTL]
          rw [F.bs_get f, F.bs_get s, hx, hy]
          simp only [unIsD, preIsD1, unstRdT, unstRdT0, prlRdT, outRdT, etaCap, etaMch, etaWrd, etaFnd, etaRatio, etaWay, Option.bind_some, List.length_map, unStrs, unInts, unBools, uneL_eIs, unCaps, uneL_eCaps, unMchs, unWrds, unFnds, unRatios, unWays, F.lt, F.le, cond_true, cond_false, Bool.and_true, Bool.true_and, cast_lt hkf, hc, he, hnx]
          done
        · simp only [outRdT, hd, F.tmL, hc, he, cond_true, F.found]
          rfl
  · have : k = 12 := by omega
    subst this
    left
    refine ⟨(.exit 0, ⟨[(8, vI n), (7, vS f), (0, vS s)], []⟩), ?_, ?_, by simp, rfl⟩
    · rw [evRdTL]
      rw [h1]
      rfl
    · have : (((F.bs f).zip (F.bs s)).drop 12) = [] := List.drop_eq_nil_of_le (by omega)
      simp [outRdT, this, F.tmL, F.found, F.got, T.val]

theorem evRdT (s : ByteArray) (p : ByteArray) : (runF enRdT false Tryz.f64 [vS s, vS p]).val =
  bif Nat.ble (ByteArray.size (ByteArray.mk (Array.mk [(48 : UInt8), (48 : UInt8), (58 : UInt8), (48 : UInt8), (48 : UInt8), (58 : UInt8), (48 : UInt8), (48 : UInt8)])) +
  ByteArray.size p) (9223372036854775807 : Nat) then bif Nat.ble (ByteArray.size (ByteArray.mk (Array.mk [(48 : UInt8), (48 : UInt8), (58 : UInt8), (48 : UInt8), (48 :
  UInt8), (58 : UInt8), (48 : UInt8), (48 : UInt8)]) ++ p) + ByteArray.size (ByteArray.mk (Array.mk [(48 : UInt8), (48 : UInt8), (48 : UInt8)]))) (9223372036854775807 : Nat)
  then bif decide ((↑(ByteArray.size s) : Int) < (↑(ByteArray.size (ByteArray.mk (Array.mk [(48 : UInt8), (48 : UInt8), (58 : UInt8), (48 : UInt8), (48 : UInt8), (58 :
  UInt8), (48 : UInt8), (48 : UInt8)]) ++ p ++ ByteArray.mk (Array.mk [(48 : UInt8), (48 : UInt8), (48 : UInt8)]))) : Int)) then some (AV.tup [(vI (0 : Int)), (vS
  (ByteArray.mk (Array.mk []))), (vB false)], []) else Option.bind (unenc stRdT1 (St.mk [(23, (vI (0 : Int))), (22, (vI (↑(ByteArray.size (ByteArray.mk (Array.mk [(48 :
  UInt8), (48 : UInt8), (58 : UInt8), (48 : UInt8), (48 : UInt8), (58 : UInt8), (48 : UInt8), (48 : UInt8)]) ++ p ++ ByteArray.mk (Array.mk [(48 : UInt8), (48 : UInt8), (48
  : UInt8)]))) : Int))), (8, (vI (0 : Int))), (7, (vS (ByteArray.mk (Array.mk [(48 : UInt8), (48 : UInt8), (58 : UInt8), (48 : UInt8), (48 : UInt8), (58 : UInt8), (48 :
  UInt8), (48 : UInt8)]) ++ p ++ ByteArray.mk (Array.mk [(48 : UInt8), (48 : UInt8), (48 : UInt8)])))), (0, (vS s))] [])) fun (z : ByteArray × ByteArray × Int × Nat) => bif
  decide (ByteArray.size z.snd.fst = (12 : Nat)) && decide ((12 : Nat) ≤ ByteArray.size z.fst) && decide (z.snd.snd.snd ≤ (12 : Nat)) && decide ((0 : Int) ≤ z.snd.snd.fst)
  && decide (z.snd.snd.fst + (1 : Int) ≤ (10 : Int) ^ z.snd.snd.snd) && true then bif F.found (F.tmL (List.drop z.snd.snd.snd (List.zip (F.bs z.snd.fst) (F.bs z.fst)))
  z.snd.snd.fst) then bif Nat.ble (ByteArray.size z.snd.fst) (ByteArray.size z.fst) && Nat.ble (ByteArray.size z.fst) (ByteArray.size z.fst) then some (AV.tup [(vI
  (IntKind.wrap IntKind.i64 (IntKind.wrap IntKind.i64 (IntKind.wrap IntKind.i64 (IntKind.wrap IntKind.i64 (IntKind.wrap IntKind.i64 (Int.tdiv (F.got (F.tmL (List.drop
  z.snd.snd.snd (List.zip (F.bs z.snd.fst) (F.bs z.fst))) z.snd.snd.fst) (0 : Int)) (10000000 : Int)) * (3600000 : Int)) + IntKind.wrap IntKind.i64 (Int.tmod (IntKind.wrap
  IntKind.i64 (Int.tdiv (F.got (F.tmL (List.drop z.snd.snd.snd (List.zip (F.bs z.snd.fst) (F.bs z.fst))) z.snd.snd.fst) (0 : Int)) (100000 : Int))) (100 : Int) * (60000 :
  Int))) + IntKind.wrap IntKind.i64 (Int.tmod (IntKind.wrap IntKind.i64 (Int.tdiv (F.got (F.tmL (List.drop z.snd.snd.snd (List.zip (F.bs z.snd.fst) (F.bs z.fst)))
  z.snd.snd.fst) (0 : Int)) (1000 : Int))) (100 : Int) * (1000 : Int))) + Int.tmod (F.got (F.tmL (List.drop z.snd.snd.snd (List.zip (F.bs z.snd.fst) (F.bs z.fst)))
  z.snd.snd.fst) (0 : Int)) (1000 : Int)))), (vS (ByteArray.extract z.fst (ByteArray.size z.snd.fst) (ByteArray.size z.fst))), (vB (bif decide (Int.tmod (IntKind.wrap
  IntKind.i64 (Int.tdiv (F.got (F.tmL (List.drop z.snd.snd.snd (List.zip (F.bs z.snd.fst) (F.bs z.fst))) z.snd.snd.fst) (0 : Int)) (100000 : Int))) (100 : Int) < (60 : Int))
  then decide (Int.tmod (IntKind.wrap IntKind.i64 (Int.tdiv (F.got (F.tmL (List.drop z.snd.snd.snd (List.zip (F.bs z.snd.fst) (F.bs z.fst))) z.snd.snd.fst) (0 : Int)) (1000
  : Int))) (100 : Int) < (60 : Int)) else false))], []) else none else some (AV.tup [(vI (0 : Int)), (vS (ByteArray.mk (Array.mk []))), (vB false)], []) else none else none
  else none := (runFR_val).symm.trans (by kernel_rfl)

def encRdT1 (s : ByteArray) (p : ByteArray) : List AV := [vS s, vS p]

def encRdT (a : ByteArray × ByteArray) : List AV := encRdT1 a.1 a.2

theorem encRdT_inj (a a' : ByteArray × ByteArray) (h : encRdT a = encRdT a') : a = a' := by
  simp only [encRdT, encRdT1] at h
  try simp [strs_inj, ints_inj, bools_inj, eL_eIs_inj, eCaps_inj, eCap_iff, eL_eCaps_inj, eMchs_inj, eMch_iff, eWrds_inj, eWrd_iff, eFnds_inj, eFnd_iff, eRatios_inj, eRatio_iff, eWays_inj, eWay_iff] at h
  grind

theorem unRdT (s : ByteArray) (p : ByteArray) : unenc encRdT ([(vS s), (vS p)]) = some (s, p) := unenc_of encRdT_inj (s, p) rfl

def resRdT1 (s : ByteArray) (p : ByteArray) : AV × Heap := (.tup [vI (F.rdT s p).1, vS (F.rdT s p).2.1, vB (F.rdT s p).2.2], [])

def preRdT1 (s : ByteArray) (p : ByteArray) : Bool := F.small s && decide (p.size = 1)

noncomputable def oRdT : Orc := orc 64 true encRdT (fun a => preRdT1 a.1 a.2) fun a => resRdT1 a.1 a.2

theorem okRdT : OrcOK Tryz.prog noG oRdT := by
  refine mk_ok Tryz.f64 (keep := false) (by kernel_rfl) (by kernel_rfl) enRdT_ok mixed (one_loop (x0 := loopN Tryz.f64 0) (by kernel_rfl) (lpo_ok ?_)) (by first | exact fun _ _ => ⟨rfl, rfl⟩ | (intro h; cases h)) ?_
  · rintro ⟨s, f, n, k⟩ hp
    exact lpRdT_ok s f n k hp
  rintro ⟨s, p⟩ hpre hok
  show (runF enRdT false _ (encRdT1 _ _)).val = some (resRdT1 _ _)
  unfold encRdT1 resRdT1
  rw [evRdT]
  simp only [preRdT1, F.small, Bool.and_eq_true, decide_eq_true_eq] at hpre
  simp only [unIsD, preIsD1, unstRdT, unstRdT0, prlRdT, outRdT, etaCap, etaMch, etaWrd, etaFnd, etaRatio, etaWay, Option.bind_some, List.length_map, unStrs, unInts, unBools, uneL_eIs, unCaps, uneL_eCaps, unMchs, unWrds, unFnds, unRatios, unWays, F.lt, F.le, cond_true, cond_false, Bool.and_true, Bool.true_and, F.rdT]
  have ef : ((⟨⟨[48, 48, 58, 48, 48, 58, 48, 48]⟩⟩ : ByteArray) ++ p ++ (⟨⟨[48, 48, 48]⟩⟩ : ByteArray)) = F.form p := rfl
  have fs := F.form_size hpre.2
  have b1 : Nat.ble ((⟨⟨[48, 48, 58, 48, 48, 58, 48, 48]⟩⟩ : ByteArray).size + p.size) 9223372036854775807 = true := by rw [hpre.2]; rfl
  have b2 : Nat.ble (((⟨⟨[48, 48, 58, 48, 48, 58, 48, 48]⟩⟩ : ByteArray) ++ p).size + (⟨⟨[48, 48, 48]⟩⟩ : ByteArray).size) 9223372036854775807 = true := by rw [ByteArray.size_append, hpre.2]; rfl
  have hT : F.tmL ((F.bs (F.form p)).zip (F.bs s)) 0 = F.tmS s p := rfl
  simp only [b1, b2, ef, fs, List.drop_zero, cond_true, hT]
  by_cases h12 : s.size < 12
  · rw [decide_eq_true (show (s.size : Int) < ((12 : Nat) : Int) by omega), decide_eq_true h12]
    rfl
  have c1 : decide ((s.size : Int) < ((12 : Nat) : Int)) = false := decide_eq_false (by omega)
  have c2 : decide (s.size < 12) = false := decide_eq_false h12
  have c3 : decide (12 ≤ s.size) = true := decide_eq_true (by omega)
  have c4 : decide ((0 : Int) + 1 ≤ 10 ^ 0) = true := rfl
  have c5 : decide ((0 : Int) ≤ 0) = true := rfl
  have c6 : decide ((0 : Nat) ≤ 12) = true := rfl
  have c7 : decide ((12 : Nat) = 12) = true := rfl
  simp only [c1, c2, c3, c4, c5, c6, c7, cond_true, cond_false, Bool.and_self, Bool.false_or, ble_t (show 12 ≤ s.size by omega), ble_t (Nat.le_refl s.size)]
  cases ho : F.tmS s p with
  | none => rfl
  | some n =>
    obtain ⟨h0, hb⟩ := F.tmL_bound (k := 0) (Int.le_refl 0) (by decide) ho
    have hzl : ((F.bs (F.form p)).zip (F.bs s)).length = 12 := by rw [List.length_zip, F.bs_len, F.bs_len]; omega
    rw [hzl] at hb
    have hb : n + 1 ≤ 1000000000000 := hb
    have t1 : n.tdiv 10000000 = n / 10000000 := tdiv_nn h0
    have t2 : n.tdiv 100000 = n / 100000 := tdiv_nn h0
    have t3 : n.tdiv 1000 = n / 1000 := tdiv_nn h0
    have m1 : (n / 100000).tmod 100 = n / 100000 % 100 := Int.tmod_eq_emod_of_nonneg (by omega)
    have m2 : (n / 1000).tmod 100 = n / 1000 % 100 := Int.tmod_eq_emod_of_nonneg (by omega)
    have m3 : n.tmod 1000 = n % 1000 := Int.tmod_eq_emod_of_nonneg (by omega)
    have w1 : IntKind.i64.wrap (n / 10000000) = n / 10000000 := wrap_id (by omega) (by omega)
    have w2 : IntKind.i64.wrap (n / 100000) = n / 100000 := wrap_id (by omega) (by omega)
    have w3 : IntKind.i64.wrap (n / 1000) = n / 1000 := wrap_id (by omega) (by omega)
    have w4 : IntKind.i64.wrap (n / 10000000 * 3600000) = n / 10000000 * 3600000 := wrap_id (by omega) (by omega)
    have w5 : IntKind.i64.wrap (n / 100000 % 100 * 60000) = n / 100000 % 100 * 60000 := wrap_id (by omega) (by omega)
    have w6 : IntKind.i64.wrap (n / 1000 % 100 * 1000) = n / 1000 % 100 * 1000 := wrap_id (by omega) (by omega)
    have w7 : IntKind.i64.wrap (n / 10000000 * 3600000 + n / 100000 % 100 * 60000) = n / 10000000 * 3600000 + n / 100000 % 100 * 60000 := wrap_id (by omega) (by omega)
    have w8 : IntKind.i64.wrap (n / 10000000 * 3600000 + n / 100000 % 100 * 60000 + n / 1000 % 100 * 1000) = n / 10000000 * 3600000 + n / 100000 % 100 * 60000 + n / 1000 % 100 * 1000 := wrap_id (by omega) (by omega)
    have w9 : IntKind.i64.wrap (n / 10000000 * 3600000 + n / 100000 % 100 * 60000 + n / 1000 % 100 * 1000 + n % 1000) = n / 10000000 * 3600000 + n / 100000 % 100 * 60000 + n / 1000 % 100 * 1000 + n % 1000 := wrap_id (by omega) (by omega)
    simp only [F.found, F.got, Option.isSome_some, Option.getD_some, cond_true, cond_false, Bool.not_true, t1, t2, t3, m1, m2, m3, w1, w2, w3, w4, w5, w6, w7, w8, w9, F.hms, F.hmsOk, F.lt, decide_true, Bool.and_self]
    by_cases hh : n / 100000 % 100 < 60 <;> by_cases hh2 : n / 1000 % 100 < 60 <;> simp [hh, hh2]

end M
end Go.Proofs.YthcfbeckhgngiaaGreatDoor
