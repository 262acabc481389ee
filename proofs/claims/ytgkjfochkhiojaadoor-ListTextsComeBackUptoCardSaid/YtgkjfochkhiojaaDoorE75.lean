/- What is proved here: the loops of ReadDate of the program (no statement of the seat). -/
import Derived.Test.YtgkjfochkhiojaaDoorE74
namespace Go.Proofs.YtgkjfochkhiojaaDoor
open Go Go.RowKit
set_option linter.unusedVariables false
set_option linter.unusedSimpArgs false

def F.dForm : ByteArray := ⟨⟨[48, 48, 48, 48, 45, 48, 48, 45, 48, 48, 84, 48, 48, 58, 48, 48, 58, 48, 48, 46, 48, 48, 48, 90]⟩⟩

/-- A byte of a date, and that of the form. -/
def F.dfB (c f : UInt8) : Bool := bif decide (f = 48) then F.dgB c else decide (c = f)

def F.dfP (s : ByteArray) : List (UInt8 × UInt8) := (F.bs s).zip (F.bs F.dForm)

def F.dfA (s : ByteArray) : Bool := (F.dfP s).all fun p => F.dfB p.1 p.2

/-- Days of months one after another. -/
def F.msum (y : Int) : Nat → Nat → Int
  | 0, _ => 0
  | n + 1, j => F.mdays y j + F.msum y n (j + 1)

theorem F.mdays_b (y m : Int) : 28 ≤ F.mdays y m ∧ F.mdays y m ≤ 31 := by
  unfold F.mdays
  cases m == 2 <;> cases F.leap y <;> cases m == 4 <;> cases m == 6 <;> cases m == 9 <;> cases m == 11 <;> decide

namespace M


def stDa1 (s : ByteArray) (k : Nat) : St := ⟨[(18, vI k), (17, vI s.size), (0, vS s)], []⟩

def stDa11 (a : ByteArray × Nat) : St := stDa1 a.1 a.2

theorem stDa1_inj (a a' : ByteArray × Nat) (h : stDa11 a = stDa11 a') : a = a' := by
  simp only [stDa11, stDa1] at h
  try simp [strs_inj, ints_inj, ents_inj, eEnt_iff, eLst_iff, eSnds_inj, eStrms_inj] at h
  grind

theorem unstDa1 (s : ByteArray) (k : Nat) : unenc stDa11 (St.mk [(18, (vI (↑k : Int))), (17, (vI (↑(ByteArray.size s) : Int))), (0, (vS s))] []) = some (s, k) := unenc_of stDa1_inj (s, k) rfl

theorem unstDa10 (s : ByteArray)  : unenc stDa11 (St.mk [(18, (vI (0 : Int))), (17, (vI (↑(ByteArray.size s) : Int))), (0, (vS s))] []) = some (s, 0) := unenc_of stDa1_inj (s, 0) rfl

def outDa1 (s : ByteArray) (k : Nat) : T (Ex × St) := .ifB (((F.dfP s).drop k).all fun p => F.dfB p.1 p.2) (.ret (.exit 0, ⟨[(0, vS s)], []⟩)) (.ret (.ret, ⟨[(3, vI 10), (2, vI 0)], []⟩))

noncomputable def prlDa1 (s : ByteArray) (k : Nat) : Bool := decide (s.size = 24) && decide (k ≤ 24)

noncomputable def lpDa1 : Nat × (St → T (Ex × St)) := (4, lpo [18, 17, 0] [] stDa11 (fun a => prlDa1 a.1 a.2) fun a => outDa1 a.1 a.2)

def stDa2 (s : ByteArray) (y : Int) (m : Nat) (h : Int) (mi : Int) (se : Int) (d : Int) (j : Nat) : St := ⟨[(12, vI j), (11, vI d), (10, vI se), (9, vI mi), (8, vI h), (6, vI m), (5, vI y), (0, vS s)], []⟩

def stDa21 (a : ByteArray × Int × Nat × Int × Int × Int × Int × Nat) : St := stDa2 a.1 a.2.1 a.2.2.1 a.2.2.2.1 a.2.2.2.2.1 a.2.2.2.2.2.1 a.2.2.2.2.2.2.1 a.2.2.2.2.2.2.2

theorem stDa2_inj (a a' : ByteArray × Int × Nat × Int × Int × Int × Int × Nat) (h : stDa21 a = stDa21 a') : a = a' := by
  simp only [stDa21, stDa2] at h
  try simp [strs_inj, ints_inj, ents_inj, eEnt_iff, eLst_iff, eSnds_inj, eStrms_inj] at h
  grind

theorem unstDa2 (s : ByteArray) (y : Int) (m : Nat) (h : Int) (mi : Int) (se : Int) (d : Int) (j : Nat) : unenc stDa21 (St.mk [(12, (vI (↑j : Int))), (11, (vI d)), (10, (vI se)), (9, (vI mi)), (8, (vI h)), (6, (vI (↑m : Int))), (5, (vI y)), (0, (vS s))] []) = some (s, y, m, h, mi, se, d, j) := unenc_of stDa2_inj (s, y, m, h, mi, se, d, j) rfl

theorem unstDa20 (s : ByteArray) (y : Int) (m : Nat) (h : Int) (mi : Int) (se : Int) (d : Int)  : unenc stDa21 (St.mk [(12, (vI (1 : Int))), (11, (vI d)), (10, (vI se)), (9, (vI mi)), (8, (vI h)), (6, (vI (↑m : Int))), (5, (vI y)), (0, (vS s))] []) = some (s, y, m, h, mi, se, d, 1) := unenc_of stDa2_inj (s, y, m, h, mi, se, d, 1) rfl

def outDa2 (s : ByteArray) (y : Int) (m : Nat) (h : Int) (mi : Int) (se : Int) (d : Int) (j : Nat) : T (Ex × St) := .ret (.exit 2, ⟨[(11, vI (d + F.msum y (m - j) j)), (10, vI se), (9, vI mi), (8, vI h), (0, vS s)], []⟩)

noncomputable def prlDa2 (s : ByteArray) (y : Int) (m : Nat) (h : Int) (mi : Int) (se : Int) (d : Int) (j : Nat) : Bool := decide (0 ≤ y) && decide (y ≤ 100000) && decide (m ≤ 12) && decide (j ≤ 12) && decide (0 ≤ d) && decide (d ≤ 100000000)

noncomputable def lpDa2 : Nat × (St → T (Ex × St)) := (15, lpo [12, 11, 10, 9, 8, 6, 5, 0] [] stDa21 (fun a => prlDa2 a.1 a.2.1 a.2.2.1 a.2.2.2.1 a.2.2.2.2.1 a.2.2.2.2.2.1 a.2.2.2.2.2.2.1 a.2.2.2.2.2.2.2) fun a => outDa2 a.1 a.2.1 a.2.2.1 a.2.2.2.1 a.2.2.2.2.1 a.2.2.2.2.2.1 a.2.2.2.2.2.2.1 a.2.2.2.2.2.2.2)

noncomputable def enDa : Env := envH ty noG lks [oDigit, oMdy, oYdy, oOut, oTnu] [] [] [lpDa1, lpDa2]

theorem enDa_ok : EnvOK Tryd.prog enDa := by
  refine envH_ok lks_ok ty_ok ?_ ?_
  · simp only [List.forall_mem_cons]
    exact ⟨okDigit, okMdy, okYdy, okOut, okTnu, by simp⟩
  · simp

theorem evDa1L (s : ByteArray) (k : Nat) : ((exec enDa (loopN Tryd.f59 0) (stDa1 s k)).bind (lessX ([18, 17, 0], []) ([0], []) ([3, 2], []))).val =
  bif decide ((↑k : Int) < (↑(ByteArray.size s) : Int)) then Option.bind (ByteArray.mk (Array.mk [(48 : UInt8), (48 : UInt8), (48 : UInt8), (48 : UInt8), (45 : UInt8), (48 :
  UInt8), (48 : UInt8), (45 : UInt8), (48 : UInt8), (48 : UInt8), (84 : UInt8), (48 : UInt8), (48 : UInt8), (58 : UInt8), (48 : UInt8), (48 : UInt8), (58 : UInt8), (48 :
  UInt8), (48 : UInt8), (46 : UInt8), (48 : UInt8), (48 : UInt8), (48 : UInt8), (90 : UInt8)]))[k]? fun (z : UInt8) => bif (↑(UInt8.toNat z) : Int) == (48 : Int) then
  Option.bind s[k]? fun (z : UInt8) => Option.bind (unenc encDigit [(vU (↑(UInt8.toNat z) : Int))]) fun (z : Int) => bif !!F.digit z then Option.bind (ByteArray.mk (Array.mk
  [(48 : UInt8), (48 : UInt8), (48 : UInt8), (48 : UInt8), (45 : UInt8), (48 : UInt8), (48 : UInt8), (45 : UInt8), (48 : UInt8), (48 : UInt8), (84 : UInt8), (48 : UInt8),
  (48 : UInt8), (58 : UInt8), (48 : UInt8), (48 : UInt8), (58 : UInt8), (48 : UInt8), (48 : UInt8), (46 : UInt8), (48 : UInt8), (48 : UInt8), (48 : UInt8), (90 :
  UInt8)]))[k]? fun (z : UInt8) => bif (↑(UInt8.toNat z) : Int) != (48 : Int) then Option.bind s[k]? fun (z : UInt8) => Option.bind (ByteArray.mk (Array.mk [(48 : UInt8),
  (48 : UInt8), (48 : UInt8), (48 : UInt8), (45 : UInt8), (48 : UInt8), (48 : UInt8), (45 : UInt8), (48 : UInt8), (48 : UInt8), (84 : UInt8), (48 : UInt8), (48 : UInt8), (58
  : UInt8), (48 : UInt8), (48 : UInt8), (58 : UInt8), (48 : UInt8), (48 : UInt8), (46 : UInt8), (48 : UInt8), (48 : UInt8), (48 : UInt8), (90 : UInt8)]))[k]? fun (z_1 :
  UInt8) => bif (↑(UInt8.toNat z) : Int) != (↑(UInt8.toNat z_1) : Int) then some (Ex.ret, St.mk [(3, (vI (10 : Int))), (2, (vI (0 : Int)))] []) else some (Ex.normal, St.mk
  [(18, (vI (IntKind.wrap IntKind.i64 ((↑k : Int) + (1 : Int))))), (17, (vI (↑(ByteArray.size s) : Int))), (0, (vS s))] []) else bif (↑(UInt8.toNat z) : Int) != (48 : Int)
  then Option.bind (ByteArray.mk (Array.mk [(48 : UInt8), (48 : UInt8), (48 : UInt8), (48 : UInt8), (45 : UInt8), (48 : UInt8), (48 : UInt8), (45 : UInt8), (48 : UInt8), (48
  : UInt8), (84 : UInt8), (48 : UInt8), (48 : UInt8), (58 : UInt8), (48 : UInt8), (48 : UInt8), (58 : UInt8), (48 : UInt8), (48 : UInt8), (46 : UInt8), (48 : UInt8), (48 :
  UInt8), (48 : UInt8), (90 : UInt8)]))[k]? fun (z : UInt8) => none else bif (↑(UInt8.toNat z) : Int) != (48 : Int) then none else some (Ex.normal, St.mk [(18, (vI
  (IntKind.wrap IntKind.i64 ((↑k : Int) + (1 : Int))))), (17, (vI (↑(ByteArray.size s) : Int))), (0, (vS s))] []) else some (Ex.ret, St.mk [(3, (vI (10 : Int))), (2, (vI (0
  : Int)))] []) else Option.bind (ByteArray.mk (Array.mk [(48 : UInt8), (48 : UInt8), (48 : UInt8), (48 : UInt8), (45 : UInt8), (48 : UInt8), (48 : UInt8), (45 : UInt8), (48
  : UInt8), (48 : UInt8), (84 : UInt8), (48 : UInt8), (48 : UInt8), (58 : UInt8), (48 : UInt8), (48 : UInt8), (58 : UInt8), (48 : UInt8), (48 : UInt8), (46 : UInt8), (48 :
  UInt8), (48 : UInt8), (48 : UInt8), (90 : UInt8)]))[k]? fun (z : UInt8) => bif (↑(UInt8.toNat z) : Int) != (48 : Int) then Option.bind s[k]? fun (z : UInt8) => Option.bind
  (ByteArray.mk (Array.mk [(48 : UInt8), (48 : UInt8), (48 : UInt8), (48 : UInt8), (45 : UInt8), (48 : UInt8), (48 : UInt8), (45 : UInt8), (48 : UInt8), (48 : UInt8), (84 :
  UInt8), (48 : UInt8), (48 : UInt8), (58 : UInt8), (48 : UInt8), (48 : UInt8), (58 : UInt8), (48 : UInt8), (48 : UInt8), (46 : UInt8), (48 : UInt8), (48 : UInt8), (48 :
  UInt8), (90 : UInt8)]))[k]? fun (z_1 : UInt8) => bif (↑(UInt8.toNat z) : Int) != (↑(UInt8.toNat z_1) : Int) then some (Ex.ret, St.mk [(3, (vI (10 : Int))), (2, (vI (0 :
  Int)))] []) else some (Ex.normal, St.mk [(18, (vI (IntKind.wrap IntKind.i64 ((↑k : Int) + (1 : Int))))), (17, (vI (↑(ByteArray.size s) : Int))), (0, (vS s))] []) else bif
  (↑(UInt8.toNat z) : Int) != (48 : Int) then Option.bind (ByteArray.mk (Array.mk [(48 : UInt8), (48 : UInt8), (48 : UInt8), (48 : UInt8), (45 : UInt8), (48 : UInt8), (48 :
  UInt8), (45 : UInt8), (48 : UInt8), (48 : UInt8), (84 : UInt8), (48 : UInt8), (48 : UInt8), (58 : UInt8), (48 : UInt8), (48 : UInt8), (58 : UInt8), (48 : UInt8), (48 :
  UInt8), (46 : UInt8), (48 : UInt8), (48 : UInt8), (48 : UInt8), (90 : UInt8)]))[k]? fun (z : UInt8) => none else bif (↑(UInt8.toNat z) : Int) != (48 : Int) then none else
  some (Ex.normal, St.mk [(18, (vI (IntKind.wrap IntKind.i64 ((↑k : Int) + (1 : Int))))), (17, (vI (↑(ByteArray.size s) : Int))), (0, (vS s))] []) else some (Ex.exit (0 :
  Nat), St.mk [(0, (vS s))] []) := (execR_bind _ _ _).symm.trans (by kernel_rfl)

theorem lpDa1_ok (s : ByteArray) (k : Nat) (hp : prlDa1 s k = true) : ∀ ex s', (outDa1 s k).val = some (ex, s') → LoopOK enDa (loopN Tryd.f59 0) (stDa1 s k) ex s' := by
  simp only [prlDa1, Bool.and_eq_true, decide_eq_true_eq] at hp
  obtain ⟨h1, h2⟩ := hp
  have hl := F.bs_len s
  have hlf : (F.bs F.dForm).length = 24 := rfl
  have hz : (F.dfP s).length = 24 := by unfold F.dfP; rw [List.length_zip]; omega
  refine loop_gen (st := fun k => stDa1 s k) (out := fun k => outDa1 s k) (I := fun k => k ≤ 24) (n := ([18, 17, 0], [])) (e := ([0], [])) (r := ([3, 2], [])) (fun k => 24 - k) ?_ k h2
  clear h2
  intro k hk
  by_cases hlt : k < 24
  · have hy : (F.bs s)[k]? = some ((F.bs s)[k]'(by omega)) := List.getElem?_eq_getElem (by omega)
    generalize (F.bs s)[k]'(by omega) = y at hy
    have hf : (F.bs F.dForm)[k]? = some ((F.bs F.dForm)[k]'(by omega)) := List.getElem?_eq_getElem (by omega)
    generalize (F.bs F.dForm)[k]'(by omega) = f at hf
    have hzk : (F.dfP s)[k]? = some (y, f) := List.getElem?_zip_eq_some.2 ⟨hy, hf⟩
    have hd := drop_y hzk
    have q : (⟨⟨[48, 48, 48, 48, 45, 48, 48, 45, 48, 48, 84, 48, 48, 58, 48, 48, 58, 48, 48, 46, 48, 48, 48, 90]⟩⟩ : ByteArray) = F.dForm := rfl
    have hlt' : k < s.size := by omega
    have e1 : ((f.toNat : Int) == 48) = decide (f = 48) := by
      by_cases h : f = 48
      · subst h; rfl
      · rw [decide_eq_false h]
        simp only [beq_eq_false_iff_ne]
        intro e; exact h (UInt8.toNat_inj.1 (by show f.toNat = 48; omega))
    have e2 : ((y.toNat : Int) == (f.toNat : Int)) = decide (y = f) := by
      by_cases h : y = f
      · subst h; simp
      · rw [decide_eq_false h]
        simp only [beq_eq_false_iff_ne]
        intro e; exact h (UInt8.toNat_inj.1 (by omega))
    cases hc : F.dfB y f
    · left
      refine ⟨(.ret, ⟨[(3, vI 10), (2, vI 0)], []⟩), ?_, ?_, by simp, rfl⟩
      · rw [evDa1L]
        simp only [unDigit, unMdy, unYdy, unOut, unTnu, preDigit1, preMdy1, preYdy1, preOut1, preTnu1, unstDa1, unstDa2, unstDa10, unstDa20, prlDa1, prlDa2, outDa1, outDa2, etaEnt, etaLst, etaSnd, etaStrm, etaMas, Option.bind_some, List.length_map, unStrs, unInts, unBools, unEnts, unItms, unTrns, cond_true, cond_false, Bool.and_true, Bool.true_and, cast_lt hlt', q, F.bs_get, hy, hf, F.dg_digit, e1, e2, bne]
        unfold F.dfB at hc
        cases ha : decide (f = 48) <;> cases hb : F.dgB y <;> cases hg : decide (y = f) <;> rw [ha, hb, hg] at hc <;> first | rfl | (cases hc; done)
      · simp only [outDa1, hd, List.all_cons, hc]
        rfl
    · right
      refine ⟨k + 1, ?_, rfl, hlt, by omega, ?_⟩
      · rw [evDa1L]
        simp only [unDigit, unMdy, unYdy, unOut, unTnu, preDigit1, preMdy1, preYdy1, preOut1, preTnu1, unstDa1, unstDa2, unstDa10, unstDa20, prlDa1, prlDa2, outDa1, outDa2, etaEnt, etaLst, etaSnd, etaStrm, etaMas, Option.bind_some, List.length_map, unStrs, unInts, unBools, unEnts, unItms, unTrns, cond_true, cond_false, Bool.and_true, Bool.true_and, cast_lt hlt', q, F.bs_get, hy, hf, F.dg_digit, e1, e2, bne, next_at hlt' (by omega : s.size ≤ 9223372036854775807), stDa1]
        unfold F.dfB at hc
        cases ha : decide (f = 48) <;> cases hb : F.dgB y <;> cases hg : decide (y = f) <;> rw [ha, hb, hg] at hc <;> first | rfl | (cases hc; done)
      · simp only [outDa1, hd, List.all_cons, hc, Bool.true_and]
  · have : k = 24 := by omega
    subst this
    have hd : (F.dfP s).drop 24 = [] := List.drop_eq_nil_of_le (by omega)
    left
    refine ⟨(.exit 0, ⟨[(0, vS s)], []⟩), ?_, ?_, by simp, rfl⟩
    · rw [evDa1L]; rw [h1]; rfl
    · simp only [outDa1, hd, List.all_nil]
      rfl

theorem evDa2L (s : ByteArray) (y : Int) (m : Nat) (h : Int) (mi : Int) (se : Int) (d : Int) (j : Nat) : ((exec enDa (loopN Tryd.f59 1) (stDa2 s y m h mi se d j)).bind (lessX ([12, 11, 10, 9, 8, 6, 5, 0], []) ([11, 10, 9, 8, 0], []) ([], []))).val =
  bif decide ((↑j : Int) < (↑m : Int)) then Option.bind (unenc encMdy [(vI y), (vI (↑j : Int))]) fun (z : Int × Int) => bif decide ((0 : Int) ≤ z.fst) && decide (z.fst ≤
  (100000 : Int)) then some (Ex.normal, St.mk [(12, (vI (IntKind.wrap IntKind.i64 ((↑j : Int) + (1 : Int))))), (11, (vI (IntKind.wrap IntKind.i64 (d + F.mdays z.fst
  z.snd)))), (10, (vI se)), (9, (vI mi)), (8, (vI h)), (6, (vI (↑m : Int))), (5, (vI y)), (0, (vS s))] []) else none else some (Ex.exit (2 : Nat), St.mk [(11, (vI d)), (10,
  (vI se)), (9, (vI mi)), (8, (vI h)), (0, (vS s))] []) := (execR_bind _ _ _).symm.trans (by kernel_rfl)

theorem lpDa2_ok (s : ByteArray) (y : Int) (m : Nat) (h : Int) (mi : Int) (se : Int) (d : Int) (j : Nat) (hp : prlDa2 s y m h mi se d j = true) : ∀ ex s', (outDa2 s y m h mi se d j).val = some (ex, s') → LoopOK enDa (loopN Tryd.f59 1) (stDa2 s y m h mi se d j) ex s' := by
  simp only [prlDa2, Bool.and_eq_true, decide_eq_true_eq] at hp
  obtain ⟨⟨⟨⟨⟨h1, h2⟩, h3⟩, h4⟩, h5⟩, h6⟩ := hp
  refine loop_gen (st := fun p : Int × Nat => stDa2 s y m h mi se p.1 p.2) (out := fun p => outDa2 s y m h mi se p.1 p.2) (I := fun p => p.2 ≤ 12 ∧ 0 ≤ p.1 ∧ p.1 ≤ 100000000 + 31 * p.2) (n := ([12, 11, 10, 9, 8, 6, 5, 0], [])) (e := ([11, 10, 9, 8, 0], [])) (r := ([], [])) (fun p => 12 - p.2) ?_ (d, j) ⟨h4, h5, by simp only; omega⟩
  clear h4 h5 h6
  rintro ⟨d, j⟩ ⟨g1, g2, g3⟩
  simp only at g1 g2 g3
  have dy : decide (0 ≤ y) = true := decide_eq_true h1
  have dy2 : decide (y ≤ 100000) = true := decide_eq_true h2
  have hb := F.mdays_b y j
  by_cases hlt : j < m
  · have e0 : decide ((j : Int) < (m : Int)) = true := decide_eq_true (by omega)
    have w1 : IntKind.i64.wrap (d + F.mdays y j) = d + F.mdays y j := wrap_id (by omega) (by omega)
    have w2 : IntKind.i64.wrap ((j : Int) + 1) = ((j + 1 : Nat) : Int) := by rw [wrap_id (by omega) (by omega)]; rfl
    right
    refine ⟨(d + F.mdays y j, j + 1), ?_, rfl, ⟨by simp only; omega, by simp only; omega, by simp only; omega⟩, by simp only; omega, ?_⟩
    · rw [evDa2L]
      simp only [unDigit, unMdy, unYdy, unOut, unTnu, preDigit1, preMdy1, preYdy1, preOut1, preTnu1, unstDa1, unstDa2, unstDa10, unstDa20, prlDa1, prlDa2, outDa1, outDa2, etaEnt, etaLst, etaSnd, etaStrm, etaMas, Option.bind_some, List.length_map, unStrs, unInts, unBools, unEnts, unItms, unTrns, cond_true, cond_false, Bool.and_true, Bool.true_and, e0, dy, dy2, w1, w2, stDa2]
      try rfl
    · have e : m - j = (m - (j + 1)) + 1 := by omega
      simp only [outDa2]
      rw [e, F.msum, Int.add_assoc]
  · have e0 : decide ((j : Int) < (m : Int)) = false := decide_eq_false (by omega)
    left
    refine ⟨(.exit 2, ⟨[(11, vI d), (10, vI se), (9, vI mi), (8, vI h), (0, vS s)], []⟩), ?_, ?_, by simp, rfl⟩
    · rw [evDa2L]
      simp only [unDigit, unMdy, unYdy, unOut, unTnu, preDigit1, preMdy1, preYdy1, preOut1, preTnu1, unstDa1, unstDa2, unstDa10, unstDa20, prlDa1, prlDa2, outDa1, outDa2, etaEnt, etaLst, etaSnd, etaStrm, etaMas, Option.bind_some, List.length_map, unStrs, unInts, unBools, unEnts, unItms, unTrns, cond_true, cond_false, Bool.and_true, Bool.true_and, e0]
      try rfl
    · simp only [outDa2]
      rw [show m - j = 0 by omega, F.msum, Int.add_zero]
      rfl

end M
end Go.Proofs.YtgkjfochkhiojaaDoor
