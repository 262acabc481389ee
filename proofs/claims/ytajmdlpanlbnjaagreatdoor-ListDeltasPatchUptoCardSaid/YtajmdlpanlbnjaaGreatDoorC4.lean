/- What is proved here: the lines of a list's text as the reference takes them, on plain data (no statement of the seat). -/
import Derived.Handy
import Derived.Shelf.Bits.Mul64
import Derived.Lib.AppendStr
import Derived.Shelf.Strings.Builder1
import Derived.Lib.AppendZeros
import Derived.Test.YtajmdlpanlbnjaaGreatDoorC3

namespace Go.Proofs.YtajmdlpanlbnjaaGreatDoor
open Go Go.RowKit
set_option linter.unusedVariables false
set_option linter.unusedSimpArgs false
set_option maxHeartbeats 1000000

def F.dForm : ByteArray := ⟨⟨[48, 48, 48, 48, 45, 48, 48, 45, 48, 48, 84, 48, 48, 58, 48, 48, 58, 48, 48, 46, 48, 48, 48, 90]⟩⟩

def F.dfB (c f : UInt8) : Bool := bif decide (f = 48) then F.dgB c else decide (c = f)

def F.dfP (s : ByteArray) : List (UInt8 × UInt8) := (F.bs s).zip (F.bs F.dForm)

def F.dfA (s : ByteArray) : Bool := (F.dfP s).all fun p => F.dfB p.1 p.2

def F.msum (y : Int) : Nat → Nat → Int
  | 0, _ => 0
  | n + 1, j => F.mdays y j + F.msum y n (j + 1)

theorem F.mdays_b (y m : Int) : 28 ≤ F.mdays y m ∧ F.mdays y m ≤ 31 := by
  unfold F.mdays
  cases m == 2 <;> cases F.leap y <;> cases m == 4 <;> cases m == 6 <;> cases m == 9 <;> cases m == 11 <;> decide

namespace M

def stDa1 (s : ByteArray) (k : Nat) : St := ⟨[(18, vI k), (17, vI s.size), (0, vS s)], []⟩

def stDa11 (a : ByteArray × Nat) : St := stDa1 a.1 a.2

theorem stDa1_inj (a a' : ByteArray × Nat) (h : stDa11 a = stDa11 a') : a = a' := by
  simp only [stDa11, stDa1] at h
  try simp [strs_inj, ints_inj, ents_inj, eEnt_iff, eLst_iff, eSnds_inj, eStrms_inj] at h
  grind

theorem unstDa1 (s : ByteArray) (k : Nat) : unenc stDa11 (St.mk [(18, (vI (↑k : Int))), (17, (vI (↑(ByteArray.size s) : Int))), (0, (vS s))] []) = some (s, k) := unenc_of stDa1_inj (s, k) rfl

theorem unstDa10 (s : ByteArray)  : unenc stDa11 (St.mk [(18, (vI (0 : Int))), (17, (vI (↑(ByteArray.size s) : Int))), (0, (vS s))] []) = some (s, 0) := unenc_of stDa1_inj (s, 0) rfl

def outDa1 (s : ByteArray) (k : Nat) : T (Ex × St) := .ifB (((F.dfP s).drop k).all fun p => F.dfB p.1 p.2) (.ret (.exit 0, ⟨[(0, vS s)], []⟩)) (.ret (.ret, ⟨[(3, vI 10), (2, vI 0)], []⟩))

noncomputable def prlDa1 (s : ByteArray) (k : Nat) : Bool := decide (s.size = 24) && decide (k ≤ 24)

noncomputable def lpDa1 : Nat × (St → T (Ex × St)) := (4, lpo [18, 17, 0] [] stDa11 (fun a => prlDa1 a.1 a.2) fun a => outDa1 a.1 a.2)

def stDa2 (s : ByteArray) (y : Int) (m : Nat) (h : Int) (mi : Int) (se : Int) (d : Int) (j : Nat) : St := ⟨[(12, vI j), (11, vI d), (10, vI se), (9, vI mi), (8, vI h), (6, vI m), (5, vI y), (0, vS s)], []⟩

def stDa21 (a : ByteArray × Int × Nat × Int × Int × Int × Int × Nat) : St := stDa2 a.1 a.2.1 a.2.2.1 a.2.2.2.1 a.2.2.2.2.1 a.2.2.2.2.2.1 a.2.2.2.2.2.2.1 a.2.2.2.2.2.2.2

theorem stDa2_inj (a a' : ByteArray × Int × Nat × Int × Int × Int × Int × Nat) (h : stDa21 a = stDa21 a') : a = a' := by
  simp only [stDa21, stDa2] at h
  try simp [strs_inj, ints_inj, ents_inj, eEnt_iff, eLst_iff, eSnds_inj, eStrms_inj] at h
  grind

theorem unstDa2 (s : ByteArray) (y : Int) (m : Nat) (h : Int) (mi : Int) (se : Int) (d : Int) (j : Nat) : unenc stDa21 (St.mk [(12, (vI (↑j : Int))), (11, (vI d)), (10, (vI se)), (9, (vI mi)), (8, (vI h)), (6, (vI (↑m : Int))), (5, (vI y)), (0, (vS s))] []) = some (s, y, m, h, mi, se, d, j) := unenc_of stDa2_inj (s, y, m, h, mi, se, d, j) rfl

theorem unstDa20 (s : ByteArray) (y : Int) (m : Nat) (h : Int) (mi : Int) (se : Int) (d : Int)  : unenc stDa21 (St.mk [(12, (vI (1 : Int))), (11, (vI d)), (10, (vI se)), (9, (vI mi)), (8, (vI h)), (6, (vI (↑m : Int))), (5, (vI y)), (0, (vS s))] []) = some (s, y, m, h, mi, se, d, 1) := unenc_of stDa2_inj (s, y, m, h, mi, se, d, 1) rfl

def outDa2 (s : ByteArray) (y : Int) (m : Nat) (h : Int) (mi : Int) (se : Int) (d : Int) (j : Nat) : T (Ex × St) := .ret (.exit 2, ⟨[(11, vI (d + F.msum y (m - j) j)), (10, vI se), (9, vI mi), (8, vI h), (0, vS s)], []⟩)

noncomputable def prlDa2 (s : ByteArray) (y : Int) (m : Nat) (h : Int) (mi : Int) (se : Int) (d : Int) (j : Nat) : Bool := decide (0 ≤ y) && decide (y ≤ 100000) && decide (m ≤ 12) && decide (j ≤ 12) && decide (0 ≤ d) && decide (d ≤ 100000000)

noncomputable def lpDa2 : Nat × (St → T (Ex × St)) := (15, lpo [12, 11, 10, 9, 8, 6, 5, 0] [] stDa21 (fun a => prlDa2 a.1 a.2.1 a.2.2.1 a.2.2.2.1 a.2.2.2.2.1 a.2.2.2.2.2.1 a.2.2.2.2.2.2.1 a.2.2.2.2.2.2.2) fun a => outDa2 a.1 a.2.1 a.2.2.1 a.2.2.2.1 a.2.2.2.2.1 a.2.2.2.2.2.1 a.2.2.2.2.2.2.1 a.2.2.2.2.2.2.2)

noncomputable def enDa : Env := envH ty noG lks [oDigit, oMdy, oYdy, oOut, oTnu] [] [] [lpDa1, lpDa2]

theorem enDa_ok : EnvOK Tryz.prog enDa := by
  refine envH_ok lks_ok ty_ok ?_ ?_
  · simp only [List.forall_mem_cons]
    exact ⟨okDigit, okMdy, okYdy, okOut, okTnu, by simp⟩
  · simp

theorem evDa1L (s : ByteArray) (k : Nat) : ((exec enDa (loopN Tryz.f114 0) (stDa1 s k)).bind (lessX ([18, 17, 0], []) ([0], []) ([3, 2], []))).val =
  (fun (q : Option (Ex × St)) => (fun (q_1 : Option (Ex × St)) => (fun (q_2 : Option UInt8) => (fun (q_3 : Option (Ex × St)) => bif decide ((↑k : Int) < (↑(ByteArray.size s)
  : Int)) then Option.bind q_2 fun (z : UInt8) => bif (↑(UInt8.toNat z) : Int) == (48 : Int) then Option.bind s[k]? fun (z : UInt8) => Option.bind (unenc encDigit [(vU
  (↑(UInt8.toNat z) : Int))]) fun (z : Int) => bif !!F.digit z then q_3 else q else q_3 else some (Ex.exit (0 : Nat), St.mk [(0, (vS s))] [])) (Option.bind q_2 fun (z :
  UInt8) => bif (↑(UInt8.toNat z) : Int) != (48 : Int) then Option.bind s[k]? fun (z : UInt8) => Option.bind q_2 fun (z_1 : UInt8) => bif (↑(UInt8.toNat z) : Int) !=
  (↑(UInt8.toNat z_1) : Int) then q else q_1 else bif (↑(UInt8.toNat z) : Int) != (48 : Int) then Option.bind q_2 fun (z : UInt8) => none else bif (↑(UInt8.toNat z) : Int)
  != (48 : Int) then none else q_1)) (ByteArray.mk (Array.mk [(48 : UInt8), (48 : UInt8), (48 : UInt8), (48 : UInt8), (45 : UInt8), (48 : UInt8), (48 : UInt8), (45 : UInt8),
  (48 : UInt8), (48 : UInt8), (84 : UInt8), (48 : UInt8), (48 : UInt8), (58 : UInt8), (48 : UInt8), (48 : UInt8), (58 : UInt8), (48 : UInt8), (48 : UInt8), (46 : UInt8), (48
  : UInt8), (48 : UInt8), (48 : UInt8), (90 : UInt8)]))[k]?) (some (Ex.normal, St.mk [(18, (vI (IntKind.wrap IntKind.i64 ((↑k : Int) + (1 : Int))))), (17, (vI
  (↑(ByteArray.size s) : Int))), (0, (vS s))] []))) (some (Ex.ret, St.mk [(3, (vI (10 : Int))), (2, (vI (0 : Int)))] [])) := (execR_bind _ _ _).symm.trans (by kernel_rfl)

theorem lpDa1_ok (s : ByteArray) (k : Nat) (hp : prlDa1 s k = true) : ∀ ex s', (outDa1 s k).val = some (ex, s') → LoopOK enDa (loopN Tryz.f114 0) (stDa1 s k) ex s' := by
  simp only [prlDa1, Bool.and_eq_true, decide_eq_true_eq] at hp
  obtain ⟨h1, h2⟩ := hp
  have hl := F.bs_len s
  have hlf : (F.bs F.dForm).length = 24 := rfl
  have hz : (F.dfP s).length = 24 := by unfold F.dfP; rw [List.length_zip]; omega
  refine loop_gen (st := fun k => stDa1 s k) (out := fun k => outDa1 s k) (I := fun k => k ≤ 24) (n := ([18, 17, 0], [])) (e := ([0], [])) (r := ([3, 2], [])) (fun k => 24 - k) ?_ k h2
  clear h2
  intro k hk
  by_cases hlt : k < 24
  · have hy : (F.bs s)[k]? = some ((F.bs s)[k]'(by omega)) := List.getElem?_eq_getElem (by omega)
    generalize (F.bs s)[k]'(by omega) = y at hy
    have hf : (F.bs F.dForm)[k]? = some ((F.bs F.dForm)[k]'(by omega)) := List.getElem?_eq_getElem (by omega)
    generalize (F.bs F.dForm)[k]'(by omega) = f at hf
    have hzk : (F.dfP s)[k]? = some (y, f) := List.getElem?_zip_eq_some.2 ⟨hy, hf⟩
    have hd := drop_y hzk
    have q : (⟨⟨[48, 48, 48, 48, 45, 48, 48, 45, 48, 48, 84, 48, 48, 58, 48, 48, 58, 48, 48, 46, 48, 48, 48, 90]⟩⟩ : ByteArray) = F.dForm := rfl
    have hlt' : k < s.size := by omega
    have e1 : ((f.toNat : Int) == 48) = decide (f = 48) := by
      by_cases h : f = 48
      · subst h; rfl
      · rw [decide_eq_false h]
        simp only [beq_eq_false_iff_ne]
        intro e; exact h (UInt8.toNat_inj.1 (by show f.toNat = 48; omega))
    have e2 : ((y.toNat : Int) == (f.toNat : Int)) = decide (y = f) := by
      by_cases h : y = f
      · subst h; simp
      · rw [decide_eq_false h]
        simp only [beq_eq_false_iff_ne]
        intro e; exact h (UInt8.toNat_inj.1 (by omega))
    cases hc : F.dfB y f
    · left
      refine ⟨(.ret, ⟨[(3, vI 10), (2, vI 0)], []⟩), ?_, ?_, by simp, rfl⟩
      · rw [evDa1L]
        simp only [unDigit, unMdy, unYdy, unOut, unTnu, preDigit1, preMdy1, preYdy1, preOut1, preTnu1, unstDa1, unstDa2, unstDa10, unstDa20, prlDa1, prlDa2, outDa1, outDa2, etaEnt, etaLst, etaSnd, etaStrm, etaMas, Option.bind_some, List.length_map, unStrs, unInts, unBools, unEnts, unItms, unTrns, cond_true, cond_false, Bool.and_true, Bool.true_and, cast_lt hlt', q, F.bs_get, hy, hf, F.dg_digit, e1, e2, bne]
        unfold F.dfB at hc
        cases ha : decide (f = 48) <;> cases hb : F.dgB y <;> cases hg : decide (y = f) <;> rw [ha, hb, hg] at hc <;> first | rfl | (cases hc; done)
      · simp only [outDa1, hd, List.all_cons, hc]
        rfl
    · right
      refine ⟨k + 1, ?_, rfl, hlt, by omega, ?_⟩
      · rw [evDa1L]
        simp only [unDigit, unMdy, unYdy, unOut, unTnu, preDigit1, preMdy1, preYdy1, preOut1, preTnu1, unstDa1, unstDa2, unstDa10, unstDa20, prlDa1, prlDa2, outDa1, outDa2, etaEnt, etaLst, etaSnd, etaStrm, etaMas, Option.bind_some, List.length_map, unStrs, unInts, unBools, unEnts, unItms, unTrns, cond_true, cond_false, Bool.and_true, Bool.true_and, cast_lt hlt', q, F.bs_get, hy, hf, F.dg_digit, e1, e2, bne, next_at hlt' (by omega : s.size ≤ 9223372036854775807), stDa1]
        unfold F.dfB at hc
        cases ha : decide (f = 48) <;> cases hb : F.dgB y <;> cases hg : decide (y = f) <;> rw [ha, hb, hg] at hc <;> first | rfl | (cases hc; done)
      · simp only [outDa1, hd, List.all_cons, hc, Bool.true_and]
  · have : k = 24 := by omega
    subst this
    have hd : (F.dfP s).drop 24 = [] := List.drop_eq_nil_of_le (by omega)
    left
    refine ⟨(.exit 0, ⟨[(0, vS s)], []⟩), ?_, ?_, by simp, rfl⟩
    · rw [evDa1L]; rw [h1]; rfl
    · simp only [outDa1, hd, List.all_nil]
      rfl

theorem evDa2L (s : ByteArray) (y : Int) (m : Nat) (h : Int) (mi : Int) (se : Int) (d : Int) (j : Nat) : ((exec enDa (loopN Tryz.f114 1) (stDa2 s y m h mi se d j)).bind (lessX ([12, 11, 10, 9, 8, 6, 5, 0], []) ([11, 10, 9, 8, 0], []) ([], []))).val =
  bif decide ((↑j : Int) < (↑m : Int)) then Option.bind (unenc encMdy [(vI y), (vI (↑j : Int))]) fun (z : Int × Int) => bif decide ((0 : Int) ≤ z.fst) && decide (z.fst ≤
  (100000 : Int)) then some (Ex.normal, St.mk [(12, (vI (IntKind.wrap IntKind.i64 ((↑j : Int) + (1 : Int))))), (11, (vI (IntKind.wrap IntKind.i64 (d + F.mdays z.fst
  z.snd)))), (10, (vI se)), (9, (vI mi)), (8, (vI h)), (6, (vI (↑m : Int))), (5, (vI y)), (0, (vS s))] []) else none else some (Ex.exit (2 : Nat), St.mk [(11, (vI d)), (10,
  (vI se)), (9, (vI mi)), (8, (vI h)), (0, (vS s))] []) := (execR_bind _ _ _).symm.trans (by kernel_rfl)

theorem lpDa2_ok (s : ByteArray) (y : Int) (m : Nat) (h : Int) (mi : Int) (se : Int) (d : Int) (j : Nat) (hp : prlDa2 s y m h mi se d j = true) : ∀ ex s', (outDa2 s y m h mi se d j).val = some (ex, s') → LoopOK enDa (loopN Tryz.f114 1) (stDa2 s y m h mi se d j) ex s' := by
  simp only [prlDa2, Bool.and_eq_true, decide_eq_true_eq] at hp
  obtain ⟨⟨⟨⟨⟨h1, h2⟩, h3⟩, h4⟩, h5⟩, h6⟩ := hp
  refine loop_gen (st := fun p : Int × Nat => stDa2 s y m h mi se p.1 p.2) (out := fun p => outDa2 s y m h mi se p.1 p.2) (I := fun p => p.2 ≤ 12 ∧ 0 ≤ p.1 ∧ p.1 ≤ 100000000 + 31 * p.2) (n := ([12, 11, 10, 9, 8, 6, 5, 0], [])) (e := ([11, 10, 9, 8, 0], [])) (r := ([], [])) (fun p => 12 - p.2) ?_ (d, j) ⟨h4, h5, by simp only; omega⟩
  clear h4 h5 h6
  rintro ⟨d, j⟩ ⟨g1, g2, g3⟩
  simp only at g1 g2 g3
  have dy : decide (0 ≤ y) = true := decide_eq_true h1
  have dy2 : decide (y ≤ 100000) = true := decide_eq_true h2
  have hb := F.mdays_b y j
  by_cases hlt : j < m
  · have e0 : decide ((j : Int) < (m : Int)) = true := decide_eq_true (by omega)
    have w1 : IntKind.i64.wrap (d + F.mdays y j) = d + F.mdays y j := wrap_id (by omega) (by omega)
    have w2 : IntKind.i64.wrap ((j : Int) + 1) = ((j + 1 : Nat) : Int) := by rw [wrap_id (by omega) (by omega)]; rfl
    right
    refine ⟨(d + F.mdays y j, j + 1), ?_, rfl, ⟨by simp only; omega, by simp only; omega, by simp only; omega⟩, by simp only; omega, ?_⟩
    · rw [evDa2L]
      simp only [unDigit, unMdy, unYdy, unOut, unTnu, preDigit1, preMdy1, preYdy1, preOut1, preTnu1, unstDa1, unstDa2, unstDa10, unstDa20, prlDa1, prlDa2, outDa1, outDa2, etaEnt, etaLst, etaSnd, etaStrm, etaMas, Option.bind_some, List.length_map, unStrs, unInts, unBools, unEnts, unItms, unTrns, cond_true, cond_false, Bool.and_true, Bool.true_and, e0, dy, dy2, w1, w2, stDa2]
      try rfl
    · have e : m - j = (m - (j + 1)) + 1 := by omega
      simp only [outDa2]
      rw [e, F.msum, Int.add_assoc]
  · have e0 : decide ((j : Int) < (m : Int)) = false := decide_eq_false (by omega)
    left
    refine ⟨(.exit 2, ⟨[(11, vI d), (10, vI se), (9, vI mi), (8, vI h), (0, vS s)], []⟩), ?_, ?_, by simp, rfl⟩
    · rw [evDa2L]
      simp only [unDigit, unMdy, unYdy, unOut, unTnu, preDigit1, preMdy1, preYdy1, preOut1, preTnu1, unstDa1, unstDa2, unstDa10, unstDa20, prlDa1, prlDa2, outDa1, outDa2, etaEnt, etaLst, etaSnd, etaStrm, etaMas, Option.bind_some, List.length_map, unStrs, unInts, unBools, unEnts, unItms, unTrns, cond_true, cond_false, Bool.and_true, Bool.true_and, e0]
      try rfl
    · simp only [outDa2]
      rw [show m - j = 0 by omega, F.msum, Int.add_zero]
      rfl

end M

def F.dN (s : ByteArray) (a b : Nat) : Nat := F.dv (s.extract a b)

def F.dtB (y m d h i e : Int) : Bool := !(decide (y < 1970) || F.out m 1 12 || F.out d 1 (F.mdays y m) || decide (23 < h) || decide (59 < i) || decide (59 < e))

def F.dtOk (s : ByteArray) : Bool := decide (s.size = 24) && F.dfA s && F.dtB (F.dN s 0 4) (F.dN s 5 7) (F.dN s 8 10) (F.dN s 11 13) (F.dN s 14 16) (F.dN s 17 19)

def F.dtV (s : ByteArray) : Int := bif F.dtOk s then (F.ydays (F.dN s 0 4) + (F.dN s 8 10 : Nat) - 1 + F.msum (F.dN s 0 4) (F.dN s 5 7 - 1) 1) * 86400000 + (F.dN s 11 13 : Nat) * 3600000 + (F.dN s 14 16 : Nat) * 60000 + (F.dN s 17 19 : Nat) * 1000 + (F.dN s 20 23 : Nat) else 0

theorem F.sub_bs (s : ByteArray) (a b : Nat) : F.bs (s.extract a b) = ((F.bs s).drop a).take (b - a) := Lib.extract_data s a b

theorem F.sub_dg {s : ByteArray} (h24 : s.size = 24) (h : F.dfA s = true) {a b : Nat} (hb : b ≤ 24) (hf : ∀ i : Fin 24, a ≤ i.val → i.val < b → (F.bs F.dForm)[i.val]? = some 48) : (F.bs (s.extract a b)).all F.dgB = true := by
  rw [F.sub_bs]
  refine List.all_eq_true.2 fun y hy => ?_
  obtain ⟨k, hk⟩ := List.mem_iff_getElem?.1 hy
  rw [List.getElem?_take] at hk
  split at hk
  · rename_i hlt
    rw [List.getElem?_drop] at hk
    have hff := hf ⟨a + k, by omega⟩ (by simp only; omega) (by simp only; omega)
    have hz : (F.dfP s)[a + k]? = some (y, 48) := List.getElem?_zip_eq_some.2 ⟨hk, hff⟩
    have := List.all_eq_true.1 h _ (List.mem_of_getElem? hz)
    simpa [F.dfB] using this
  · cases hk

theorem F.sub_sz {s : ByteArray} (h24 : s.size = 24) {a b : Nat} (hb : b ≤ 24) : (s.extract a b).size = b - a := by
  rw [ByteArray.size_extract]; omega

theorem F.dv_b {s : ByteArray} {k : Nat} (h : s.size ≤ k) (ha : (F.bs s).all F.dgB = true) : F.dv s < 10 ^ k := by
  have := F.dvA_lt _ ha
  rw [F.bs_len] at this
  exact Nat.lt_of_lt_of_le this (Nat.pow_le_pow_right (by decide) h)

theorem F.ydays_b {y : Int} (h1 : 1970 ≤ y) (h2 : y ≤ 9999) : 0 ≤ F.ydays y ∧ F.ydays y ≤ 4000000 := by
  unfold F.ydays
  rw [Int.tdiv_eq_ediv_of_nonneg (by omega), Int.tdiv_eq_ediv_of_nonneg (by omega), Int.tdiv_eq_ediv_of_nonneg (by omega)]
  omega

theorem F.msum_b (y : Int) : ∀ (n j : Nat), 0 ≤ F.msum y n j ∧ F.msum y n j ≤ 31 * n
  | 0, j => by simp [F.msum]
  | n + 1, j => by
    have h1 := F.mdays_b y j
    have h2 := F.msum_b y n (j + 1)
    rw [F.msum]
    omega

set_option maxHeartbeats 1000000

namespace M

theorem evDa (s : ByteArray) : (runF enDa false Tryz.f114 [vS s]).val =
  (fun (q : Option (AV × Heap)) => bif (↑(ByteArray.size s) : Int) != (24 : Int) then q else Option.bind (unenc stDa11 (St.mk [(18, (vI (0 : Int))), (17, (vI
  (↑(ByteArray.size s) : Int))), (0, (vS s))] [])) fun (z : ByteArray × Nat) => bif decide (ByteArray.size z.fst = (24 : Nat)) && decide (z.snd ≤ (24 : Nat)) && true then
  bif List.all (List.drop z.snd (F.dfP z.fst)) fun (p : UInt8 × UInt8) => F.dfB p.fst p.snd then bif Nat.ble (4 : Nat) (ByteArray.size z.fst) then Option.bind (unenc encTnu
  [(vS (ByteArray.extract z.fst (0 : Nat) (4 : Nat)))]) fun (z_1 : ByteArray) => (fun (q_1 : AV) => bif decide (ByteArray.size z_1 ≤ (18 : Nat)) && List.all (F.bs z_1) F.dgB
  then bif Nat.ble (7 : Nat) (ByteArray.size z.fst) then Option.bind (unenc encTnu [(vS (ByteArray.extract z.fst (5 : Nat) (7 : Nat)))]) fun (z_2 : ByteArray) => (fun (q_2 :
  AV) => bif decide (ByteArray.size z_2 ≤ (18 : Nat)) && List.all (F.bs z_2) F.dgB then bif Nat.ble (10 : Nat) (ByteArray.size z.fst) then Option.bind (unenc encTnu [(vS
  (ByteArray.extract z.fst (8 : Nat) (10 : Nat)))]) fun (z_3 : ByteArray) => bif decide (ByteArray.size z_3 ≤ (18 : Nat)) && List.all (F.bs z_3) F.dgB then bif Nat.ble (13 :
  Nat) (ByteArray.size z.fst) then Option.bind (unenc encTnu [(vS (ByteArray.extract z.fst (11 : Nat) (13 : Nat)))]) fun (z_4 : ByteArray) => bif decide (ByteArray.size z_4
  ≤ (18 : Nat)) && List.all (F.bs z_4) F.dgB then bif Nat.ble (16 : Nat) (ByteArray.size z.fst) then Option.bind (unenc encTnu [(vS (ByteArray.extract z.fst (14 : Nat) (16 :
  Nat)))]) fun (z_5 : ByteArray) => bif decide (ByteArray.size z_5 ≤ (18 : Nat)) && List.all (F.bs z_5) F.dgB then bif Nat.ble (19 : Nat) (ByteArray.size z.fst) then
  Option.bind (unenc encTnu [(vS (ByteArray.extract z.fst (17 : Nat) (19 : Nat)))]) fun (z_6 : ByteArray) => bif decide (ByteArray.size z_6 ≤ (18 : Nat)) && List.all (F.bs
  z_6) F.dgB then bif !decide ((↑(F.dv z_1) : Int) < (1970 : Int)) then Option.bind (unenc encOut [q_2, (vI (1 : Int)), (vI (12 : Int))]) fun (z_7 : Int × Int × Int) => bif
  !F.out z_7.fst z_7.snd.fst z_7.snd.snd then Option.bind (unenc encMdy [q_1, q_2]) fun (z_8 : Int × Int) => bif decide ((0 : Int) ≤ z_8.fst) && decide (z_8.fst ≤ (100000 :
  Int)) then Option.bind (unenc encOut [(vI (↑(F.dv z_3) : Int)), (vI (1 : Int)), (vI (F.mdays z_8.fst z_8.snd))]) fun (z_9 : Int × Int × Int) => bif bif bif bif F.out
  z_9.fst z_9.snd.fst z_9.snd.snd then true else decide ((23 : Int) < (↑(F.dv z_4) : Int)) then true else decide ((59 : Int) < (↑(F.dv z_5) : Int)) then true else decide
  ((59 : Int) < (↑(F.dv z_6) : Int)) then q else Option.bind (unenc encYdy [q_1]) fun (z_10 : Int) => bif decide ((1970 : Int) ≤ z_10) && decide (z_10 ≤ (9999 : Int)) then
  Option.bind (unenc stDa21 (St.mk [(12, (vI (1 : Int))), (11, (vI (IntKind.wrap IntKind.i64 (IntKind.wrap IntKind.i64 (F.ydays z_10 + (↑(F.dv z_3) : Int)) - (1 : Int))))),
  (10, (vI (↑(F.dv z_6) : Int))), (9, (vI (↑(F.dv z_5) : Int))), (8, (vI (↑(F.dv z_4) : Int))), (6, q_2), (5, q_1), (0, (vS z.fst))] [])) fun (z : ByteArray × Int × Nat ×
  Int × Int × Int × Int × Nat) => (fun (q : Int) => (fun (q_3 : Nat) => bif decide ((0 : Int) ≤ z.snd.fst) && decide (z.snd.fst ≤ (100000 : Int)) && decide (z.snd.snd.fst ≤
  (12 : Nat)) && decide (q_3 ≤ (12 : Nat)) && decide ((0 : Int) ≤ q) && decide (q ≤ (100000000 : Int)) && true then bif Nat.ble (23 : Nat) (ByteArray.size z.fst) then
  Option.bind (unenc encTnu [(vS (ByteArray.extract z.fst (20 : Nat) (23 : Nat)))]) fun (z_11 : ByteArray) => bif decide (ByteArray.size z_11 ≤ (18 : Nat)) && List.all (F.bs
  z_11) F.dgB then some (AV.tup [(vI (IntKind.wrap IntKind.i64 (IntKind.wrap IntKind.i64 (IntKind.wrap IntKind.i64 (IntKind.wrap IntKind.i64 (IntKind.wrap IntKind.i64 ((q +
  F.msum z.snd.fst (z.snd.snd.fst - q_3) q_3) * (86400000 : Int)) + IntKind.wrap IntKind.i64 (z.snd.snd.snd.fst * (3600000 : Int))) + IntKind.wrap IntKind.i64
  (z.snd.snd.snd.snd.fst * (60000 : Int))) + IntKind.wrap IntKind.i64 (z.snd.snd.snd.snd.snd.fst * (1000 : Int))) + (↑(F.dv z_11) : Int)))), (vI (0 : Int))], []) else none
  else none else none) z.snd.snd.snd.snd.snd.snd.snd) z.snd.snd.snd.snd.snd.snd.fst else none else none else q else q else none else none else none else none else none else
  none else none else none else none) ((vI (↑(F.dv z_2) : Int))) else none else none) ((vI (↑(F.dv z_1) : Int))) else none else q else none) (some (AV.tup [(vI (0 : Int)),
  (vI (10 : Int))], [])) := (runFR_val).symm.trans (by kernel_rfl)

def encDa1 (s : ByteArray) : List AV := [vS s]

def encDa (a : ByteArray) : List AV := encDa1 a

theorem encDa_inj (a a' : ByteArray) (h : encDa a = encDa a') : a = a' := by
  simp only [encDa, encDa1] at h
  try simp [strs_inj, ints_inj, ents_inj, eEnt_iff, eLst_iff, eSnds_inj, eStrms_inj] at h
  grind

theorem unDa (s : ByteArray) : unenc encDa ([(vS s)]) = some (s) := unenc_of encDa_inj (s) rfl

def resDa1 (s : ByteArray) : AV × Heap := (.tup [vI (F.dtV s), vI (bif F.dtOk s then 0 else 10)], [])

def preDa1 (s : ByteArray) : Bool := true

noncomputable def oDa : Orc := orc 114 true encDa (fun a => preDa1 a) fun a => resDa1 a

theorem okDa : OrcOK Tryz.prog noG oDa := by
  refine mk_ok Tryz.f114 (keep := false) (by kernel_rfl) (by kernel_rfl) enDa_ok mixed (two_loops (x0 := loopN Tryz.f114 0) (x1 := loopN Tryz.f114 1) (by kernel_rfl) (lpo_ok ?_) (lpo_ok ?_)) (by first | exact fun _ _ => ⟨rfl, rfl⟩ | (intro h; cases h)) ?_
  · rintro ⟨s, k⟩ hp
    exact lpDa1_ok s k hp
  · rintro ⟨s, y, m, h, mi, se, d, j⟩ hp
    exact lpDa2_ok s y m h mi se d j hp
  rintro s hpre hok
  show (runF enDa false _ (encDa1 _)).val = some (resDa1 _)
  unfold encDa1 resDa1
  rw [evDa]
  simp only [unDigit, unMdy, unYdy, unOut, unTnu, preDigit1, preMdy1, preYdy1, preOut1, preTnu1, unstDa1, unstDa2, unstDa10, unstDa20, prlDa1, prlDa2, outDa1, outDa2, etaEnt, etaLst, etaSnd, etaStrm, etaMas, Option.bind_some, List.length_map, unStrs, unInts, unBools, unEnts, unItms, unTrns, cond_true, cond_false, Bool.and_true, Bool.true_and, List.drop_zero, Nat.zero_le, decide_true]
  by_cases h24 : s.size = 24
  rotate_left
  · have e : ((s.size : Int) != 24) = true := by simp; omega
    have hk : F.dtOk s = false := by simp only [F.dtOk, decide_eq_false h24, Bool.false_and]
    simp only [F.dtV, e, hk, cond_true, cond_false]
  have e : ((s.size : Int) != 24) = false := by rw [h24]; rfl
  have hA : ((F.dfP s).all fun p => F.dfB p.1 p.2) = F.dfA s := rfl
  rw [e, hA, decide_eq_true h24]
  cases hd : F.dfA s
  · have hk : F.dtOk s = false := by simp only [F.dtOk, hd, Bool.and_false, Bool.false_and]
    simp only [F.dtV, hk, cond_true, cond_false]
  have hk : F.dtOk s = F.dtB (F.dN s 0 4) (F.dN s 5 7) (F.dN s 8 10) (F.dN s 11 13) (F.dN s 14 16) (F.dN s 17 19) := by simp only [F.dtOk, hd, decide_eq_true h24, Bool.true_and]
  have d1 := F.sub_dg h24 hd (a := 0) (b := 4) (by decide) (by decide)
  have d2 := F.sub_dg h24 hd (a := 5) (b := 7) (by decide) (by decide)
  have d3 := F.sub_dg h24 hd (a := 8) (b := 10) (by decide) (by decide)
  have d4 := F.sub_dg h24 hd (a := 11) (b := 13) (by decide) (by decide)
  have d5 := F.sub_dg h24 hd (a := 14) (b := 16) (by decide) (by decide)
  have d6 := F.sub_dg h24 hd (a := 17) (b := 19) (by decide) (by decide)
  have d7 := F.sub_dg h24 hd (a := 20) (b := 23) (by decide) (by decide)
  have z1 : (s.extract 0 4).size = 4 := F.sub_sz h24 (by decide)
  have z2 : (s.extract 5 7).size = 2 := F.sub_sz h24 (by decide)
  have z3 : (s.extract 8 10).size = 2 := F.sub_sz h24 (by decide)
  have z4 : (s.extract 11 13).size = 2 := F.sub_sz h24 (by decide)
  have z5 : (s.extract 14 16).size = 2 := F.sub_sz h24 (by decide)
  have z6 : (s.extract 17 19).size = 2 := F.sub_sz h24 (by decide)
  have z7 : (s.extract 20 23).size = 3 := F.sub_sz h24 (by decide)
  have b1 := F.dv_b (k := 4) (by omega) d1
  have b2 := F.dv_b (k := 2) (by omega) d2
  have b3 := F.dv_b (k := 2) (by omega) d3
  have b4 := F.dv_b (k := 2) (by omega) d4
  have b5 := F.dv_b (k := 2) (by omega) d5
  have b6 := F.dv_b (k := 2) (by omega) d6
  have b7 := F.dv_b (k := 3) (by omega) d7
  have v1 : decide ((4 : Nat) ≤ 18) = true := rfl
  have v2 : decide ((2 : Nat) ≤ 18) = true := rfl
  have v3 : decide ((3 : Nat) ≤ 18) = true := rfl
  have n1 : Nat.ble 4 24 = true := rfl
  have n2 : Nat.ble 7 24 = true := rfl
  have n3 : Nat.ble 10 24 = true := rfl
  have n4 : Nat.ble 13 24 = true := rfl
  have n5 : Nat.ble 16 24 = true := rfl
  have n6 : Nat.ble 19 24 = true := rfl
  have n7 : Nat.ble 23 24 = true := rfl
  simp only [z1, z2, z3, z4, z5, z6, z7, d1, d2, d3, d4, d5, d6, d7, h24, v1, v2, v3, n1, n2, n3, n4, n5, n6, n7, cond_true, cond_false, Bool.and_self, F.dtV, hk, F.dN]
  clear hk
  generalize F.dv (s.extract 0 4) = y at *
  generalize F.dv (s.extract 5 7) = m at *
  generalize F.dv (s.extract 8 10) = d at *
  generalize F.dv (s.extract 11 13) = h at *
  generalize F.dv (s.extract 14 16) = i at *
  generalize F.dv (s.extract 17 19) = g at *
  generalize F.dv (s.extract 20 23) = w at *
  have y1 : decide ((0 : Int) ≤ (y : Int)) = true := decide_eq_true (by omega)
  have y2 : decide ((y : Int) ≤ 100000) = true := decide_eq_true (by omega)
  have y3 : decide ((y : Int) ≤ 9999) = true := decide_eq_true (by omega)
  unfold F.dtB
  cases q1 : decide ((y : Int) < 1970)
  rotate_left
  · rfl
  have q1' := of_decide_eq_false q1
  cases q2 : F.out (m : Int) 1 12
  rotate_left
  · rfl
  have q2' : 1 ≤ m ∧ m ≤ 12 := by
    unfold F.out at q2
    simp only [Bool.or_eq_false_iff, decide_eq_false_iff_not] at q2
    omega
  rw [y1, y2, y3, decide_eq_true (by omega : (1970 : Int) ≤ (y : Int)), decide_eq_true q2'.2]
  cases q3 : F.out (d : Int) 1 (F.mdays y m)
  rotate_left
  · rfl
  have q3' : 1 ≤ d := by
    unfold F.out at q3
    simp only [Bool.or_eq_false_iff, decide_eq_false_iff_not] at q3
    omega
  cases q4 : decide ((23 : Int) < (h : Int))
  rotate_left
  · rfl
  cases q5 : decide ((59 : Int) < (i : Int))
  rotate_left
  · rfl
  cases q6 : decide ((59 : Int) < (g : Int))
  rotate_left
  · rfl
  have hy := F.ydays_b (y := y) (by omega) (by omega)
  have hm := F.msum_b y (m - 1) 1
  generalize F.ydays y = Y at *
  generalize F.msum y (m - 1) 1 = M at *
  have w1 : IntKind.i64.wrap (IntKind.i64.wrap (Y + (d : Int)) - 1) = Y + (d : Int) - 1 := by rw [wrap_id (n := Y + (d : Int)) (by omega) (by omega), wrap_id (by omega) (by omega)]
  rw [w1, decide_eq_true (by omega : 0 ≤ Y + (d : Int) - 1), decide_eq_true (by omega : Y + (d : Int) - 1 ≤ 100000000)]
  simp (disch := omega) only [wrap_id, cond_true, cond_false]
  rfl

end M

theorem F.ydays_one {y : Int} (h : 1 ≤ y) : F.ydays (y + 1) = F.ydays y + 365 + (bif F.leap y then 1 else 0) := by
  unfold F.ydays F.leap
  rw [show y + 1 - 1 = y by omega]
  simp only [Int.tdiv_eq_ediv_of_nonneg (show 0 ≤ y by omega), Int.tdiv_eq_ediv_of_nonneg (show 0 ≤ y - 1 by omega), Int.tmod_eq_emod_of_nonneg (show 0 ≤ y by omega)]
  have e : ∀ a : Int, (a == 0) = decide (a = 0) := fun a => by by_cases h : a = 0 <;> simp [h]
  simp only [e]
  by_cases h1 : y % 4 = 0 <;> by_cases h2 : y % 100 = 0 <;> by_cases h3 : y % 400 = 0 <;> simp only [h1, h2, h3, decide_true, decide_false, cond_true, cond_false, Bool.not_true, Bool.not_false] <;> omega

def F.ysum : Nat → Int → Int
  | 0, _ => 0
  | n + 1, y => 365 + (bif F.leap y then 1 else 0) + F.ysum n (y + 1)

theorem F.ysum_eq : ∀ (n : Nat) (y : Int), 1 ≤ y → F.ydays (y + n) = F.ydays y + F.ysum n y
  | 0, y, _ => by simp [F.ysum]
  | n + 1, y, h => by
    have h1 := F.ysum_eq n (y + 1) (by omega)
    have h2 := F.ydays_one h
    rw [F.ysum]
    rw [show y + ((n + 1 : Nat) : Int) = y + 1 + (n : Int) by omega, h1, h2]
    omega

theorem F.ydays_0 : F.ydays 1970 = 0 := by decide

theorem F.ysum_b : ∀ (n : Nat) (y : Int), 0 ≤ F.ysum n y ∧ F.ysum n y ≤ 366 * n
  | 0, y => by simp [F.ysum]
  | n + 1, y => by
    have h2 := F.ysum_b n (y + 1)
    rw [F.ysum]
    cases F.leap y
    · rw [cond_false]; omega
    · rw [cond_true]; omega

def F.zrs (k : Nat) : ByteArray := ⟨⟨List.replicate k 48⟩⟩

def F.pad (n : Int) (many : Nat) : ByteArray := F.zrs (many - (F.itoa n).size) ++ F.itoa n

theorem F.bs_zrs (k : Nat) : F.bs (F.zrs k) = List.replicate k 48 := rfl

theorem F.zrs_size (k : Nat) : (F.zrs k).size = k := by rw [← F.bs_len, F.bs_zrs, List.length_replicate]

theorem F.zrs_zero : F.zrs 0 = ⟨⟨[]⟩⟩ := rfl

theorem F.zrs_succ (k : Nat) (s : ByteArray) : F.zrs (k + 1) ++ s = F.zrs k ++ ((⟨⟨[48]⟩⟩ : ByteArray) ++ s) := by
  apply F.bsx
  rw [F.bs_app, F.bs_app, F.bs_app, F.bs_zrs, F.bs_zrs, List.replicate_succ', List.append_assoc]
  rfl

theorem F.bs_pad (k many : Nat) : F.bs (F.pad (k : Int) many) = List.replicate (many - (Lib.decDigits k).length) 48 ++ Lib.decDigits k := by
  unfold F.pad
  rw [F.bs_app, F.bs_zrs, F.itoa_n, ← F.bs_len, F.itoa_n]

theorem F.dvA_rep (k : Nat) (l : List UInt8) : F.dvA 0 (List.replicate k 48 ++ l) = F.dvA 0 l := by
  induction k with
  | zero => rfl
  | succ k ih =>
    rw [List.replicate_succ, List.cons_append, F.dvA_cons]
    exact ih

theorem F.pad_ok {k many : Nat} (h : k < 10 ^ many) (hm : 1 ≤ many) : (F.bs (F.pad (k : Int) many)).length = many ∧ (F.bs (F.pad (k : Int) many)).all F.dgB = true ∧ F.dvA 0 (F.bs (F.pad (k : Int) many)) = k := by
  obtain ⟨j, rfl⟩ : ∃ j, many = j + 1 := ⟨many - 1, by omega⟩
  obtain ⟨d1, d2, d3⟩ := F.dd_ok k
  have d4 := F.dd_len j k h
  rw [F.bs_pad]
  refine ⟨?_, ?_, ?_⟩
  · rw [List.length_append, List.length_replicate]; omega
  · rw [List.all_append, d1, Bool.and_true, List.all_eq_true]
    intro x hx
    rw [(List.mem_replicate.1 hx).2]
    rfl
  · rw [F.dvA_rep, d2]

theorem F.dv_inj : ∀ (k : Nat) (l l' : List UInt8), l.length = k → l'.length = k → l.all F.dgB = true → l'.all F.dgB = true → F.dvA 0 l = F.dvA 0 l' → l = l'
  | 0, l, l', h, h', _, _, _ => by rw [List.length_eq_zero_iff.1 h, List.length_eq_zero_iff.1 h']
  | k + 1, l, l', h, h', h1, h2, hv => by
    have n0 : l ≠ [] := fun e => by rw [e] at h; simp at h
    have n1 : l' ≠ [] := fun e => by rw [e] at h'; simp at h'
    obtain ⟨q, c, rfl⟩ : ∃ q c, l = q ++ [c] := ⟨l.dropLast, l.getLast n0, (List.dropLast_concat_getLast n0).symm⟩
    obtain ⟨m, d, rfl⟩ : ∃ m d, l' = m ++ [d] := ⟨l'.dropLast, l'.getLast n1, (List.dropLast_concat_getLast n1).symm⟩
    rw [List.all_append, Bool.and_eq_true] at h1 h2
    have hc := h1.2
    have hd := h2.2
    simp only [List.all_cons, List.all_nil, Bool.and_true, F.dgB, Bool.and_eq_true, decide_eq_true_eq] at hc hd
    rw [F.dvA_app, F.dvA_app, F.dvA_cons, F.dvA_cons, F.dvA_nil, F.dvA_nil] at hv
    rw [F.dv_inj k q m (by simpa using h) (by simpa using h') h1.1 h2.1 (by omega)]
    have : c = d := UInt8.toNat_inj.1 (by omega)
    rw [this]

def F.yrL : Nat → Int → Int → Int
  | 0, _, y => y
  | k + 1, d, y => bif decide (F.ydays (y + 1) ≤ d) then F.yrL k d (y + 1) else y

def F.moL : Nat → Int → Int → Int → Int × Int
  | 0, _, d, m => (m, d)
  | k + 1, y, d, m => bif decide (F.mdays y m ≤ d) then F.moL k y (d - F.mdays y m) (m + 1) else (m, d)

def F.dash1 : ByteArray := ⟨⟨[45]⟩⟩

def F.tee : ByteArray := ⟨⟨[84]⟩⟩

def F.colon : ByteArray := ⟨⟨[58]⟩⟩

def F.zed : ByteArray := ⟨⟨[90]⟩⟩

def F.dtP (y m d r : Int) : ByteArray :=
  F.pad y 4 ++ F.dash1 ++ F.pad m 2 ++ F.dash1 ++ F.pad d 2 ++ F.tee ++ F.pad (r.tdiv 3600000) 2 ++ F.colon ++ F.pad ((r.tdiv 60000).tmod 60) 2 ++ F.colon ++ F.pad ((r.tdiv 1000).tmod 60) 2 ++ F.dot ++ F.pad (r.tmod 1000) 3 ++ F.zed

def F.dtY (days : Int) : Int := F.yrL 10000 days (1970 + days.tdiv 366)

def F.dtM (days : Int) : Int × Int := F.moL 20 (F.dtY days) (days - F.ydays (F.dtY days)) 1

def F.dtS (n : Int) : ByteArray := F.dtP (F.dtY (n.tdiv 86400000)) (F.dtM (n.tdiv 86400000)).1 ((F.dtM (n.tdiv 86400000)).2 + 1) (n.tmod 86400000)

theorem F.ydays_mono {a b : Int} (h1 : 1 ≤ a) (h : a ≤ b) : F.ydays a ≤ F.ydays b := by
  have h2 := F.ysum_eq (b - a).toNat a h1
  have h3 := F.ysum_b (b - a).toNat a
  rw [show a + ((b - a).toNat : Nat) = b by omega] at h2
  omega

theorem F.ydays_up {a : Int} (h1 : 1 ≤ a) : F.ydays (a + 1) = F.ydays a + 365 + (bif F.leap a then 1 else 0) := by
  have h2 := F.ysum_eq 1 a h1
  rw [show a + ((1 : Nat) : Int) = a + 1 from rfl] at h2
  rw [h2]
  simp only [F.ysum]
  omega

theorem F.yrL_eq {Y d : Int} (hd1 : F.ydays Y ≤ d) (hd2 : d < F.ydays (Y + 1)) : ∀ (k : Nat) (y : Int), 1 ≤ y → y ≤ Y → Y - y ≤ k → F.yrL k d y = Y
  | 0, y, _, h2, h3 => by
    show y = Y
    omega
  | k + 1, y, h1, h2, h3 => by
    rw [F.yrL]
    by_cases hc : F.ydays (y + 1) ≤ d
    · rw [decide_eq_true hc, cond_true]
      have hne : y ≠ Y := fun e => by rw [e] at hc; omega
      exact F.yrL_eq hd1 hd2 k (y + 1) (by omega) (by omega) (by omega)
    · rw [decide_eq_false hc, cond_false]
      by_cases hy : y = Y
      · exact hy
      · have := F.ydays_mono (a := y + 1) (b := Y) (by omega) (by omega)
        omega

theorem F.yrL_ok {d : Int} : ∀ (k : Nat) (y : Int), 1 ≤ y → F.ydays y ≤ d → d < F.ydays (y + k + 1) → F.ydays (F.yrL k d y) ≤ d ∧ d < F.ydays (F.yrL k d y + 1) ∧ y ≤ F.yrL k d y
  | 0, y, h1, h2, h3 => ⟨h2, (by show d < F.ydays (y + 1); rw [show y + ((0 : Nat) : Int) + 1 = y + 1 by omega] at h3; exact h3), Int.le_refl _⟩
  | k + 1, y, h1, h2, h3 => by
    rw [F.yrL]
    by_cases hc : F.ydays (y + 1) ≤ d
    · rw [decide_eq_true hc, cond_true]
      obtain ⟨i1, i2, i3⟩ := F.yrL_ok k (y + 1) (by omega) hc (by rw [show y + 1 + (k : Int) + 1 = y + ((k + 1 : Nat) : Int) + 1 by omega]; exact h3)
      exact ⟨i1, i2, by omega⟩
    · rw [decide_eq_false hc, cond_false]
      exact ⟨h2, by omega, Int.le_refl _⟩

theorem F.moL_eq (y : Int) : ∀ (j k m : Nat) (D : Int), j ≤ k → 0 ≤ D → D < F.mdays y ((m + j : Nat) : Int) → F.moL k y (F.msum y j m + D) m = (((m + j : Nat) : Int), D)
  | 0, 0, m, D, _, _, _ => by
    show ((m : Int), F.msum y 0 m + D) = _
    rw [F.msum, Int.zero_add, Nat.add_zero]
  | 0, k + 1, m, D, _, h1, h2 => by
    rw [F.moL, F.msum, Int.zero_add]
    rw [Nat.add_zero] at h2 ⊢
    rw [decide_eq_false (by omega), cond_false]
  | j + 1, 0, m, D, h, _, _ => by omega
  | j + 1, k + 1, m, D, h, h1, h2 => by
    have hb := F.msum_b y j (m + 1)
    rw [F.moL, F.msum, decide_eq_true (by omega), cond_true, show F.mdays y m + F.msum y j (m + 1) + D - F.mdays y m = F.msum y j (m + 1) + D by omega, show ((m : Nat) : Int) + 1 = ((m + 1 : Nat) : Int) from rfl]
    rw [F.moL_eq y j k (m + 1) D (by omega) h1 (by rw [show m + 1 + j = m + (j + 1) by omega]; exact h2), show m + 1 + j = m + (j + 1) by omega]

theorem F.moL_ok (y : Int) : ∀ (j k m : Nat) (d : Int), j ≤ k → 0 ≤ d → d < F.msum y j m → ∃ i : Nat, i < j ∧ ∃ D : Int, 0 ≤ D ∧ D < F.mdays y ((m + i : Nat) : Int) ∧ d = F.msum y i m + D ∧ F.moL k y d m = (((m + i : Nat) : Int), D)
  | 0, k, m, d, _, h1, h2 => by
    rw [F.msum] at h2; omega
  | j + 1, 0, m, d, h, _, _ => by omega
  | j + 1, k + 1, m, d, h, h1, h2 => by
    rw [F.msum] at h2
    by_cases hc : F.mdays y m ≤ d
    · obtain ⟨i, i1, D, i2, i3, i4, i5⟩ := F.moL_ok y j k (m + 1) (d - F.mdays y m) (by omega) (by omega) (by omega)
      refine ⟨i + 1, by omega, D, i2, by rw [show m + (i + 1) = m + 1 + i by omega]; exact i3, by rw [F.msum]; omega, ?_⟩
      rw [F.moL, decide_eq_true hc, cond_true, show ((m : Nat) : Int) + 1 = ((m + 1 : Nat) : Int) from rfl, i5, show m + (i + 1) = m + 1 + i by omega]
    · refine ⟨0, by omega, d, h1, by rw [Nat.add_zero]; omega, by rw [F.msum]; omega, ?_⟩
      rw [F.moL, decide_eq_false hc, cond_false, Nat.add_zero]

theorem F.msum_12 (y : Int) : F.msum y 12 1 = 365 + (bif F.leap y then 1 else 0) := by
  simp only [F.msum, F.mdays]
  cases F.leap y <;> rfl

theorem F.sub_of' (y : Int) (h : 1970 ≤ y) : F.ydays y = F.ysum (y - 1970).toNat 1970 := by
  have := F.ysum_eq (y - 1970).toNat 1970 (by omega)
  rw [F.ydays_0, show (1970 : Int) + ((y - 1970).toNat : Nat) = y by omega] at this
  omega

theorem F.ydays_366 {y : Int} (h : 1970 ≤ y) : F.ydays y ≤ 366 * (y - 1970) := by
  have h1 := F.sub_of' y h
  have h2 := F.ysum_b (y - 1970).toNat 1970
  omega

def F.dayN (Y : Int) (M D : Nat) : Int := F.ydays Y + (D : Int) - 1 + F.msum Y (M - 1) 1

theorem F.dt_find {Y : Int} {M D : Nat} (h1 : 1970 ≤ Y) (h2 : Y ≤ 9999) (h3 : 1 ≤ M) (h4 : M ≤ 12) (h5 : 1 ≤ D) (h6 : (D : Int) ≤ F.mdays Y M) :
    F.dtY (F.dayN Y M D) = Y ∧ F.dtM (F.dayN Y M D) = ((M : Int), (D : Int) - 1) ∧ 0 ≤ F.dayN Y M D := by
  have hb := F.msum_b Y (M - 1) 1
  have hy := F.ydays_mono (a := 1970) (b := Y) (by omega) h1
  rw [F.ydays_0] at hy
  have hlt : F.msum Y (M - 1) 1 + (D : Int) ≤ F.msum Y 12 1 := by
    have hs : ∀ (a b j : Nat), F.msum Y (a + b) j = F.msum Y a j + F.msum Y b (j + a) := by
      intro a
      induction a with
      | zero => intro b j; rw [Nat.zero_add, F.msum]; simp
      | succ a ih => intro b j; rw [show a + 1 + b = a + b + 1 by omega, F.msum, F.msum, ih, show j + 1 + a = j + (a + 1) by omega]; omega
    have h7 := hs (M - 1) (12 - (M - 1)) 1
    have h9 : F.msum Y ((12 - M) + 1) M = F.mdays Y M + F.msum Y (12 - M) (M + 1) := rfl
    rw [show M - 1 + (12 - (M - 1)) = 12 by omega, show 12 - (M - 1) = (12 - M) + 1 by omega, show 1 + (M - 1) = M by omega, h9] at h7
    have h8 := F.msum_b Y (12 - M) (M + 1)
    omega
  rw [F.msum_12] at hlt
  have hup := F.ydays_up (a := Y) (by omega)
  have e0 : 0 ≤ F.dayN Y M D := by unfold F.dayN; omega
  have e1 : F.ydays Y ≤ F.dayN Y M D := by unfold F.dayN; omega
  have e2 : F.dayN Y M D < F.ydays (Y + 1) := by unfold F.dayN; omega
  have e3 : 1970 + (F.dayN Y M D).tdiv 366 ≤ Y := by
    have := F.ydays_366 (y := Y + 1) (by omega)
    rw [Int.tdiv_eq_ediv_of_nonneg e0]
    omega
  have hY : F.dtY (F.dayN Y M D) = Y := by
    unfold F.dtY
    refine F.yrL_eq e1 e2 10000 _ ?_ e3 ?_
    · rw [Int.tdiv_eq_ediv_of_nonneg e0]; omega
    · rw [Int.tdiv_eq_ediv_of_nonneg e0]; omega
  refine ⟨hY, ?_, e0⟩
  unfold F.dtM
  rw [hY, show F.dayN Y M D - F.ydays Y = F.msum Y (M - 1) 1 + ((D : Int) - 1) by unfold F.dayN; omega]
  have := F.moL_eq Y (M - 1) 20 1 ((D : Int) - 1) (by omega) (by omega) (by rw [show 1 + (M - 1) = M by omega]; omega)
  rw [show ((1 : Nat) : Int) = 1 from rfl, show 1 + (M - 1) = M by omega] at this
  exact this

theorem F.dt_has {d : Int} (h1 : 0 ≤ d) (h2 : d ≤ 2932896) : ∃ (Y : Int) (M D : Nat), 1970 ≤ Y ∧ Y ≤ 9999 ∧ 1 ≤ M ∧ M ≤ 12 ∧ 1 ≤ D ∧ (D : Int) ≤ F.mdays Y M ∧ d = F.dayN Y M D := by
  have y4 : F.ydays 10000 = 2932897 := by decide
  have hq : 0 ≤ d / 366 := by omega
  obtain ⟨i1, i2, i3⟩ := F.yrL_ok (d := d) 10000 (1970 + d / 366) (by omega) (by have := F.ydays_366 (y := 1970 + d / 366) (by omega); omega) (by
    have := F.ydays_mono (a := 10000) (b := 1970 + d / 366 + ((10000 : Nat) : Int) + 1) (by omega) (by omega)
    omega)
  generalize F.yrL 10000 d (1970 + d / 366) = Y at i1 i2 i3
  have hY : Y ≤ 9999 := by
    by_cases h : Y ≤ 9999
    · exact h
    · have := F.ydays_mono (a := 10000) (b := Y) (by omega) (by omega)
      omega
  have hup := F.ydays_up (a := Y) (by omega)
  obtain ⟨i, j1, D, j2, j3, j4, _⟩ := F.moL_ok Y 12 20 1 (d - F.ydays Y) (by omega) (by omega) (by rw [F.msum_12]; omega)
  refine ⟨Y, 1 + i, D.toNat + 1, by omega, hY, by omega, by omega, by omega, by omega, ?_⟩
  unfold F.dayN
  rw [show 1 + i - 1 = i by omega]
  omega

end Go.Proofs.YtajmdlpanlbnjaaGreatDoor

namespace Go.Proofs.YtajmdlpanlbnjaaGreatDoor
open Go Go.RowKit
set_option linter.unusedVariables false
set_option linter.unusedSimpArgs false
set_option maxHeartbeats 2000000
set_option maxRecDepth 100000

theorem F.l2 {α : Type} {l : List α} (h : l.length = 2) : ∃ x y, l = [x, y] := by
  obtain ⟨x, l0, h0⟩ := List.exists_cons_of_length_eq_add_one (l := l) (n := 1) h
  rw [h0] at h
  obtain ⟨y, l1, h1⟩ := List.exists_cons_of_length_eq_add_one (l := l0) (n := 0) (by simpa using h)
  rw [h1] at h
  have h2 : l1 = [] := List.length_eq_zero_iff.1 (by simpa using h)
  exact ⟨x, y, by rw [h0, h1, h2]⟩

theorem F.l3 {α : Type} {l : List α} (h : l.length = 3) : ∃ x y z, l = [x, y, z] := by
  obtain ⟨x, l0, h0⟩ := List.exists_cons_of_length_eq_add_one (l := l) (n := 2) h
  rw [h0] at h
  obtain ⟨y, z, h1⟩ := F.l2 (l := l0) (by simpa using h)
  exact ⟨x, y, z, by rw [h0, h1]⟩

theorem F.l4 {α : Type} {l : List α} (h : l.length = 4) : ∃ x y z w, l = [x, y, z, w] := by
  obtain ⟨x, l0, h0⟩ := List.exists_cons_of_length_eq_add_one (l := l) (n := 3) h
  rw [h0] at h
  obtain ⟨y, z, w, h1⟩ := F.l3 (l := l0) (by simpa using h)
  exact ⟨x, y, z, w, by rw [h0, h1]⟩

def F.dtQ (a b c d e f g : ByteArray) : ByteArray := a ++ F.dash1 ++ b ++ F.dash1 ++ c ++ F.tee ++ d ++ F.colon ++ e ++ F.colon ++ f ++ F.dot ++ g ++ F.zed

theorem F.bs_dtQ (a b c d e f g : ByteArray) : F.bs (F.dtQ a b c d e f g) = F.bs a ++ 45 :: (F.bs b ++ 45 :: (F.bs c ++ 84 :: (F.bs d ++ 58 :: (F.bs e ++ 58 :: (F.bs f ++ 46 :: (F.bs g ++ [90])))))) := by
  unfold F.dtQ
  simp only [F.bs_app, List.append_assoc, show F.bs F.dash1 = [45] from rfl, show F.bs F.tee = [84] from rfl, show F.bs F.colon = [58] from rfl, show F.bs F.dot = [46] from rfl, show F.bs F.zed = [90] from rfl, List.singleton_append, List.cons_append, List.nil_append]

theorem F.cut_at' {s : ByteArray} {l : List UInt8} (h : F.bs s = l) (a b : Nat) {x : ByteArray} (hx : F.bs x = (l.drop a).take (b - a)) : s.extract a b = x := by
  apply F.bsx
  rw [F.sub_bs, h, hx]

theorem F.dtQ_of {a b c d e f g : ByteArray} (ha : (F.bs a).length = 4) (hb : (F.bs b).length = 2) (hc : (F.bs c).length = 2) (hd : (F.bs d).length = 2) (he : (F.bs e).length = 2) (hf : (F.bs f).length = 2) (hg : (F.bs g).length = 3)
    (da : (F.bs a).all F.dgB = true) (db : (F.bs b).all F.dgB = true) (dc : (F.bs c).all F.dgB = true) (dd : (F.bs d).all F.dgB = true) (de : (F.bs e).all F.dgB = true) (df : (F.bs f).all F.dgB = true) (dg : (F.bs g).all F.dgB = true) :
    (F.dtQ a b c d e f g).size = 24 ∧ F.dfA (F.dtQ a b c d e f g) = true ∧ (F.dtQ a b c d e f g).extract 0 4 = a ∧ (F.dtQ a b c d e f g).extract 5 7 = b ∧ (F.dtQ a b c d e f g).extract 8 10 = c ∧ (F.dtQ a b c d e f g).extract 11 13 = d ∧ (F.dtQ a b c d e f g).extract 14 16 = e ∧ (F.dtQ a b c d e f g).extract 17 19 = f ∧ (F.dtQ a b c d e f g).extract 20 23 = g := by
  have hv := F.bs_dtQ a b c d e f g
  obtain ⟨a0, a1, a2, a3, ea⟩ := F.l4 ha
  obtain ⟨b0, b1, eb⟩ := F.l2 hb
  obtain ⟨c0, c1, ec⟩ := F.l2 hc
  obtain ⟨d0, d1, ed⟩ := F.l2 hd
  obtain ⟨e0, e1, ee⟩ := F.l2 he
  obtain ⟨f0, f1, ef⟩ := F.l2 hf
  obtain ⟨g0, g1, g2, eg⟩ := F.l3 hg
  rw [ea, eb, ec, ed, ee, ef, eg] at hv
  rw [ea] at da
  rw [eb] at db
  rw [ec] at dc
  rw [ed] at dd
  rw [ee] at de
  rw [ef] at df
  rw [eg] at dg
  simp only [List.all_cons, List.all_nil, Bool.and_true, Bool.and_eq_true] at da db dc dd de df dg
  refine ⟨?_, ?_, F.cut_at' hv _ _ (by rw [ea]; rfl), F.cut_at' hv _ _ (by rw [eb]; rfl), F.cut_at' hv _ _ (by rw [ec]; rfl), F.cut_at' hv _ _ (by rw [ed]; rfl), F.cut_at' hv _ _ (by rw [ee]; rfl), F.cut_at' hv _ _ (by rw [ef]; rfl), F.cut_at' hv _ _ (by rw [eg]; rfl)⟩
  · rw [← F.bs_len, hv]; rfl
  · unfold F.dfA F.dfP
    rw [hv]
    have hfm : F.bs F.dForm = [48, 48, 48, 48, 45, 48, 48, 45, 48, 48, 84, 48, 48, 58, 48, 48, 58, 48, 48, 46, 48, 48, 48, 90] := rfl
    rw [hfm]
    simp only [List.cons_append, List.nil_append, List.zip_cons_cons, List.zip_nil_left, List.all_cons, List.all_nil, F.dfB, (by decide : decide ((48 : UInt8) = 48) = true), (by decide : decide ((45 : UInt8) = 48) = false), (by decide : decide ((84 : UInt8) = 48) = false), (by decide : decide ((58 : UInt8) = 48) = false), (by decide : decide ((46 : UInt8) = 48) = false), (by decide : decide ((90 : UInt8) = 48) = false), cond_true, cond_false,
      da, db, dc, dd, de, df, dg, decide_true, Bool.and_self]

theorem F.dtS_q (n : Nat) : F.dtS (n : Int) = F.dtQ (F.pad (F.dtY ((n / 86400000 : Nat) : Int)) 4) (F.pad (F.dtM ((n / 86400000 : Nat) : Int)).1 2) (F.pad ((F.dtM ((n / 86400000 : Nat) : Int)).2 + 1) 2) (F.pad ((n % 86400000 / 3600000 : Nat) : Int) 2) (F.pad ((n % 86400000 / 60000 % 60 : Nat) : Int) 2) (F.pad ((n % 86400000 / 1000 % 60 : Nat) : Int) 2) (F.pad ((n % 86400000 % 1000 : Nat) : Int) 3) := rfl

theorem F.dtS_ok {n : Nat} (h : n ≤ 253402300799999) : F.dtOk (F.dtS (n : Int)) = true ∧ F.dtV (F.dtS (n : Int)) = (n : Int) := by
  obtain ⟨Y, M, D, h1, h2, h3, h4, h5, h6, hd⟩ := F.dt_has (d := ((n / 86400000 : Nat) : Int)) (by omega) (by omega)
  obtain ⟨k1, k2, k3⟩ := F.dt_find h1 h2 h3 h4 h5 h6
  rw [← hd] at k1 k2
  have hb := F.mdays_b Y M
  obtain ⟨y, rfl⟩ := Int.eq_ofNat_of_zero_le (show 0 ≤ Y by omega)
  rw [F.dtS_q, k1, k2, show (D : Int) - 1 + 1 = (D : Int) by omega]
  obtain ⟨a1, a2, a3⟩ := F.pad_ok (k := y) (many := 4) (by show y < 10000; omega) (by decide)
  obtain ⟨b1, b2, b3⟩ := F.pad_ok (k := M) (many := 2) (by show M < 100; omega) (by decide)
  obtain ⟨c1, c2, c3⟩ := F.pad_ok (k := D) (many := 2) (by show D < 100; omega) (by decide)
  obtain ⟨d1, d2, d3⟩ := F.pad_ok (k := n % 86400000 / 3600000) (many := 2) (by show _ < 100; omega) (by decide)
  obtain ⟨e1, e2, e3⟩ := F.pad_ok (k := n % 86400000 / 60000 % 60) (many := 2) (by show _ < 100; omega) (by decide)
  obtain ⟨f1, f2, f3⟩ := F.pad_ok (k := n % 86400000 / 1000 % 60) (many := 2) (by show _ < 100; omega) (by decide)
  obtain ⟨g1, g2, g3⟩ := F.pad_ok (k := n % 86400000 % 1000) (many := 3) (by show _ < 1000; omega) (by decide)
  obtain ⟨q1, q2, q3, q4, q5, q6, q7, q8, q9⟩ := F.dtQ_of a1 b1 c1 d1 e1 f1 g1 a2 b2 c2 d2 e2 f2 g2
  generalize hv : F.dtQ (F.pad (y : Int) 4) (F.pad (M : Int) 2) (F.pad (D : Int) 2) (F.pad ((n % 86400000 / 3600000 : Nat) : Int) 2) (F.pad ((n % 86400000 / 60000 % 60 : Nat) : Int) 2) (F.pad ((n % 86400000 / 1000 % 60 : Nat) : Int) 2) (F.pad ((n % 86400000 % 1000 : Nat) : Int) 3) = v at *
  have w1 : F.dN v 0 4 = y := by unfold F.dN; rw [q3]; exact a3
  have w2 : F.dN v 5 7 = M := by unfold F.dN; rw [q4]; exact b3
  have w3 : F.dN v 8 10 = D := by unfold F.dN; rw [q5]; exact c3
  have w4 : F.dN v 11 13 = n % 86400000 / 3600000 := by unfold F.dN; rw [q6]; exact d3
  have w5 : F.dN v 14 16 = n % 86400000 / 60000 % 60 := by unfold F.dN; rw [q7]; exact e3
  have w6 : F.dN v 17 19 = n % 86400000 / 1000 % 60 := by unfold F.dN; rw [q8]; exact f3
  have w7 : F.dN v 20 23 = n % 86400000 % 1000 := by unfold F.dN; rw [q9]; exact g3
  have hok : F.dtOk v = true := by
    unfold F.dtOk F.dtB F.out
    rw [q1, q2, w1, w2, w3, w4, w5, w6, decide_eq_false (by omega : ¬ (y : Int) < 1970), decide_eq_false (by omega : ¬ (M : Int) < 1), decide_eq_false (by omega : ¬ (12 : Int) < (M : Int)), decide_eq_false (by omega : ¬ (D : Int) < 1), decide_eq_false (by omega : ¬ F.mdays (y : Int) (M : Int) < (D : Int)), decide_eq_false (by omega : ¬ (23 : Int) < ((n % 86400000 / 3600000 : Nat) : Int)), decide_eq_false (by omega : ¬ (59 : Int) < ((n % 86400000 / 60000 % 60 : Nat) : Int)), decide_eq_false (by omega : ¬ (59 : Int) < ((n % 86400000 / 1000 % 60 : Nat) : Int))]
    rfl
  refine ⟨hok, ?_⟩
  unfold F.dtV
  rw [hok, cond_true, w1, w2, w3, w4, w5, w6, w7]
  unfold F.dayN at hd
  rw [← hd]
  omega

end Go.Proofs.YtajmdlpanlbnjaaGreatDoor

namespace Go.Proofs.YtajmdlpanlbnjaaGreatDoor
open Go Go.RowKit
set_option linter.unusedVariables false
set_option linter.unusedSimpArgs false
set_option maxHeartbeats 1000000

theorem F.yr_uniq {a b d : Int} (h1 : 1 ≤ a) (h2 : 1 ≤ b) (a1 : F.ydays a ≤ d) (a2 : d < F.ydays (a + 1)) (b1 : F.ydays b ≤ d) (b2 : d < F.ydays (b + 1)) : a = b := by
  rcases Int.lt_trichotomy a b with h | h | h
  · have := F.ydays_mono (a := a + 1) (b := b) (by omega) (by omega); omega
  · exact h
  · have := F.ydays_mono (a := b + 1) (b := a) (by omega) (by omega); omega

theorem F.yr_max {y d : Int} (h0 : 1970 ≤ y) (h2 : d ≤ 2932896) (h1 : F.ydays y ≤ d) : y ≤ 9999 := by
  have y4 : F.ydays 10000 = 2932897 := by decide
  by_cases h : y ≤ 9999
  · exact h
  · have := F.ydays_mono (a := 10000) (b := y) (by omega) (by omega)
    omega

theorem F.yr_end {y d : Int} (h0 : 1970 ≤ y) (h2 : d ≤ 2932896) : d < F.ydays (y + ((10000 : Nat) : Int) + 1) := by
  have y4 : F.ydays 10000 = 2932897 := by decide
  have := F.ydays_mono (a := 10000) (b := y + ((10000 : Nat) : Int) + 1) (by omega) (by omega)
  omega

theorem F.yr_step {y d : Int} (h0 : 1970 ≤ y) (h2 : d ≤ 2932896) (h1 : F.ydays y ≤ d) (h3 : F.ydays (y + 1) ≤ d) : F.yrL 10000 d y = F.yrL 10000 d (y + 1) := by
  obtain ⟨a1, a2, a3⟩ := F.yrL_ok (d := d) 10000 y (by omega) h1 (F.yr_end h0 h2)
  obtain ⟨b1, b2, b3⟩ := F.yrL_ok (d := d) 10000 (y + 1) (by omega) h3 (F.yr_end (by omega) h2)
  exact F.yr_uniq (by omega) (by omega) a1 a2 b1 b2

theorem F.yr_stop {y d : Int} (h3 : ¬ F.ydays (y + 1) ≤ d) : F.yrL 10000 d y = y := by
  show (bif decide (F.ydays (y + 1) ≤ d) then F.yrL 9999 d (y + 1) else y) = y
  rw [decide_eq_false h3]
  rfl

theorem F.mo_fuel {y d : Int} {j k k' m : Nat} (h1 : j ≤ k) (h2 : j ≤ k') (h3 : 0 ≤ d) (h4 : d < F.msum y j m) : F.moL k y d m = F.moL k' y d m := by
  obtain ⟨i, i1, D, i2, i3, i4, i5⟩ := F.moL_ok y j k m d h1 h3 h4
  rw [i5, i4, F.moL_eq y i k' m D (by omega) i2 i3]

theorem F.mo_step {y d : Int} {m : Nat} (h1 : 1 ≤ m) (h2 : m ≤ 12) (h3 : 0 ≤ d) (h4 : d < F.msum y (13 - m) m) (h5 : F.mdays y m ≤ d) : m + 1 ≤ 12 ∧ d - F.mdays y m < F.msum y (13 - (m + 1)) (m + 1) ∧ F.moL 20 y d m = F.moL 20 y (d - F.mdays y m) ((m + 1 : Nat) : Int) := by
  rw [show 13 - m = (13 - (m + 1)) + 1 by omega, F.msum] at h4
  have hm : m + 1 ≤ 12 := by
    by_cases h : m = 12
    · subst h
      have : F.msum y (13 - (12 + 1)) (12 + 1) = 0 := rfl
      omega
    · omega
  refine ⟨hm, by omega, ?_⟩
  have e : F.moL 20 y d m = F.moL 19 y (d - F.mdays y m) ((m + 1 : Nat) : Int) := by
    show (bif decide (F.mdays y m ≤ d) then F.moL 19 y (d - F.mdays y m) ((m : Int) + 1) else ((m : Int), d)) = _
    rw [decide_eq_true h5]
    rfl
  rw [e]
  exact F.mo_fuel (j := 13 - (m + 1)) (by omega) (by omega) (by omega) (by omega)

theorem F.mo_stop {y d : Int} {m : Nat} (h5 : ¬ F.mdays y m ≤ d) : F.moL 20 y d m = ((m : Int), d) := by
  show (bif decide (F.mdays y m ≤ d) then F.moL 19 y (d - F.mdays y m) ((m : Int) + 1) else ((m : Int), d)) = _
  rw [decide_eq_false h5]
  rfl

theorem F.pad_size {n : Int} (h0 : -9223372036854775808 ≤ n) (h1 : n ≤ 9223372036854775807) {m : Nat} (hm : m ≤ 10) : (F.pad n m).size ≤ 31 := by
  have := F.itoa_size h0 h1
  unfold F.pad
  rw [ByteArray.size_append, F.zrs_size]
  omega

namespace M

def stPad (many : Nat) (s : ByteArray) : St := ⟨[(5, vS s), (1, vI many)], []⟩

def stPad1 (a : Nat × ByteArray) : St := stPad a.1 a.2

theorem stPad_inj (a a' : Nat × ByteArray) (h : stPad1 a = stPad1 a') : a = a' := by
  simp only [stPad1, stPad] at h
  try simp [strs_inj, ints_inj, ents_inj, eEnt_iff, eLst_iff, eSnds_inj, eStrms_inj] at h
  grind

theorem unstPad (many : Nat) (s : ByteArray) : unenc stPad1 (St.mk [(5, (vS s)), (1, (vI (↑many : Int)))] []) = some (many, s) := unenc_of stPad_inj (many, s) rfl

def outPad (many : Nat) (s : ByteArray) : T (Ex × St) := .ret (.exit 0, ⟨[(5, vS (F.zrs (many - s.size) ++ s))], []⟩)

noncomputable def prlPad (many : Nat) (s : ByteArray) : Bool := decide (many ≤ 1000)

noncomputable def lpPad : Nat × (St → T (Ex × St)) := (2, lpo [5, 1] [] stPad1 (fun a => prlPad a.1 a.2) fun a => outPad a.1 a.2)

noncomputable def enPad : Env := envH ty noG lks [oIta] [] [] [lpPad]

theorem enPad_ok : EnvOK Tryz.prog enPad := by
  refine envH_ok lks_ok ty_ok ?_ ?_
  · simp only [List.forall_mem_cons]
    exact ⟨okIta, by simp⟩
  · simp

theorem evPadL (many : Nat) (s : ByteArray) : ((exec enPad (loopN Tryz.f78 0) (stPad many s)).bind (lessX ([5, 1], []) ([5], []) ([], []))).val =
  bif decide ((↑(ByteArray.size s) : Int) < (↑many : Int)) then bif Nat.ble (ByteArray.size (ByteArray.mk (Array.mk [(48 : UInt8)])) + ByteArray.size s) (9223372036854775807
  : Nat) then some (Ex.normal, St.mk [(5, (vS (ByteArray.mk (Array.mk [(48 : UInt8)]) ++ s))), (1, (vI (↑many : Int)))] []) else none else some (Ex.exit (0 : Nat), St.mk
  [(5, (vS s))] []) := (execR_bind _ _ _).symm.trans (by kernel_rfl)

theorem lpPad_ok (many : Nat) (s : ByteArray) (hp : prlPad many s = true) : ∀ ex s', (outPad many s).val = some (ex, s') → LoopOK enPad (loopN Tryz.f78 0) (stPad many s) ex s' := by
  simp only [prlPad, Bool.and_eq_true, decide_eq_true_eq] at hp
  refine loop_gen (st := fun s : ByteArray => stPad many s) (out := fun s => outPad many s) (I := fun _ => True) (n := ([5, 1], [])) (e := ([5], [])) (r := ([], [])) (fun s => many - s.size) ?_ s trivial
  intro s _
  by_cases h : s.size < many
  · right
    have e1 : ((⟨⟨[48]⟩⟩ : ByteArray) ++ s).size = s.size + 1 := by rw [ByteArray.size_append]; show 1 + s.size = _; omega
    refine ⟨⟨⟨[48]⟩⟩ ++ s, ?_, rfl, trivial, by omega, ?_⟩
    · rw [evPadL]
      simp only [unIta, preIta1, unstPad, prlPad, outPad, etaEnt, etaLst, etaSnd, etaStrm, etaMas, Option.bind_some, List.length_map, unStrs, unInts, unBools, unEnts, unItms, unTrns, cond_true, cond_false, Bool.and_true, Bool.true_and, decide_eq_true (show (s.size : Int) < (many : Int) by omega)]
      rw [ble_t (show (ByteArray.mk (Array.mk [48])).size + s.size ≤ 9223372036854775807 by show 1 + s.size ≤ _; omega)]
      rfl
    · have e2 : many - s.size = (many - (s.size + 1)) + 1 := by omega
      simp only [outPad, e1]
      rw [e2, F.zrs_succ]
  · left
    refine ⟨(.exit 0, ⟨[(5, vS s)], []⟩), ?_, ?_, by simp, rfl⟩
    · rw [evPadL]
      simp only [unIta, preIta1, unstPad, prlPad, outPad, etaEnt, etaLst, etaSnd, etaStrm, etaMas, Option.bind_some, List.length_map, unStrs, unInts, unBools, unEnts, unItms, unTrns, cond_true, cond_false, Bool.and_true, Bool.true_and, decide_eq_false (show ¬ (s.size : Int) < (many : Int) by omega)]
    · simp only [outPad]
      rw [show many - s.size = 0 by omega, F.zrs_zero]
      rfl

theorem evPad (n : Int) (many : Nat) : (runF enPad false Tryz.f78 [vI n, vI many]).val =
  Option.bind (unenc encIta [(vI n)]) fun (z : Int) => bif decide ((-9223372036854775808 : Int) ≤ z) && decide (z ≤ (9223372036854775807 : Int)) then Option.bind (unenc
  stPad1 (St.mk [(5, (vS (F.itoa z))), (1, (vI (↑many : Int)))] [])) fun (z : Nat × ByteArray) => bif decide (z.fst ≤ (1000 : Nat)) && true then some ((vS (F.zrs (z.fst -
  ByteArray.size z.snd) ++ z.snd)), []) else none else none := (runFR_val).symm.trans (by kernel_rfl)

def encPad1 (n : Int) (many : Nat) : List AV := [vI n, vI many]

def encPad (a : Int × Nat) : List AV := encPad1 a.1 a.2

theorem encPad_inj (a a' : Int × Nat) (h : encPad a = encPad a') : a = a' := by
  simp only [encPad, encPad1] at h
  try simp [strs_inj, ints_inj, ents_inj, eEnt_iff, eLst_iff, eSnds_inj, eStrms_inj] at h
  grind

theorem unPad (n : Int) (many : Nat) : unenc encPad ([(vI n), (vI (↑many : Int))]) = some (n, many) := unenc_of encPad_inj (n, many) rfl

def resPad1 (n : Int) (many : Nat) : AV × Heap := (vS (F.pad n many), [])

def prePad1 (n : Int) (many : Nat) : Bool := decide (-9223372036854775808 ≤ n) && decide (n ≤ 9223372036854775807) && decide (many ≤ 1000)

noncomputable def oPad : Orc := orc 78 true encPad (fun a => prePad1 a.1 a.2) fun a => resPad1 a.1 a.2

theorem okPad : OrcOK Tryz.prog noG oPad := by
  refine mk_ok Tryz.f78 (keep := false) (by kernel_rfl) (by kernel_rfl) enPad_ok mixed (one_loop (x0 := loopN Tryz.f78 0) (by kernel_rfl) (lpo_ok ?_)) (by first | exact fun _ _ => ⟨rfl, rfl⟩ | (intro h; cases h)) ?_
  · rintro ⟨many, s⟩ hp
    exact lpPad_ok many s hp
  rintro ⟨n, many⟩ hpre hok
  show (runF enPad false _ (encPad1 _ _)).val = some (resPad1 _ _)
  unfold encPad1 resPad1
  rw [evPad]
  simp only [prePad1, Bool.and_eq_true] at hpre
  simp only [unIta, preIta1, unstPad, prlPad, outPad, etaEnt, etaLst, etaSnd, etaStrm, etaMas, Option.bind_some, List.length_map, unStrs, unInts, unBools, unEnts, unItms, unTrns, cond_true, cond_false, Bool.and_true, Bool.true_and, hpre.1.1, hpre.1.2, hpre.2, F.pad]
  try rfl

theorem evYd2 (y : Int) : (runF en0 false Tryz.f76 [vI y]).val =
  some ((vI (IntKind.wrap IntKind.i64 (IntKind.wrap IntKind.i64 (IntKind.wrap IntKind.i64 (IntKind.wrap IntKind.i64 ((365 : Int) * IntKind.wrap IntKind.i64 (y - (1970 :
  Int))) + IntKind.wrap IntKind.i64 (IntKind.wrap IntKind.i64 (Int.tdiv (IntKind.wrap IntKind.i64 (y - (1 : Int))) (4 : Int)) - (492 : Int))) - IntKind.wrap IntKind.i64
  (IntKind.wrap IntKind.i64 (Int.tdiv (IntKind.wrap IntKind.i64 (y - (1 : Int))) (100 : Int)) - (19 : Int))) + IntKind.wrap IntKind.i64 (IntKind.wrap IntKind.i64 (Int.tdiv
  (IntKind.wrap IntKind.i64 (y - (1 : Int))) (400 : Int)) - (4 : Int))))), []) := (runFR_val).symm.trans (by kernel_rfl)

def encYd21 (y : Int) : List AV := [vI y]

def encYd2 (a : Int) : List AV := encYd21 a

theorem encYd2_inj (a a' : Int) (h : encYd2 a = encYd2 a') : a = a' := by
  simp only [encYd2, encYd21] at h
  try simp [strs_inj, ints_inj, ents_inj, eEnt_iff, eLst_iff, eSnds_inj, eStrms_inj] at h
  grind

theorem unYd2 (y : Int) : unenc encYd2 ([(vI y)]) = some (y) := unenc_of encYd2_inj (y) rfl

def resYd21 (y : Int) : AV × Heap := (vI (F.ydays y), [])

def preYd21 (y : Int) : Bool := decide (1970 ≤ y) && decide (y ≤ 20000)

noncomputable def oYd2 : Orc := orc 76 true encYd2 (fun a => preYd21 a) fun a => resYd21 a

theorem okYd2 : OrcOK Tryz.prog noG oYd2 := by
  refine mk_ok Tryz.f76 (keep := false) (by kernel_rfl) (by kernel_rfl) en0_ok mixed (no_loops (by kernel_rfl)) (by first | exact fun _ _ => ⟨rfl, rfl⟩ | (intro h; cases h)) ?_
  rintro y hpre hok
  show (runF en0 false _ (encYd21 _)).val = some (resYd21 _)
  unfold encYd21 resYd21
  rw [evYd2]
  have hpre : (decide (1970 ≤ y) && decide (y ≤ 20000)) = true := hpre
  simp only [Bool.and_eq_true, decide_eq_true_eq] at hpre
  have h1 : 0 ≤ (y - 1).tdiv 4 ∧ (y - 1).tdiv 4 ≤ 10000 := by rw [Int.tdiv_eq_ediv_of_nonneg (by omega)]; omega
  have h2 : 0 ≤ (y - 1).tdiv 100 ∧ (y - 1).tdiv 100 ≤ 10000 := by rw [Int.tdiv_eq_ediv_of_nonneg (by omega)]; omega
  have h3 : 0 ≤ (y - 1).tdiv 400 ∧ (y - 1).tdiv 400 ≤ 10000 := by rw [Int.tdiv_eq_ediv_of_nonneg (by omega)]; omega
  have w0 : IntKind.i64.wrap (y - 1) = y - 1 := wrap_id (by omega) (by omega)
  have w1 : IntKind.i64.wrap (y - 1970) = y - 1970 := wrap_id (by omega) (by omega)
  have w2 : IntKind.i64.wrap (365 * (y - 1970)) = 365 * (y - 1970) := wrap_id (by omega) (by omega)
  simp only [etaEnt, etaLst, etaSnd, etaStrm, etaMas, Option.bind_some, List.length_map, unStrs, unInts, unBools, unEnts, unItms, unTrns, cond_true, cond_false, Bool.and_true, Bool.true_and, w0, w1, w2, F.ydays]
  generalize (y - 1).tdiv 4 = a at *
  generalize (y - 1).tdiv 100 = b at *
  generalize (y - 1).tdiv 400 = c at *
  simp (disch := omega) only [wrap_id]

def stDt1 (y : Int) (r : Int) (d : Int) : St := ⟨[(6, vI y), (5, vI r), (4, vI d)], []⟩

def stDt11 (a : Int × Int × Int) : St := stDt1 a.1 a.2.1 a.2.2

theorem stDt1_inj (a a' : Int × Int × Int) (h : stDt11 a = stDt11 a') : a = a' := by
  simp only [stDt11, stDt1] at h
  try simp [strs_inj, ints_inj, ents_inj, eEnt_iff, eLst_iff, eSnds_inj, eStrms_inj] at h
  grind

theorem unstDt1 (y : Int) (r : Int) (d : Int) : unenc stDt11 (St.mk [(6, (vI y)), (5, (vI r)), (4, (vI d))] []) = some (y, r, d) := unenc_of stDt1_inj (y, r, d) rfl

def outDt1 (y : Int) (r : Int) (d : Int) : T (Ex × St) := .ret (.exit 0, ⟨[(6, vI (F.yrL 10000 d y)), (5, vI r), (4, vI d)], []⟩)

noncomputable def prlDt1 (y : Int) (r : Int) (d : Int) : Bool := decide (1970 ≤ y) && decide (0 ≤ d) && decide (d ≤ 2932896) && decide (F.ydays y ≤ d)

noncomputable def lpDt1 : Nat × (St → T (Ex × St)) := (5, lpo [6, 5, 4] [] stDt11 (fun a => prlDt1 a.1 a.2.1 a.2.2) fun a => outDt1 a.1 a.2.1 a.2.2)

def stDt2 (m : Nat) (y : Int) (r : Int) (d : Int) : St := ⟨[(7, vI m), (6, vI y), (5, vI r), (4, vI d)], []⟩

def stDt21 (a : Nat × Int × Int × Int) : St := stDt2 a.1 a.2.1 a.2.2.1 a.2.2.2

theorem stDt2_inj (a a' : Nat × Int × Int × Int) (h : stDt21 a = stDt21 a') : a = a' := by
  simp only [stDt21, stDt2] at h
  try simp [strs_inj, ints_inj, ents_inj, eEnt_iff, eLst_iff, eSnds_inj, eStrms_inj] at h
  grind

theorem unstDt2 (m : Nat) (y : Int) (r : Int) (d : Int) : unenc stDt21 (St.mk [(7, (vI (↑m : Int))), (6, (vI y)), (5, (vI r)), (4, (vI d))] []) = some (m, y, r, d) := unenc_of stDt2_inj (m, y, r, d) rfl

theorem unstDt20 (y : Int) (r : Int) (d : Int)  : unenc stDt21 (St.mk [(7, (vI (1 : Int))), (6, (vI y)), (5, (vI r)), (4, (vI d))] []) = some (1, y, r, d) := unenc_of stDt2_inj (1, y, r, d) rfl

def outDt2 (m : Nat) (y : Int) (r : Int) (d : Int) : T (Ex × St) := .ret (.exit 2, ⟨[(7, vI (F.moL 20 y d m).1), (6, vI y), (5, vI r), (4, vI (F.moL 20 y d m).2)], []⟩)

noncomputable def prlDt2 (m : Nat) (y : Int) (r : Int) (d : Int) : Bool := decide (0 ≤ y) && decide (y ≤ 100000) && decide (1 ≤ m) && decide (m ≤ 12) && decide (0 ≤ d) && decide (d < F.msum y (13 - m) m)

noncomputable def lpDt2 : Nat × (St → T (Ex × St)) := (9, lpo [7, 6, 5, 4] [] stDt21 (fun a => prlDt2 a.1 a.2.1 a.2.2.1 a.2.2.2) fun a => outDt2 a.1 a.2.1 a.2.2.1 a.2.2.2)

noncomputable def enDt : Env := envH ty noG lks [oOut, oYd2, oMdy, oPad] [] [] [lpDt1, lpDt2]

theorem enDt_ok : EnvOK Tryz.prog enDt := by
  refine envH_ok lks_ok ty_ok ?_ ?_
  · simp only [List.forall_mem_cons]
    exact ⟨okOut, okYd2, okMdy, okPad, by simp⟩
  · simp

theorem evDt1L (y : Int) (r : Int) (d : Int) : ((exec enDt (loopN Tryz.f52 0) (stDt1 y r d)).bind (lessX ([6, 5, 4], []) ([6, 5, 4], []) ([], []))).val =
  Option.bind (unenc encYd2 [(vI (IntKind.wrap IntKind.i64 (y + (1 : Int))))]) fun (z : Int) => bif decide ((1970 : Int) ≤ z) && decide (z ≤ (20000 : Int)) then bif decide
  (F.ydays z ≤ d) then some (Ex.normal, St.mk [(6, (vI (IntKind.wrap IntKind.i64 (y + (1 : Int))))), (5, (vI r)), (4, (vI d))] []) else some (Ex.exit (0 : Nat), St.mk [(6,
  (vI y)), (5, (vI r)), (4, (vI d))] []) else none := (execR_bind _ _ _).symm.trans (by kernel_rfl)

theorem lpDt1_ok (y : Int) (r : Int) (d : Int) (hp : prlDt1 y r d = true) : ∀ ex s', (outDt1 y r d).val = some (ex, s') → LoopOK enDt (loopN Tryz.f52 0) (stDt1 y r d) ex s' := by
  simp only [prlDt1, Bool.and_eq_true, decide_eq_true_eq] at hp
  obtain ⟨⟨⟨h1, h2⟩, h3⟩, h4⟩ := hp
  refine loop_gen (st := fun y : Int => stDt1 y r d) (out := fun y => outDt1 y r d) (I := fun y => 1970 ≤ y ∧ F.ydays y ≤ d) (n := ([6, 5, 4], [])) (e := ([6, 5, 4], [])) (r := ([], [])) (fun y => (10000 - y).toNat) ?_ y ⟨h1, h4⟩
  clear h1 h4
  intro y ⟨h1, h4⟩
  have hmx := F.yr_max h1 h3 h4
  have w1 : IntKind.i64.wrap (y + 1) = y + 1 := wrap_id (by omega) (by omega)
  have p1 : decide (1970 ≤ y + 1) = true := decide_eq_true (by omega)
  have p2 : decide (y + 1 ≤ 20000) = true := decide_eq_true (by omega)
  by_cases hc : F.ydays (y + 1) ≤ d
  · right
    refine ⟨y + 1, ?_, rfl, ⟨by omega, hc⟩, by omega, ?_⟩
    · rw [evDt1L]
      simp only [unOut, unYd2, unMdy, unPad, preOut1, preYd21, preMdy1, prePad1, unstDt1, unstDt2, unstDt20, prlDt1, prlDt2, outDt1, outDt2, etaEnt, etaLst, etaSnd, etaStrm, etaMas, Option.bind_some, List.length_map, unStrs, unInts, unBools, unEnts, unItms, unTrns, cond_true, cond_false, Bool.and_true, Bool.true_and, w1, p1, p2, decide_eq_true hc, stDt1]
      try rfl
    · simp only [outDt1, F.yr_step h1 h3 h4 hc]
  · left
    refine ⟨(.exit 0, ⟨[(6, vI y), (5, vI r), (4, vI d)], []⟩), ?_, ?_, by simp, rfl⟩
    · rw [evDt1L]
      simp only [unOut, unYd2, unMdy, unPad, preOut1, preYd21, preMdy1, prePad1, unstDt1, unstDt2, unstDt20, prlDt1, prlDt2, outDt1, outDt2, etaEnt, etaLst, etaSnd, etaStrm, etaMas, Option.bind_some, List.length_map, unStrs, unInts, unBools, unEnts, unItms, unTrns, cond_true, cond_false, Bool.and_true, Bool.true_and, w1, p1, p2, decide_eq_false hc]
      try rfl
    · simp only [outDt1, F.yr_stop hc]
      rfl

theorem evDt2L (m : Nat) (y : Int) (r : Int) (d : Int) : ((exec enDt (loopN Tryz.f52 1) (stDt2 m y r d)).bind (lessX ([7, 6, 5, 4], []) ([7, 6, 5, 4], []) ([], []))).val =
  Option.bind (unenc encMdy [(vI y), (vI (↑m : Int))]) fun (z : Int × Int) => bif decide ((0 : Int) ≤ z.fst) && decide (z.fst ≤ (100000 : Int)) then bif decide (F.mdays
  z.fst z.snd ≤ d) then Option.bind (unenc encMdy [(vI y), (vI (↑m : Int))]) fun (z : Int × Int) => bif decide ((0 : Int) ≤ z.fst) && decide (z.fst ≤ (100000 : Int)) then
  some (Ex.normal, St.mk [(7, (vI (IntKind.wrap IntKind.i64 ((↑m : Int) + (1 : Int))))), (6, (vI y)), (5, (vI r)), (4, (vI (IntKind.wrap IntKind.i64 (d - F.mdays z.fst
  z.snd))))] []) else none else some (Ex.exit (2 : Nat), St.mk [(7, (vI (↑m : Int))), (6, (vI y)), (5, (vI r)), (4, (vI d))] []) else none := (execR_bind _ _ _).symm.trans (by kernel_rfl)

theorem lpDt2_ok (m : Nat) (y : Int) (r : Int) (d : Int) (hp : prlDt2 m y r d = true) : ∀ ex s', (outDt2 m y r d).val = some (ex, s') → LoopOK enDt (loopN Tryz.f52 1) (stDt2 m y r d) ex s' := by
  simp only [prlDt2, Bool.and_eq_true, decide_eq_true_eq] at hp
  obtain ⟨⟨⟨⟨⟨h1, h2⟩, h3⟩, h4⟩, h5⟩, h6⟩ := hp
  have p1 : decide (0 ≤ y) = true := decide_eq_true h1
  have p2 : decide (y ≤ 100000) = true := decide_eq_true h2
  refine loop_gen (st := fun p : Nat × Int => stDt2 p.1 y r p.2) (out := fun p => outDt2 p.1 y r p.2) (I := fun p => 1 ≤ p.1 ∧ p.1 ≤ 12 ∧ 0 ≤ p.2 ∧ p.2 < F.msum y (13 - p.1) p.1) (n := ([7, 6, 5, 4], [])) (e := ([7, 6, 5, 4], [])) (r := ([], [])) (fun p => 13 - p.1) ?_ (m, d) ⟨h3, h4, h5, h6⟩
  clear h3 h4 h5 h6
  rintro ⟨m, d⟩ ⟨h3, h4, h5, h6⟩
  simp only at h3 h4 h5 h6
  have hb := F.mdays_b y m
  have hs := F.msum_b y (13 - m) m
  by_cases hc : F.mdays y m ≤ d
  · obtain ⟨k1, k2, k3⟩ := F.mo_step h3 h4 h5 h6 hc
    have w1 : IntKind.i64.wrap (d - F.mdays y m) = d - F.mdays y m := wrap_id (by omega) (by omega)
    have w2 : IntKind.i64.wrap ((m : Int) + 1) = ((m + 1 : Nat) : Int) := by rw [wrap_id (by omega) (by omega)]; rfl
    right
    refine ⟨(m + 1, d - F.mdays y m), ?_, rfl, ⟨by simp only; omega, k1, by simp only; omega, k2⟩, by simp only; omega, ?_⟩
    · rw [evDt2L]
      simp only [unOut, unYd2, unMdy, unPad, preOut1, preYd21, preMdy1, prePad1, unstDt1, unstDt2, unstDt20, prlDt1, prlDt2, outDt1, outDt2, etaEnt, etaLst, etaSnd, etaStrm, etaMas, Option.bind_some, List.length_map, unStrs, unInts, unBools, unEnts, unItms, unTrns, cond_true, cond_false, Bool.and_true, Bool.true_and, p1, p2, w1, w2, decide_eq_true hc, stDt2]
      try rfl
    · simp only [outDt2, k3]
  · left
    refine ⟨(.exit 2, ⟨[(7, vI m), (6, vI y), (5, vI r), (4, vI d)], []⟩), ?_, ?_, by simp, rfl⟩
    · rw [evDt2L]
      simp only [unOut, unYd2, unMdy, unPad, preOut1, preYd21, preMdy1, prePad1, unstDt1, unstDt2, unstDt20, prlDt1, prlDt2, outDt1, outDt2, etaEnt, etaLst, etaSnd, etaStrm, etaMas, Option.bind_some, List.length_map, unStrs, unInts, unBools, unEnts, unItms, unTrns, cond_true, cond_false, Bool.and_true, Bool.true_and, p1, p2, decide_eq_false hc]
      try rfl
    · simp only [outDt2, F.mo_stop hc]
      rfl

theorem evDte (n : Int) : (runF enDt false Tryz.f52 [vI n]).val =
  (fun (q : ByteArray) => (fun (q_1 : ByteArray) => (fun (q_2 : ByteArray) => (fun (q_3 : ByteArray) => (fun (q_4 : List AV) => Option.bind (unenc encOut [(vI n), (vI (0 :
  Int)), (vI (253402300799999 : Int))]) fun (z : Int × Int × Int) => bif F.out z.fst z.snd.fst z.snd.snd then some (AV.tup [(vS (ByteArray.mk (Array.mk []))), (vI (1 :
  Int))], []) else Option.bind (unenc stDt11 (St.mk [(6, (vI (IntKind.wrap IntKind.i64 ((1970 : Int) + IntKind.wrap IntKind.i64 (Int.tdiv (IntKind.wrap IntKind.i64 (Int.tdiv
  n (86400000 : Int))) (366 : Int)))))), (5, (vI (Int.tmod n (86400000 : Int)))), (4, (vI (IntKind.wrap IntKind.i64 (Int.tdiv n (86400000 : Int)))))] [])) fun (z : Int × Int
  × Int) => bif decide ((1970 : Int) ≤ z.fst) && decide ((0 : Int) ≤ z.snd.snd) && decide (z.snd.snd ≤ (2932896 : Int)) && decide (F.ydays z.fst ≤ z.snd.snd) && true then
  Option.bind (unenc encYd2 [(vI (F.yrL (10000 : Nat) z.snd.snd z.fst))]) fun (z_1 : Int) => bif decide ((1970 : Int) ≤ z_1) && decide (z_1 ≤ (20000 : Int)) then Option.bind
  (unenc stDt21 (St.mk [(7, (vI (1 : Int))), (6, (vI (F.yrL (10000 : Nat) z.snd.snd z.fst))), (5, (vI z.snd.fst)), (4, (vI (IntKind.wrap IntKind.i64 (z.snd.snd - F.ydays
  z_1))))] [])) fun (z : Nat × Int × Int × Int) => bif decide ((0 : Int) ≤ z.snd.fst) && decide (z.snd.fst ≤ (100000 : Int)) && decide ((1 : Nat) ≤ z.fst) && decide (z.fst ≤
  (12 : Nat)) && decide ((0 : Int) ≤ z.snd.snd.snd) && decide (z.snd.snd.snd < F.msum z.snd.fst ((13 : Nat) - z.fst) z.fst) && true then Option.bind (unenc encPad [(vI
  z.snd.fst), (vI (4 : Int))]) fun (z_2 : Int × Nat) => (fun (q_5 : ByteArray) => bif decide ((-9223372036854775808 : Int) ≤ z_2.fst) && decide (z_2.fst ≤
  (9223372036854775807 : Int)) && decide (z_2.snd ≤ (1000 : Nat)) then bif Nat.ble (ByteArray.size (F.pad z_2.fst z_2.snd) + ByteArray.size q_3) (9223372036854775807 : Nat)
  then Option.bind (unenc encPad ((vI (F.moL (20 : Nat) z.snd.fst z.snd.snd.snd (↑z.fst : Int)).fst) :: q_4)) fun (z_3 : Int × Nat) => (fun (q_6 : ByteArray) => bif decide
  ((-9223372036854775808 : Int) ≤ z_3.fst) && decide (z_3.fst ≤ (9223372036854775807 : Int)) && decide (z_3.snd ≤ (1000 : Nat)) then bif Nat.ble (ByteArray.size q_5 +
  ByteArray.size (F.pad z_3.fst z_3.snd)) (9223372036854775807 : Nat) then bif Nat.ble (ByteArray.size (q_5 ++ F.pad z_3.fst z_3.snd) + ByteArray.size q_3)
  (9223372036854775807 : Nat) then Option.bind (unenc encPad ((vI (IntKind.wrap IntKind.i64 ((F.moL (20 : Nat) z.snd.fst z.snd.snd.snd (↑z.fst : Int)).snd + (1 : Int)))) ::
  q_4)) fun (z_4 : Int × Nat) => (fun (q_7 : ByteArray) => bif decide ((-9223372036854775808 : Int) ≤ z_4.fst) && decide (z_4.fst ≤ (9223372036854775807 : Int)) && decide
  (z_4.snd ≤ (1000 : Nat)) then bif Nat.ble (ByteArray.size q_6 + ByteArray.size (F.pad z_4.fst z_4.snd)) (9223372036854775807 : Nat) then bif Nat.ble (ByteArray.size (q_6
  ++ F.pad z_4.fst z_4.snd) + ByteArray.size q_2) (9223372036854775807 : Nat) then Option.bind (unenc encPad ((vI (IntKind.wrap IntKind.i64 (Int.tdiv z.snd.snd.fst (3600000
  : Int)))) :: q_4)) fun (z_5 : Int × Nat) => (fun (q_8 : ByteArray) => bif decide ((-9223372036854775808 : Int) ≤ z_5.fst) && decide (z_5.fst ≤ (9223372036854775807 : Int))
  && decide (z_5.snd ≤ (1000 : Nat)) then bif Nat.ble (ByteArray.size q_7 + ByteArray.size (F.pad z_5.fst z_5.snd)) (9223372036854775807 : Nat) then bif Nat.ble
  (ByteArray.size (q_7 ++ F.pad z_5.fst z_5.snd) + ByteArray.size q) (9223372036854775807 : Nat) then Option.bind (unenc encPad ((vI (Int.tmod (IntKind.wrap IntKind.i64
  (Int.tdiv z.snd.snd.fst (60000 : Int))) (60 : Int))) :: q_4)) fun (z_6 : Int × Nat) => (fun (q_9 : ByteArray) => bif decide ((-9223372036854775808 : Int) ≤ z_6.fst) &&
  decide (z_6.fst ≤ (9223372036854775807 : Int)) && decide (z_6.snd ≤ (1000 : Nat)) then bif Nat.ble (ByteArray.size q_8 + ByteArray.size (F.pad z_6.fst z_6.snd))
  (9223372036854775807 : Nat) then bif Nat.ble (ByteArray.size (q_8 ++ F.pad z_6.fst z_6.snd) + ByteArray.size q) (9223372036854775807 : Nat) then Option.bind (unenc encPad
  ((vI (Int.tmod (IntKind.wrap IntKind.i64 (Int.tdiv z.snd.snd.fst (1000 : Int))) (60 : Int))) :: q_4)) fun (z_7 : Int × Nat) => bif decide ((-9223372036854775808 : Int) ≤
  z_7.fst) && decide (z_7.fst ≤ (9223372036854775807 : Int)) && decide (z_7.snd ≤ (1000 : Nat)) then bif Nat.ble (ByteArray.size q_9 + ByteArray.size (F.pad z_7.fst
  z_7.snd)) (9223372036854775807 : Nat) then bif Nat.ble (ByteArray.size (q_9 ++ F.pad z_7.fst z_7.snd) + ByteArray.size q_1) (9223372036854775807 : Nat) then Option.bind
  (unenc encPad [(vI (Int.tmod z.snd.snd.fst (1000 : Int))), (vI (3 : Int))]) fun (z : Int × Nat) => bif decide ((-9223372036854775808 : Int) ≤ z.fst) && decide (z.fst ≤
  (9223372036854775807 : Int)) && decide (z.snd ≤ (1000 : Nat)) then bif Nat.ble (ByteArray.size (q_9 ++ F.pad z_7.fst z_7.snd ++ q_1) + ByteArray.size (F.pad z.fst z.snd))
  (9223372036854775807 : Nat) then bif Nat.ble (ByteArray.size (q_9 ++ F.pad z_7.fst z_7.snd ++ q_1 ++ F.pad z.fst z.snd) + ByteArray.size (ByteArray.mk (Array.mk [(90 :
  UInt8)]))) (9223372036854775807 : Nat) then some (AV.tup [(vS (q_9 ++ F.pad z_7.fst z_7.snd ++ q_1 ++ F.pad z.fst z.snd ++ ByteArray.mk (Array.mk [(90 : UInt8)]))), (vI (0
  : Int))], []) else none else none else none else none else none else none else none else none else none) (q_8 ++ F.pad z_6.fst z_6.snd ++ q) else none else none else none)
  (q_7 ++ F.pad z_5.fst z_5.snd ++ q) else none else none else none) (q_6 ++ F.pad z_4.fst z_4.snd ++ q_2) else none else none else none) (q_5 ++ F.pad z_3.fst z_3.snd ++
  q_3) else none else none) (F.pad z_2.fst z_2.snd ++ q_3) else none else none else none) [(vI (2 : Int))]) (ByteArray.mk (Array.mk [(45 : UInt8)]))) (ByteArray.mk (Array.mk
  [(84 : UInt8)]))) (ByteArray.mk (Array.mk [(46 : UInt8)]))) (ByteArray.mk (Array.mk [(58 : UInt8)])) := (runFR_val).symm.trans (by kernel_rfl)

def encDte1 (n : Int) : List AV := [vI n]

def encDte (a : Int) : List AV := encDte1 a

theorem encDte_inj (a a' : Int) (h : encDte a = encDte a') : a = a' := by
  simp only [encDte, encDte1] at h
  try simp [strs_inj, ints_inj, ents_inj, eEnt_iff, eLst_iff, eSnds_inj, eStrms_inj] at h
  grind

theorem unDte (n : Int) : unenc encDte ([(vI n)]) = some (n) := unenc_of encDte_inj (n) rfl

def resDte1 (n : Int) : AV × Heap := (.tup [vS (F.dtS n), vI 0], [])

def preDte1 (n : Int) : Bool := decide (0 ≤ n) && decide (n ≤ 253402300799999)

noncomputable def oDte : Orc := orc 52 true encDte (fun a => preDte1 a) fun a => resDte1 a

theorem okDte : OrcOK Tryz.prog noG oDte := by
  refine mk_ok Tryz.f52 (keep := false) (by kernel_rfl) (by kernel_rfl) enDt_ok mixed (two_loops (x0 := loopN Tryz.f52 0) (x1 := loopN Tryz.f52 1) (by kernel_rfl) (lpo_ok ?_) (lpo_ok ?_)) (by first | exact fun _ _ => ⟨rfl, rfl⟩ | (intro h; cases h)) ?_
  · rintro ⟨y, r, d⟩ hp
    exact lpDt1_ok y r d hp
  · rintro ⟨m, y, r, d⟩ hp
    exact lpDt2_ok m y r d hp
  rintro n hpre hok
  show (runF enDt false _ (encDte1 _)).val = some (resDte1 _)
  unfold encDte1 resDte1
  rw [evDte]
  simp only [preDte1, Bool.and_eq_true, decide_eq_true_eq] at hpre
  obtain ⟨h1, h2⟩ := hpre
  have ho : F.out n 0 253402300799999 = false := by unfold F.out; rw [decide_eq_false (by omega), decide_eq_false (by omega)]; rfl
  obtain ⟨d, hd⟩ : ∃ d, n.tdiv 86400000 = d := ⟨_, rfl⟩
  obtain ⟨r, hr⟩ : ∃ r, n.tmod 86400000 = r := ⟨_, rfl⟩
  have hd1 : 0 ≤ d ∧ d ≤ 2932896 := by rw [← hd, Int.tdiv_eq_ediv_of_nonneg h1]; omega
  have hr1 : 0 ≤ r ∧ r < 86400000 := by rw [← hr, Int.tmod_eq_emod_of_nonneg h1]; omega
  have q1 : 0 ≤ d.tdiv 366 ∧ d.tdiv 366 ≤ d / 366 := by rw [Int.tdiv_eq_ediv_of_nonneg hd1.1]; omega
  have w1 : IntKind.i64.wrap d = d := wrap_id (by omega) (by omega)
  have w2 : IntKind.i64.wrap (d.tdiv 366) = d.tdiv 366 := wrap_id (by omega) (by omega)
  have w3 : IntKind.i64.wrap (1970 + d.tdiv 366) = 1970 + d.tdiv 366 := wrap_id (by omega) (by omega)
  have hs0 : F.ydays (1970 + d.tdiv 366) ≤ d := by have := F.ydays_366 (y := 1970 + d.tdiv 366) (by omega); omega
  obtain ⟨a1, a2, a3⟩ := F.yrL_ok (d := d) 10000 (1970 + d.tdiv 366) (by omega) hs0 (F.yr_end (by omega) hd1.2)
  obtain ⟨Y, hY⟩ : ∃ Y, F.yrL 10000 d (1970 + d.tdiv 366) = Y := ⟨_, rfl⟩
  rw [hY] at a1 a2 a3
  have hYm := F.yr_max (y := Y) (by omega) hd1.2 a1
  have hup := F.ydays_up (a := Y) (by omega)
  have hy0 := F.ydays_mono (a := 1970) (b := Y) (by omega) (by omega)
  rw [F.ydays_0] at hy0
  have h12 := F.msum_12 Y
  have w4 : IntKind.i64.wrap (d - F.ydays Y) = d - F.ydays Y := wrap_id (by omega) (by omega)
  obtain ⟨i, i1, D, i2, i3, i4, i5⟩ := F.moL_ok Y 12 20 1 (d - F.ydays Y) (by omega) (by omega) (by rw [h12]; omega)
  have hb := F.mdays_b Y ((1 + i : Nat) : Int)
  have i5 : F.moL 20 Y (d - F.ydays Y) 1 = (((1 + i : Nat) : Int), D) := i5
  have w5 : IntKind.i64.wrap (D + 1) = D + 1 := wrap_id (by omega) (by omega)
  have w6 : IntKind.i64.wrap (r.tdiv 3600000) = r.tdiv 3600000 := by rw [Int.tdiv_eq_ediv_of_nonneg hr1.1]; exact wrap_id (by omega) (by omega)
  have w7 : IntKind.i64.wrap (r.tdiv 60000) = r.tdiv 60000 := by rw [Int.tdiv_eq_ediv_of_nonneg hr1.1]; exact wrap_id (by omega) (by omega)
  have w8 : IntKind.i64.wrap (r.tdiv 1000) = r.tdiv 1000 := by rw [Int.tdiv_eq_ediv_of_nonneg hr1.1]; exact wrap_id (by omega) (by omega)
  have u2 : ∀ x : Int, unenc encPad [vI x, vI 2] = some (x, 2) := fun x => unenc_of encPad_inj (x, 2) rfl
  have u3 : ∀ x : Int, unenc encPad [vI x, vI 3] = some (x, 3) := fun x => unenc_of encPad_inj (x, 3) rfl
  have u4 : ∀ x : Int, unenc encPad [vI x, vI 4] = some (x, 4) := fun x => unenc_of encPad_inj (x, 4) rfl
  have g1 : decide (F.ydays (1970 + d.tdiv 366) ≤ d) = true := decide_eq_true hs0
  have g2 : decide (d - F.ydays Y < F.msum Y (13 - 1) 1) = true := decide_eq_true (by rw [show 13 - 1 = 12 from rfl, h12]; omega)
  have c1 : ((1 : Nat) : Int) = 1 := rfl
  simp only [unOut, unYd2, unMdy, unPad, preOut1, preYd21, preMdy1, prePad1, unstDt1, unstDt2, unstDt20, prlDt1, prlDt2, outDt1, outDt2, etaEnt, etaLst, etaSnd, etaStrm, etaMas, Option.bind_some, List.length_map, unStrs, unInts, unBools, unEnts, unItms, unTrns, cond_true, cond_false, Bool.and_true, Bool.true_and, ho, hd, hr, w1, w2, w3, hY, w4, c1, i5, w5, w6, w7, w8, u2, u3, u4, g1, g2]
  rw [decide_eq_true (by omega : 1970 ≤ 1970 + d.tdiv 366), decide_eq_true hd1.1, decide_eq_true hd1.2, decide_eq_true (by omega : 1970 ≤ Y), decide_eq_true (by omega : Y ≤ 20000), decide_eq_true (by omega : 0 ≤ Y), decide_eq_true (by omega : Y ≤ 100000), decide_eq_true (by omega : 0 ≤ d - F.ydays Y)]
  have hS : F.dtS n = F.dtP Y ((1 + i : Nat) : Int) (D + 1) r := by
    unfold F.dtS F.dtM
    have hYd : F.dtY d = Y := hY
    rw [hd, hr, hYd, i5]
  rw [hS]
  unfold F.dtP
  have b1 : 0 ≤ r.tdiv 3600000 ∧ r.tdiv 3600000 ≤ 100000000 := by rw [Int.tdiv_eq_ediv_of_nonneg hr1.1]; omega
  have b2 : 0 ≤ (r.tdiv 60000).tmod 60 ∧ (r.tdiv 60000).tmod 60 ≤ 100 := by
    rw [Int.tdiv_eq_ediv_of_nonneg hr1.1, Int.tmod_eq_emod_of_nonneg (by omega)]; omega
  have b3 : 0 ≤ (r.tdiv 1000).tmod 60 ∧ (r.tdiv 1000).tmod 60 ≤ 100 := by
    rw [Int.tdiv_eq_ediv_of_nonneg hr1.1, Int.tmod_eq_emod_of_nonneg (by omega)]; omega
  have b4 : 0 ≤ r.tmod 1000 ∧ r.tmod 1000 ≤ 1000 := by rw [Int.tmod_eq_emod_of_nonneg hr1.1]; omega
  have hx5 : 0 ≤ ((1 + i : Nat) : Int) ∧ ((1 + i : Nat) : Int) ≤ 100 := by omega
  have hx6 : 0 ≤ D + 1 ∧ D + 1 ≤ 100 := by omega
  clear hS hok ho hd hr w1 w2 w3 w4 w5 w6 w7 w8 u2 u3 u4 g1 g2 h12 hup hy0 i5 i4 i3 a1 a2 hs0 hY
  generalize r.tdiv 3600000 = x1 at *
  generalize (r.tdiv 60000).tmod 60 = x2 at *
  generalize (r.tdiv 1000).tmod 60 = x3 at *
  generalize r.tmod 1000 = x4 at *
  generalize ((1 + i : Nat) : Int) = x5 at *
  generalize D + 1 = x6 at *
  have s1 := F.pad_size (n := Y) (by omega) (by omega) (m := 4) (by decide)
  have s2 := F.pad_size (n := x5) (by omega) (by omega) (m := 2) (by decide)
  have s3 := F.pad_size (n := x6) (by omega) (by omega) (m := 2) (by decide)
  have s4 := F.pad_size (n := x1) (by omega) (by omega) (m := 2) (by decide)
  have s5 := F.pad_size (n := x2) (by omega) (by omega) (m := 2) (by decide)
  have s6 := F.pad_size (n := x3) (by omega) (by omega) (m := 2) (by decide)
  have s7 := F.pad_size (n := x4) (by omega) (by omega) (m := 3) (by decide)
  have e1 : (⟨⟨[45]⟩⟩ : ByteArray).size = 1 := rfl
  have e2 : (⟨⟨[84]⟩⟩ : ByteArray).size = 1 := rfl
  have e3 : (⟨⟨[58]⟩⟩ : ByteArray).size = 1 := rfl
  have e4 : (⟨⟨[46]⟩⟩ : ByteArray).size = 1 := rfl
  have e5 : (⟨⟨[90]⟩⟩ : ByteArray).size = 1 := rfl
  have d4 : decide ((4 : Nat) ≤ 1000) = true := rfl
  have d2 : decide ((2 : Nat) ≤ 1000) = true := rfl
  have d3 : decide ((3 : Nat) ≤ 1000) = true := rfl
  rw [decide_eq_true (by omega : -9223372036854775808 ≤ Y), decide_eq_true (by omega : Y ≤ 9223372036854775807), decide_eq_true (by omega : -9223372036854775808 ≤ x5), decide_eq_true (by omega : x5 ≤ 9223372036854775807), decide_eq_true (by omega : -9223372036854775808 ≤ x6), decide_eq_true (by omega : x6 ≤ 9223372036854775807), decide_eq_true (by omega : -9223372036854775808 ≤ x1), decide_eq_true (by omega : x1 ≤ 9223372036854775807), decide_eq_true (by omega : -9223372036854775808 ≤ x2), decide_eq_true (by omega : x2 ≤ 9223372036854775807), decide_eq_true (by omega : -9223372036854775808 ≤ x3), decide_eq_true (by omega : x3 ≤ 9223372036854775807), decide_eq_true (by omega : -9223372036854775808 ≤ x4), decide_eq_true (by omega : x4 ≤ 9223372036854775807), d4, d2, d3]
  generalize F.pad Y 4 = P1 at *
  generalize F.pad x5 2 = P2 at *
  generalize F.pad x6 2 = P3 at *
  generalize F.pad x1 2 = P4 at *
  generalize F.pad x2 2 = P5 at *
  generalize F.pad x3 2 = P6 at *
  generalize F.pad x4 3 = P7 at *
  simp (disch := omega) only [ByteArray.size_append, e1, e2, e3, e4, e5, ble_t, Bool.and_self, cond_true, decide_true, (by decide : decide ((1 : Nat) ≤ 1) = true), (by decide : decide ((1 : Nat) ≤ 12) = true)]
  rfl

end M

theorem size_walk (n : Int) (h0 : -9223372036854775808 ≤ n) (h1 : n ≤ 9223372036854775807) (w : World) :
    Calls Tryz.prog 98 #[.int .i64 n] w fun e w' => e = .returned (.int .u64 (n.natAbs : Int)) ∧ w' = w := by
  have e1 : n < 0 → IntKind.u64.wrap (-IntKind.u64.wrap n) = (n.natAbs : Int) := fun h => by rw [IntKind.wrap_u64, IntKind.wrap_u64]; omega
  have e2 : ¬ n < 0 → IntKind.u64.wrap n = (n.natAbs : Int) := fun h => by rw [IntKind.wrap_u64]; omega
  go_enter Tryz.func98, Tryz.ntmps98
  by_cases h : n < 0
  · go_wp2
    go_ret
    exact ⟨by simp [e1 h], rfl⟩
  · go_wp2
    go_ret
    exact ⟨by simp [e2 h], rfl⟩

def F.i64B (a : Int) : Bool := decide (-9223372036854775808 ≤ a) && decide (a ≤ 9223372036854775807)

namespace M

theorem below_ret {P : Program} {f : FuncId} {cargs : Array Value} {w : World} {S : Nat → Prop} {rv : Value} {r : AV} (hlt : ∀ b, S b → b < w.heap.size) (hr : ∀ w S, RV w S noKeys r rv)
    (h : Calls P f cargs w fun e w' => e = .returned rv ∧ Below w.heap.size w w') :
    Calls P f cargs w fun e w' => ∃ v S' β', e = .returned v ∧ Below w.heap.size w w' ∧ (∀ b, S b → S' b) ∧ (∀ b, S' b → S b ∨ w.heap.size ≤ b) ∧
      (∀ b, S' b → b < w'.heap.size) ∧ (∀ k k' x x', β' k = some x → β' k' = some x' → x.real = true → x'.real = true → x.b = x'.b → k = k') ∧
      (∀ k x, β' k = some x → x.real = true → w.heap.size ≤ x.b ∧ x.b < w'.heap.size ∧ ¬ S' x.b) ∧
      (∀ k x, β' k = some x → ∃ bl, mget ([] : Heap) k = some bl ∧ bl.box = false ∧ (x.real = true → BlkOK w' S' noKeys bl x) ∧ (x.real = false → bl.rows = [])) ∧
      (∀ k bl, mget ([] : Heap) k = some bl → ∃ x, β' k = some x) ∧ RV w' S' β' r v := by
  refine h.mono ?_
  rintro e w' ⟨rfl, hb⟩
  exact ⟨rv, S, noKeys, rfl, hb, fun _ h => h, fun _ h => .inl h, fun b h => Nat.lt_of_lt_of_le (hlt b h) hb.size, (fun _ _ _ _ h => by cases h), (fun _ _ h => by cases h), (fun _ _ h => by cases h), (fun _ _ h => by cases h), hr _ _⟩

end M

set_option maxHeartbeats 4000000 in
set_option maxRecDepth 100000 in
theorem div0_walk (l d : Nat) (hd : 0 < d) (hl : l < 18446744073709551616) (w : World) :
    Calls Tryz.prog 99 #[.int .u64 0, .int .u64 (l : Int), .int .u64 (d : Int)] w fun e w' => e = .returned (.tuple #[.int .u64 ((l / d : Nat) : Int), .int .u64 ((l % d : Nat) : Int)]) ∧ Below w.heap.size w w' := by
  have h1 : ¬ (d : Int) = 0 := by omega
  have h2 : ¬ (d : Int) ≤ 0 := by omega
  have h3 : (0 : Int) < (d : Int) := by omega
  go_enter Tryz.func99, Tryz.ntmps99
  go_wp2
  go_region
  all_goals (go_wp2; go_ret2; refine ⟨?_, Below.drew (Below.refl _ _)⟩)
  all_goals
    have e1 : IntKind.u64.wrap ((l : Int) / (d : Int)) = ((l / d : Nat) : Int) := by
      have := Nat.div_le_self l d
      rw [IntKind.wrap_u64, ← Int.natCast_ediv]
      generalize l / d = q at *
      omega
    show Ending.returned (Value.tuple #[.int .u64 (IntKind.u64.wrap ((l : Int) / (d : Int))), .int .u64 ((l : Int) % (d : Int))]) = _
    rw [e1]
    rfl

namespace F

def mhi (x y : Nat) : Nat := x * y / 18446744073709551616

def mlo (x y : Nat) : Nat := x * y % 18446744073709551616

def dqm (l d : Nat) : Nat := l / d

def drm (l d : Nat) : Nat := l % d

def rnd (way : Int) (neg : Bool) (r d : Int) : Bool := bif way == 1 then neg && decide (0 < r) else bif way == 3 then !neg && decide (0 < r) else decide (d - r ≤ r)

def sclQ (n m d : Int) : Nat := n.natAbs * m.natAbs / d.natAbs

def sclR (n m d : Int) : Nat := n.natAbs * m.natAbs % d.natAbs

def sclP (n m d way : Int) : Int := bif rnd way (decide (n < 0)) (sclR n m d) d then (sclQ n m d : Int) + 1 else (sclQ n m d : Int)

def sclS (n m d way : Int) : Int := bif decide (1152921504606846976 < sclP n m d way) then 1152921504606846976 else sclP n m d way

def scl (n m d way : Int) : Int := bif decide (n < 0) then -(sclS n m d way) else sclS n m d way

end F

namespace M

theorem evRnd (way : Int) (neg : Bool) (r : Int) (d : Int) : (runF en0 false Tryz.f100 [vI way, vB neg, .v (.int .u64 r), .v (.int .u64 d)]).val =
  bif way == (1 : Int) then some ((vB (bif neg then decide ((0 : Int) < r) else false)), []) else bif way == (3 : Int) then some ((vB (bif !neg then decide ((0 : Int) < r)
  else false)), []) else some ((vB (decide (IntKind.wrap IntKind.u64 (d - r) ≤ r))), []) := (runFR_val).symm.trans (by kernel_rfl)

def encRnd1 (way : Int) (neg : Bool) (r : Int) (d : Int) : List AV := [vI way, vB neg, .v (.int .u64 r), .v (.int .u64 d)]

def encRnd (a : Int × Bool × Int × Int) : List AV := encRnd1 a.1 a.2.1 a.2.2.1 a.2.2.2

theorem encRnd_inj (a a' : Int × Bool × Int × Int) (h : encRnd a = encRnd a') : a = a' := by
  simp only [encRnd, encRnd1] at h
  try simp  at h
  grind

theorem unRnd (way : Int) (neg : Bool) (r : Int) (d : Int) : unenc encRnd ([(vI way), (vB neg), AV.v (Value.int IntKind.u64 r), AV.v (Value.int IntKind.u64 d)]) = some (way, neg, r, d) := unenc_of encRnd_inj (way, neg, r, d) rfl

def resRnd1 (way : Int) (neg : Bool) (r : Int) (d : Int) : AV × Heap := (vB (F.rnd way neg r d), [])

def preRnd1 (way : Int) (neg : Bool) (r : Int) (d : Int) : Bool := decide (0 ≤ r) && decide (r ≤ d) && decide (d ≤ 18446744073709551615)

noncomputable def oRnd : Orc := orc 100 true encRnd (fun a => preRnd1 a.1 a.2.1 a.2.2.1 a.2.2.2) fun a => resRnd1 a.1 a.2.1 a.2.2.1 a.2.2.2

theorem okRnd : OrcOK Tryz.prog noG oRnd := by
  refine mk_ok Tryz.f100 (keep := false) (by kernel_rfl) (by kernel_rfl) en0_ok mixed (no_loops (by kernel_rfl)) (by first | exact fun _ _ => ⟨rfl, rfl⟩ | (intro h; cases h)) ?_
  rintro ⟨way, neg, r, d⟩ hpre hok
  show (runF en0 false _ (encRnd1 _ _ _ _)).val = some (resRnd1 _ _ _ _)
  unfold encRnd1 resRnd1
  rw [evRnd]
  simp only [preRnd1, Bool.and_eq_true, decide_eq_true_eq] at hpre
  obtain ⟨⟨h1, h2⟩, h3⟩ := hpre
  have w1 : IntKind.u64.wrap (d - r) = d - r := by rw [IntKind.wrap_u64]; omega
  simp only [etaEnt, etaLst, etaSnd, etaStrm, etaMas, Option.bind_some, List.length_map, unStrs, unInts, unBools, unEnts, unItms, unTrns, cond_true, cond_false, Bool.and_true, Bool.true_and, w1, F.rnd]
  cases way == 1
  · cases way == 3
    · rfl
    · cases neg <;> rfl
  · cases neg <;> rfl

def encSiz1 (n : Int) : List AV := [vI n]

def encSiz (a : Int) : List AV := encSiz1 a

theorem encSiz_inj (a a' : Int) (h : encSiz a = encSiz a') : a = a' := by
  simp only [encSiz, encSiz1] at h
  try simp  at h
  grind

theorem unSiz (n : Int) : unenc encSiz ([(vI n)]) = some (n) := unenc_of encSiz_inj (n) rfl

def resSiz1 (n : Int) : AV × Heap := (.v (.int .u64 (n.natAbs : Int)), [])

def preSiz1 (n : Int) : Bool := F.i64B n

noncomputable def oSiz : Orc := orc 98 true encSiz (fun a => preSiz1 a) fun a => resSiz1 a

theorem u64_ok {n : Nat} (h : n < 18446744073709551616) : okAtom (.int .u64 (n : Int)) := by
  show IntKind.u64.min ≤ _ ∧ _ ≤ IntKind.u64.max
  simp only [IntKind.min, IntKind.max, IntKind.signed, IntKind.bits]
  simp
  omega

theorem okSiz : OrcOK Tryz.prog noG oSiz := by
  refine orc_ok ⟨Tryz.f98, by kernel_rfl, by kernel_rfl, by kernel_rfl⟩ (fun n hp _ => ?_) (fun _ _ => ⟨rfl, rfl⟩)
  simp only [preSiz1, F.i64B, Bool.and_eq_true, decide_eq_true_eq] at hp
  refine SpecP.below1 (fun w S => rv_mk (u64_ok (by omega))) fun _ w S hG => ?_
  refine (size_walk n hp.1 hp.2 w).mono ?_
  rintro e w' ⟨he, rfl⟩
  exact ⟨he, Below.refl _ _⟩

def encMul1 (x : Nat) (y : Nat) : List AV := [.v (.int .u64 x), .v (.int .u64 y)]

def encMul (a : Nat × Nat) : List AV := encMul1 a.1 a.2

theorem encMul_inj (a a' : Nat × Nat) (h : encMul a = encMul a') : a = a' := by
  simp only [encMul, encMul1] at h
  try simp  at h
  grind

theorem unMul (x : Nat) (y : Nat) : unenc encMul ([AV.v (Value.int IntKind.u64 (↑x : Int)), AV.v (Value.int IntKind.u64 (↑y : Int))]) = some (x, y) := unenc_of encMul_inj (x, y) rfl

def resMul1 (x : Nat) (y : Nat) : AV × Heap := (.tup [.v (.int .u64 (F.mhi x y : Nat)), .v (.int .u64 (F.mlo x y : Nat))], [])

def preMul1 (x : Nat) (y : Nat) : Bool := decide (x < 18446744073709551616) && decide (y < 18446744073709551616)

noncomputable def oMul : Orc := orc 97 true encMul (fun a => preMul1 a.1 a.2) fun a => resMul1 a.1 a.2

theorem pair_rv {a b : Nat} (ha : a < 18446744073709551616) (hb : b < 18446744073709551616) (w : World) (S : Nat → Prop) : RV w S noKeys (.tup [.v (.int .u64 (a : Int)), .v (.int .u64 (b : Int))]) (.tuple #[.int .u64 (a : Int), .int .u64 (b : Int)]) :=
  ⟨[.int .u64 (a : Int), .int .u64 (b : Int)], rfl, R0.v (w := w) (S := S) (u64_ok ha), R0.v (w := w) (S := S) (u64_ok hb), trivial⟩

theorem okMul : OrcOK Tryz.prog noG oMul := by
  refine orc_ok ⟨Tryz.f97, by kernel_rfl, by kernel_rfl, by kernel_rfl⟩ (fun z hp _ => ?_) (fun _ _ => ⟨rfl, rfl⟩)
  obtain ⟨x, y⟩ := z
  simp only [preMul1, Bool.and_eq_true, decide_eq_true_eq] at hp
  have h1 : x * y ≤ 18446744073709551615 * 18446744073709551615 := Nat.mul_le_mul (by omega) (by omega)
  refine SpecP.below2 (pair_rv (by show x * y / 18446744073709551616 < _; generalize x * y = p at h1; omega) (by unfold F.mlo; omega)) fun _ _ w S hG => ?_
  refine (Tryz.bits_Mul64 x y hp.1 hp.2 w).mono ?_
  rintro e w' ⟨he, rfl⟩
  exact ⟨he, Below.refl _ _⟩

def encDv01 (l : Nat) (d : Nat) : List AV := [.v (.int .u64 0), .v (.int .u64 l), .v (.int .u64 d)]

def encDv0 (a : Nat × Nat) : List AV := encDv01 a.1 a.2

theorem encDv0_inj (a a' : Nat × Nat) (h : encDv0 a = encDv0 a') : a = a' := by
  simp only [encDv0, encDv01] at h
  try simp  at h
  grind

theorem unDv0 (l : Nat) (d : Nat) : unenc encDv0 ([AV.v (Value.int IntKind.u64 (0 : Int)), AV.v (Value.int IntKind.u64 (↑l : Int)), AV.v (Value.int IntKind.u64 (↑d : Int))]) = some (l, d) := unenc_of encDv0_inj (l, d) rfl

def resDv01 (l : Nat) (d : Nat) : AV × Heap := (.tup [.v (.int .u64 (F.dqm l d : Nat)), .v (.int .u64 (F.drm l d : Nat))], [])

def preDv01 (l : Nat) (d : Nat) : Bool := decide (0 < d) && decide (l < 18446744073709551616)

noncomputable def oDv0 : Orc := orc 99 true encDv0 (fun a => preDv01 a.1 a.2) fun a => resDv01 a.1 a.2

theorem okDv0 : OrcOK Tryz.prog noG oDv0 := by
  refine orc_ok ⟨Tryz.f99, by kernel_rfl, by kernel_rfl, by kernel_rfl⟩ (fun z hp _ => ?_) (fun _ _ => ⟨rfl, rfl⟩)
  obtain ⟨l, d⟩ := z
  simp only [preDv01, Bool.and_eq_true, decide_eq_true_eq] at hp
  have h1 := Nat.div_le_self l d
  have h2 := Nat.mod_le l d
  have hr := pair_rv (a := F.dqm l d) (b := F.drm l d) (by unfold F.dqm; omega) (by unfold F.drm; omega)
  intro w S cargs hlt hg hargs
  match cargs, hargs with
  | [u, v, t], ⟨r1, r2, r3, _⟩ =>
    obtain ⟨rfl, _⟩ := rv_v r1
    obtain ⟨rfl, _⟩ := rv_v r2
    obtain ⟨rfl, _⟩ := rv_v r3
    exact below_ret hlt hr (div0_walk l d hp.1 hp.2 w)

noncomputable def enScl : Env := envH ty noG lks [oSiz, oMul, oDv0, oRnd] [] [] []

theorem enScl_ok : EnvOK Tryz.prog enScl := by
  refine envH_ok lks_ok ty_ok ?_ ?_
  · simp only [List.forall_mem_cons]
    exact ⟨okSiz, okMul, okDv0, okRnd, by simp⟩
  · simp

theorem evScl (n : Int) (m : Int) (d : Int) (way : Int) : (runF enScl false Tryz.f82 [vI n, vI m, vI d, vI way]).val =
  (fun (q : List AV) => (fun (q_1 : Option (AV × Heap)) => Option.bind (unenc encSiz [(vI n)]) fun (z : Int) => bif F.i64B z then Option.bind (unenc encMul [AV.v (Value.int
  IntKind.u64 (↑(Int.natAbs z) : Int)), AV.v (Value.int IntKind.u64 (IntKind.wrap IntKind.u64 m))]) fun (z : Nat × Nat) => bif decide (z.fst < (18446744073709551616 : Nat))
  && decide (z.snd < (18446744073709551616 : Nat)) then bif decide ((↑(F.mhi z.fst z.snd) : Int) < IntKind.wrap IntKind.u64 d) then Option.bind (unenc encDv0 (AV.v
  (Value.int IntKind.u64 (↑(F.mhi z.fst z.snd) : Int)) :: AV.v (Value.int IntKind.u64 (↑(F.mlo z.fst z.snd) : Int)) :: q)) fun (z : Nat × Nat) => (fun (q_2 : Int) => (fun
  (q_3 : Int) => (fun (q_4 : Int) => bif decide ((0 : Nat) < z.snd) && decide (z.fst < (18446744073709551616 : Nat)) then Option.bind (unenc encRnd ((vI way) :: (vB (decide
  (n < (0 : Int)))) :: AV.v (Value.int IntKind.u64 (↑(F.drm z.fst z.snd) : Int)) :: q)) fun (z : Int × Bool × Int × Int) => bif decide ((0 : Int) ≤ z.snd.snd.fst) && decide
  (z.snd.snd.fst ≤ z.snd.snd.snd) && decide (z.snd.snd.snd ≤ (18446744073709551615 : Int)) then bif F.rnd z.fst z.snd.fst z.snd.snd.fst z.snd.snd.snd then bif decide
  ((1152921504606846976 : Int) < q_3) then q_1 else bif decide (n < (0 : Int)) then some ((vI (IntKind.wrap IntKind.i64 ((0 : Int) - q_4))), []) else some ((vI q_4), [])
  else bif decide ((1152921504606846976 : Int) < q_2) then q_1 else bif decide (n < (0 : Int)) then some ((vI (IntKind.wrap IntKind.i64 ((0 : Int) - IntKind.wrap IntKind.i64
  q_2))), []) else some ((vI (IntKind.wrap IntKind.i64 q_2)), []) else none else none) (IntKind.wrap IntKind.i64 q_3)) (IntKind.wrap IntKind.u64 (q_2 + (1 : Int)))) (↑(F.dqm
  z.fst z.snd) : Int) else Option.bind (unenc encRnd ((vI way) :: (vB (decide (n < (0 : Int)))) :: AV.v (Value.int IntKind.u64 (0 : Int)) :: q)) fun (z : Int × Bool × Int ×
  Int) => bif decide ((0 : Int) ≤ z.snd.snd.fst) && decide (z.snd.snd.fst ≤ z.snd.snd.snd) && decide (z.snd.snd.snd ≤ (18446744073709551615 : Int)) then bif F.rnd z.fst
  z.snd.fst z.snd.snd.fst z.snd.snd.snd then q_1 else q_1 else none else none else none) (bif decide (n < (0 : Int)) then some ((vI (IntKind.wrap IntKind.i64 ((0 : Int) -
  IntKind.wrap IntKind.i64 (1152921504606846976 : Int)))), []) else some ((vI (IntKind.wrap IntKind.i64 (1152921504606846976 : Int))), []))) [AV.v (Value.int IntKind.u64
  (IntKind.wrap IntKind.u64 d))] := (runFR_val).symm.trans (by kernel_rfl)

def encScl1 (n : Int) (m : Int) (d : Int) (way : Int) : List AV := [vI n, vI m, vI d, vI way]

def encScl (a : Int × Int × Int × Int) : List AV := encScl1 a.1 a.2.1 a.2.2.1 a.2.2.2

theorem encScl_inj (a a' : Int × Int × Int × Int) (h : encScl a = encScl a') : a = a' := by
  simp only [encScl, encScl1] at h
  try simp  at h
  grind

theorem unScl (n : Int) (m : Int) (d : Int) (way : Int) : unenc encScl ([(vI n), (vI m), (vI d), (vI way)]) = some (n, m, d, way) := unenc_of encScl_inj (n, m, d, way) rfl

def resScl1 (n : Int) (m : Int) (d : Int) (way : Int) : AV × Heap := (vI (F.scl n m d way), [])

def preScl1 (n : Int) (m : Int) (d : Int) (way : Int) : Bool := F.i64B n && decide (0 ≤ m) && decide (m ≤ 1000000) && decide (1 ≤ d) && decide (d ≤ 9223372036854775807) && decide (n.natAbs * m.natAbs < 9223372036854775808)

noncomputable def oScl : Orc := orc 82 true encScl (fun a => preScl1 a.1 a.2.1 a.2.2.1 a.2.2.2) fun a => resScl1 a.1 a.2.1 a.2.2.1 a.2.2.2

theorem okScl : OrcOK Tryz.prog noG oScl := by
  refine mk_ok Tryz.f82 (keep := false) (by kernel_rfl) (by kernel_rfl) enScl_ok mixed (no_loops (by kernel_rfl)) (by first | exact fun _ _ => ⟨rfl, rfl⟩ | (intro h; cases h)) ?_
  rintro ⟨n, m, d, way⟩ hpre hok
  show (runF enScl false _ (encScl1 _ _ _ _)).val = some (resScl1 _ _ _ _)
  unfold encScl1 resScl1
  rw [evScl]
  simp only [preScl1, Bool.and_eq_true, decide_eq_true_eq] at hpre
  obtain ⟨⟨⟨⟨⟨h1, h2⟩, h3⟩, h4⟩, h5⟩, h6⟩ := hpre
  have hn := h1
  simp only [F.i64B, Bool.and_eq_true, decide_eq_true_eq] at hn
  have w1 : IntKind.u64.wrap m = ((m.natAbs : Nat) : Int) := by rw [IntKind.wrap_u64]; omega
  have w2 : IntKind.u64.wrap d = ((d.natAbs : Nat) : Int) := by rw [IntKind.wrap_u64]; omega
  have w3 : ((F.mhi n.natAbs m.natAbs : Nat) : Int) = 0 := by unfold F.mhi; omega
  have w4 : F.mlo n.natAbs m.natAbs = n.natAbs * m.natAbs := by unfold F.mlo; omega
  have hd : ((d.natAbs : Nat) : Int) = d := by omega
  have hr : F.drm (n.natAbs * m.natAbs) d.natAbs < d.natAbs := Nat.mod_lt _ (by omega)
  have hq : F.dqm (n.natAbs * m.natAbs) d.natAbs ≤ n.natAbs * m.natAbs := Nat.div_le_self _ _
  simp only [unSiz, unMul, unDv0, unRnd, preSiz1, preMul1, preDv01, preRnd1, etaEnt, etaLst, etaSnd, etaStrm, etaMas, Option.bind_some, List.length_map, unStrs, unInts, unBools, unEnts, unItms, unTrns, cond_true, cond_false, Bool.and_true, Bool.true_and, h1, w1, w2, w3, w4]
  simp (disch := omega) only [decide_eq_true, Bool.and_self, cond_true]
  unfold F.scl F.sclS F.sclP
  rw [show F.sclQ n m d = F.dqm (n.natAbs * m.natAbs) d.natAbs from rfl, show F.sclR n m d = F.drm (n.natAbs * m.natAbs) d.natAbs from rfl, hd]
  generalize F.dqm (n.natAbs * m.natAbs) d.natAbs = q at *
  generalize F.drm (n.natAbs * m.natAbs) d.natAbs = r at *
  generalize n.natAbs * m.natAbs = p at *
  have u1 : IntKind.u64.wrap ((q : Int) + 1) = (q : Int) + 1 := by rw [IntKind.wrap_u64]; omega
  rw [u1]
  have key : ∀ x : Int, 0 ≤ x → x ≤ 1152921504606846976 → IntKind.i64.wrap x = x ∧ IntKind.i64.wrap (0 - x) = -x := fun x h1 h2 => by
    rw [IntKind.wrap_i64, IntKind.wrap_i64]; omega
  have kF := key 1152921504606846976 (by omega) (by omega)
  cases F.rnd way (decide (n < 0)) (r : Int) d
  · simp only [cond_false]
    by_cases hx : (1152921504606846976 : Int) < q
    · rw [decide_eq_true hx]
      cases decide (n < 0) <;> simp only [cond_true, cond_false, kF.1, kF.2]
    · rw [decide_eq_false hx]
      have k1 := key q (by omega) (by omega)
      cases decide (n < 0) <;> simp only [cond_true, cond_false, k1.1, k1.2]
  · simp only [cond_true]
    by_cases hx : (1152921504606846976 : Int) < q + 1
    · rw [decide_eq_true hx]
      cases decide (n < 0) <;> simp only [cond_true, cond_false, kF.1, kF.2]
    · rw [decide_eq_false hx]
      have k1 := key (q + 1) (by omega) (by omega)
      cases decide (n < 0) <;> simp only [cond_true, cond_false, k1.1, k1.2]

end M

theorem F.cut_c (s : ByteArray) (c : UInt8) : Lib.cut (F.bs s) [c] = if Lib.indexByte (F.bs s) c ≥ 0 then ((F.bs s).take (Lib.indexByte (F.bs s) c).toNat, (F.bs s).drop ((Lib.indexByte (F.bs s) c).toNat + 1), true) else (F.bs s, [], false) := by
  have h : Lib.index (F.bs s) [c] = Lib.indexByte (F.bs s) c := Lib.index_one ..
  unfold Lib.cut
  rw [h]
  rfl

theorem F.cut_one {s p : ByteArray} {c : UInt8} {a r : List UInt8} (hp : F.bs p = [c]) (ha : c ∉ a) (h : F.bs s = a ++ c :: r) : F.cutF s p = true ∧ F.bs (F.cutH s p) = a ∧ F.bs (F.cutT s p) = r := by
  have e := F.cut_c s c
  rw [h, F.index_first ha, if_pos (by omega)] at e
  unfold F.cutF F.cutH F.cutT
  rw [hp, h, e, F.bs_mk, F.bs_mk]
  refine ⟨rfl, ?_, ?_⟩
  · simp
  · rw [show (((a.length : Nat) : Int).toNat + 1) = a.length + 1 by omega, List.drop_append]
    simp

def F.tmS (n : Int) : ByteArray := F.itoa (n.tdiv 1000) ++ F.dot ++ F.pad (n.tmod 1000) 3

theorem F.dg_no {l : List UInt8} {c : UInt8} (h : l.all F.dgB = true) (hc : F.dgB c = false) : c ∉ l := by
  intro hm
  have := List.all_eq_true.1 h c hm
  rw [hc] at this
  cases this

theorem F.tmS_ok {n : Nat} (h : n ≤ 3600000) : F.milOk (F.tmS (n : Int)) = true ∧ F.milV (F.tmS (n : Int)) = (n : Int) := by
  have e1 : F.tmS (n : Int) = F.itoa ((n / 1000 : Nat) : Int) ++ F.dot ++ F.pad ((n % 1000 : Nat) : Int) 3 := rfl
  obtain ⟨d1, d2, d3⟩ := F.dd_ok (n / 1000)
  obtain ⟨p1, p2, p3⟩ := F.pad_ok (k := n % 1000) (many := 3) (by show _ < 1000; omega) (by decide)
  have hb : F.bs (F.tmS (n : Int)) = F.bs (F.itoa ((n / 1000 : Nat) : Int)) ++ 46 :: F.bs (F.pad ((n % 1000 : Nat) : Int) 3) := by
    rw [e1, F.bs_app, F.bs_app, List.append_assoc]
    rfl
  have hn : (46 : UInt8) ∉ F.bs (F.itoa ((n / 1000 : Nat) : Int)) := by
    rw [F.itoa_n]
    exact F.dg_no d1 (by decide)
  obtain ⟨c1, c2, c3⟩ := F.cut_one (p := F.dot) rfl hn hb
  have c2 : F.cutH (F.tmS (n : Int)) F.dot = F.itoa ((n / 1000 : Nat) : Int) := F.bsx c2
  have c3 : F.cutT (F.tmS (n : Int)) F.dot = F.pad ((n % 1000 : Nat) : Int) 3 := F.bsx c3
  have h16 : (10 : Nat) ^ (15 + 1) = 10000000000000000 := by decide
  obtain ⟨v1, v2⟩ := F.num_itoa_k (n := ((n / 1000 : Nat) : Int)) (w := 15) (by omega) (by rw [h16]; omega)
  have v1 : F.numOk (F.itoa ((n / 1000 : Nat) : Int)) 16 = true := v1
  have v2 : F.numV (F.itoa ((n / 1000 : Nat) : Int)) 16 = ((n / 1000 : Nat) : Int) := v2
  have hsz : (F.pad ((n % 1000 : Nat) : Int) 3).size = 3 := by rw [← F.bs_len]; exact p1
  have hok : F.milOk (F.tmS (n : Int)) = true := by
    unfold F.milOk
    rw [c1, c2, c3, v1, hsz, p2]
    rfl
  refine ⟨hok, ?_⟩
  unfold F.milV F.dv
  rw [hok, cond_true, c2, c3, v2, p3]
  omega

def F.p10 : Nat → Int
  | 0 => 1
  | k + 1 => F.p10 k * 10

theorem F.scl_id {x : Int} (h0 : 0 ≤ x) (h1 : x < 1000) : F.scl x 1000 1000 2 = x := by
  obtain ⟨k, rfl⟩ := Int.eq_ofNat_of_zero_le h0
  have hq : F.sclQ (k : Int) 1000 1000 = k := by
    show ((k : Int).natAbs * 1000) / 1000 = k
    omega
  have hr : F.sclR (k : Int) 1000 1000 = 0 := by
    show ((k : Int).natAbs * 1000) % 1000 = 0
    omega
  have hP : F.sclP (k : Int) 1000 1000 2 = (k : Int) := by
    unfold F.sclP
    rw [hr, hq]
    have : F.rnd 2 (decide ((k : Int) < 0)) ((0 : Nat) : Int) 1000 = false := by
      unfold F.rnd
      rfl
    rw [this]
    rfl
  unfold F.scl F.sclS
  rw [hP, decide_eq_false (by omega), decide_eq_false (by omega)]
  rfl

theorem F.itoa_1000 {k : Nat} (h : k < 1000) : (F.itoa ((1000 + k : Nat) : Int)).size = 4 ∧ (F.itoa ((1000 + k : Nat) : Int)).extract 1 (F.itoa ((1000 + k : Nat) : Int)).size = F.pad (k : Int) 3 := by
  obtain ⟨d1, d2, d3⟩ := F.dd_ok (1000 + k)
  have hb := F.itoa_n (1000 + k)
  have h4 := F.dd_len 3 (1000 + k) (by show _ < 10000; omega)
  have hge : 4 ≤ (Lib.decDigits (1000 + k)).length := by
    have := F.dvA_lt _ d1
    rw [d2] at this
    by_cases h : 4 ≤ (Lib.decDigits (1000 + k)).length
    · exact h
    · have h2 : (10 : Nat) ^ (Lib.decDigits (1000 + k)).length ≤ 10 ^ 3 := Nat.pow_le_pow_right (by decide) (by omega)
      have h3 : (10 : Nat) ^ 3 = 1000 := by decide
      omega
  obtain ⟨a, b, c, d, e⟩ := F.l4 (show (Lib.decDigits (1000 + k)).length = 4 by omega)
  rw [e] at hb d1 d2
  have hz : (F.itoa ((1000 + k : Nat) : Int)).size = 4 := by rw [← F.bs_len, hb]; rfl
  refine ⟨hz, ?_⟩
  apply F.bsx
  obtain ⟨p1, p2, p3⟩ := F.pad_ok (k := k) (many := 3) h (by decide)
  rw [F.sub_bs, hz, hb]
  simp only [List.all_cons, List.all_nil, Bool.and_true, Bool.and_eq_true] at d1
  obtain ⟨g1, g2, g3, g4⟩ := d1
  have ga := g1
  have gb := g2
  have gc := g3
  have gd := g4
  simp only [F.dgB, Bool.and_eq_true, decide_eq_true_eq] at ga gb gc gd
  rw [F.dvA_cons, F.dvA_cons, F.dvA_cons, F.dvA_cons, F.dvA_nil] at d2
  show [b, c, d] = _
  refine F.dv_inj 3 _ _ rfl p1 ?_ p2 ?_
  · simp only [List.all_cons, List.all_nil, Bool.and_true, g2, g3, g4, Bool.and_self]
  · rw [p3, F.dvA_cons, F.dvA_cons, F.dvA_cons, F.dvA_nil]
    omega

theorem F.pad_size' (k : Nat) (h : k < 1000) : (F.pad (k : Int) 3).size = 3 := by
  rw [← F.bs_len]
  exact (F.pad_ok h (by decide)).1

namespace M

noncomputable def enNoT : Env := envH ty noG lks [oOut] [] [] []

theorem enNoT_ok : EnvOK Tryz.prog enNoT := by
  refine envH_ok lks_ok ty_ok ?_ ?_
  · simp only [List.forall_mem_cons]
    exact ⟨okOut, by simp⟩
  · simp

theorem evNoT (n : Int) : (runF enNoT false Tryz.f79 [vI n]).val =
  Option.bind (unenc encOut [(vI n), (vI (-1000000000000000 : Int)), (vI (1000000000000000 : Int))]) fun (z : Int × Int × Int) => some ((vB (F.out z.fst z.snd.fst
  z.snd.snd)), []) := (runFR_val).symm.trans (by kernel_rfl)

def encNoT1 (n : Int) : List AV := [vI n]

def encNoT (a : Int) : List AV := encNoT1 a

theorem encNoT_inj (a a' : Int) (h : encNoT a = encNoT a') : a = a' := by
  simp only [encNoT, encNoT1] at h
  try simp [strs_inj, ints_inj, ents_inj, eEnt_iff, eLst_iff, eSnds_inj, eStrms_inj] at h
  grind

theorem unNoT (n : Int) : unenc encNoT ([(vI n)]) = some (n) := unenc_of encNoT_inj (n) rfl

def resNoT1 (n : Int) : AV × Heap := (vB (F.out n (-1000000000000000) 1000000000000000), [])

def preNoT1 (n : Int) : Bool := true

noncomputable def oNoT : Orc := orc 79 true encNoT (fun a => preNoT1 a) fun a => resNoT1 a

theorem okNoT : OrcOK Tryz.prog noG oNoT := by
  refine mk_ok Tryz.f79 (keep := false) (by kernel_rfl) (by kernel_rfl) enNoT_ok mixed (no_loops (by kernel_rfl)) (by first | exact fun _ _ => ⟨rfl, rfl⟩ | (intro h; cases h)) ?_
  rintro n hpre hok
  show (runF enNoT false _ (encNoT1 _)).val = some (resNoT1 _)
  unfold encNoT1 resNoT1
  rw [evNoT]
  simp only [unOut, preOut1, etaEnt, etaLst, etaSnd, etaStrm, etaMas, Option.bind_some, List.length_map, unStrs, unInts, unBools, unEnts, unItms, unTrns, cond_true, cond_false, Bool.and_true, Bool.true_and]

theorem evNoS (n : Int) : (runF enNoT false Tryz.f80 [vI n]).val =
  Option.bind (unenc encOut [(vI n), (vI (1 : Int)), (vI (1000000000 : Int))]) fun (z : Int × Int × Int) => some ((vB (F.out z.fst z.snd.fst z.snd.snd)), []) := (runFR_val).symm.trans (by kernel_rfl)

def encNoS1 (n : Int) : List AV := [vI n]

def encNoS (a : Int) : List AV := encNoS1 a

theorem encNoS_inj (a a' : Int) (h : encNoS a = encNoS a') : a = a' := by
  simp only [encNoS, encNoS1] at h
  try simp [strs_inj, ints_inj, ents_inj, eEnt_iff, eLst_iff, eSnds_inj, eStrms_inj] at h
  grind

theorem unNoS (n : Int) : unenc encNoS ([(vI n)]) = some (n) := unenc_of encNoS_inj (n) rfl

def resNoS1 (n : Int) : AV × Heap := (vB (F.out n 1 1000000000), [])

def preNoS1 (n : Int) : Bool := true

noncomputable def oNoS : Orc := orc 80 true encNoS (fun a => preNoS1 a) fun a => resNoS1 a

theorem okNoS : OrcOK Tryz.prog noG oNoS := by
  refine mk_ok Tryz.f80 (keep := false) (by kernel_rfl) (by kernel_rfl) enNoT_ok mixed (no_loops (by kernel_rfl)) (by first | exact fun _ _ => ⟨rfl, rfl⟩ | (intro h; cases h)) ?_
  rintro n hpre hok
  show (runF enNoT false _ (encNoS1 _)).val = some (resNoS1 _)
  unfold encNoS1 resNoS1
  rw [evNoS]
  simp only [unOut, preOut1, etaEnt, etaLst, etaSnd, etaStrm, etaMas, Option.bind_some, List.length_map, unStrs, unInts, unBools, unEnts, unItms, unTrns, cond_true, cond_false, Bool.and_true, Bool.true_and]

def stPw (p : Int) (k : Nat) : St := ⟨[(5, vI k), (4, vI 3), (3, vI p)], []⟩

def stPw1 (a : Int × Nat) : St := stPw a.1 a.2

theorem stPw_inj (a a' : Int × Nat) (h : stPw1 a = stPw1 a') : a = a' := by
  simp only [stPw1, stPw] at h
  try simp [strs_inj, ints_inj, ents_inj, eEnt_iff, eLst_iff, eSnds_inj, eStrms_inj] at h
  grind

theorem unstPw (p : Int) (k : Nat) : unenc stPw1 (St.mk [(5, (vI (↑k : Int))), (4, (vI (3 : Int))), (3, (vI p))] []) = some (p, k) := unenc_of stPw_inj (p, k) rfl

theorem unstPw0   : unenc stPw1 (St.mk [(5, (vI (0 : Int))), (4, (vI (3 : Int))), (3, (vI (1 : Int)))] []) = some (1, 0) := unenc_of stPw_inj (1, 0) rfl

def outPw (p : Int) (k : Nat) : T (Ex × St) := .ret (.exit 0, ⟨[(3, vI 1000)], []⟩)

noncomputable def prlPw (p : Int) (k : Nat) : Bool := decide (p = F.p10 k) && decide (k ≤ 3)

noncomputable def lpPw : Nat × (St → T (Ex × St)) := (3, lpo [5, 4, 3] [] stPw1 (fun a => prlPw a.1 a.2) fun a => outPw a.1 a.2)

noncomputable def enPw : Env := envH ty noG lks [] [] [] [lpPw]

theorem enPw_ok : EnvOK Tryz.prog enPw := by
  refine envH_ok lks_ok ty_ok ?_ ?_
  · simp
  · simp

theorem evPwL (p : Int) (k : Nat) : ((exec enPw (loopN Tryz.f81 0) (stPw p k)).bind (lessX ([5, 4, 3], []) ([3], []) ([], []))).val =
  bif decide ((↑k : Int) < (3 : Int)) then some (Ex.normal, St.mk [(5, (vI (IntKind.wrap IntKind.i64 ((↑k : Int) + (1 : Int))))), (4, (vI (3 : Int))), (3, (vI (IntKind.wrap
  IntKind.i64 (p * (10 : Int)))))] []) else some (Ex.exit (0 : Nat), St.mk [(3, (vI p))] []) := (execR_bind _ _ _).symm.trans (by kernel_rfl)

theorem lpPw_ok (p : Int) (k : Nat) (hp : prlPw p k = true) : ∀ ex s', (outPw p k).val = some (ex, s') → LoopOK enPw (loopN Tryz.f81 0) (stPw p k) ex s' := by
  simp only [prlPw, Bool.and_eq_true, decide_eq_true_eq] at hp
  obtain ⟨h1, h2⟩ := hp
  subst h1
  refine loop_gen (st := fun k : Nat => stPw (F.p10 k) k) (out := fun k => outPw (F.p10 k) k) (I := fun k => k ≤ 3) (n := ([5, 4, 3], [])) (e := ([3], [])) (r := ([], [])) (fun k => 3 - k) ?_ k h2
  clear h2
  intro k hk
  have hb : 0 ≤ F.p10 k ∧ F.p10 k ≤ 1000 := by
    match k, hk with
    | 0, _ => decide
    | 1, _ => decide
    | 2, _ => decide
    | 3, _ => decide
  have w1 : IntKind.i64.wrap (F.p10 k * 10) = F.p10 (k + 1) := by rw [wrap_id (by omega) (by omega)]; rfl
  have w2 : IntKind.i64.wrap ((k : Int) + 1) = ((k + 1 : Nat) : Int) := by rw [wrap_id (by omega) (by omega)]; rfl
  by_cases hlt : k < 3
  · right
    refine ⟨k + 1, ?_, rfl, hlt, by omega, rfl⟩
    · rw [evPwL]
      simp only [unstPw, unstPw0, prlPw, outPw, etaEnt, etaLst, etaSnd, etaStrm, etaMas, Option.bind_some, List.length_map, unStrs, unInts, unBools, unEnts, unItms, unTrns, cond_true, cond_false, Bool.and_true, Bool.true_and, decide_eq_true (show (k : Int) < 3 by omega), w1, w2, stPw]
      try rfl
  · have : k = 3 := by omega
    subst this
    left
    refine ⟨(.exit 0, ⟨[(3, vI 1000)], []⟩), ?_, rfl, by simp, rfl⟩
    rw [evPwL]
    rfl

theorem evPw  : (runF enPw false Tryz.f81 [vI 3]).val =
  Option.bind (unenc stPw1 (St.mk [(5, (vI (0 : Int))), (4, (vI (3 : Int))), (3, (vI (1 : Int)))] [])) fun (z : Int × Nat) => bif decide (z.fst = F.p10 z.snd) && decide
  (z.snd ≤ (3 : Nat)) && true then some ((vI (1000 : Int)), []) else none := (runFR_val).symm.trans (by kernel_rfl)

def encPw1  : List AV := [vI 3]

def encPw (a : Unit) : List AV := encPw1

theorem encPw_inj (a a' : Unit) (h : encPw a = encPw a') : a = a' := rfl

theorem unPw  : unenc encPw ([(vI (3 : Int))]) = some () := unenc_of encPw_inj () rfl

def resPw1  : AV × Heap := (vI 1000, [])

def prePw1  : Bool := true

noncomputable def oPw : Orc := orc 81 true encPw (fun a => prePw1) fun a => resPw1

theorem okPw : OrcOK Tryz.prog noG oPw := by
  refine mk_ok Tryz.f81 (keep := false) (by kernel_rfl) (by kernel_rfl) enPw_ok mixed (one_loop (x0 := loopN Tryz.f81 0) (by kernel_rfl) (lpo_ok ?_)) (by first | exact fun _ _ => ⟨rfl, rfl⟩ | (intro h; cases h)) ?_
  · rintro ⟨p, k⟩ hp
    exact lpPw_ok p k hp
  rintro ⟨⟩ hpre hok
  show (runF enPw false _ (encPw1 )).val = some (resPw1 )
  unfold encPw1 resPw1
  rw [evPw]
  simp only [unstPw, unstPw0, prlPw, outPw, etaEnt, etaLst, etaSnd, etaStrm, etaMas, Option.bind_some, List.length_map, unStrs, unInts, unBools, unEnts, unItms, unTrns, cond_true, cond_false, Bool.and_true, Bool.true_and]
  try rfl

noncomputable def enDcm : Env := envH ty noG lks [oNoT, oNoS, oOut, oPw, oScl, oIta] [] [] []

theorem enDcm_ok : EnvOK Tryz.prog enDcm := by
  refine envH_ok lks_ok ty_ok ?_ ?_
  · simp only [List.forall_mem_cons]
    exact ⟨okNoT, okNoS, okOut, okPw, okScl, okIta, by simp⟩
  · simp

theorem evDcm (n : Int) : (runF enDcm false Tryz.f54 [vI n, vI 1000, vI 3]).val =
  (fun (q : ByteArray) => (fun (q_1 : ByteArray) => (fun (q_2 : List AV) => (fun (q_3 : Int) => (fun (q_4 : Int) => (fun (q_5 : Option (AV × Heap)) => Option.bind (unenc
  encNoT [(vI n)]) fun (z : Int) => bif !F.out z (-1000000000000000 : Int) (1000000000000000 : Int) then Option.bind (unenc encNoS [(vI (1000 : Int))]) fun (z : Int) => bif
  !F.out z (1 : Int) (1000000000 : Int) then Option.bind (unenc encOut [(vI (3 : Int)), (vI (0 : Int)), (vI (9 : Int))]) fun (z : Int × Int × Int) => bif F.out z.fst
  z.snd.fst z.snd.snd then q_5 else Option.bind (unenc encPw [(vI (3 : Int))]) fun (z : Unit) => Option.bind (unenc encScl [(vI (Int.tmod (max n (IntKind.wrap IntKind.i64
  ((0 : Int) - n))) (1000 : Int))), (vI (1000 : Int)), (vI (1000 : Int)), (vI (2 : Int))]) fun (z : Int × Int × Int × Int) => (fun (q_6 : Int) => bif F.i64B z.fst && decide
  ((0 : Int) ≤ z.snd.fst) && decide (z.snd.fst ≤ (1000000 : Int)) && decide ((1 : Int) ≤ z.snd.snd.fst) && decide (z.snd.snd.fst ≤ (9223372036854775807 : Int)) && decide
  (Int.natAbs z.fst * Int.natAbs z.snd.fst < (9223372036854775808 : Nat)) then bif q_6 == (1000 : Int) then Option.bind (unenc encIta [(vI q_4)]) fun (z : Int) => bif decide
  ((-9223372036854775808 : Int) ≤ z) && decide (z ≤ (9223372036854775807 : Int)) then Option.bind (unenc encIta [(vI (IntKind.wrap IntKind.i64 ((1000 : Int) + (0 : Int))))])
  fun (z_1 : Int) => (fun (q_7 : ByteArray) => (fun (q_8 : ByteArray) => (fun (q_9 : Option (AV × Heap)) => bif decide ((-9223372036854775808 : Int) ≤ z_1) && decide (z_1 ≤
  (9223372036854775807 : Int)) then bif Nat.ble (1 : Nat) (ByteArray.size (F.itoa z_1)) && Nat.ble (ByteArray.size (F.itoa z_1)) (ByteArray.size (F.itoa z_1)) then bif
  Nat.ble (ByteArray.size q + ByteArray.size q_7) (9223372036854775807 : Nat) then bif Nat.ble (ByteArray.size (F.itoa z) + ByteArray.size (q ++ q_7)) (9223372036854775807 :
  Nat) then bif decide (n < (0 : Int)) then bif decide ((0 : Int) < IntKind.wrap IntKind.i64 (q_4 + (0 : Int))) then bif Nat.ble (ByteArray.size q_1 + ByteArray.size q_8)
  (9223372036854775807 : Nat) then some (AV.tup ((vS (q_1 ++ q_8)) :: q_2), []) else none else q_9 else q_9 else none else none else none else none) (some (AV.tup ((vS q_8)
  :: q_2), []))) (F.itoa z ++ (q ++ q_7))) (ByteArray.extract (F.itoa z_1) (1 : Nat) (ByteArray.size (F.itoa z_1))) else none else Option.bind (unenc encIta [(vI q_3)]) fun
  (z : Int) => bif decide ((-9223372036854775808 : Int) ≤ z) && decide (z ≤ (9223372036854775807 : Int)) then Option.bind (unenc encIta [(vI (IntKind.wrap IntKind.i64 ((1000
  : Int) + q_6)))]) fun (z_1 : Int) => (fun (q_7 : ByteArray) => (fun (q_8 : ByteArray) => (fun (q_9 : Option (AV × Heap)) => bif decide ((-9223372036854775808 : Int) ≤ z_1)
  && decide (z_1 ≤ (9223372036854775807 : Int)) then bif Nat.ble (1 : Nat) (ByteArray.size (F.itoa z_1)) && Nat.ble (ByteArray.size (F.itoa z_1)) (ByteArray.size (F.itoa
  z_1)) then bif Nat.ble (ByteArray.size q + ByteArray.size q_7) (9223372036854775807 : Nat) then bif Nat.ble (ByteArray.size (F.itoa z) + ByteArray.size (q ++ q_7))
  (9223372036854775807 : Nat) then bif decide (n < (0 : Int)) then bif decide ((0 : Int) < IntKind.wrap IntKind.i64 (q_3 + q_6)) then bif Nat.ble (ByteArray.size q_1 +
  ByteArray.size q_8) (9223372036854775807 : Nat) then some (AV.tup ((vS (q_1 ++ q_8)) :: q_2), []) else none else q_9 else q_9 else none else none else none else none)
  (some (AV.tup ((vS q_8) :: q_2), []))) (F.itoa z ++ (q ++ q_7))) (ByteArray.extract (F.itoa z_1) (1 : Nat) (ByteArray.size (F.itoa z_1))) else none else none) (F.scl z.fst
  z.snd.fst z.snd.snd.fst z.snd.snd.snd) else q_5 else q_5) (some (AV.tup [(vS (ByteArray.mk (Array.mk []))), (vI (1 : Int))], []))) (IntKind.wrap IntKind.i64 (q_3 + (1 :
  Int)))) (IntKind.wrap IntKind.i64 (Int.tdiv (max n (IntKind.wrap IntKind.i64 ((0 : Int) - n))) (1000 : Int)))) [(vI (0 : Int))]) (ByteArray.mk (Array.mk [(45 : UInt8)])))
  (ByteArray.mk (Array.mk [(46 : UInt8)])) := (runFR_val).symm.trans (by kernel_rfl)

def encDcm1 (n : Int) : List AV := [vI n, vI 1000, vI 3]

def encDcm (a : Int) : List AV := encDcm1 a

theorem encDcm_inj (a a' : Int) (h : encDcm a = encDcm a') : a = a' := by
  simp only [encDcm, encDcm1] at h
  try simp [strs_inj, ints_inj, ents_inj, eEnt_iff, eLst_iff, eSnds_inj, eStrms_inj] at h
  grind

theorem unDcm (n : Int) : unenc encDcm ([(vI n), (vI (1000 : Int)), (vI (3 : Int))]) = some (n) := unenc_of encDcm_inj (n) rfl

def resDcm1 (n : Int) : AV × Heap := (.tup [vS (F.tmS n), vI 0], [])

def preDcm1 (n : Int) : Bool := decide (0 ≤ n) && decide (n ≤ 3600000)

noncomputable def oDcm : Orc := orc 54 true encDcm (fun a => preDcm1 a) fun a => resDcm1 a

theorem okDcm : OrcOK Tryz.prog noG oDcm := by
  refine mk_ok Tryz.f54 (keep := false) (by kernel_rfl) (by kernel_rfl) enDcm_ok mixed (no_loops (by kernel_rfl)) (by first | exact fun _ _ => ⟨rfl, rfl⟩ | (intro h; cases h)) ?_
  rintro n hpre hok
  show (runF enDcm false _ (encDcm1 _)).val = some (resDcm1 _)
  unfold encDcm1 resDcm1
  rw [evDcm]
  simp only [preDcm1, Bool.and_eq_true, decide_eq_true_eq] at hpre
  obtain ⟨h1, h2⟩ := hpre
  obtain ⟨N, rfl⟩ := Int.eq_ofNat_of_zero_le h1
  have hw : IntKind.i64.wrap (0 - (N : Int)) = 0 - (N : Int) := wrap_id (by omega) (by omega)
  have hm : max (N : Int) (0 - (N : Int)) = (N : Int) := Int.max_eq_left (by omega)
  have hq : (N : Int).tdiv 1000 = ((N / 1000 : Nat) : Int) := rfl
  have hx : (N : Int).tmod 1000 = ((N % 1000 : Nat) : Int) := rfl
  have hs := F.scl_id (x := ((N % 1000 : Nat) : Int)) (by omega) (by omega)
  obtain ⟨z1, z2⟩ := F.itoa_1000 (k := N % 1000) (by omega)
  have w1 : IntKind.i64.wrap ((N / 1000 : Nat) : Int) = ((N / 1000 : Nat) : Int) := wrap_id (by omega) (by omega)
  have w2 : IntKind.i64.wrap (1000 + ((N % 1000 : Nat) : Int)) = ((1000 + N % 1000 : Nat) : Int) := by rw [wrap_id (by omega) (by omega)]; rfl
  have o1 : F.out (N : Int) (-1000000000000000) 1000000000000000 = false := by unfold F.out; rw [decide_eq_false (by omega), decide_eq_false (by omega)]; rfl
  have o2 : F.out 1000 1 1000000000 = false := rfl
  have o3 : F.out 3 0 9 = false := rfl
  have hb : F.i64B ((N % 1000 : Nat) : Int) = true := by unfold F.i64B; rw [decide_eq_true (by omega), decide_eq_true (by omega)]; rfl
  have hd : decide (((N % 1000 : Nat) : Int).natAbs * Int.natAbs 1000 < 9223372036854775808) = true := decide_eq_true (by show _ * 1000 < _; omega)
  have he : (((N % 1000 : Nat) : Int) == 1000) = false := by simp; omega
  have hn : decide ((N : Int) < 0) = false := decide_eq_false (by omega)
  have k1 : decide ((0 : Int) ≤ 1000) = true := rfl
  have k2 : decide ((1000 : Int) ≤ 1000000) = true := rfl
  have k3 : decide ((1 : Int) ≤ 1000) = true := rfl
  have k4 : decide ((1000 : Int) ≤ 9223372036854775807) = true := rfl
  simp only [unNoT, unNoS, unOut, unPw, unScl, unIta, preNoT1, preNoS1, preOut1, prePw1, preScl1, preIta1, etaEnt, etaLst, etaSnd, etaStrm, etaMas, Option.bind_some, List.length_map, unStrs, unInts, unBools, unEnts, unItms, unTrns, cond_true, cond_false, Bool.and_true, Bool.true_and, hw, hm, hq, hx, hs, w1, w2, o1, o2, o3, hb, hd, he, hn, k1, k2, k3, k4, Bool.not_false]
  have t1 := F.itoa_size (n := ((N / 1000 : Nat) : Int)) (by omega) (by omega)
  have t2 := F.pad_size' (N % 1000) (by omega)
  have e1 : (⟨⟨[46]⟩⟩ : ByteArray).size = 1 := rfl
  have e2 : F.dot = ⟨⟨[46]⟩⟩ := rfl
  unfold F.tmS
  rw [hq, hx, ByteArray.append_assoc, e2]
  rw [decide_eq_true (by omega : -9223372036854775808 ≤ ((N / 1000 : Nat) : Int)), decide_eq_true (by omega : ((N / 1000 : Nat) : Int) ≤ 9223372036854775807), decide_eq_true (by omega : -9223372036854775808 ≤ ((1000 + N % 1000 : Nat) : Int)), decide_eq_true (by omega : ((1000 + N % 1000 : Nat) : Int) ≤ 9223372036854775807)]
  rw [z2, z1]
  have u1 : Nat.ble 1 4 = true := rfl
  have u2 : Nat.ble 4 4 = true := rfl
  rw [u1, u2]
  simp (disch := omega) only [ByteArray.size_append, e1, t2, ble_t, Bool.and_self, cond_true]

end M

theorem bld_und : Tryz.prog.underlying 79 = some (.slice 5) := by kernel_rfl

theorem bld_str : Tryz.prog.underlying 9 = some .string := by kernel_rfl

theorem bld_info : (Tryz.prog.info? 5).map (fun i => (i.zero, i.size, i.bytes)) = some (some (.int .u8 0), 1, 1) := by kernel_rfl

def BufAt (w : World) (v : Value) (own : Option Nat) (xs : List Value) : Prop :=
  (∃ A, v = .slice A 0 0 ∧ xs = [] ∧ own = none) ∨
  (∃ g cap cur, own = some g ∧ v = .slice (some ⟨g, 0, none⟩) xs.length cap ∧ w.heap[g]? = some (.cells cur 5 (0, 0)) ∧ xs.length ≤ cap ∧ cap ≤ 9223372036854775807 ∧ cur.size = cap ∧ cur.toList.take xs.length = xs)

theorem BufAt.kept {w w' : World} {v : Value} {own : Option Nat} {xs : List Value} (h : BufAt w v own xs) (hb : ∀ g, own = some g → w'.heap[g]? = w.heap[g]?) : BufAt w' v own xs := by
  rcases h with h | ⟨g, cap, cur, h1, h2, h3, h4⟩
  · exact .inl h
  · exact .inr ⟨g, cap, cur, h1, h2, by rw [hb g h1]; exact h3, h4⟩

theorem buf_new (w : World) (cs : Array Value) (xs : List Value) (C : Nat) (h1 : cs.size = C) (h2 : xs.length ≤ C) (h3 : C ≤ 9223372036854775807) (h4 : cs.toList.take xs.length = xs) (row : Option Nat) :
    BufAt (w.drew.alloc (.cells cs 5)) (.slice (some ⟨w.heap.size, 0, none⟩) xs.length C) (some w.heap.size) xs ∧ w.grownBy (w.drew.alloc (.cells cs 5)) row := by
  refine ⟨.inr ⟨w.heap.size, C, cs, rfl, rfl, ?_, h2, h3, h1, h4⟩, rfl, rfl, rfl, ?_, fun k hk _ => ?_⟩
  · show (w.heap.push _)[w.heap.size]? = _
    simp
  · show _ ≤ (w.heap.push _).size
    simp
  · show (w.heap.push _)[k]? = _
    rw [Array.getElem?_push, if_neg (by omega)]

theorem strCells_len (s : ByteArray) : (Lib.strCells s).length = s.size := Lib.strCells_length s

theorem run_app_str (w : World) (ty : TypeId) {v : Value} {own : Option Nat} {xs : List Value} (h : BufAt w v own xs) (s : ByteArray) (hlen : xs.length + s.size ≤ 140737488355328) :
    ∃ v' w' own', (Builtin.append_ #[79, 9] ty #[v, .string s]).run Tryz.prog w = .ok v' w' ∧ BufAt w' v' own' (xs ++ Lib.strCells s) ∧ w.grownBy w' own ∧ (∀ g, own' = some g → own = some g ∨ w.heap.size ≤ g) := by
  obtain ⟨i0, hi, hz0, hz1, hz2⟩ := info_parts bld_info
  have hl := strCells_len s
  have hgC : ∀ n old, n ≤ 140737488355328 → n ≤ grownCap w n old 5 ∧ grownCap w n old 5 ≤ 9223372036854775807 := fun n old hn =>
    ⟨grownCap_ge w n old _, by have := grownCap_le_maxLen w n old 5 (by unfold maxLen; omega); unfold maxLen at this; omega⟩
  have h0c : (Value.int IntKind.u8 0).cells.size = 1 := rfl
  rcases h with ⟨A, rfl, rfl, rfl⟩ | ⟨g, cap, cur, rfl, rfl, hg, hnc, hcm, hcs, ht⟩
  · simp only [List.length_nil, Nat.zero_add] at hlen
    by_cases hs : s.size = 0
    · have hn : Lib.strCells s = [] := List.eq_nil_of_length_eq_zero (by rw [hl]; exact hs)
      refine ⟨.slice A 0 0, w, none, ?_, .inl ⟨A, rfl, by rw [hn]; rfl, rfl⟩, ⟨rfl, rfl, rfl, Nat.le_refl _, fun _ _ _ => rfl⟩, fun g hg => by cases hg⟩
      have hf := Lib.run_firstCells_string (P := Tryz.prog) w 1 s
      rw [hs, hn] at hf
      cases A <;> simp [Builtin.append_, run_underlying bld_und, run_underlying bld_str, sizeOf, typeInfo, hi, hz1, Builtin.lenOf, hs, hf, storeCells]
    · obtain ⟨c1, c2⟩ := hgC s.size 0 hlen
      cases A with
      | none =>
        have hr := run_append_nil_string (P := Tryz.prog) w 79 9 ty 5 i0 _ bld_und bld_str hi hz0 s (by omega) (by omega) (by rw [hz2]; omega)
        have e1 : (s.data.map fun b => Value.int .u8 b.toNat) = (Lib.strCells s).toArray := by
          apply Array.ext'
          simp [Lib.strCells]
        rw [e1] at hr
        obtain ⟨k1, k2⟩ := buf_new w ((Lib.strCells s).toArray ++ Builtin.zeroCells (Value.int .u8 0).cells (grownCap w s.size 0 5 - s.size)) (Lib.strCells s) (grownCap w s.size 0 5)
          (by rw [Array.size_append, size_zeroCells, h0c, List.size_toArray, hl]; omega) (by rw [hl]; exact c1) c2 (by rw [Array.toList_append]; exact List.take_left) none
        rw [hl] at k1
        exact ⟨_, _, _, hr, by rw [List.nil_append]; exact k1, k2, fun g hg => .inr (by cases hg; exact Nat.le_refl _)⟩
      | some a =>
        have hr := Lib.run_append_grow_string (P := Tryz.prog) w 79 9 ty 5 i0 _ bld_und bld_str hi hz0 a 0 0 [] (by simp) (fun j v hj => by simp at hj) s (by omega) (by omega) (by rw [hz2]; exact growslice_fits (by omega) (by omega))
        simp only [Nat.zero_add] at hr
        obtain ⟨k1, k2⟩ := buf_new w (([] : List Value).toArray ++ (Lib.strCells s).toArray ++ Builtin.zeroCells (Value.int .u8 0).cells (grownCap w s.size 0 5 - s.size)) (Lib.strCells s) (grownCap w s.size 0 5)
          (by rw [Array.size_append, Array.size_append, size_zeroCells, h0c, List.size_toArray, List.size_toArray, hl]; simp; omega) (by rw [hl]; exact c1) c2 (by rw [Array.toList_append, Array.toList_append]; exact List.take_left) none
        rw [hl] at k1
        exact ⟨_, _, _, hr, by rw [List.nil_append]; exact k1, k2, fun g hg => .inr (by cases hg; exact Nat.le_refl _)⟩
  · by_cases hroom : xs.length + s.size ≤ cap
    · have hr := Lib.run_append_room_string (P := Tryz.prog) w 79 9 ty 5 i0 bld_und bld_str hi hz1 g xs.length cap cur hg s hroom (by omega)
      have hl2 : (xs ++ Lib.strCells s).length = xs.length + s.size := by rw [List.length_append, hl]
      refine ⟨_, _, some g, hr, .inr ⟨g, cap, _, rfl, by rw [hl2], setRow_heap w g cur _ _ _ hg, by rw [hl2]; exact hroom, hcm, ?_, ?_⟩, ⟨rfl, rfl, rfl, by simp, fun k _ hk => setRow_other w g k _ (fun e => hk (by rw [e]))⟩, fun g' hg' => .inl hg'⟩
      · simp only [List.size_toArray, List.length_append, List.length_take, List.length_drop, Array.length_toList, hl]
        omega
      · rw [ht]
        exact List.take_left
    · have holds : ∀ j u, xs[j]? = some u → w.cell? ((⟨g, 0, none⟩ : Addr).add j) = some u := fun j u hu => by
        have hj := (List.getElem?_eq_some_iff.1 hu).1
        have e : (cur.toList.take xs.length)[j]? = some u := by rw [ht]; exact hu
        rw [List.getElem?_take, if_pos hj] at e
        rw [Addr.add_lit, Nat.zero_add]
        simp only [World.cell?, hg]
        simpa using e
      obtain ⟨c1, c2⟩ := hgC (xs.length + s.size) cap hlen
      have hr := Lib.run_append_grow_string (P := Tryz.prog) w 79 9 ty 5 i0 _ bld_und bld_str hi hz0 ⟨g, 0, none⟩ xs.length cap xs (by rw [hz1]; simp) holds s (by omega) (by omega) (by rw [hz2]; exact growslice_fits (by omega) (by omega))
      have hl2 : (xs ++ Lib.strCells s).length = xs.length + s.size := by rw [List.length_append, hl]
      obtain ⟨k1, k2⟩ := buf_new w (xs.toArray ++ (Lib.strCells s).toArray ++ Builtin.zeroCells (Value.int .u8 0).cells (grownCap w (xs.length + s.size) cap 5 - (xs.length + s.size))) (xs ++ Lib.strCells s) (grownCap w (xs.length + s.size) cap 5)
        (by rw [Array.size_append, Array.size_append, size_zeroCells, h0c, List.size_toArray, List.size_toArray, hl]; omega) (by rw [hl2]; exact c1) c2 (by rw [Array.toList_append, Array.toList_append]; exact List.take_left) (some g)
      rw [hl2] at k1
      exact ⟨_, _, _, hr, k1, k2, fun g' hg' => .inr (by cases hg'; exact Nat.le_refl _)⟩

def bldRen : Go.Shelf.Ren := ⟨fun | 240 => 75 | 276 => 95 | n => n, fun | 0 => 0 | 4 => 4 | 9 => 9 | 20 => 20 | 37 => 79 | 70 => 78 | 72 => 81 | 164 => 126 | n => n, fun | n => n⟩

theorem bldLays : Go.Proofs.Lays.n240 Tryz.prog bldRen := {
  mixed := by kernel_rfl
  f240 := Tryz.func75.trans (congrArg some (by kernel_rfl))
  f276 := Tryz.func95.trans (congrArg some (by kernel_rfl))
  t0 := Tryz.underlying0
  a0 := Tryz.isAgg0
  z0 := Tryz.sizeOf0
  v0 := Tryz.zeroValue0
  t4 := Tryz.underlying4
  a4 := Tryz.isAgg4
  z4 := Tryz.sizeOf4
  v4 := Tryz.zeroValue4
  t9 := Tryz.underlying9
  a9 := Tryz.isAgg9
  z9 := Tryz.sizeOf9
  v9 := Tryz.zeroValue9
  t20 := Tryz.underlying20
  a20 := Tryz.isAgg20
  z20 := Tryz.sizeOf20
  v20 := Tryz.zeroValue20
  t70 := Tryz.underlying78
  a70 := Tryz.isAgg78
  z70 := Tryz.sizeOf78
  v70 := Tryz.zeroValue78
  t72 := Tryz.underlying81
  a72 := Tryz.isAgg81
  z72 := Tryz.sizeOf81
  v72 := Tryz.zeroValue81
  t164 := Tryz.underlying126
  a164 := Tryz.isAgg126
  z164 := Tryz.sizeOf126
  v164 := Tryz.zeroValue126 }

theorem bldX : Builder.X72 Tryz.prog bldRen := ⟨by kernel_rfl, by kernel_rfl⟩

structure Stays (w w' : World) (k : Nat → Prop) : Prop where
  os : w'.os = w.os
  tape : w'.tape = w.tape
  output : w'.output = w.output
  size : w.heap.size ≤ w'.heap.size
  block : ∀ b, b < w.heap.size → k b → w'.heap[b]? = w.heap[b]?

theorem bld_check (b : Nat) (p v : Value) (hp : p = .pointer none ∨ p = .pointer (some ⟨b, 0, none⟩)) (w : World) (hbk : w.heap[b]? = some (.cells #[p, v] 81 (0, 0))) :
    Calls Tryz.prog 75 #[.pointer (some ⟨b, 0, none⟩)] w fun e w' => e = .returned (.tuple #[]) ∧ w'.heap[b]? = some (.cells #[.pointer (some ⟨b, 0, none⟩), v] 81 (0, 0)) ∧ w'.heap.size = w.heap.size ∧ Stays w w' (fun k => k ≠ b) := by
  have hc0 : w.cell? ⟨b, 0, none⟩ = some p := by rw [Lib.cell_of_heap hbk]; rfl
  rcases hp with rfl | rfl
  · refine (Any.Builder_copyCheck_fresh bldLays bldX b w hc0 (by simp [World.shape?, hbk]; rfl) (by simp [World.frozen?, hbk])).mono ?_
    rintro e w' ⟨rfl, rfl⟩
    exact ⟨rfl, by simp [World.setCell, Array.getElem?_modify, hbk], by simp [World.setCell], rfl, rfl, rfl, by simp [World.setCell], fun k _ hk => Below.heap_setCell _ _ _ _ (fun e => hk (by simpa using e))⟩
  · refine (Any.Builder_copyCheck_used bldLays bldX b w hc0).mono ?_
    rintro e w' ⟨rfl, rfl⟩
    exact ⟨rfl, hbk, rfl, rfl, rfl, rfl, Nat.le_refl _, fun _ _ _ => rfl⟩

set_option maxHeartbeats 4000000 in
set_option maxRecDepth 100000 in
theorem bld_write (b : Nat) (p v : Value) (own : Option Nat) (xs : List Value) (s : ByteArray) (hp : p = .pointer none ∨ p = .pointer (some ⟨b, 0, none⟩)) (w : World) (hbk : w.heap[b]? = some (.cells #[p, v] 81 (0, 0)))
    (hbuf : BufAt w v own xs) (hne : own ≠ some b) (hlen : xs.length + s.size ≤ 140737488355328) :
    Calls Tryz.prog 50 #[.pointer (some ⟨b, 0, none⟩), .string s] w fun e w' => e = .returned (.tuple #[.int .i64 s.size, .nilIface]) ∧ ∃ v' own', w'.heap[b]? = some (.cells #[.pointer (some ⟨b, 0, none⟩), v'] 81 (0, 0)) ∧
      BufAt w' v' own' (xs ++ Lib.strCells s) ∧ own' ≠ some b ∧ (∀ g, own' = some g → own = some g ∨ w.heap.size ≤ g) ∧ Stays w w' (fun k => k ≠ b ∧ own ≠ some k) := by
  go_enter Tryz.func50, Tryz.ntmps50
  go_wp2_with (go_at_call 75; refine (bld_check b p v hp _ hbk).mono ?_)
  rintro e w1 ⟨rfl, hb1, hsz, hst⟩
  have hlt : b < w.heap.size := (Array.getElem?_eq_some_iff.1 hbk).1
  have hbuf1 : BufAt w1 v own xs := hbuf.kept fun g hg => by
    rcases hbuf with ⟨A, _, _, h⟩ | ⟨g', cap, cur, h1, h2, h3, _⟩
    · rw [h] at hg; cases hg
    · rw [hg] at h1
      cases h1
      exact hst.block g (Array.getElem?_eq_some_iff.1 h3).1 (fun e => hne (by rw [hg, e]))
  obtain ⟨v', w2, own', hr, hb2, hg2, hn2⟩ := run_app_str w1 79 hbuf1 s hlen
  have c0 : w1.cell? ⟨b, 0, none⟩ = some (.pointer (some ⟨b, 0, none⟩)) := by rw [Lib.cell_of_heap hb1]; rfl
  have c1 : w1.cell? ⟨b, 1, none⟩ = some v := by rw [Lib.cell_of_heap hb1]; rfl
  have hB2 : w2.heap[b]? = some (.cells #[.pointer (some ⟨b, 0, none⟩), v] 81 (0, 0)) := by
    rw [hg2.block b (by omega) (fun e => hne e.symm)]; exact hb1
  have d0 : w2.cell? ⟨b, 0, none⟩ = some (.pointer (some ⟨b, 0, none⟩)) := by rw [Lib.cell_of_heap hB2]; rfl
  have d1 : w2.cell? ⟨b, 1, none⟩ = some v := by rw [Lib.cell_of_heap hB2]; rfl
  have f1 : w2.frozen? ⟨b, 1, none⟩ = false := Lib.frozen_of_heap hB2 1
  have hne2 : own' ≠ some b := fun e => by
    rcases hn2 b e with h | h
    · exact hne h
    · omega
  obtain ⟨ao, n', cap, rfl⟩ : ∃ ao n' cap, v' = .slice ao n' cap := by
    rcases hb2 with ⟨A, h, _⟩ | ⟨g, cap, cur, _, h, _⟩
    · exact ⟨_, _, _, h⟩
    · exact ⟨_, _, _, h⟩
  go_wp2_with (at_builtin; refine Lib.wpList_append_run _ rfl _ _ _ _ rfl _ _ rfl rfl _ _ hr ?_)
  go_ret2
  have hS : ∀ k, k ≠ b → (w2.setCell ⟨b, 1, none⟩ (.slice ao n' cap)).heap[k]? = w2.heap[k]? := fun k hk => Below.heap_setCell _ _ _ _ (fun e => hk (by simpa using e))
  have hZ : (w2.setCell ⟨b, 1, none⟩ (.slice ao n' cap)).heap.size = w2.heap.size := by simp [World.setCell]
  refine ⟨rfl, .slice ao n' cap, own', ?_, hb2.kept fun g hg => hS g (fun e => hne2 (by rw [hg, e])), hne2, fun g hg => by have := hn2 g hg; rw [hsz] at this; exact this, ?_, ?_, ?_, ?_, ?_⟩
  · simp [World.setCell, Array.getElem?_modify, hB2]
  · exact hg2.os.trans hst.os
  · exact hg2.tape.trans hst.tape
  · exact hg2.output.trans hst.output
  · rw [hZ]; have := hg2.size; omega
  · rintro k hk ⟨k1, k2⟩
    rw [hS k k1, hg2.block k (by omega) (fun e => k2 e.symm)]
    exact hst.block k hk k1

theorem frz_block (w : World) (g n k : Nat) (h : k ≠ g) : (w.freeze ⟨g, 0, none⟩ n).heap[k]? = w.heap[k]? := by
  unfold World.freeze
  split
  · rfl
  · simp only [Array.getElem?_modify]
    rw [if_neg (fun e => h e.symm)]

theorem frz_stays (w : World) (g n : Nat) : Stays w (w.drew.freeze ⟨g, 0, none⟩ n) (fun k => k ≠ g) := by
  have h : ∀ k, k ≠ g → (w.drew.freeze ⟨g, 0, none⟩ n).heap[k]? = w.drew.heap[k]? := fun k hk => frz_block _ _ _ _ hk
  refine ⟨?_, ?_, ?_, ?_, fun k _ hk => h k hk⟩
  all_goals (unfold World.freeze; split <;> first | rfl | exact Nat.le_refl _ | (rw [Array.size_modify]; exact Nat.le_refl _))

set_option maxHeartbeats 4000000 in
set_option maxRecDepth 100000 in
theorem bld_string (b g cap : Nat) (p : Value) (cur : Array Value) (l : List UInt8) (w : World) (hbk : w.heap[b]? = some (.cells #[p, .slice (some ⟨g, 0, none⟩) l.length cap] 81 (0, 0)))
    (hg : w.heap[g]? = some (.cells cur 5 (0, 0))) (hle : l.length ≤ cap) (hcap : cap ≤ 9223372036854775807) (hcs : cur.size = cap) (ht : cur.toList.take l.length = Lib.byteCells l) (h0 : l ≠ []) :
    Calls Tryz.prog 55 #[.pointer (some ⟨b, 0, none⟩)] w fun e w' => e = .returned (.string ⟨l.toArray⟩) ∧ Stays w w' (fun k => k ≠ g) := by
  have hl0 : l.length ≠ 0 := by simpa using h0
  have c1 : w.drew.cell? ⟨b, 1, none⟩ = some (.slice (some ⟨g, 0, none⟩) l.length cap) := by
    have : w.drew.heap[b]? = some (.cells #[p, .slice (some ⟨g, 0, none⟩) l.length cap] 81 (0, 0)) := hbk
    rw [Lib.cell_of_heap this]; rfl
  have hSD : (Builtin.unsafeSliceData_ #[79] 116 #[.slice (some ⟨g, 0, none⟩) l.length cap]).run Tryz.prog w.drew = .ok (.pointer (some ⟨g, 0, none⟩)) w.drew :=
    Lib.run_unsafeSliceData_row _ _ _ _ _ _ (by omega)
  have hUS : (Builtin.unsafeString_ #[116, 3] 9 #[.pointer (some ⟨g, 0, none⟩), .int .i64 l.length]).run Tryz.prog w.drew = .ok (.string ⟨l.toArray⟩) (w.drew.freeze ⟨g, 0, none⟩ l.length) := by
    refine Lib.run_unsafeString_row w.drew _ _ _ 5 Tryz.underlying116 (by kernel_rfl) g cur.size (by have hg' : w.drew.heap[g]? = some (.cells cur 5 (0, 0)) := hg; simp [World.shape?, hg']) l h0 (by omega) (by omega) ?_
    intro j x hx
    have hj := (List.getElem?_eq_some_iff.1 hx).1
    have e : (cur.toList.take l.length)[j]? = some (.int .u8 x.toNat) := by rw [ht]; simp [Lib.byteCells, hx]
    rw [List.getElem?_take, if_pos hj] at e
    have hg' : w.drew.heap[g]? = some (.cells cur 5 (0, 0)) := hg
    rw [Addr.add_lit, Nat.zero_add]
    simp only [World.cell?, hg']
    simpa using e
  go_enter Tryz.func55, Tryz.ntmps55
  go_wp2
  go_region
  all_goals (go_wp2; go_ret; exact ⟨rfl, frz_stays w g l.length⟩)

set_option maxHeartbeats 4000000 in
set_option maxRecDepth 100000 in
theorem bld_string_nil (b : Nat) (p : Value) (w : World) (hbk : w.heap[b]? = some (.cells #[p, .slice none 0 0] 81 (0, 0))) :
    Calls Tryz.prog 55 #[.pointer (some ⟨b, 0, none⟩)] w fun e w' => e = .returned (.string ⟨#[]⟩) ∧ Stays w w' (fun _ => True) := by
  have hUS : ∀ W : World, (Builtin.unsafeString_ #[116, 3] 9 #[.pointer none, .int .i64 0]).run Tryz.prog W = .ok (.string .empty) W := fun W => Lib.run_unsafeString_none W _ _ _ _
  have c1 : w.drew.cell? ⟨b, 1, none⟩ = some (.slice none 0 0) := by
    have : w.drew.heap[b]? = some (.cells #[p, .slice none 0 0] 81 (0, 0)) := hbk
    rw [Lib.cell_of_heap this]; rfl
  have hSD : (Builtin.unsafeSliceData_ #[79] 116 #[.slice none 0 0]).run Tryz.prog w.drew = .ok (.pointer none) w.drew := rfl
  go_enter Tryz.func55, Tryz.ntmps55
  go_wp2
  go_region
  all_goals (go_wp2; go_ret; exact ⟨rfl, rfl, rfl, rfl, Nat.le_refl _, fun _ _ _ => rfl⟩)

def F.eU (b : UInt8) : M.Row := [.v (.int .u8 b.toNat)]

def F.eUs (s : ByteArray) : List M.Row := s.data.toList.map F.eU

def F.bldS (o : Option ByteArray) : ByteArray := match o with
  | none => ⟨⟨[]⟩⟩
  | some s => s

def F.bldLen (o : Option ByteArray) : Nat := match o with
  | none => 0
  | some s => s.size

theorem F.bldS_some (s : ByteArray) : F.bldS (some s) = s := rfl

theorem F.bldLen_some (s : ByteArray) : F.bldLen (some s) = s.size := rfl

def F.wstB (o : Option ByteArray) (x : ByteArray) : Bool := decide (F.bldLen o + x.size ≤ 140737488355328)

def F.bstB (o : Option ByteArray) : Bool := o.isNone || decide (0 < (F.bldS o).size)

theorem F.wstB_none {x : ByteArray} (h : x.size ≤ 140737488355328) : F.wstB none x = true := decide_eq_true (by show 0 + x.size ≤ _; omega)

theorem F.wstB_some {s x : ByteArray} (h : s.size + x.size ≤ 140737488355328) : F.wstB (some s) x = true := decide_eq_true h

theorem F.bstB_some {s : ByteArray} (h : 0 < s.size) : F.bstB (some s) = true := by
  have : decide (0 < s.size) = true := decide_eq_true h
  exact this

namespace M

theorem eU_inj (a b : UInt8) (h : F.eU a = F.eU b) : a = b := by
  simp only [F.eU, List.cons.injEq, AV.v.injEq, Value.int.injEq, true_and, and_true] at h
  exact UInt8.toNat_inj.1 (by omega)

theorem eUs_inj {a b : ByteArray} : F.eUs a = F.eUs b ↔ a = b := by
  unfold F.eUs
  rw [List.map_inj_right eU_inj]
  exact ⟨fun h => ByteArray.ext (Array.ext' h), fun h => by rw [h]⟩

theorem eUs_len (s : ByteArray) : (F.eUs s).length = s.size := by
  unfold F.eUs
  rw [List.length_map]
  simp

theorem strCells_app (s x : ByteArray) : Lib.strCells (s ++ x) = Lib.strCells s ++ Lib.strCells x := by
  unfold Lib.strCells
  simp

def bldIn (o : Option ByteArray) : Heap := match o with
  | none => [(900, ⟨true, 81, 0, [[.v (.pointer none), .v (.slice none 0 0)]]⟩)]
  | some s => [(901, ⟨false, 5, 1, F.eUs s⟩), (900, ⟨true, 81, 0, [[.ptr 900 0 0, .own 901]]⟩)]

def bldB (X Y : BI) (kY : Nat) : Nat → Option BI := fun k => if k = 900 then some X else if k = kY then some Y else none

theorem bldB_x (X Y : BI) (kY : Nat) : bldB X Y kY 900 = some X := by unfold bldB; rw [if_pos rfl]

theorem bldB_y (X Y : BI) {kY : Nat} (h : kY ≠ 900) : bldB X Y kY kY = some Y := by unfold bldB; rw [if_neg h, if_pos rfl]

theorem bldB_some {X Y : BI} {kY k : Nat} {x : BI} (h : bldB X Y kY k = some x) : (k = 900 ∧ x = X) ∨ (k = kY ∧ k ≠ 900 ∧ x = Y) := by
  unfold bldB at h
  split at h
  · cases h; exact .inl ⟨‹_›, rfl⟩
  · split at h
    · cases h; exact .inr ⟨‹_›, ‹_›, rfl⟩
    · cases h

theorem arr2 {cs : Array Value} {a b : Value} (h : cs.size = 2) (h0 : cs[0]? = some a) (h1 : cs[1]? = some b) : cs = #[a, b] := by
  refine Array.ext (by simpa using h) fun i hi hj => ?_
  have hi2 : i = 0 ∨ i = 1 := by omega
  rcases hi2 with rfl | rfl
  · have := (Array.getElem?_eq_some_iff.1 h0).2
    simpa using this
  · have := (Array.getElem?_eq_some_iff.1 h1).2
    simpa using this

theorem bld_inv {G : Nat → Option GR} {w w' : World} {S : Nat → Prop} {β : Nat → Option BI} {hin hout : Heap} (inv : InvG G (ownFree w β) w S β hin) {X Y : BI} {kY : Nat} (hk : kY ≠ 900) (hX : β 900 = some X) (hXr : X.real = true)
    {P : Nat → Prop} (st : Stays w w' P) (hP : ∀ b, b < w.heap.size → (∀ k x, β k = some x → x.real = true → x.b ≠ b) → P b)
    (hY : Y.real = true → Y.b < w'.heap.size ∧ Y.b ≠ X.b ∧ ((∃ k y, β k = some y ∧ y.real = true ∧ y.b = Y.b) ∨ w.heap.size ≤ Y.b))
    {bX bY : Blk} (hbX : BlkOK w' S (bldB X Y kY) bX X) (hbY : Y.real = true → BlkOK w' S (bldB X Y kY) bY Y) (hbV : Y.real = false → bY.rows = [] ∧ bY.box = false)
    (h900 : mget hout 900 = some bX) (hkY : mget hout kY = some bY) (honly : ∀ k bl, mget hout k = some bl → k = 900 ∨ k = kY) (hxV : X.real = false → bX.rows = [] ∧ bX.box = false) :
    Blw (ownFree w β) w w' ∧ InvG G (ownFree w β) w' S (bldB X Y kY) hout := by
  obtain ⟨x1, x2, x3⟩ := inv.new 900 X hX hXr
  have hSb : ∀ b, S b → w'.heap[b]? = w.heap[b]? := fun b hb => st.block b (inv.lt b hb) (hP b (inv.lt b hb) fun k x hkx hxr e => (inv.new k x hkx hxr).2.2 (e ▸ hb))
  have hBb : ∀ b, ownFree w β b → w'.heap[b]? = w.heap[b]? := fun b hb => st.block b hb.1 (hP b hb.1 fun k x hkx hxr e => hb.2 ⟨k, x, hkx, hxr, e⟩)
  have hYn : Y.real = true → ¬ ownFree w β Y.b ∧ Y.b < w'.heap.size ∧ ¬ S Y.b := fun hr => by
    obtain ⟨y1, y2, y3⟩ := hY hr
    rcases y3 with ⟨k, y, k1, k2, k3⟩ | hge
    · obtain ⟨n1, n2, n3⟩ := inv.new k y k1 k2
      rw [← k3]
      exact ⟨n1, by rw [k3]; exact y1, n3⟩
    · exact ⟨fun h => by have := h.1; omega, y1, fun h => by have := inv.lt _ h; omega⟩
  refine ⟨⟨st.os, st.tape, st.output, st.size, hBb⟩, fun b hb => Nat.lt_of_lt_of_le (inv.base b hb) st.size, fun b hb => Nat.lt_of_lt_of_le (inv.lt b hb) st.size, ?_, ?_, ?_, ?_, fun g r hg => (inv.glob g r hg).mono hSb fun _ h => h⟩
  · intro k k' x x' h1 h2 r1 r2 e
    rcases bldB_some h1 with ⟨rfl, rfl⟩ | ⟨rfl, _, rfl⟩ <;> rcases bldB_some h2 with ⟨rfl, rfl⟩ | ⟨rfl, _, rfl⟩
    · rfl
    · exact absurd e.symm (hY r2).2.1
    · exact absurd e (hY r1).2.1
    · rfl
  · intro k x h1 r1
    rcases bldB_some h1 with ⟨rfl, rfl⟩ | ⟨rfl, _, rfl⟩
    · exact ⟨x1, Nat.lt_of_lt_of_le x2 st.size, x3⟩
    · exact hYn r1
  · intro k x h1
    rcases bldB_some h1 with ⟨rfl, rfl⟩ | ⟨rfl, _, rfl⟩
    · exact ⟨bX, h900, fun _ => hbX, hxV⟩
    · exact ⟨bY, hkY, hbY, hbV⟩
  · intro k bl h1
    rcases honly k bl h1 with rfl | rfl
    · exact ⟨X, bldB_x _ _ _⟩
    · exact ⟨Y, bldB_y _ _ hk⟩

theorem buf_blk {w : World} {v : Value} {own : Option Nat} {s : ByteArray} (h : BufAt w v own (Lib.strCells s)) :
    ∃ Y : BI, (Y.real = true → own = some Y.b ∧ v = .slice (some ⟨Y.b, 0, none⟩) Y.len Y.cap ∧ Y.b < w.heap.size ∧ ∀ S β, BlkOK w S β ⟨false, 5, 1, F.eUs s⟩ Y) ∧ (Y.real = false → F.eUs s = [] ∧ own = none ∧ ∃ A, v = .slice A 0 0) := by
  have hl := strCells_len s
  rcases h with ⟨A, rfl, h1, rfl⟩ | ⟨g, cap, cur, rfl, rfl, hg, hnc, hcm, hcs, ht⟩
  · refine ⟨⟨false, 0, 0, 0, 0⟩, fun h => (by cases h), fun _ => ⟨?_, rfl, A, rfl⟩⟩
    refine List.eq_nil_of_length_eq_zero ?_
    rw [eUs_len, ← hl, h1]; rfl
  · refine ⟨⟨true, g, s.size, cap, 1⟩, fun _ => ⟨rfl, by rw [hl], (Array.getElem?_eq_some_iff.1 hg).1, fun S β => ?_⟩, fun h => (by cases h)⟩
    refine ⟨cur, 5, hg, by simp only [Nat.mul_one]; exact hcs, eUs_len s, by simp only; omega, hcm, fun _ => ⟨rfl, rfl⟩, (fun h => by cases h), fun i row hi => ?_⟩
    simp only [F.eUs, List.getElem?_map, Option.map_eq_some_iff] at hi
    obtain ⟨b, hb, rfl⟩ := hi
    refine ⟨rfl, fun j a hj => ?_⟩
    have hj0 : j = 0 := by
      have := (List.getElem?_eq_some_iff.1 hj).1
      simp only [F.eU, List.length_singleton] at this; omega
    subst hj0
    simp only [F.eU, List.getElem?_cons_zero, Option.some.injEq] at hj
    subst hj
    have hi2 : (Lib.strCells s)[i]? = some (.int .u8 b.toNat) := by
      unfold Lib.strCells
      rw [List.getElem?_map, hb]; rfl
    have hil := (List.getElem?_eq_some_iff.1 hi2).1
    rw [← ht, List.getElem?_take, if_pos hil] at hi2
    refine ⟨.int .u8 b.toNat, by simpa using hi2, ?_⟩
    have hlt := b.toNat_lt
    have hok : okAtom (.int .u8 b.toNat) := by
      show IntKind.u8.min ≤ _ ∧ _ ≤ IntKind.u8.max
      simp only [IntKind.min, IntKind.max, IntKind.signed, IntKind.bits]
      simp
      omega
    simpa using R0.v (w := w) (S := S) hok

theorem blk_buf {w : World} {S : Nat → Prop} {β : Nat → Option BI} {s : ByteArray} {Z : BI} (h : BlkOK w S β ⟨false, 5, 1, F.eUs s⟩ Z) : BufAt w (.slice (some ⟨Z.b, 0, none⟩) Z.len Z.cap) (some Z.b) (Lib.strCells s) := by
  obtain ⟨cs, ty, c1, c2, c3, c4, c5, c6, c7, c8⟩ := h
  obtain ⟨c61, c62⟩ := c6 rfl
  have hl := strCells_len s
  simp only at c61 c62 c3
  rw [eUs_len] at c3
  rw [c61] at c1
  refine .inr ⟨Z.b, Z.cap, cs, rfl, by rw [hl, c3], c1, by omega, c5, by rw [c2, c62]; simp, ?_⟩
  refine List.ext_getElem? fun i => ?_
  rw [List.getElem?_take]
  split
  · rename_i hi
    have hi2 : i < s.data.toList.length := by rw [hl] at hi; simpa using hi
    have hb : s.data.toList[i]? = some s.data.toList[i] := List.getElem?_eq_getElem hi2
    generalize s.data.toList[i] = b at hb
    obtain ⟨_, c9⟩ := c8 i (F.eU b) (by simp only [F.eUs, List.getElem?_map, hb]; rfl)
    obtain ⟨v, hv, hr⟩ := c9 0 (vU b.toNat) rfl
    rw [c62] at hv
    have hr : R0 w S (vU b.toNat) v := by simpa using hr
    cases hr
    unfold Lib.strCells
    rw [List.getElem?_map, hb]
    simpa using hv
  · rename_i hi
    rw [List.getElem?_eq_none (by omega)]

theorem box_blk {w : World} {S : Nat → Prop} {X Y : BI} {kY : Nat} (hk : kY ≠ 900) {v : Value} (hXr : X.real = true) (h : w.heap[X.b]? = some (.cells #[.pointer (some ⟨X.b, 0, none⟩), v] 81 (0, 0))) (hXs : X.size = 2) (hXl : X.len = 1) (hXc : X.cap = 1)
    (hv1 : Y.real = true → v = .slice (some ⟨Y.b, 0, none⟩) Y.len Y.cap) (hv2 : Y.real = false → ∃ A, v = .slice A 0 0) : BlkOK w S (bldB X Y kY) ⟨true, 81, 0, [[.ptr 900 0 0, .own kY]]⟩ X := by
  refine ⟨_, _, h, by rw [hXs, hXc]; rfl, hXl.symm, by omega, by omega, (fun h => by cases h), fun _ => ⟨fun _ => hXc, fun h => absurd rfl h, .inr rfl⟩, fun i row hi => ?_⟩
  have hi0 : i = 0 := by
    have := (List.getElem?_eq_some_iff.1 hi).1
    simp at this; exact this
  subst hi0
  cases hi
  refine ⟨hXs.symm, fun j a hj => ?_⟩
  have hj2 : j < 2 := (List.getElem?_eq_some_iff.1 hj).1
  have hj3 : j = 0 ∨ j = 1 := by omega
  rcases hj3 with rfl | rfl
  · cases hj
    exact ⟨.pointer (some ⟨X.b, 0, none⟩), by rw [Nat.zero_mul]; rfl, X, bldB_x _ _ _, hXr, by simp⟩
  · cases hj
    exact ⟨v, by rw [Nat.zero_mul]; rfl, Y, bldB_y _ _ hk, hv1, hv2⟩

theorem bld_open {G : Nat → Option GR} {w : World} {S : Nat → Prop} {β : Nat → Option BI} {o : Option ByteArray} {u : Value} (inv : InvG G (ownFree w β) w S β (bldIn o)) (h : RV w S β (.ptr 900 0 0) u) :
    ∃ X p v own xs, β 900 = some X ∧ X.real = true ∧ X.size = 2 ∧ X.len = 1 ∧ X.cap = 1 ∧ u = .pointer (some ⟨X.b, 0, none⟩) ∧ (p = .pointer none ∨ p = .pointer (some ⟨X.b, 0, none⟩)) ∧ w.heap[X.b]? = some (.cells #[p, v] 81 (0, 0)) ∧
      BufAt w v own xs ∧ own ≠ some X.b ∧ (match o with | none => xs = [] ∧ own = none | some s => xs = Lib.strCells s) ∧ (∀ g, own = some g → ∃ k y, β k = some y ∧ y.real = true ∧ y.b = g) ∧ X.b < w.heap.size := by
  obtain ⟨X, hX, hXr, rfl⟩ : ∃ x, β 900 = some x ∧ x.real = true ∧ u = .pointer (some ⟨x.b, 0 * x.size + 0, none⟩) := h
  obtain ⟨bl, hb, h3, _⟩ := inv.dom 900 X hX
  obtain ⟨cs, ty, c1, c2, c3, c4, c5, c6, c7, c8⟩ := h3 hXr
  have hT : (81 : Nat) ≠ 0 := by decide
  cases o with
  | none =>
    have hb0 : some (⟨true, 81, 0, [[.v (.pointer none), .v (.slice none 0 0)]]⟩ : Blk) = some bl := hb
    cases hb0
    obtain ⟨d1, _, d2⟩ := c7 rfl
    have d1 := d1 rfl
    have d2 : ty = 81 := d2.resolve_left hT
    obtain ⟨e1, e2⟩ := c8 0 _ rfl
    have e1 : X.size = 2 := e1.symm
    obtain ⟨v0, f0, g0⟩ := e2 0 _ rfl
    obtain ⟨v1, f1, g1⟩ := e2 1 _ rfl
    have g0 : R0 w S (.v (.pointer none)) v0 := g0
    cases g0
    have g1 : R0 w S (.v (.slice none 0 0)) v1 := g1
    cases g1
    rw [Nat.zero_mul] at f0 f1
    have hcs := arr2 (by rw [c2, d1, e1]) f0 f1
    rw [hcs, d2] at c1
    exact ⟨X, _, _, none, [], hX, hXr, e1, c3.symm, d1, by simp, .inl rfl, c1, .inl ⟨none, rfl, rfl, rfl⟩, (by simp), ⟨rfl, rfl⟩, (fun g h => by cases h), (inv.new 900 X hX hXr).2.1⟩
  | some s =>
    have hb0 : some (⟨true, 81, 0, [[.ptr 900 0 0, .own 901]]⟩ : Blk) = some bl := hb
    cases hb0
    obtain ⟨d1, _, d2⟩ := c7 rfl
    have d1 := d1 rfl
    have d2 : ty = 81 := d2.resolve_left hT
    obtain ⟨e1, e2⟩ := c8 0 _ rfl
    have e1 : X.size = 2 := e1.symm
    obtain ⟨v0, f0, g0⟩ := e2 0 _ rfl
    obtain ⟨v1, f1, g1⟩ := e2 1 _ rfl
    obtain ⟨X', hX', _, rfl⟩ : ∃ x, β 900 = some x ∧ x.real = true ∧ v0 = .pointer (some ⟨x.b, 0 * x.size + 0, none⟩) := g0
    rw [hX] at hX'
    cases hX'
    obtain ⟨Z, hZ, z1, z2⟩ : ∃ x, β 901 = some x ∧ (x.real = true → v1 = .slice (some ⟨x.b, 0, none⟩) x.len x.cap) ∧ (x.real = false → ∃ A, v1 = .slice A 0 0) := g1
    rw [Nat.zero_mul] at f0 f1
    have hcs := arr2 (by rw [c2, d1, e1]) f0 f1
    rw [hcs, d2] at c1
    obtain ⟨bl2, hb2, h4, h5⟩ := inv.dom 901 Z hZ
    have hb3 : some (⟨false, 5, 1, F.eUs s⟩ : Blk) = some bl2 := hb2
    cases hb3
    cases hr : Z.real
    · obtain ⟨A, rfl⟩ := z2 hr
      have h6 : F.eUs s = [] := (h5 hr).1
      have h7 : Lib.strCells s = [] := List.eq_nil_of_length_eq_zero (by rw [strCells_len, ← eUs_len, h6]; rfl)
      exact ⟨X, _, _, none, _, hX, hXr, e1, c3.symm, d1, by simp, .inr (by simp), c1, .inl ⟨A, rfl, h7, rfl⟩, (by simp), rfl, (fun g h => by cases h), (inv.new 900 X hX hXr).2.1⟩
    · have hne : Z.b ≠ X.b := fun e => by
        have := inv.inj 901 900 Z X hZ hX hr hXr e
        omega
      rw [z1 hr] at c1
      exact ⟨X, _, _, some Z.b, _, hX, hXr, e1, c3.symm, d1, by simp, .inr (by simp), c1, blk_buf (h4 hr), (by simpa using hne), rfl, (fun g h => ⟨901, Z, hZ, hr, by cases h; rfl⟩), (inv.new 900 X hX hXr).2.1⟩

def encWst (a : Option ByteArray × ByteArray) : List AV × Heap := ([.ptr 900 0 0, vS a.2], bldIn a.1)

theorem encWst_inj (a a' : Option ByteArray × ByteArray) (h : encWst a = encWst a') : a = a' := by
  obtain ⟨o, x⟩ := a
  obtain ⟨o', x'⟩ := a'
  unfold encWst at h
  simp only [Prod.mk.injEq, List.cons.injEq, AV.v.injEq, Value.string.injEq, true_and, and_true] at h
  obtain ⟨rfl, h⟩ := h
  cases o with
  | none => cases o' with
    | none => rfl
    | some s => simp [bldIn] at h
  | some s => cases o' with
    | none => simp [bldIn] at h
    | some s' =>
      simp only [bldIn, List.cons.injEq, Prod.mk.injEq, Blk.mk.injEq, true_and, and_true] at h
      rw [eUs_inj.1 h]

theorem unWst (x : ByteArray) : unenc encWst (([.ptr 900 0 0, (vS x)], [(900, Blk.mk true 81 0 [[AV.v (Value.pointer none), AV.v (Value.slice none (0 : Nat) (0 : Nat))]])])) = some (none, x) := unenc_of encWst_inj (none, x) rfl

theorem unWstU (s : ByteArray) (x : ByteArray) : unenc encWst (([.ptr 900 0 0, (vS x)], [(901, Blk.mk false 5 1 (F.eUs s)), (900, Blk.mk true 81 0 [[.ptr 900 0 0, .own 901]])])) = some (some s, x) := unenc_of encWst_inj (some s, x) rfl

def preWst1 (o : Option ByteArray) (x : ByteArray) : Bool := F.wstB o x

def resWst (a : Option ByteArray × ByteArray) : T (AV × Heap × List Nat) := .ifB a.1.isNone
  (.ret (.tup [vI a.2.size, .v .nilIface], [(900, ⟨true, 81, 0, [[.ptr 900 0 0, .own 0]]⟩), (0, ⟨false, 5, 1, F.eUs a.2⟩)], []))
  (.ret (.tup [vI a.2.size, .v .nilIface], [(901, ⟨false, 5, 1, F.eUs (F.bldS a.1 ++ a.2)⟩), (900, ⟨true, 81, 0, [[.ptr 900 0 0, .own 901]]⟩)], [901]))

noncomputable def oWst : OrcH := orcT 50 encWst (fun a => preWst1 a.1 a.2) resWst

theorem okWst : OrcHOK Tryz.prog noG oWst := by
  refine orcT_ok ⟨Tryz.f50, by kernel_rfl, by kernel_rfl, by kernel_rfl⟩ (fun a r hp hk1 hk2 hr => ?_)
  obtain ⟨o, x⟩ := a
  have hp : decide (F.bldLen o + x.size ≤ 140737488355328) = true := hp
  have hp : F.bldLen o + x.size ≤ 140737488355328 := of_decide_eq_true hp
  have hx : x.size ≤ 9223372036854775807 := okA_v (hk1 (vS x) (by simp [encWst]))
  intro w S β cargs inv hargs
  match cargs, hargs with
  | [u, vx], ⟨h1, h2, _⟩ =>
    have hvx : vx = .string x := (rv_v h2).1
    subst hvx
    obtain ⟨X, p, v, own, xs, hX, hXr, hXs, hXl, hXc, rfl, hp2, hbk, hbuf, hne, ho, hown, hlt⟩ := bld_open (o := o) inv h1
    have hlen : xs.length + x.size ≤ 140737488355328 := by
      cases o with
      | none => rw [ho.1]; simpa [F.bldLen] using hp
      | some s => rw [show xs = Lib.strCells s from ho, strCells_len]; exact hp
    refine (bld_write X.b p v own xs x hp2 w hbk hbuf hne hlen).mono ?_
    rintro e w' ⟨rfl, v', own', k1, k2, k3, k4, k5⟩
    have hP : ∀ b, b < w.heap.size → (∀ k x, β k = some x → x.real = true → x.b ≠ b) → b ≠ X.b ∧ own ≠ some b := fun b _ hb => ⟨fun e => hb 900 X hX hXr e.symm, fun e => by
      obtain ⟨k, y, y1, y2, y3⟩ := hown b e
      exact hb k y y1 y2 y3⟩
    have ret : RV w' S (fun _ => none) (.tup [vI x.size, .v .nilIface]) (.tuple #[.int .i64 x.size, .nilIface]) := by
      refine ⟨[.int .i64 x.size, .nilIface], rfl, ?_, ?_, trivial⟩
      · have hok : okAtom (.int .i64 (x.size : Int)) := by
          show IntKind.i64.min ≤ _ ∧ _ ≤ IntKind.i64.max
          simp only [IntKind.min, IntKind.max, IntKind.signed, IntKind.bits]
          simp
          omega
        exact R0.v (w := w') (S := S) hok
      · exact R0.v (w := w') (S := S) (x := .nilIface) trivial
    cases o with
    | none =>
      have hr : (.tup [vI x.size, .v .nilIface], [(900, ⟨true, 81, 0, [[.ptr 900 0 0, .own 0]]⟩), (0, ⟨false, 5, 1, F.eUs x⟩)], []) = r := Option.some.inj hr
      subst hr
      rw [ho.1, List.nil_append] at k2
      obtain ⟨Y, y1, y2⟩ := buf_blk k2
      obtain ⟨f1, f2⟩ := bld_inv inv (kY := 0) (by omega) hX hXr k5 hP (Y := Y) (fun hr => by
          obtain ⟨z1, z2, z3, z4⟩ := y1 hr
          refine ⟨z3, fun e => k3 (by rw [z1, e]), ?_⟩
          rcases k4 _ z1 with h | h
          · exact .inl (hown _ h)
          · exact .inr h)
        (box_blk (by omega) hXr k1 hXs hXl hXc (fun hr => (y1 hr).2.1) (fun hr => (y2 hr).2.2)) (fun hr => (y1 hr).2.2.2 _ _) (fun hr => ⟨(y2 hr).1, rfl⟩)
        (hout := [(900, ⟨true, 81, 0, [[.ptr 900 0 0, .own 0]]⟩), (0, ⟨false, 5, 1, F.eUs x⟩)]) rfl rfl (fun k bl hk => by
          simp only [mget] at hk
          split at hk
          · rename_i h; exact .inl (beq_true.1 h)
          · split at hk
            · rename_i h; exact .inr (beq_true.1 h)
            · cases hk) (fun h => by rw [hXr] at h; cases h)
      refine ⟨_, S, _, rfl, f1, fun _ h => h, fun _ h => .inl h, f2, fun k y hk _ hy => ?_, ret.mono (fun _ _ => rfl) (fun _ h => h) fun k _ x hx => (by cases hx)⟩
      rcases bldB_some hy with ⟨rfl, rfl⟩ | ⟨rfl, _, rfl⟩
      · exact hX
      · exact absurd hk (by simp [inK])
    | some s =>
      have hr : (.tup [vI x.size, .v .nilIface], [(901, ⟨false, 5, 1, F.eUs (s ++ x)⟩), (900, ⟨true, 81, 0, [[.ptr 900 0 0, .own 901]]⟩)], [901]) = r := Option.some.inj hr
      subst hr
      rw [show xs = Lib.strCells s from ho, ← strCells_app] at k2
      obtain ⟨Y, y1, y2⟩ := buf_blk k2
      obtain ⟨f1, f2⟩ := bld_inv inv (kY := 901) (by omega) hX hXr k5 hP (Y := Y) (fun hr => by
          obtain ⟨z1, z2, z3, z4⟩ := y1 hr
          refine ⟨z3, fun e => k3 (by rw [z1, e]), ?_⟩
          rcases k4 _ z1 with h | h
          · exact .inl (hown _ h)
          · exact .inr h)
        (box_blk (by omega) hXr k1 hXs hXl hXc (fun hr => (y1 hr).2.1) (fun hr => (y2 hr).2.2)) (fun hr => (y1 hr).2.2.2 _ _) (fun hr => ⟨(y2 hr).1, rfl⟩)
        (hout := [(901, ⟨false, 5, 1, F.eUs (s ++ x)⟩), (900, ⟨true, 81, 0, [[.ptr 900 0 0, .own 901]]⟩)]) rfl rfl (fun k bl hk => by
          simp only [mget] at hk
          split at hk
          · rename_i h; exact .inr (beq_true.1 h)
          · split at hk
            · rename_i h; exact .inl (beq_true.1 h)
            · cases hk) (fun h => by rw [hXr] at h; cases h)
      refine ⟨_, S, _, rfl, f1, fun _ h => h, fun _ h => .inl h, f2, fun k y hk hm hy => ?_, ret.mono (fun _ _ => rfl) (fun _ h => h) fun k _ x hx => (by cases hx)⟩
      rcases bldB_some hy with ⟨rfl, rfl⟩ | ⟨rfl, _, rfl⟩
      · exact hX
      · exact absurd (List.mem_singleton.2 rfl) hm

theorem okBstU (s : ByteArray) (hp : decide (0 < s.size) = true) : SpecH Tryz.prog noG 55 [.ptr 900 0 0] [(901, ⟨false, 5, 1, F.eUs s⟩), (900, ⟨true, 81, 0, [[.ptr 900 0 0, .own 901]]⟩)] (vS s) [(901, ⟨false, 5, 1, []⟩), (900, ⟨true, 81, 0, [[.ptr 900 0 0, .unk]]⟩)] [901] := by
  have hp : 0 < s.size := of_decide_eq_true hp
  intro w S β cargs inv hargs
  match cargs, hargs with
  | [u], ⟨h1, _⟩ =>
    obtain ⟨X, p, v, own, xs, hX, hXr, hXs, hXl, hXc, rfl, hp2, hbk, hbuf, hne, ho, hown, hlt⟩ := bld_open (o := some s) inv h1
    have ho : xs = Lib.strCells s := ho
    subst ho
    rcases hbuf with ⟨A, _, h, _⟩ | ⟨g, cap, cur, rfl, rfl, hg, hnc, hcm, hcs, ht⟩
    · have := strCells_len s
      rw [h] at this
      simp at this; omega
    have hl : (Lib.strCells s).length = s.data.toList.length := by rw [strCells_len]; simp
    rw [hl] at hbk hnc ht
    have hgX : g ≠ X.b := fun e => hne (by rw [e])
    refine (bld_string X.b g cap p cur s.data.toList w hbk hg hnc hcm hcs ht (fun e => by
      have : s.data.toList.length = s.size := by simp
      rw [e] at this; simp at this; omega)).mono ?_
    rintro e w' ⟨rfl, st⟩
    have hsz : s.size ≤ 9223372036854775807 := by
      have : s.data.toList.length = s.size := by simp
      omega
    have hb2 : w'.heap[X.b]? = some (.cells #[p, .slice (some ⟨g, 0, none⟩) s.data.toList.length cap] 81 (0, 0)) := by
      rw [st.block X.b hlt (fun e => hgX e.symm)]; exact hbk
    have hpp : p = .pointer (some ⟨X.b, 0, none⟩) ∨ p = .pointer none := hp2.symm
    have hpX : p = .pointer (some ⟨X.b, 0, none⟩) := by
      obtain ⟨bl, hb, h3, _⟩ := inv.dom 900 X hX
      have hb0 : some (⟨true, 81, 0, [[.ptr 900 0 0, .own 901]]⟩ : Blk) = some bl := hb
      cases hb0
      obtain ⟨cs, ty, c1, c2, c3, c4, c5, c6, c7, c8⟩ := h3 hXr
      obtain ⟨e1, e2⟩ := c8 0 _ rfl
      obtain ⟨v0, f0, g0⟩ := e2 0 _ rfl
      obtain ⟨X', hX', _, rfl⟩ : ∃ x, β 900 = some x ∧ x.real = true ∧ v0 = .pointer (some ⟨x.b, 0 * x.size + 0, none⟩) := g0
      rw [hX] at hX'
      cases hX'
      rw [hbk] at c1
      cases c1
      rw [Nat.zero_mul] at f0
      exact (Option.some.inj f0)
    have hbX : BlkOK w' S (bldB X ⟨false, 0, 0, 0, 0⟩ 901) ⟨true, 81, 0, [[.ptr 900 0 0, .unk]]⟩ X := by
      refine ⟨_, _, hb2, by rw [hXs, hXc]; rfl, hXl.symm, by omega, by omega, (fun h => by cases h), fun _ => ⟨fun _ => hXc, fun h => absurd rfl h, .inr rfl⟩, fun i row hi => ?_⟩
      have hi0 : i = 0 := by
        have := (List.getElem?_eq_some_iff.1 hi).1
        simp at this; exact this
      subst hi0
      cases hi
      refine ⟨hXs.symm, fun j a hj => ?_⟩
      have hj2 : j < 2 := (List.getElem?_eq_some_iff.1 hj).1
      have hj3 : j = 0 ∨ j = 1 := by omega
      rcases hj3 with rfl | rfl
      · cases hj
        exact ⟨p, by rw [Nat.zero_mul]; rfl, X, bldB_x _ _ _, hXr, by simp [hpX]⟩
      · cases hj
        exact ⟨.slice (some ⟨g, 0, none⟩) s.data.toList.length cap, by rw [Nat.zero_mul]; rfl, R0.unk (w := w') (S := S) rfl⟩
    obtain ⟨f1, f2⟩ := bld_inv inv (kY := 901) (by omega) hX hXr st (fun b _ hb => fun e => by
        obtain ⟨k, y, y1, y2, y3⟩ := hown g rfl
        exact hb k y y1 y2 (by rw [y3, e])) (Y := ⟨false, 0, 0, 0, 0⟩) (fun h => by cases h) hbX (fun h => by cases h) (bY := ⟨false, 5, 1, []⟩) (fun _ => ⟨rfl, rfl⟩)
        (hout := [(901, ⟨false, 5, 1, []⟩), (900, ⟨true, 81, 0, [[.ptr 900 0 0, .unk]]⟩)]) rfl rfl (fun k bl hk => by
          simp only [mget] at hk
          split at hk
          · rename_i h; exact .inr (beq_true.1 h)
          · split at hk
            · rename_i h; exact .inl (beq_true.1 h)
            · cases hk) (fun h => by rw [hXr] at h; cases h)
    refine ⟨_, S, _, rfl, f1, fun _ h => h, fun _ h => .inl h, f2, fun k y hk hm hy => ?_, rv_mk (show okAtom (.string s) from hsz)⟩
    rcases bldB_some hy with ⟨rfl, rfl⟩ | ⟨rfl, _, rfl⟩
    · exact hX
    · exact absurd (List.mem_singleton.2 rfl) hm

def encBst (o : Option ByteArray) : List AV × Heap := ([.ptr 900 0 0], bldIn o)

theorem encBst_inj (a a' : Option ByteArray) (h : encBst a = encBst a') : a = a' := by
  have := encWst_inj (a, ⟨⟨[]⟩⟩) (a', ⟨⟨[]⟩⟩) (by
    unfold encBst at h
    unfold encWst
    simp only [Prod.mk.injEq, true_and] at h ⊢
    exact h)
  exact (Prod.mk.inj this).1

theorem unBst : unenc encBst (([.ptr 900 0 0], [(900, Blk.mk true 81 0 [[AV.v (Value.pointer none), AV.v (Value.slice none (0 : Nat) (0 : Nat))]])])) = some none := unenc_of encBst_inj none rfl

theorem unBstU (s : ByteArray) : unenc encBst (([.ptr 900 0 0], [(901, Blk.mk false 5 1 (F.eUs s)), (900, Blk.mk true 81 0 [[.ptr 900 0 0, .own 901]])])) = some (some s) := unenc_of encBst_inj (some s) rfl

def preBst1 (o : Option ByteArray) : Bool := F.bstB o

def resBst (o : Option ByteArray) : T (AV × Heap × List Nat) := .ifB o.isNone
  (.ret (vS ⟨⟨[]⟩⟩, [(900, ⟨true, 81, 0, [[.v (.pointer none), .v (.slice none 0 0)]]⟩)], []))
  (.ret (vS (F.bldS o), [(901, ⟨false, 5, 1, []⟩), (900, ⟨true, 81, 0, [[.ptr 900 0 0, .unk]]⟩)], [901]))

noncomputable def oBst : OrcH := orcT 55 encBst preBst1 resBst

theorem okBst : OrcHOK Tryz.prog noG oBst := by
  refine orcT_ok ⟨Tryz.f55, by kernel_rfl, by kernel_rfl, by kernel_rfl⟩ (fun o r hp _ _ hr => ?_)
  cases o with
  | none =>
    have hr : (vS ⟨⟨[]⟩⟩, [(900, ⟨true, 81, 0, [[.v (.pointer none), .v (.slice none 0 0)]]⟩)], []) = r := Option.some.inj hr
    subst hr
    intro w S β cargs inv hargs
    match cargs, hargs with
    | [u], ⟨h1, _⟩ =>
      obtain ⟨X, hX, hXr, rfl⟩ : ∃ x, β 900 = some x ∧ x.real = true ∧ u = .pointer (some ⟨x.b, 0 * x.size + 0, none⟩) := h1
      obtain ⟨bl, hb, h3, _⟩ := inv.dom 900 X hX
      have hb0 : some (⟨true, 81, 0, [[.v (.pointer none), .v (.slice none 0 0)]]⟩ : Blk) = some bl := hb
      cases hb0
      obtain ⟨cs, ty, c1, c2, c3, c4, c5, c6, c7, c8⟩ := h3 hXr
      have hT : (81 : Nat) ≠ 0 := by decide
      obtain ⟨d1, _, d2⟩ := c7 rfl
      have d1 := d1 rfl
      have d2 : ty = 81 := d2.resolve_left hT
      obtain ⟨e1, e2⟩ := c8 0 _ rfl
      have e1 : X.size = 2 := e1.symm
      obtain ⟨v0, f0, g0⟩ := e2 0 _ rfl
      obtain ⟨v1, f1, g1⟩ := e2 1 _ rfl
      have g0 : R0 w S (.v (.pointer none)) v0 := g0
      cases g0
      have g1 : R0 w S (.v (.slice none 0 0)) v1 := g1
      cases g1
      rw [Nat.zero_mul] at f0 f1
      have hcs := arr2 (by rw [c2, d1, e1]) f0 f1
      rw [hcs, d2] at c1
      rw [show (0 * X.size + 0) = 0 by simp]
      refine (bld_string_nil X.b _ w c1).mono ?_
      rintro e w' ⟨rfl, st⟩
      have hO : ∀ b, b < w.heap.size → w'.heap[b]? = w.heap[b]? := fun b hb => st.block b hb trivial
      refine ⟨_, S, β, rfl, ⟨st.os, st.tape, st.output, st.size, fun b hb => hO b hb.1⟩, fun _ h => h, fun _ h => .inl h, ?_, fun _ _ _ _ h => h, R0.v (w := w') (S := S) (x := .string ⟨#[]⟩) (by show (0 : Nat) ≤ _; omega)⟩
      have g : Gr (ownFree w β) w S β w' S β := ⟨⟨st.os, st.tape, st.output, st.size, fun b hb => hO b hb.1⟩, fun b hb => hO b (inv.lt b hb), fun _ h => h, fun _ h => .inl h, fun _ _ h => h, fun _ _ _ h => h⟩
      exact ⟨fun b hb => Nat.lt_of_lt_of_le (inv.base b hb) st.size, fun b hb => Nat.lt_of_lt_of_le (inv.lt b hb) st.size, inv.inj, fun k x hx hr => by
          obtain ⟨n1, n2, n3⟩ := inv.new k x hx hr
          exact ⟨n1, Nat.lt_of_lt_of_le n2 st.size, n3⟩, fun k x hx => by
          obtain ⟨bl, a1, a2, a3⟩ := inv.dom k x hx
          exact ⟨bl, a1, fun hr => (a2 hr).go g (hO _ (inv.new k x hx hr).2.1), a3⟩, inv.cov, fun gl row hg => (inv.glob gl row hg).mono g.keep g.sub⟩
  | some s =>
    have hr : (vS s, [(901, ⟨false, 5, 1, []⟩), (900, ⟨true, 81, 0, [[.ptr 900 0 0, .unk]]⟩)], [901]) = r := Option.some.inj hr
    subst hr
    have hp : decide (0 < s.size) = true := hp
    exact okBstU s hp

end M

namespace M

theorem eUs_app (s x : ByteArray) : F.eUs (s ++ x) = F.eUs s ++ F.eUs x := by
  unfold F.eUs
  simp

def encCkk (s : ByteArray) : List AV × Heap := ([.ptr 900 0 0], bldIn (some s))

theorem encCkk_inj (a a' : ByteArray) (h : encCkk a = encCkk a') : a = a' := Option.some.inj (encBst_inj (some a) (some a') h)

theorem unCkk (s : ByteArray) : unenc encCkk (([.ptr 900 0 0], [(901, Blk.mk false 5 1 (F.eUs s)), (900, Blk.mk true 81 0 [[.ptr 900 0 0, .own 901]])])) = some s := unenc_of encCkk_inj s rfl

def preCkk1 (s : ByteArray) : Bool := true

def resCkk (s : ByteArray) : T (AV × Heap × List Nat) := .ret (.tup [], [(901, ⟨false, 5, 1, F.eUs s⟩), (900, ⟨true, 81, 0, [[.ptr 900 0 0, .own 901]]⟩)], [])

noncomputable def oCkk : OrcH := orcT 75 encCkk preCkk1 resCkk

theorem okCkk : OrcHOK Tryz.prog noG oCkk := by
  refine orcT_ok ⟨Tryz.f75, by kernel_rfl, by kernel_rfl, by kernel_rfl⟩ (fun s r hp _ _ hr => ?_)
  have hr : (.tup [], [(901, ⟨false, 5, 1, F.eUs s⟩), (900, ⟨true, 81, 0, [[.ptr 900 0 0, .own 901]]⟩)], []) = r := Option.some.inj hr
  subst hr
  intro w S β cargs inv hargs
  match cargs, hargs with
  | [u], ⟨h1, _⟩ =>
    obtain ⟨X, p, v, own, xs, hX, hXr, hXs, hXl, hXc, rfl, hp2, hbk, hbuf, hne, ho, hown, hlt⟩ := bld_open (o := some s) inv h1
    have hpX : p = .pointer (some ⟨X.b, 0, none⟩) := by
      obtain ⟨bl, hb, h3, _⟩ := inv.dom 900 X hX
      have hb0 : some (⟨true, 81, 0, [[.ptr 900 0 0, .own 901]]⟩ : Blk) = some bl := hb
      cases hb0
      obtain ⟨cs, ty, c1, c2, c3, c4, c5, c6, c7, c8⟩ := h3 hXr
      obtain ⟨e1, e2⟩ := c8 0 _ rfl
      obtain ⟨v0, f0, g0⟩ := e2 0 _ rfl
      obtain ⟨X', hX', _, rfl⟩ : ∃ x, β 900 = some x ∧ x.real = true ∧ v0 = .pointer (some ⟨x.b, 0 * x.size + 0, none⟩) := g0
      rw [hX] at hX'
      cases hX'
      rw [hbk] at c1
      cases c1
      rw [Nat.zero_mul] at f0
      exact (Option.some.inj f0)
    subst hpX
    have hc0 : w.cell? ⟨X.b, 0, none⟩ = some (.pointer (some ⟨X.b, 0, none⟩)) := by rw [Lib.cell_of_heap hbk]; rfl
    refine (Any.Builder_copyCheck_used bldLays bldX X.b w hc0).mono ?_
    rintro e w' ⟨rfl, rfl⟩
    exact ⟨_, S, β, rfl, ⟨rfl, rfl, rfl, Nat.le_refl _, fun _ _ => rfl⟩, fun _ h => h, fun _ h => .inl h, inv, fun _ _ _ _ h => h, ⟨[], rfl, trivial⟩⟩

noncomputable def enWby : Env := envH ty noG lks [] [oCkk] [901] []

theorem enWby_ok : EnvOK Tryz.prog enWby := by
  refine envH_ok lks_ok ty_ok ?_ ?_
  · simp
  · simp only [List.forall_mem_cons]
    exact ⟨okCkk, by simp⟩

theorem evWby (s : ByteArray) : (runH enWby [901] Tryz.f51 [.ptr 900 0 0, vU 10] [(901, ⟨false, 5, 1, F.eUs s⟩), (900, ⟨true, 81, 0, [[.ptr 900 0 0, .own 901]]⟩)]).val =
  Option.bind (unenc encCkk ([.ptr 900 0 0], [(901, Blk.mk false 5 1 (F.eUs s)), (900, Blk.mk true 81 0 [[.ptr 900 0 0, .own 901]])])) fun (z : ByteArray) => bif Nat.ble
  ((List.length (F.eUs z) + (1 : Nat)) * (1 : Nat)) (140737488355328 : Nat) && true then some (AV.v Value.nilIface, [(901, Blk.mk false 5 1 (F.eUs z ++ [[(vU (10 :
  Int))]])), (900, Blk.mk true 81 0 [[.ptr 900 0 0, .own 901]])], [(901 : Nat)]) else none := (runHR_val).symm.trans (by kernel_rfl)

def encWby1 (s : ByteArray) : List AV × Heap := ([.ptr 900 0 0, vU 10], [(901, ⟨false, 5, 1, F.eUs s⟩), (900, ⟨true, 81, 0, [[.ptr 900 0 0, .own 901]]⟩)])

def encWby (a : ByteArray) : List AV × Heap := encWby1 a

theorem encWby_inj (a a' : ByteArray) (h : encWby a = encWby a') : a = a' := by
  simp only [encWby, encWby1] at h
  try simp [eUs_inj, strs_inj, ints_inj, ents_inj, eEnt_iff, eLst_iff, eSnds_inj, eStrms_inj] at h
  grind

theorem unWby (s : ByteArray) : unenc encWby (([.ptr 900 0 0, (vU (10 : Int))], [(901, Blk.mk false 5 1 (F.eUs s)), (900, Blk.mk true 81 0 [[.ptr 900 0 0, .own 901]])])) = some (s) := unenc_of encWby_inj (s) rfl

def resWby1 (s : ByteArray) : AV × Heap × List Nat := (.v .nilIface, [(901, ⟨false, 5, 1, F.eUs (s ++ ⟨⟨[10]⟩⟩)⟩), (900, ⟨true, 81, 0, [[.ptr 900 0 0, .own 901]]⟩)], [901])

def preWby1 (s : ByteArray) : Bool := decide (s.size ≤ 100000000)

noncomputable def oWby : OrcH := orcH 51 encWby (fun a => preWby1 a) fun a => resWby1 a

theorem okWby : OrcHOK Tryz.prog noG oWby := by
  refine mkH_ok (mv := [901]) Tryz.f51 (by kernel_rfl) (by kernel_rfl) enWby_ok mixed (no_loops (by kernel_rfl)) ?_
  rintro s hpre hok hokh
  show (runH enWby [901] _ (encWby1 _).1 (encWby1 _).2).val = some (resWby1 _)
  unfold encWby1 resWby1
  rw [evWby]
  simp only [preWby1, decide_eq_true_eq] at hpre
  simp only [unCkk, preCkk1, etaEnt, etaLst, etaSnd, etaStrm, etaMas, Option.bind_some, List.length_map, unStrs, unInts, unBools, unEnts, unItms, unTrns, cond_true, cond_false, Bool.and_true, Bool.true_and, unWstU, unBstU, F.bldS_some, F.bldLen_some]
  rw [eUs_app, eUs_len, ble_t (by omega : (s.size + 1) * 1 ≤ 140737488355328)]
  rfl

end M

def F.cat (s : ByteArray) : List ByteArray → ByteArray
  | [] => s
  | x :: l => F.cat (s ++ x) l

theorem F.cat_le : ∀ (l : List ByteArray) (s : ByteArray), s.size ≤ (F.cat s l).size
  | [], s => Nat.le_refl _
  | x :: l, s => by
    have := F.cat_le l (s ++ x)
    rw [ByteArray.size_append] at this
    rw [F.cat]
    omega

def F.isO {α : Type} (o : Option α) : Bool := o.isNone

def F.putB (o : Option ByteArray) (l : List ByteArray) : Bool := bif F.isO o then decide (l.length = 1) && decide ((l.headD ⟨⟨[]⟩⟩).size ≤ 1000) else decide (l.length ≤ 1000) && decide ((F.cat (F.bldS o) l).size ≤ 90000000)

namespace M

def stPt (ps : List ByteArray) (s : ByteArray) (k : Nat) : St := ⟨[(7, vI k), (6, vI ps.length), (5, .own 900), (1, .ptr 901 0 0)], [(902, ⟨false, 5, 1, F.eUs s⟩), (901, ⟨true, 81, 0, [[.ptr 901 0 0, .own 902]]⟩), (900, ⟨false, 9, 1, ps.map eStr⟩)]⟩

def stPt1 (a : (List ByteArray) × ByteArray × Nat) : St := stPt a.1 a.2.1 a.2.2

theorem stPt_inj (a a' : (List ByteArray) × ByteArray × Nat) (h : stPt1 a = stPt1 a') : a = a' := by
  simp only [stPt1, stPt] at h
  try simp [eUs_inj, strs_inj, ints_inj, ents_inj, eEnt_iff, eLst_iff, eSnds_inj, eStrms_inj] at h
  grind

theorem unstPt (ps : List ByteArray) (s : ByteArray) (k : Nat) : unenc stPt1 (St.mk [(7, (vI (↑k : Int))), (6, (vI (↑(List.length ps) : Int))), (5, .own 900), (1, .ptr 901 0 0)] [(902, Blk.mk false 5 1 (F.eUs s)), (901, Blk.mk true 81 0 [[.ptr 901 0
  0, .own 902]]), (900, Blk.mk false 9 1 (List.map eStr ps))]) = some (ps, s, k) := unenc_of stPt_inj (ps, s, k) rfl

theorem unstPt0 (ps : List ByteArray) (s : ByteArray)  : unenc stPt1 (St.mk [(7, (vI (0 : Int))), (6, (vI (↑(List.length ps) : Int))), (5, .own 900), (1, .ptr 901 0 0)] [(902, Blk.mk false 5 1 (F.eUs s)), (901, Blk.mk true 81 0 [[.ptr 901 0
  0, .own 902]]), (900, Blk.mk false 9 1 (List.map eStr ps))]) = some (ps, s, 0) := unenc_of stPt_inj (ps, s, 0) rfl

def outPt (ps : List ByteArray) (s : ByteArray) (k : Nat) : T (Ex × St) := .ret (.exit 0, ⟨[(1, .ptr 901 0 0)], [(902, ⟨false, 5, 1, F.eUs (F.cat s (ps.drop k))⟩), (901, ⟨true, 81, 0, [[.ptr 901 0 0, .own 902]]⟩), (900, ⟨false, 9, 1, ps.map eStr⟩)]⟩)

noncomputable def prlPt (ps : List ByteArray) (s : ByteArray) (k : Nat) : Bool := decide (ps.length ≤ 1000) && decide (k ≤ ps.length) && decide ((F.cat s (ps.drop k)).size ≤ 90000000)

noncomputable def lpPt : Nat × (St → T (Ex × St)) := (1, lpo [7, 6, 5, 1] [902, 901, 900] stPt1 (fun a => prlPt a.1 a.2.1 a.2.2) fun a => outPt a.1 a.2.1 a.2.2)

noncomputable def enPt : Env := envH ty noG lks [] [oWst, oWby] [902] [lpPt]

theorem enPt_ok : EnvOK Tryz.prog enPt := by
  refine envH_ok lks_ok ty_ok ?_ ?_
  · simp
  · simp only [List.forall_mem_cons]
    exact ⟨okWst, okWby, by simp⟩

theorem evPtL (ps : List ByteArray) (s : ByteArray) (k : Nat) : ((exec enPt (loopN Tryz.f49 0) (stPt ps s k)).bind (lessX ([7, 6, 5, 1], [902, 901, 900]) ([1], [902, 901, 900]) ([], []))).val =
  bif decide ((↑k : Int) < (↑(List.length ps) : Int)) then bif decide (k < List.length (Blk.mk false 9 1 (List.map eStr ps)).rows) then Option.bind (unenc (List.map eStr) (List.map eStr ps)) fun (z : List ByteArray) => bif decide (k < List.length z) then Option.bind (unenc encWst ([.ptr 900 0 0, (vS (List.getD z k (ByteArray.mk (Array.mk []))))], [(901, Blk.mk false 5 1 (F.eUs s)), (900, Blk.mk true 81 0 [[.ptr 900 0 0, .own 901]])])) fun (z : Option ByteArray × ByteArray) => bif F.wstB z.fst z.snd then bif match z.fst with | some val => false | none => true then none else some (Ex.normal, St.mk [(7, (vI (IntKind.wrap IntKind.i64 ((↑k : Int) + (1 : Int))))), (6, (vI (↑(List.length ps) : Int))), (5, .own 900), (1, .ptr 901 0 0)] [(902, Blk.mk false 5 1 (F.eUs (F.bldS z.fst ++ z.snd))), (901, Blk.mk true 81 0 [[.ptr 901 0 0, .own 902]]), (900, Blk.mk false 9 1 (List.map eStr ps))]) else none else none else none else some (Ex.exit (0 : Nat), St.mk [(1, .ptr 901 0 0)] [(902, Blk.mk false 5 1 (F.eUs s)), (901, Blk.mk true 81 0 [[.ptr 901 0 0, .own 902]]), (900, Blk.mk false 9 1 (List.map eStr ps))]) := (execR_bind _ _ _).symm.trans (by kernel_rfl)

theorem lpPt_ok (ps : List ByteArray) (s : ByteArray) (k : Nat) (hp : prlPt ps s k = true) : ∀ ex s', (outPt ps s k).val = some (ex, s') → LoopOK enPt (loopN Tryz.f49 0) (stPt ps s k) ex s' := by
  simp only [prlPt, Bool.and_eq_true, decide_eq_true_eq] at hp
  obtain ⟨⟨h1, h2⟩, h3⟩ := hp
  refine loop_gen (st := fun p : ByteArray × Nat => stPt ps p.1 p.2) (out := fun p => outPt ps p.1 p.2) (I := fun p => p.2 ≤ ps.length ∧ (F.cat p.1 (ps.drop p.2)).size ≤ 90000000) (n := ([7, 6, 5, 1], [902, 901, 900])) (e := ([1], [902, 901, 900])) (r := ([], [])) (fun p => ps.length - p.2) ?_ (s, k) ⟨h2, h3⟩
  clear h2 h3
  rintro ⟨s, k⟩ ⟨h2, h3⟩
  simp only at h2 h3
  by_cases hlt : k < ps.length
  · have hy : ps[k]? = some ps[k] := List.getElem?_eq_getElem hlt
    generalize ps[k] = y at hy
    have hd := drop_y hy
    rw [hd, F.cat] at h3
    have hc := F.cat_le (ps.drop (k + 1)) (s ++ y)
    rw [ByteArray.size_append] at hc
    have hi : idx (k : Int) = some k := rfl
    right
    refine ⟨(s ++ y, k + 1), ?_, rfl, ⟨hlt, h3⟩, by simp only; omega, ?_⟩
    · rw [evPtL]
      simp only [unWst, unWby, preWst1, preWby1, unstPt, unstPt0, prlPt, outPt, etaEnt, etaLst, etaSnd, etaStrm, etaMas, Option.bind_some, List.length_map, unStrs, unInts, unBools, unEnts, unItms, unTrns, cond_true, cond_false, Bool.and_true, Bool.true_and, unWstU, unBstU, F.bldS_some, F.bldLen_some, cast_lt hlt, decide_eq_true hlt, getD_at hy, hi, preWst1, resWst]
      rw [F.wstB_some (by omega : s.size + y.size ≤ 140737488355328), next_at hlt (by omega : ps.length ≤ 9223372036854775807)]
      rfl
    · simp only [outPt, hd, F.cat]
  · have : k = ps.length := by omega
    subst this
    left
    refine ⟨(.exit 0, ⟨[(1, .ptr 901 0 0)], [(902, ⟨false, 5, 1, F.eUs s⟩), (901, ⟨true, 81, 0, [[.ptr 901 0 0, .own 902]]⟩), (900, ⟨false, 9, 1, ps.map eStr⟩)]⟩), ?_, ?_, by simp, rfl⟩
    · rw [evPtL]
      simp only [unWst, unWby, preWst1, preWby1, unstPt, unstPt0, prlPt, outPt, etaEnt, etaLst, etaSnd, etaStrm, etaMas, Option.bind_some, List.length_map, unStrs, unInts, unBools, unEnts, unItms, unTrns, cond_true, cond_false, Bool.and_true, Bool.true_and, unWstU, unBstU, F.bldS_some, F.bldLen_some]
      try simp
    · simp only [outPt, List.drop_length, F.cat]
      rfl

theorem evPt (ps : List ByteArray) (s : ByteArray) : (runH enPt [902] Tryz.f49 [.own 900, .ptr 901 0 0] [(902, ⟨false, 5, 1, F.eUs s⟩), (901, ⟨true, 81, 0, [[.ptr 901 0 0, .own 902]]⟩), (900, ⟨false, 9, 1, ps.map eStr⟩)]).val =
  Option.bind (unenc stPt1 (St.mk [(7, (vI (0 : Int))), (6, (vI (↑(List.length (List.map eStr ps)) : Int))), (5, .own 900), (1, .ptr 901 0 0)] [(902, Blk.mk false 5 1 (F.eUs
  s)), (901, Blk.mk true 81 0 [[.ptr 901 0 0, .own 902]]), (900, Blk.mk false 9 1 (List.map eStr ps))])) fun (z : List ByteArray × ByteArray × Nat) => bif decide
  (List.length z.fst ≤ (1000 : Nat)) && decide (z.snd.snd ≤ List.length z.fst) && decide (ByteArray.size (F.cat z.snd.fst (List.drop z.snd.snd z.fst)) ≤ (90000000 : Nat)) &&
  true then Option.bind (unenc encWby ([.ptr 900 0 0, (vU (10 : Int))], [(901, Blk.mk false 5 1 (F.eUs (F.cat z.snd.fst (List.drop z.snd.snd z.fst)))), (900, Blk.mk true 81
  0 [[.ptr 900 0 0, .own 901]])])) fun (z_1 : ByteArray) => bif decide (ByteArray.size z_1 ≤ (100000000 : Nat)) then some (AV.tup [], [(902, Blk.mk false 5 1 (F.eUs (z_1 ++
  ByteArray.mk (Array.mk [(10 : UInt8)])))), (901, Blk.mk true 81 0 [[.ptr 901 0 0, .own 902]]), (900, Blk.mk false 9 1 (List.map eStr z.fst))], [(902 : Nat)]) else none
  else none := (runHR_val).symm.trans (by kernel_rfl)

def encPt1 (ps : List ByteArray) (s : ByteArray) : List AV × Heap := ([.own 900, .ptr 901 0 0], [(902, ⟨false, 5, 1, F.eUs s⟩), (901, ⟨true, 81, 0, [[.ptr 901 0 0, .own 902]]⟩), (900, ⟨false, 9, 1, ps.map eStr⟩)])

def encPt (a : (List ByteArray) × ByteArray) : List AV × Heap := encPt1 a.1 a.2

theorem encPt_inj (a a' : (List ByteArray) × ByteArray) (h : encPt a = encPt a') : a = a' := by
  simp only [encPt, encPt1] at h
  try simp [eUs_inj, strs_inj, ints_inj, ents_inj, eEnt_iff, eLst_iff, eSnds_inj, eStrms_inj] at h
  grind

def resPt1 (ps : List ByteArray) (s : ByteArray) : AV × Heap × List Nat := (.tup [], [(902, ⟨false, 5, 1, F.eUs (F.cat s ps ++ ⟨⟨[10]⟩⟩)⟩), (901, ⟨true, 81, 0, [[.ptr 901 0 0, .own 902]]⟩), (900, ⟨false, 9, 1, ps.map eStr⟩)], [902])

def prePt1 (ps : List ByteArray) (s : ByteArray) : Bool := decide (ps.length ≤ 1000) && decide ((F.cat s ps).size ≤ 90000000)

noncomputable def oPt : OrcH := orcH 49 encPt (fun a => prePt1 a.1 a.2) fun a => resPt1 a.1 a.2

theorem okPt : OrcHOK Tryz.prog noG oPt := by
  refine mkH_ok (mv := [902]) Tryz.f49 (by kernel_rfl) (by kernel_rfl) enPt_ok mixed (one_loop (x0 := loopN Tryz.f49 0) (by kernel_rfl) (lpo_ok ?_)) ?_
  · rintro ⟨ps, s, k⟩ hp
    exact lpPt_ok ps s k hp
  rintro ⟨ps, s⟩ hpre hok hokh
  show (runH enPt [902] _ (encPt1 _ _).1 (encPt1 _ _).2).val = some (resPt1 _ _)
  unfold encPt1 resPt1
  rw [evPt]
  simp only [prePt1, Bool.and_eq_true, decide_eq_true_eq] at hpre
  simp only [unWst, unWby, preWst1, preWby1, unstPt, unstPt0, prlPt, outPt, etaEnt, etaLst, etaSnd, etaStrm, etaMas, Option.bind_some, List.length_map, unStrs, unInts, unBools, unEnts, unItms, unTrns, cond_true, cond_false, Bool.and_true, Bool.true_and, unWstU, unBstU, F.bldS_some, F.bldLen_some, decide_eq_true hpre.1, decide_eq_true hpre.2, List.drop_zero, Nat.zero_le, decide_true, decide_eq_true (by omega : (F.cat s ps).size ≤ 100000000)]

def stP0 (x : ByteArray) : St := ⟨[(7, vI 0), (6, vI ((1 : Nat) : Int)), (5, .own 900), (1, .ptr 901 0 0)], [(901, ⟨true, 81, 0, [[.v (.pointer none), .v (.slice none 0 0)]]⟩), (900, ⟨false, 9, 1, [[vS x]]⟩)]⟩

def stP01 (a : ByteArray) : St := stP0 a

theorem stP0_inj (a a' : ByteArray) (h : stP01 a = stP01 a') : a = a' := by
  simp only [stP01, stP0] at h
  try simp [eUs_inj, strs_inj, ints_inj, ents_inj, eEnt_iff, eLst_iff, eSnds_inj, eStrms_inj] at h
  grind

theorem unstP0 (x : ByteArray) : unenc stP01 (St.mk [(7, (vI (0 : Int))), (6, (vI (↑(1 : Nat) : Int))), (5, .own 900), (1, .ptr 901 0 0)] [(901, Blk.mk true 81 0 [[AV.v (Value.pointer none), AV.v (Value.slice none (0
  : Nat) (0 : Nat))]]), (900, Blk.mk false 9 1 [[(vS x)]])]) = some (x) := unenc_of stP0_inj (x) rfl

def outP0 (x : ByteArray) : T (Ex × St) := .ret (.exit 0, ⟨[(1, .ptr 901 0 0)], [(13000, ⟨false, 5, 1, F.eUs x⟩), (901, ⟨true, 81, 0, [[.ptr 901 0 0, .own 13000]]⟩), (900, ⟨false, 9, 1, [[vS x]]⟩)]⟩)

noncomputable def prlP0 (x : ByteArray) : Bool := decide (x.size ≤ 1000)

noncomputable def lpP0 : Nat × (St → T (Ex × St)) := (1, lpo [7, 6, 5, 1] [901, 900] stP01 (fun a => prlP0 a) fun a => outP0 a)

noncomputable def enP0 : Env := envH ty noG lks [] [oWst, oWby] [902, 13000] [lpP0]

theorem enP0_ok : EnvOK Tryz.prog enP0 := by
  refine envH_ok lks_ok ty_ok ?_ ?_
  · simp
  · simp only [List.forall_mem_cons]
    exact ⟨okWst, okWby, by simp⟩

def stP1 (x : ByteArray) : St := ⟨[(7, vI 1), (6, vI ((1 : Nat) : Int)), (5, .own 900), (1, .ptr 901 0 0)], [(13000, ⟨false, 5, 1, F.eUs x⟩), (901, ⟨true, 81, 0, [[.ptr 901 0 0, .own 13000]]⟩), (900, ⟨false, 9, 1, [[vS x]]⟩)]⟩

theorem evP0a (x : ByteArray) : ((exec enP0 (loopN Tryz.f49 0) (stP0 x)).bind (lessX ([7, 6, 5, 1], [13000, 901, 900]) ([1], [13000, 901, 900]) ([], []))).val =
  Option.bind (unenc (List.map eStr) [[(vS x)]]) fun (z : List ByteArray) => bif decide ((0 : Nat) < List.length z) then Option.bind (unenc encWst ([.ptr 900 0 0, (vS (List.getD z (0 : Nat) (ByteArray.mk (Array.mk []))))], [(900, Blk.mk true 81 0 [[AV.v (Value.pointer none), AV.v (Value.slice none (0 : Nat) (0 : Nat))]])])) fun (z : Option ByteArray × ByteArray) => bif F.wstB z.fst z.snd then bif match z.fst with | some val => false | none => true then some (Ex.normal, St.mk [(7, (vI (IntKind.wrap IntKind.i64 ((0 : Int) + (1 : Int))))), (6, (vI (↑(1 : Nat) : Int))), (5, .own 900), (1, .ptr 901 0 0)] [(13000, Blk.mk false 5 1 (F.eUs z.snd)), (901, Blk.mk true 81 0 [[.ptr 901 0 0, .own 13000]]), (900, Blk.mk false 9 1 [[(vS x)]])]) else none else none else none := (execR_bind _ _ _).symm.trans (by kernel_rfl)

theorem evP0b (x : ByteArray) : ((exec enP0 (loopN Tryz.f49 0) (stP1 x)).bind (lessX ([7, 6, 5, 1], [13000, 901, 900]) ([1], [13000, 901, 900]) ([], []))).val =
  some (Ex.exit (0 : Nat), St.mk [(1, .ptr 901 0 0)] [(13000, Blk.mk false 5 1 (F.eUs x)), (901, Blk.mk true 81 0 [[.ptr 901 0 0, .own 13000]]), (900, Blk.mk false 9 1 [[(vS
  x)]])]) := (execR_bind _ _ _).symm.trans (by kernel_rfl)

theorem lpP0_ok (x : ByteArray) (hp : prlP0 x = true) : ∀ ex s', (outP0 x).val = some (ex, s') → LoopOK enP0 (loopN Tryz.f49 0) (stP0 x) ex s' := by
  simp only [prlP0, decide_eq_true_eq] at hp
  refine loop_gen (st := fun b : Bool => match b with | false => stP0 x | true => stP1 x) (out := fun _ => outP0 x) (I := fun _ => True) (n := ([7, 6, 5, 1], [13000, 901, 900])) (e := ([1], [13000, 901, 900])) (r := ([], [])) (fun b => match b with | false => 1 | true => 0) ?_ false trivial
  intro b _
  cases b
  · right
    refine ⟨true, ?_, rfl, trivial, by decide, rfl⟩
    show ((exec enP0 (loopN Tryz.f49 0) (stP0 x)).bind _).val = _
    rw [evP0a]
    have hun : unenc (List.map eStr) [[vS x]] = some [x] := unStrs [x]
    have hb : F.wstB none x = true := F.wstB_none (by omega)
    simp only [unWst, unWby, preWst1, preWby1, unstP0, prlP0, outP0, etaEnt, etaLst, etaSnd, etaStrm, etaMas, Option.bind_some, List.length_map, unStrs, unInts, unBools, unEnts, unItms, unTrns, cond_true, cond_false, Bool.and_true, Bool.true_and, unWstU, unBstU, F.bldS_some, F.bldLen_some, unWst, preWst1, resWst, hun]
    show (bif decide (0 < 1) then bif F.wstB none x then _ else _ else _) = _
    rw [hb]
    rfl
  · left
    refine ⟨(.exit 0, ⟨[(1, .ptr 901 0 0)], [(13000, ⟨false, 5, 1, F.eUs x⟩), (901, ⟨true, 81, 0, [[.ptr 901 0 0, .own 13000]]⟩), (900, ⟨false, 9, 1, [[vS x]]⟩)]⟩), ?_, rfl, by simp, rfl⟩
    show ((exec enP0 (loopN Tryz.f49 0) (stP1 x)).bind _).val = _
    rw [evP0b]
    try rfl

theorem evP0 (x : ByteArray) : (runH enP0 [] Tryz.f49 [.own 900, .ptr 901 0 0] [(901, ⟨true, 81, 0, [[.v (.pointer none), .v (.slice none 0 0)]]⟩), (900, ⟨false, 9, 1, [[vS x]]⟩)]).val =
  Option.bind (unenc stP01 (St.mk [(7, (vI (0 : Int))), (6, (vI (↑(1 : Nat) : Int))), (5, .own 900), (1, .ptr 901 0 0)] [(901, Blk.mk true 81 0 [[AV.v (Value.pointer none),
  AV.v (Value.slice none (0 : Nat) (0 : Nat))]]), (900, Blk.mk false 9 1 [[(vS x)]])])) fun (z : ByteArray) => bif decide (ByteArray.size z ≤ (1000 : Nat)) && true then
  Option.bind (unenc encWby ([.ptr 900 0 0, (vU (10 : Int))], [(901, Blk.mk false 5 1 (F.eUs z)), (900, Blk.mk true 81 0 [[.ptr 900 0 0, .own 901]])])) fun (z_1 : ByteArray)
  => bif decide (ByteArray.size z_1 ≤ (100000000 : Nat)) then some (AV.tup [], [(901, Blk.mk true 81 0 [[.ptr 901 0 0, .own 0]]), (900, Blk.mk false 9 1 [[(vS z)]]), (0,
  Blk.mk false 5 1 (F.eUs (z_1 ++ ByteArray.mk (Array.mk [(10 : UInt8)]))))], []) else none else none := (runHR_val).symm.trans (by kernel_rfl)

def encP01 (x : ByteArray) : List AV × Heap := ([.own 900, .ptr 901 0 0], [(901, ⟨true, 81, 0, [[.v (.pointer none), .v (.slice none 0 0)]]⟩), (900, ⟨false, 9, 1, [[vS x]]⟩)])

def encP0 (a : ByteArray) : List AV × Heap := encP01 a

theorem encP0_inj (a a' : ByteArray) (h : encP0 a = encP0 a') : a = a' := by
  simp only [encP0, encP01] at h
  try simp [eUs_inj, strs_inj, ints_inj, ents_inj, eEnt_iff, eLst_iff, eSnds_inj, eStrms_inj] at h
  grind

def resP01 (x : ByteArray) : AV × Heap × List Nat := (.tup [], [(901, ⟨true, 81, 0, [[.ptr 901 0 0, .own 0]]⟩), (900, ⟨false, 9, 1, [[vS x]]⟩), (0, ⟨false, 5, 1, F.eUs (x ++ ⟨⟨[10]⟩⟩)⟩)], [])

def preP01 (x : ByteArray) : Bool := decide (x.size ≤ 1000)

noncomputable def oP0 : OrcH := orcH 49 encP0 (fun a => preP01 a) fun a => resP01 a

theorem okP0 : OrcHOK Tryz.prog noG oP0 := by
  refine mkH_ok (mv := []) Tryz.f49 (by kernel_rfl) (by kernel_rfl) enP0_ok mixed (one_loop (x0 := loopN Tryz.f49 0) (by kernel_rfl) (lpo_ok ?_)) ?_
  · intro x hp
    exact lpP0_ok x hp
  rintro x hpre hok hokh
  show (runH enP0 [] _ (encP01 _).1 (encP01 _).2).val = some (resP01 _)
  unfold encP01 resP01
  rw [evP0]
  have hpre : x.size ≤ 1000 := of_decide_eq_true hpre
  simp only [unWst, unWby, preWst1, preWby1, unstP0, prlP0, outP0, etaEnt, etaLst, etaSnd, etaStrm, etaMas, Option.bind_some, List.length_map, unStrs, unInts, unBools, unEnts, unItms, unTrns, cond_true, cond_false, Bool.and_true, Bool.true_and, unWstU, unBstU, F.bldS_some, F.bldLen_some, decide_eq_true hpre, decide_eq_true (by omega : x.size ≤ 100000000)]

def encPut (a : Option ByteArray × List ByteArray) : List AV × Heap := ([.own 900, .ptr 901 0 0], match a.1 with
  | none => [(901, ⟨true, 81, 0, [[.v (.pointer none), .v (.slice none 0 0)]]⟩), (900, ⟨false, 9, 1, a.2.map eStr⟩)]
  | some s => [(902, ⟨false, 5, 1, F.eUs s⟩), (901, ⟨true, 81, 0, [[.ptr 901 0 0, .own 902]]⟩), (900, ⟨false, 9, 1, a.2.map eStr⟩)])

theorem encPut_inj (a a' : Option ByteArray × List ByteArray) (h : encPut a = encPut a') : a = a' := by
  obtain ⟨o, l⟩ := a
  obtain ⟨o', l'⟩ := a'
  unfold encPut at h
  cases o with
  | none => cases o' with
    | none =>
      simp only [Prod.mk.injEq, List.cons.injEq, Blk.mk.injEq, true_and, and_true] at h
      rw [strs_inj.1 h]
    | some s => simp at h
  | some s => cases o' with
    | none => simp at h
    | some s' =>
      simp only [Prod.mk.injEq, List.cons.injEq, Blk.mk.injEq, true_and, and_true] at h
      obtain ⟨h1, h2⟩ := h
      rw [strs_inj.1 h2, eUs_inj.1 h1]

theorem unPut0 (x : ByteArray) : unenc encPut (([.own 900, .ptr 901 0 0], [(901, Blk.mk true 81 0 [[AV.v (Value.pointer none), AV.v (Value.slice none (0 : Nat) (0 : Nat))]]), (900, Blk.mk false 9 1 [[(vS x)]])])) = some (none, [x]) := unenc_of encPut_inj (none, [x]) rfl

theorem unPut1 (s : ByteArray) (x : ByteArray) : unenc encPut (([.own 900, .ptr 901 0 0], [(902, Blk.mk false 5 1 (F.eUs s)), (901, Blk.mk true 81 0 [[.ptr 901 0 0, .own 902]]), (900, Blk.mk false 9 1 [[(vS x)]])])) = some (some s, [x]) := unenc_of encPut_inj (some s, [x]) rfl

theorem unPut2 (s : ByteArray) (x : ByteArray) (y : ByteArray) : unenc encPut (([.own 900, .ptr 901 0 0], [(902, Blk.mk false 5 1 (F.eUs s)), (901, Blk.mk true 81 0 [[.ptr 901 0 0, .own 902]]), (900, Blk.mk false 9 1 [[(vS x)], [(vS y)]])])) = some (some s, [x, y]) := unenc_of encPut_inj (some s, [x, y]) rfl

theorem unPut (s : ByteArray) (l : List ByteArray) : unenc encPut (([.own 900, .ptr 901 0 0], [(902, Blk.mk false 5 1 (F.eUs s)), (901, Blk.mk true 81 0 [[.ptr 901 0 0, .own 902]]), (900, Blk.mk false 9 1 (List.map eStr l))])) = some (some s, l) := unenc_of encPut_inj (some s, l) rfl

def prePut1 (o : Option ByteArray) (l : List ByteArray) : Bool := F.putB o l

def resPut (a : Option ByteArray × List ByteArray) : T (AV × Heap × List Nat) := .ifB a.1.isNone
  (.ret (.tup [], [(901, ⟨true, 81, 0, [[.ptr 901 0 0, .own 0]]⟩), (900, ⟨false, 9, 1, a.2.map eStr⟩), (0, ⟨false, 5, 1, F.eUs (a.2.headD ⟨⟨[]⟩⟩ ++ ⟨⟨[10]⟩⟩)⟩)], []))
  (.ret (.tup [], [(902, ⟨false, 5, 1, F.eUs (F.cat (F.bldS a.1) a.2 ++ ⟨⟨[10]⟩⟩)⟩), (901, ⟨true, 81, 0, [[.ptr 901 0 0, .own 902]]⟩), (900, ⟨false, 9, 1, a.2.map eStr⟩)], [902]))

noncomputable def oPut : OrcH := orcT 49 encPut (fun a => prePut1 a.1 a.2) resPut

theorem okPut : OrcHOK Tryz.prog noG oPut := by
  refine orcT_ok ⟨Tryz.f49, by kernel_rfl, by kernel_rfl, by kernel_rfl⟩ (fun a r hp _ _ hr => ?_)
  obtain ⟨o, l⟩ := a
  cases o with
  | none =>
    have hp : (decide (l.length = 1) && decide ((l.headD ⟨⟨[]⟩⟩).size ≤ 1000)) = true := hp
    simp only [Bool.and_eq_true, decide_eq_true_eq] at hp
    obtain ⟨x, l0, rfl⟩ := List.exists_cons_of_length_eq_add_one (l := l) (n := 0) hp.1
    have hl0 : l0 = [] := List.length_eq_zero_iff.1 (by have := hp.1; simpa using this)
    subst hl0
    have hx : x.size ≤ 1000 := hp.2
    have hr : resP01 x = r := Option.some.inj hr
    subst hr
    refine okP0.1 (encP0 x).1 (encP0 x).2 _ _ _ ?_
    show (T.opt (unenc encP0 (encP0 x)) fun a => T.ifB (preP01 a) (T.ret (resP01 a)) T.fail).val = _
    rw [unenc_of encP0_inj x rfl]
    show (T.ifB (decide (x.size ≤ 1000)) (T.ret (resP01 x)) T.fail).val = _
    rw [decide_eq_true hx]
    rfl
  | some s =>
    have hp : (decide (l.length ≤ 1000) && decide ((F.cat s l).size ≤ 90000000)) = true := hp
    have hr : resPt1 l s = r := Option.some.inj hr
    subst hr
    refine okPt.1 (encPt (l, s)).1 (encPt (l, s)).2 _ _ _ ?_
    show (T.opt (unenc encPt (encPt (l, s))) fun a => T.ifB (prePt1 a.1 a.2) (T.ret (resPt1 a.1 a.2)) T.fail).val = _
    rw [unenc_of encPt_inj (l, s) rfl]
    show (T.ifB (decide (l.length ≤ 1000) && decide ((F.cat s l).size ≤ 90000000)) (T.ret (resPt1 l s)) T.fail).val = _
    rw [hp]
    rfl

end M

def F.kX : ByteArray := ⟨⟨[35, 88]⟩⟩

def F.kBrk : ByteArray := ⟨⟨[35, 66, 82, 69, 65, 75]⟩⟩

def F.kGap : ByteArray := ⟨⟨[35, 71, 65, 80]⟩⟩

def F.kDat : ByteArray := ⟨⟨[35, 68, 65, 84, 69]⟩⟩

def F.kKey : ByteArray := ⟨⟨[35, 75, 69, 89]⟩⟩

def F.kTim : ByteArray := ⟨⟨[35, 84, 73, 77, 69]⟩⟩

def F.kLst : ByteArray := ⟨⟨[35, 76, 73, 83, 84]⟩⟩

def F.kEnd : ByteArray := ⟨⟨[35, 69, 78, 68]⟩⟩

def F.dash : ByteArray := ⟨⟨[45]⟩⟩

def F.kTimS : ByteArray := ⟨⟨[35, 84, 73, 77, 69, 32]⟩⟩

def F.kDatS : ByteArray := ⟨⟨[35, 68, 65, 84, 69, 32]⟩⟩

def F.kKeyS : ByteArray := ⟨⟨[35, 75, 69, 89, 32]⟩⟩

def F.dsh (s : ByteArray) : ByteArray := bif F.seq s ⟨⟨[]⟩⟩ then F.dash else s

structure F.EOk (e : Ent) : Prop where
  uri1 : e.uri.size ≠ 0
  uri2 : F.b0 e.uri ≠ 35
  uri3 : F.vis e.uri 33 = true
  mil1 : 1 ≤ e.milli
  mil2 : e.milli ≤ 3600000
  dat1 : -1 ≤ e.date
  dat2 : e.date ≤ 253402300799999
  key : e.key = ⟨⟨[]⟩⟩ ∨ F.isName e.key = true
  ext : ∀ x ∈ e.extra, F.hasPrefix x F.kX = true ∧ F.vis x 32 = true

theorem F.ffI_all {γ : Type} {g : γ → Int} : ∀ {l : List γ}, M.ffI g l = 0 → ∀ x ∈ l, g x = 0
  | [], _, x, hx => by cases hx
  | y :: l, h, x, hx => by
    rw [M.ffI] at h
    by_cases h0 : g y = 0
    · rw [if_pos h0] at h
      rcases List.mem_cons.1 hx with e | e
      · rw [e]; exact h0
      · exact F.ffI_all h x e
    · rw [if_neg h0] at h; exact absurd h h0

theorem F.eok_of {e : Ent} {t : Int} (h : F.entryFault e t = 0) : F.EOk e := by
  unfold F.entryFault at h
  split at h
  · rename_i hu; exact absurd h hu
  rename_i hu
  split at h
  · omega
  rename_i hm
  split at h
  · omega
  split at h
  · omega
  rename_i hd
  split at h
  · omega
  rename_i hk
  split at h
  · omega
  rename_i hx
  have hu : F.uriFault e.uri = 0 := by simpa using hu
  unfold F.uriFault at hu
  split at hu
  · omega
  rename_i hq
  clear hu
  unfold F.out at hq hm hd
  simp only [Bool.or_eq_true, decide_eq_true_eq, not_or, Bool.not_eq_true', Bool.not_eq_false] at hq hm hd
  refine ⟨by omega, hq.1.2, hq.2, by omega, by omega, by omega, by omega, ?_, fun x hxm => ?_⟩
  · cases hs : F.seq e.key ⟨#[]⟩
    · right
      rw [hs] at hk
      simpa using hk
    · left
      exact F.seq_iff.1 hs
  · have := F.ffI_all h x hxm
    unfold F.extraFault at this
    split at this
    · omega
    · rename_i h1
      simp only [Bool.or_eq_true, Bool.not_eq_true', not_or, Bool.not_eq_false] at h1
      exact h1

theorem F.checkW_ok {l : Lst} (h : F.check l = 0) : 1 ≤ l.target ∧ l.target ≤ 3600 ∧ 0 ≤ l.first ∧ l.first ≤ 999999999999000 ∧ 0 ≤ l.breaks ∧ l.breaks ≤ 1000000000000000 ∧ ∀ e ∈ l.entries, F.EOk e := by
  unfold F.check at h
  split at h
  · omega
  rename_i h1
  split at h
  · omega
  unfold F.out at h1
  simp only [Bool.or_eq_true, decide_eq_true_eq, not_or] at h1
  exact ⟨by omega, by omega, by omega, by omega, by omega, by omega, fun e he => F.eok_of (F.ffI_all h e he)⟩

def F.pl (s : ByteArray) (l : List ByteArray) : ByteArray := F.cat s l ++ ⟨⟨[10]⟩⟩

theorem F.pl_le (s : ByteArray) (l : List ByteArray) : s.size ≤ (F.cat s l).size ∧ (F.cat s l).size ≤ (F.pl s l).size := by
  refine ⟨F.cat_le l s, ?_⟩
  unfold F.pl
  rw [ByteArray.size_append]
  omega

def F.tX (s : ByteArray) : List ByteArray → ByteArray
  | [] => s
  | x :: l => F.tX (F.pl s [x]) l

theorem F.tX_le : ∀ (l : List ByteArray) (s : ByteArray), s.size ≤ (F.tX s l).size
  | [], s => Nat.le_refl _
  | x :: l, s => by
    have h1 := F.tX_le l (F.pl s [x])
    have h2 := F.pl_le s [x]
    rw [F.tX]
    omega

def F.e1 (s : ByteArray) (brk : Bool) : ByteArray := bif brk then F.pl s [F.kBrk] else s

def F.e2 (s : ByteArray) (d : Int) : ByteArray := bif decide (0 ≤ d) then F.pl s [F.kDatS, F.dtS d] else s

def F.e3 (s key ky : ByteArray) : ByteArray := bif F.seq ky key then s else F.pl s [F.kKeyS, F.dsh ky]

def F.e4 (s : ByteArray) (g : Bool) : ByteArray := bif g then F.pl s [F.kGap] else s

def F.bE' (s key : ByteArray) (u : ByteArray) (m : Int) (b : Bool) (d : Int) (ky : ByteArray) (g : Bool) : ByteArray := F.pl (F.pl (F.e4 (F.e3 (F.e2 (F.e1 s b) d) key ky) g) [F.kTimS, F.tmS m]) [u]

def F.bE (s key : ByteArray) (e : Ent) : ByteArray := F.bE' (F.tX s e.extra) key e.uri e.milli e.brk e.date e.key e.gap

def F.tE (s key : ByteArray) : List Ent → ByteArray
  | [] => s
  | e :: l => F.tE (F.bE s key e) e.key l

theorem F.e_le (s key : ByteArray) (b : Bool) (d : Int) (ky : ByteArray) (g : Bool) : s.size ≤ (F.e1 s b).size ∧ (F.e1 s b).size ≤ (F.e2 (F.e1 s b) d).size ∧ (F.e2 (F.e1 s b) d).size ≤ (F.e3 (F.e2 (F.e1 s b) d) key ky).size ∧ (F.e3 (F.e2 (F.e1 s b) d) key ky).size ≤ (F.e4 (F.e3 (F.e2 (F.e1 s b) d) key ky) g).size := by
  have hpl : ∀ (s : ByteArray) (l : List ByteArray), s.size ≤ (F.pl s l).size := fun s l => by have := F.pl_le s l; omega
  refine ⟨?_, ?_, ?_, ?_⟩
  · generalize s = z
    unfold F.e1
    cases b
    · exact Nat.le_refl _
    · exact hpl _ _
  · generalize F.e1 s b = z
    unfold F.e2
    cases decide (0 ≤ d)
    · exact Nat.le_refl _
    · exact hpl _ _
  · generalize F.e2 (F.e1 s b) d = z
    unfold F.e3
    cases F.seq ky key
    · exact hpl _ _
    · exact Nat.le_refl _
  · generalize F.e3 (F.e2 (F.e1 s b) d) key ky = z
    unfold F.e4
    cases g
    · exact Nat.le_refl _
    · exact hpl _ _

theorem F.bE_le (s key : ByteArray) (e : Ent) : (F.tX s e.extra).size ≤ (F.bE s key e).size := by
  obtain ⟨h1, h2, h3, h4⟩ := F.e_le (F.tX s e.extra) key e.brk e.date e.key e.gap
  unfold F.bE F.bE'
  have h5 := F.pl_le (F.e4 (F.e3 (F.e2 (F.e1 (F.tX s e.extra) e.brk) e.date) key e.key) e.gap) [F.kTimS, F.tmS e.milli]
  have h6 := F.pl_le (F.pl (F.e4 (F.e3 (F.e2 (F.e1 (F.tX s e.extra) e.brk) e.date) key e.key) e.gap) [F.kTimS, F.tmS e.milli]) [e.uri]
  omega

theorem F.tE_le : ∀ (l : List Ent) (s key : ByteArray), s.size ≤ (F.tE s key l).size
  | [], s, key => Nat.le_refl _
  | e :: l, s, key => by
    have h1 := F.tE_le l (F.bE s key e) e.key
    have h2 := F.bE_le s key e
    have h3 := F.tX_le e.extra s
    rw [F.tE]
    omega

def F.entW (e : Ent) : Bool := decide (0 ≤ e.milli) && decide (e.milli ≤ 3600000) && decide (e.date ≤ 253402300799999) && decide (e.extra.length ≤ 1000)

def F.tEB (s key : ByteArray) (l : List Ent) : Bool := decide ((F.tE s key l).size ≤ 80000000)

theorem F.tEB_iff {s key : ByteArray} {l : List Ent} : F.tEB s key l = true ↔ (F.tE s key l).size ≤ 80000000 := by
  unfold F.tEB
  exact decide_eq_true_iff

namespace M

theorem evDsh (s : ByteArray) : (runF en0 false Tryz.f53 [vS s]).val =
  bif ByteArray.toList s == ByteArray.toList (ByteArray.mk (Array.mk [])) then some ((vS (ByteArray.mk (Array.mk [(45 : UInt8)]))), []) else some ((vS s), []) := (runFR_val).symm.trans (by kernel_rfl)

def encDsh1 (s : ByteArray) : List AV := [vS s]

def encDsh (a : ByteArray) : List AV := encDsh1 a

theorem encDsh_inj (a a' : ByteArray) (h : encDsh a = encDsh a') : a = a' := by
  simp only [encDsh, encDsh1] at h
  try simp [eUs_inj, strs_inj, ints_inj, ents_inj, eEnt_iff, eLst_iff, eSnds_inj, eStrms_inj] at h
  grind

theorem unDsh (s : ByteArray) : unenc encDsh ([(vS s)]) = some (s) := unenc_of encDsh_inj (s) rfl

def resDsh1 (s : ByteArray) : AV × Heap := (vS (F.dsh s), [])

def preDsh1 (s : ByteArray) : Bool := true

noncomputable def oDsh : Orc := orc 53 true encDsh (fun a => preDsh1 a) fun a => resDsh1 a

theorem okDsh : OrcOK Tryz.prog noG oDsh := by
  refine mk_ok Tryz.f53 (keep := false) (by kernel_rfl) (by kernel_rfl) en0_ok mixed (no_loops (by kernel_rfl)) (by first | exact fun _ _ => ⟨rfl, rfl⟩ | (intro h; cases h)) ?_
  rintro s hpre hok
  show (runF en0 false _ (encDsh1 _)).val = some (resDsh1 _)
  unfold encDsh1 resDsh1
  rw [evDsh]
  simp only [etaEnt, etaLst, etaSnd, etaStrm, etaMas, Option.bind_some, List.length_map, unStrs, unInts, unBools, unEnts, unItms, unTrns, cond_true, cond_false, Bool.and_true, Bool.true_and, unWstU, unBstU, F.bldS_some, F.bldLen_some, F.dsh, F.seq]
  cases s.toList == (⟨⟨[]⟩⟩ : ByteArray).toList <;> rfl

def stTx2 (t : Int) (f : Int) (b : Int) (es : List Ent) (en : Bool) (i : Nat) (key : ByteArray) (u : ByteArray) (m : Int) (br : Bool) (d : Int) (ky : ByteArray) (g : Bool) (x : List ByteArray) (s : ByteArray) (j : Nat) : St := ⟨[(50, vI j), (49, vI x.length), (48, .sl (x.map eStr)), (43, vI i), (42, vI es.length), (41, .sl (es.map eEnt)), (9, .ptr 9 0 0), (7, vS key), (6, .fn 49 [.ptr 5 0 0]), (5, .ptr 5 0 0), (2, .ptr 2 0 0)], [(20000, ⟨false, 5, 1, F.eUs s⟩), (9, ⟨true, 0, 0, [[vS u, vI m, vB br, vI d, vS ky, vB g, .sl (x.map eStr)]]⟩), (5, ⟨true, 81, 0, [[.ptr 5 0 0, .own 20000]]⟩), (2, ⟨true, 0, 0, [[vI t, vI f, vI b, .sl (es.map eEnt), vB en]]⟩)]⟩

def stTx21 (a : Int × Int × Int × (List Ent) × Bool × Nat × ByteArray × ByteArray × Int × Bool × Int × ByteArray × Bool × (List ByteArray) × ByteArray × Nat) : St := stTx2 a.1 a.2.1 a.2.2.1 a.2.2.2.1 a.2.2.2.2.1 a.2.2.2.2.2.1 a.2.2.2.2.2.2.1 a.2.2.2.2.2.2.2.1 a.2.2.2.2.2.2.2.2.1 a.2.2.2.2.2.2.2.2.2.1 a.2.2.2.2.2.2.2.2.2.2.1 a.2.2.2.2.2.2.2.2.2.2.2.1 a.2.2.2.2.2.2.2.2.2.2.2.2.1 a.2.2.2.2.2.2.2.2.2.2.2.2.2.1 a.2.2.2.2.2.2.2.2.2.2.2.2.2.2.1 a.2.2.2.2.2.2.2.2.2.2.2.2.2.2.2

theorem stTx2_inj (a a' : Int × Int × Int × (List Ent) × Bool × Nat × ByteArray × ByteArray × Int × Bool × Int × ByteArray × Bool × (List ByteArray) × ByteArray × Nat) (h : stTx21 a = stTx21 a') : a = a' := by
  simp only [stTx21, stTx2] at h
  try simp [eUs_inj, strs_inj, ints_inj, ents_inj, eEnt_iff, eLst_iff, eSnds_inj, eStrms_inj] at h
  grind

theorem unstTx2 (t : Int) (f : Int) (b : Int) (es : List Ent) (en : Bool) (i : Nat) (key : ByteArray) (u : ByteArray) (m : Int) (br : Bool) (d : Int) (ky : ByteArray) (g : Bool) (x : List ByteArray) (s : ByteArray) (j : Nat) : unenc stTx21 (St.mk [(50, (vI (↑j : Int))), (49, (vI (↑(List.length x) : Int))), (48, AV.sl (List.map eStr x)), (43, (vI (↑i : Int))), (42, (vI (↑(List.length es) : Int))), (41, AV.sl
  (List.map eEnt es)), (9, .ptr 9 0 0), (7, (vS key)), (6, AV.fn (49 : FuncId) [.ptr 5 0 0]), (5, .ptr 5 0 0), (2, .ptr 2 0 0)] [(20000, Blk.mk false 5 1 (F.eUs s)), (9,
  Blk.mk true 0 0 [[(vS u), (vI m), (vB br), (vI d), (vS ky), (vB g), AV.sl (List.map eStr x)]]), (5, Blk.mk true 81 0 [[.ptr 5 0 0, .own 20000]]), (2, Blk.mk true 0 0 [[(vI
  t), (vI f), (vI b), AV.sl (List.map eEnt es), (vB en)]])]) = some (t, f, b, es, en, i, key, u, m, br, d, ky, g, x, s, j) := unenc_of stTx2_inj (t, f, b, es, en, i, key, u, m, br, d, ky, g, x, s, j) rfl

theorem unstTx20 (t : Int) (f : Int) (b : Int) (es : List Ent) (en : Bool) (i : Nat) (key : ByteArray) (u : ByteArray) (m : Int) (br : Bool) (d : Int) (ky : ByteArray) (g : Bool) (x : List ByteArray) (s : ByteArray)  : unenc stTx21 (St.mk [(50, (vI (0 : Int))), (49, (vI (↑(List.length x) : Int))), (48, AV.sl (List.map eStr x)), (43, (vI (↑i : Int))), (42, (vI (↑(List.length es) : Int))), (41, AV.sl
  (List.map eEnt es)), (9, .ptr 9 0 0), (7, (vS key)), (6, AV.fn (49 : FuncId) [.ptr 5 0 0]), (5, .ptr 5 0 0), (2, .ptr 2 0 0)] [(20000, Blk.mk false 5 1 (F.eUs s)), (9,
  Blk.mk true 0 0 [[(vS u), (vI m), (vB br), (vI d), (vS ky), (vB g), AV.sl (List.map eStr x)]]), (5, Blk.mk true 81 0 [[.ptr 5 0 0, .own 20000]]), (2, Blk.mk true 0 0 [[(vI
  t), (vI f), (vI b), AV.sl (List.map eEnt es), (vB en)]])]) = some (t, f, b, es, en, i, key, u, m, br, d, ky, g, x, s, 0) := unenc_of stTx2_inj (t, f, b, es, en, i, key, u, m, br, d, ky, g, x, s, 0) rfl

def outTx2 (t : Int) (f : Int) (b : Int) (es : List Ent) (en : Bool) (i : Nat) (key : ByteArray) (u : ByteArray) (m : Int) (br : Bool) (d : Int) (ky : ByteArray) (g : Bool) (x : List ByteArray) (s : ByteArray) (j : Nat) : T (Ex × St) := .ret (.exit 2, ⟨[(43, vI i), (42, vI es.length), (41, .sl (es.map eEnt)), (9, .ptr 9 0 0), (7, vS key), (6, .fn 49 [.ptr 5 0 0]), (5, .ptr 5 0 0), (2, .ptr 2 0 0)], [(20000, ⟨false, 5, 1, F.eUs (F.tX s (x.drop j))⟩), (9, ⟨true, 0, 0, [[vS u, vI m, vB br, vI d, vS ky, vB g, .sl (x.map eStr)]]⟩), (5, ⟨true, 81, 0, [[.ptr 5 0 0, .own 20000]]⟩), (2, ⟨true, 0, 0, [[vI t, vI f, vI b, .sl (es.map eEnt), vB en]]⟩)]⟩)

noncomputable def prlTx2 (t : Int) (f : Int) (b : Int) (es : List Ent) (en : Bool) (i : Nat) (key : ByteArray) (u : ByteArray) (m : Int) (br : Bool) (d : Int) (ky : ByteArray) (g : Bool) (x : List ByteArray) (s : ByteArray) (j : Nat) : Bool := decide (x.length ≤ 1000) && decide (j ≤ x.length) && decide ((F.tX s (x.drop j)).size ≤ 80000000)

noncomputable def lpTx2 : Nat × (St → T (Ex × St)) := (13, lpo [50, 49, 48, 43, 42, 41, 9, 7, 6, 5, 2] [20000, 9, 5, 2] stTx21 (fun a => prlTx2 a.1 a.2.1 a.2.2.1 a.2.2.2.1 a.2.2.2.2.1 a.2.2.2.2.2.1 a.2.2.2.2.2.2.1 a.2.2.2.2.2.2.2.1 a.2.2.2.2.2.2.2.2.1 a.2.2.2.2.2.2.2.2.2.1 a.2.2.2.2.2.2.2.2.2.2.1 a.2.2.2.2.2.2.2.2.2.2.2.1 a.2.2.2.2.2.2.2.2.2.2.2.2.1 a.2.2.2.2.2.2.2.2.2.2.2.2.2.1 a.2.2.2.2.2.2.2.2.2.2.2.2.2.2.1 a.2.2.2.2.2.2.2.2.2.2.2.2.2.2.2) fun a => outTx2 a.1 a.2.1 a.2.2.1 a.2.2.2.1 a.2.2.2.2.1 a.2.2.2.2.2.1 a.2.2.2.2.2.2.1 a.2.2.2.2.2.2.2.1 a.2.2.2.2.2.2.2.2.1 a.2.2.2.2.2.2.2.2.2.1 a.2.2.2.2.2.2.2.2.2.2.1 a.2.2.2.2.2.2.2.2.2.2.2.1 a.2.2.2.2.2.2.2.2.2.2.2.2.1 a.2.2.2.2.2.2.2.2.2.2.2.2.2.1 a.2.2.2.2.2.2.2.2.2.2.2.2.2.2.1 a.2.2.2.2.2.2.2.2.2.2.2.2.2.2.2)

def stTx1 (t : Int) (f : Int) (b : Int) (es : List Ent) (en : Bool) (s : ByteArray) (key : ByteArray) (i : Nat) : St := ⟨[(43, vI i), (42, vI es.length), (41, .sl (es.map eEnt)), (7, vS key), (6, .fn 49 [.ptr 5 0 0]), (5, .ptr 5 0 0), (2, .ptr 2 0 0)], [(20000, ⟨false, 5, 1, F.eUs s⟩), (5, ⟨true, 81, 0, [[.ptr 5 0 0, .own 20000]]⟩), (2, ⟨true, 0, 0, [[vI t, vI f, vI b, .sl (es.map eEnt), vB en]]⟩)]⟩

def stTx11 (a : Int × Int × Int × (List Ent) × Bool × ByteArray × ByteArray × Nat) : St := stTx1 a.1 a.2.1 a.2.2.1 a.2.2.2.1 a.2.2.2.2.1 a.2.2.2.2.2.1 a.2.2.2.2.2.2.1 a.2.2.2.2.2.2.2

theorem stTx1_inj (a a' : Int × Int × Int × (List Ent) × Bool × ByteArray × ByteArray × Nat) (h : stTx11 a = stTx11 a') : a = a' := by
  simp only [stTx11, stTx1] at h
  try simp [eUs_inj, strs_inj, ints_inj, ents_inj, eEnt_iff, eLst_iff, eSnds_inj, eStrms_inj] at h
  grind

theorem unstTx1 (t : Int) (f : Int) (b : Int) (es : List Ent) (en : Bool) (s : ByteArray) (key : ByteArray) (i : Nat) : unenc stTx11 (St.mk [(43, (vI (↑i : Int))), (42, (vI (↑(List.length es) : Int))), (41, AV.sl (List.map eEnt es)), (7, (vS key)), (6, AV.fn (49 : FuncId) [.ptr 5 0 0]), (5, .ptr 5 0 0),
  (2, .ptr 2 0 0)] [(20000, Blk.mk false 5 1 (F.eUs s)), (5, Blk.mk true 81 0 [[.ptr 5 0 0, .own 20000]]), (2, Blk.mk true 0 0 [[(vI t), (vI f), (vI b), AV.sl (List.map eEnt
  es), (vB en)]])]) = some (t, f, b, es, en, s, key, i) := unenc_of stTx1_inj (t, f, b, es, en, s, key, i) rfl

theorem unstTx10 (t : Int) (f : Int) (b : Int) (es : List Ent) (en : Bool) (s : ByteArray)  : unenc stTx11 (St.mk [(43, (vI (0 : Int))), (42, (vI (↑(List.length es) : Int))), (41, AV.sl (List.map eEnt es)), (7, (vS (ByteArray.mk (Array.mk [])))), (6, AV.fn (49 : FuncId) [.ptr 5
  0 0]), (5, .ptr 5 0 0), (2, .ptr 2 0 0)] [(20000, Blk.mk false 5 1 (F.eUs s)), (5, Blk.mk true 81 0 [[.ptr 5 0 0, .own 20000]]), (2, Blk.mk true 0 0 [[(vI t), (vI f), (vI
  b), AV.sl (List.map eEnt es), (vB en)]])]) = some (t, f, b, es, en, s, ⟨⟨[]⟩⟩, 0) := unenc_of stTx1_inj (t, f, b, es, en, s, ⟨⟨[]⟩⟩, 0) rfl

def outTx1 (t : Int) (f : Int) (b : Int) (es : List Ent) (en : Bool) (s : ByteArray) (key : ByteArray) (i : Nat) : T (Ex × St) := .ret (.exit 0, ⟨[(6, .fn 49 [.ptr 5 0 0]), (5, .ptr 5 0 0), (2, .ptr 2 0 0)], [(20000, ⟨false, 5, 1, F.eUs (F.tE s key (es.drop i))⟩), (5, ⟨true, 81, 0, [[.ptr 5 0 0, .own 20000]]⟩), (2, ⟨true, 0, 0, [[vI t, vI f, vI b, .sl (es.map eEnt), vB en]]⟩)]⟩)

noncomputable def prlTx1 (t : Int) (f : Int) (b : Int) (es : List Ent) (en : Bool) (s : ByteArray) (key : ByteArray) (i : Nat) : Bool := decide (es.length ≤ 1000) && decide (i ≤ es.length) && es.all F.entW && F.tEB s key (es.drop i)

noncomputable def lpTx1 : Nat × (St → T (Ex × St)) := (10, lpo [43, 42, 41, 7, 6, 5, 2] [20000, 5, 2] stTx11 (fun a => prlTx1 a.1 a.2.1 a.2.2.1 a.2.2.2.1 a.2.2.2.2.1 a.2.2.2.2.2.1 a.2.2.2.2.2.2.1 a.2.2.2.2.2.2.2) fun a => outTx1 a.1 a.2.1 a.2.2.1 a.2.2.2.1 a.2.2.2.2.1 a.2.2.2.2.2.1 a.2.2.2.2.2.2.1 a.2.2.2.2.2.2.2)

theorem pre_ok (s : ByteArray) (l : List ByteArray) (h1 : l.length ≤ 1000) (h2 : (F.pl s l).size ≤ 80000000) : F.putB (some s) l = true := by
  have h3 := F.pl_le s l
  show (decide (l.length ≤ 1000) && decide ((F.cat s l).size ≤ 90000000)) = true
  rw [decide_eq_true h1, decide_eq_true (by omega)]
  rfl

theorem fpl (s : ByteArray) (l : List ByteArray) : F.cat s l ++ (⟨⟨[10]⟩⟩ : ByteArray) = F.pl s l := rfl

noncomputable def enTx : Env := envH ty noG lks [oIta, oDte, oDcm, oDsh] [oPut, oWst, oBst] [20000] [lpTx1, lpTx2]

theorem enTx_ok : EnvOK Tryz.prog enTx := by
  refine envH_ok lks_ok ty_ok ?_ ?_
  · simp only [List.forall_mem_cons]
    exact ⟨okIta, okDte, okDcm, okDsh, by simp⟩
  · simp only [List.forall_mem_cons]
    exact ⟨okPut, okWst, okBst, by simp⟩

theorem evTx2L (t : Int) (f : Int) (b : Int) (es : List Ent) (en : Bool) (i : Nat) (key : ByteArray) (u : ByteArray) (m : Int) (br : Bool) (d : Int) (ky : ByteArray) (g : Bool) (x : List ByteArray) (s : ByteArray) (j : Nat) : ((exec enTx (loopN Tryz.f26 1) (stTx2 t f b es en i key u m br d ky g x s j)).bind (lessX ([50, 49, 48, 43, 42, 41, 9, 7, 6, 5, 2], [20000, 9, 5, 2]) ([43, 42, 41, 9, 7, 6, 5, 2], [20000, 9, 5, 2]) ([], []))).val =
  (fun (q : List (Nat × AV)) => (fun (q_1 : List (Nat × Blk)) => bif decide ((↑j : Int) < (↑(List.length x) : Int)) then Option.bind (unenc (List.map eStr) (List.map eStr x)) fun (z : List ByteArray) => bif decide (j < List.length z) then Option.bind (unenc encPut ([.own 900, .ptr 901 0 0], [(902, Blk.mk false 5 1 (F.eUs s)), (901, Blk.mk true 81 0 [[.ptr 901 0 0, .own 902]]), (900, Blk.mk false 9 1 [[(vS (List.getD z j (ByteArray.mk (Array.mk []))))]])])) fun (z : Option ByteArray × List ByteArray) => bif F.putB z.fst z.snd then bif match z.fst with | some val => false | none => true then none else some (Ex.normal, St.mk ((50, (vI (IntKind.wrap IntKind.i64 ((↑j : Int) + (1 : Int))))) :: (49, (vI (↑(List.length x) : Int))) :: (48, AV.sl (List.map eStr x)) :: q) ((20000, Blk.mk false 5 1 (F.eUs (F.cat (F.bldS z.fst) z.snd ++ ByteArray.mk (Array.mk [(10 : UInt8)])))) :: q_1)) else none else none else some (Ex.exit (2 : Nat), St.mk q ((20000, Blk.mk false 5 1 (F.eUs s)) :: q_1))) [(9, Blk.mk true 0 0 [[(vS u), (vI m), (vB br), (vI d), (vS ky), (vB g), AV.sl (List.map eStr x)]]), (5, Blk.mk true 81 0 [[.ptr 5 0 0, .own 20000]]), (2, Blk.mk true 0 0 [[(vI t), (vI f), (vI b), AV.sl (List.map eEnt es), (vB en)]])]) [(43, (vI (↑i : Int))), (42, (vI (↑(List.length es) : Int))), (41, AV.sl (List.map eEnt es)), (9, .ptr 9 0 0), (7, (vS key)), (6, AV.fn (49 : FuncId) [.ptr 5 0 0]), (5, .ptr 5 0 0), (2, .ptr 2 0 0)] := (execR_bind _ _ _).symm.trans (by kernel_rfl)

theorem lpTx2_ok (t : Int) (f : Int) (b : Int) (es : List Ent) (en : Bool) (i : Nat) (key : ByteArray) (u : ByteArray) (m : Int) (br : Bool) (d : Int) (ky : ByteArray) (g : Bool) (x : List ByteArray) (s : ByteArray) (j : Nat) (hp : prlTx2 t f b es en i key u m br d ky g x s j = true) : ∀ ex s', (outTx2 t f b es en i key u m br d ky g x s j).val = some (ex, s') → LoopOK enTx (loopN Tryz.f26 1) (stTx2 t f b es en i key u m br d ky g x s j) ex s' := by
  simp only [prlTx2, Bool.and_eq_true, decide_eq_true_eq] at hp
  obtain ⟨⟨h1, h2⟩, h3⟩ := hp
  refine loop_gen (st := fun p : ByteArray × Nat => stTx2 t f b es en i key u m br d ky g x p.1 p.2) (out := fun p => outTx2 t f b es en i key u m br d ky g x p.1 p.2) (I := fun p => p.2 ≤ x.length ∧ (F.tX p.1 (x.drop p.2)).size ≤ 80000000) (n := ([50, 49, 48, 43, 42, 41, 9, 7, 6, 5, 2], [20000, 9, 5, 2])) (e := ([43, 42, 41, 9, 7, 6, 5, 2], [20000, 9, 5, 2])) (r := ([], [])) (fun p => x.length - p.2) ?_ (s, j) ⟨h2, h3⟩
  clear h2 h3
  rintro ⟨s, j⟩ ⟨h2, h3⟩
  simp only at h2 h3
  by_cases hlt : j < x.length
  · have hy : x[j]? = some x[j] := List.getElem?_eq_getElem hlt
    generalize x[j] = y at hy
    have hdd := drop_y hy
    rw [hdd, F.tX] at h3
    have hc := F.tX_le (x.drop (j + 1)) (F.pl s [y])
    have hc2 := F.pl_le s [y]
    have hc3 : F.cat s [y] = s ++ y := rfl
    right
    refine ⟨(F.pl s [y], j + 1), ?_, rfl, ⟨hlt, h3⟩, by simp only; omega, ?_⟩
    · rw [evTx2L]
      simp only [unIta, unDte, unDcm, unDsh, unPut, unWst, unBst, preIta1, preDte1, preDcm1, preDsh1, prePut1, preWst1, preBst1, unstTx1, unstTx2, unstTx10, unstTx20, prlTx1, prlTx2, outTx1, outTx2, etaEnt, etaLst, etaSnd, etaStrm, etaMas, Option.bind_some, List.length_map, unStrs, unInts, unBools, unEnts, unItms, unTrns, cond_true, cond_false, Bool.and_true, Bool.true_and, unWstU, unBstU, F.bldS_some, F.bldLen_some, cast_lt hlt, decide_eq_true hlt, getD_at hy, unPut1, resPut, fpl]
      rw [pre_ok s [y] (Nat.le_of_ble_eq_true rfl) (by omega), next_at hlt (by omega : x.length ≤ 9223372036854775807)]
      rfl
    · simp only [outTx2, hdd, F.tX]
  · have : j = x.length := by omega
    subst this
    left
    refine ⟨(.exit 2, ⟨[(43, vI i), (42, vI es.length), (41, .sl (es.map eEnt)), (9, .ptr 9 0 0), (7, vS key), (6, .fn 49 [.ptr 5 0 0]), (5, .ptr 5 0 0), (2, .ptr 2 0 0)], [(20000, ⟨false, 5, 1, F.eUs s⟩), (9, ⟨true, 0, 0, [[vS u, vI m, vB br, vI d, vS ky, vB g, .sl (x.map eStr)]]⟩), (5, ⟨true, 81, 0, [[.ptr 5 0 0, .own 20000]]⟩), (2, ⟨true, 0, 0, [[vI t, vI f, vI b, .sl (es.map eEnt), vB en]]⟩)]⟩), ?_, ?_, by simp, rfl⟩
    · rw [evTx2L]
      simp
    · simp only [outTx2, List.drop_length, F.tX]
      rfl

theorem evTx1L (t : Int) (f : Int) (b : Int) (es : List Ent) (en : Bool) (s : ByteArray) (key : ByteArray) (i : Nat) : ((exec enTx (loopN Tryz.f26 0) (stTx1 t f b es en s key i)).bind (lessX ([43, 42, 41, 7, 6, 5, 2], [20000, 5, 2]) ([6, 5, 2], [20000, 5, 2]) ([], []))).val =
  (fun (q : ByteArray) => (fun (q_1 : List AV) => (fun (q_2 : List AV) => (fun (q_3 : Ent) => (fun (q_4 : Nat × Blk) => (fun (q_5 : Nat × Blk) => (fun (q_6 : List AV) => (fun (q_7 : List AV) => (fun (q_8 : List AV) => (fun (q_9 : List (Nat × AV)) => (fun (q_10 : List (Nat × Blk)) => (fun (q_11 : List (Nat × Blk)) => bif decide ((↑i : Int) < (↑(List.length es) : Int)) then Option.bind (unenc (List.map eEnt) (List.map eEnt es)) fun (z : List Ent) => bif decide (i < List.length z) then Option.bind (unenc stTx21 (St.mk ((50, (vI (0 : Int))) :: (49, (vI (↑(List.length (List.map eStr (List.getD z i q_3).extra)) : Int))) :: (48, AV.sl (List.map eStr (List.getD z i q_3).extra)) :: (43, (vI (↑i : Int))) :: (42, (vI (↑(List.length es) : Int))) :: (41, AV.sl (List.map eEnt es)) :: (9, .ptr 9 0 0) :: (7, (vS key)) :: q_9) ((20000, Blk.mk false 5 1 (F.eUs s)) :: (9, Blk.mk true 0 0 [[(vS (List.getD z i q_3).uri), (vI (List.getD z i q_3).milli), (vB (List.getD z i q_3).brk), (vI (List.getD z i q_3).date), (vS (List.getD z i q_3).key), (vB (List.getD z i q_3).gap), AV.sl (List.map eStr (List.getD z i q_3).extra)]]) :: q_11))) fun (z : Int × Int × Int × List Ent × Bool × Nat × ByteArray × ByteArray × Int × Bool × Int × ByteArray × Bool × List ByteArray × ByteArray × Nat) => (fun (q_12 : AV) => (fun (q_13 : Bool × Int × ByteArray × Bool × List ByteArray × ByteArray × Nat) => (fun (q_14 : Nat × AV) => (fun (q_15 : Int) => (fun (q_16 : ByteArray) => (fun (q_17 : Bool) => (fun (q_18 : List ByteArray × ByteArray × Nat) => (fun (q_19 : Nat) => (fun (q_20 : Nat) => (fun (q_21 : Option Int) => (fun (q_22 : Nat × AV) => (fun (q_23 : Option ByteArray) => (fun (q_24 : Option Int) => (fun (q_25 : Bool) => (fun (q_26 : List (Nat × Blk)) => (fun (q_27 : ByteArray) => (fun (q_28 : List (Nat × Blk)) => (fun (q_29 : List (Nat × AV)) => (fun (q_30 : Nat × Blk) => (fun (q_31 : List (Nat × AV)) => bif decide (q_19 ≤ (1000 : Nat)) && decide (q_20 ≤ q_19) && decide (ByteArray.size q_27 ≤ (80000000 : Nat)) && true then bif q_13.fst then Option.bind (unenc encPut (q_1, [q_30, q_5, (900, Blk.mk false 9 1 [[(vS (ByteArray.mk (Array.mk [(35 : UInt8), (66 : UInt8), (82 : UInt8), (69 : UInt8), (65 : UInt8), (75 : UInt8)])))]])])) fun (z : Option ByteArray × List ByteArray) => (fun (q_32 : Nat × Blk) => bif F.putB z.fst z.snd then bif match z.fst with | some val => false | none => true then none else bif decide ((0 : Int) ≤ q_15) then Option.bind q_24 fun (z : Int) => bif decide ((0 : Int) ≤ z) && decide (z ≤ (253402300799999 : Int)) then Option.bind (unenc encPut (q_1, [q_32, q_5, (900, Blk.mk false 9 1 [q_8, [(vS (F.dtS z))]])])) fun (z : Option ByteArray × List ByteArray) => (fun (q_33 : Nat × Blk) => bif F.putB z.fst z.snd then bif match z.fst with | some val => false | none => true then none else bif q_25 then Option.bind q_23 fun (z : ByteArray) => Option.bind (unenc encPut (q_1, [q_33, q_5, (900, Blk.mk false 9 1 [q_6, [(vS (F.dsh z))]])])) fun (z : Option ByteArray × List ByteArray) => (fun (q_34 : Nat × Blk) => bif F.putB z.fst z.snd then bif match z.fst with | some val => false | none => true then none else bif q_17 then Option.bind (unenc encPut (q_1, q_34 :: q_10)) fun (z : Option ByteArray × List ByteArray) => bif F.putB z.fst z.snd then bif match z.fst with | some val => false | none => true then none else Option.bind q_21 fun (z_1 : Int) => bif decide ((0 : Int) ≤ z_1) && decide (z_1 ≤ (3600000 : Int)) then Option.bind (unenc encPut (q_1, [(902, Blk.mk false 5 1 (F.eUs (F.cat (F.bldS z.fst) z.snd ++ q))), q_5, (900, Blk.mk false 9 1 [q_7, [(vS (F.tmS z_1))]])])) fun (z : Option ByteArray × List ByteArray) => bif F.putB z.fst z.snd then bif match z.fst with | some val => false | none => true then none else Option.bind (unenc encPut (q_1, (902, Blk.mk false 5 1 (F.eUs (F.cat (F.bldS z.fst) z.snd ++ q))) :: q_26)) fun (z : Option ByteArray × List ByteArray) => bif F.putB z.fst z.snd then bif match z.fst with | some val => false | none => true then none else some (Ex.normal, St.mk q_31 ((20000, Blk.mk false 5 1 (F.eUs (F.cat (F.bldS z.fst) z.snd ++ q))) :: q_28)) else none else none else none else none else Option.bind q_21 fun (z : Int) => bif decide ((0 : Int) ≤ z) && decide (z ≤ (3600000 : Int)) then Option.bind (unenc encPut (q_1, [q_34, q_5, (900, Blk.mk false 9 1 [q_7, [(vS (F.tmS z))]])])) fun (z : Option ByteArray × List ByteArray) => bif F.putB z.fst z.snd then bif match z.fst with | some val => false | none => true then none else Option.bind (unenc encPut (q_1, (902, Blk.mk false 5 1 (F.eUs (F.cat (F.bldS z.fst) z.snd ++ q))) :: q_26)) fun (z : Option ByteArray × List ByteArray) => bif F.putB z.fst z.snd then bif match z.fst with | some val => false | none => true then none else some (Ex.normal, St.mk q_31 ((20000, Blk.mk false 5 1 (F.eUs (F.cat (F.bldS z.fst) z.snd ++ q))) :: q_28)) else none else none else none else none) (902, Blk.mk false 5 1 (F.eUs (F.cat (F.bldS z.fst) z.snd ++ q))) else bif q_17 then Option.bind (unenc encPut (q_1, q_33 :: q_10)) fun (z : Option ByteArray × List ByteArray) => bif F.putB z.fst z.snd then bif match z.fst with | some val => false | none => true then none else Option.bind q_21 fun (z_1 : Int) => bif decide ((0 : Int) ≤ z_1) && decide (z_1 ≤ (3600000 : Int)) then Option.bind (unenc encPut (q_1, [(902, Blk.mk false 5 1 (F.eUs (F.cat (F.bldS z.fst) z.snd ++ q))), q_5, (900, Blk.mk false 9 1 [q_7, [(vS (F.tmS z_1))]])])) fun (z : Option ByteArray × List ByteArray) => bif F.putB z.fst z.snd then bif match z.fst with | some val => false | none => true then none else Option.bind (unenc encPut (q_1, (902, Blk.mk false 5 1 (F.eUs (F.cat (F.bldS z.fst) z.snd ++ q))) :: q_26)) fun (z : Option ByteArray × List ByteArray) => bif F.putB z.fst z.snd then bif match z.fst with | some val => false | none => true then none else some (Ex.normal, St.mk q_29 ((20000, Blk.mk false 5 1 (F.eUs (F.cat (F.bldS z.fst) z.snd ++ q))) :: q_28)) else none else none else none else none else Option.bind q_21 fun (z : Int) => bif decide ((0 : Int) ≤ z) && decide (z ≤ (3600000 : Int)) then Option.bind (unenc encPut (q_1, [q_33, q_5, (900, Blk.mk false 9 1 [q_7, [(vS (F.tmS z))]])])) fun (z : Option ByteArray × List ByteArray) => bif F.putB z.fst z.snd then bif match z.fst with | some val => false | none => true then none else Option.bind (unenc encPut (q_1, (902, Blk.mk false 5 1 (F.eUs (F.cat (F.bldS z.fst) z.snd ++ q))) :: q_26)) fun (z : Option ByteArray × List ByteArray) => bif F.putB z.fst z.snd then bif match z.fst with | some val => false | none => true then none else some (Ex.normal, St.mk q_29 ((20000, Blk.mk false 5 1 (F.eUs (F.cat (F.bldS z.fst) z.snd ++ q))) :: q_28)) else none else none else none else none) (902, Blk.mk false 5 1 (F.eUs (F.cat (F.bldS z.fst) z.snd ++ q))) else none else bif q_25 then Option.bind q_23 fun (z : ByteArray) => Option.bind (unenc encPut (q_1, [q_32, q_5, (900, Blk.mk false 9 1 [q_6, [(vS (F.dsh z))]])])) fun (z : Option ByteArray × List ByteArray) => (fun (q_33 : Nat × Blk) => bif F.putB z.fst z.snd then bif match z.fst with | some val => false | none => true then none else bif q_17 then Option.bind (unenc encPut (q_1, q_33 :: q_10)) fun (z : Option ByteArray × List ByteArray) => bif F.putB z.fst z.snd then bif match z.fst with | some val => false | none => true then none else Option.bind q_21 fun (z_1 : Int) => bif decide ((0 : Int) ≤ z_1) && decide (z_1 ≤ (3600000 : Int)) then Option.bind (unenc encPut (q_1, [(902, Blk.mk false 5 1 (F.eUs (F.cat (F.bldS z.fst) z.snd ++ q))), q_5, (900, Blk.mk false 9 1 [q_7, [(vS (F.tmS z_1))]])])) fun (z : Option ByteArray × List ByteArray) => bif F.putB z.fst z.snd then bif match z.fst with | some val => false | none => true then none else Option.bind (unenc encPut (q_1, (902, Blk.mk false 5 1 (F.eUs (F.cat (F.bldS z.fst) z.snd ++ q))) :: q_26)) fun (z : Option ByteArray × List ByteArray) => bif F.putB z.fst z.snd then bif match z.fst with | some val => false | none => true then none else some (Ex.normal, St.mk q_31 ((20000, Blk.mk false 5 1 (F.eUs (F.cat (F.bldS z.fst) z.snd ++ q))) :: q_28)) else none else none else none else none else Option.bind q_21 fun (z : Int) => bif decide ((0 : Int) ≤ z) && decide (z ≤ (3600000 : Int)) then Option.bind (unenc encPut (q_1, [q_33, q_5, (900, Blk.mk false 9 1 [q_7, [(vS (F.tmS z))]])])) fun (z : Option ByteArray × List ByteArray) => bif F.putB z.fst z.snd then bif match z.fst with | some val => false | none => true then none else Option.bind (unenc encPut (q_1, (902, Blk.mk false 5 1 (F.eUs (F.cat (F.bldS z.fst) z.snd ++ q))) :: q_26)) fun (z : Option ByteArray × List ByteArray) => bif F.putB z.fst z.snd then bif match z.fst with | some val => false | none => true then none else some (Ex.normal, St.mk q_31 ((20000, Blk.mk false 5 1 (F.eUs (F.cat (F.bldS z.fst) z.snd ++ q))) :: q_28)) else none else none else none else none) (902, Blk.mk false 5 1 (F.eUs (F.cat (F.bldS z.fst) z.snd ++ q))) else bif q_17 then Option.bind (unenc encPut (q_1, q_32 :: q_10)) fun (z : Option ByteArray × List ByteArray) => bif F.putB z.fst z.snd then bif match z.fst with | some val => false | none => true then none else Option.bind q_21 fun (z_1 : Int) => bif decide ((0 : Int) ≤ z_1) && decide (z_1 ≤ (3600000 : Int)) then Option.bind (unenc encPut (q_1, [(902, Blk.mk false 5 1 (F.eUs (F.cat (F.bldS z.fst) z.snd ++ q))), q_5, (900, Blk.mk false 9 1 [q_7, [(vS (F.tmS z_1))]])])) fun (z : Option ByteArray × List ByteArray) => bif F.putB z.fst z.snd then bif match z.fst with | some val => false | none => true then none else Option.bind (unenc encPut (q_1, (902, Blk.mk false 5 1 (F.eUs (F.cat (F.bldS z.fst) z.snd ++ q))) :: q_26)) fun (z : Option ByteArray × List ByteArray) => bif F.putB z.fst z.snd then bif match z.fst with | some val => false | none => true then none else some (Ex.normal, St.mk q_29 ((20000, Blk.mk false 5 1 (F.eUs (F.cat (F.bldS z.fst) z.snd ++ q))) :: q_28)) else none else none else none else none else Option.bind q_21 fun (z : Int) => bif decide ((0 : Int) ≤ z) && decide (z ≤ (3600000 : Int)) then Option.bind (unenc encPut (q_1, [q_32, q_5, (900, Blk.mk false 9 1 [q_7, [(vS (F.tmS z))]])])) fun (z : Option ByteArray × List ByteArray) => bif F.putB z.fst z.snd then bif match z.fst with | some val => false | none => true then none else Option.bind (unenc encPut (q_1, (902, Blk.mk false 5 1 (F.eUs (F.cat (F.bldS z.fst) z.snd ++ q))) :: q_26)) fun (z : Option ByteArray × List ByteArray) => bif F.putB z.fst z.snd then bif match z.fst with | some val => false | none => true then none else some (Ex.normal, St.mk q_29 ((20000, Blk.mk false 5 1 (F.eUs (F.cat (F.bldS z.fst) z.snd ++ q))) :: q_28)) else none else none else none else none) (902, Blk.mk false 5 1 (F.eUs (F.cat (F.bldS z.fst) z.snd ++ q))) else bif decide ((0 : Int) ≤ q_15) then Option.bind q_24 fun (z : Int) => bif decide ((0 : Int) ≤ z) && decide (z ≤ (253402300799999 : Int)) then Option.bind (unenc encPut (q_1, [q_30, q_5, (900, Blk.mk false 9 1 [q_8, [(vS (F.dtS z))]])])) fun (z : Option ByteArray × List ByteArray) => (fun (q_32 : Nat × Blk) => bif F.putB z.fst z.snd then bif match z.fst with | some val => false | none => true then none else bif q_25 then Option.bind q_23 fun (z : ByteArray) => Option.bind (unenc encPut (q_1, [q_32, q_5, (900, Blk.mk false 9 1 [q_6, [(vS (F.dsh z))]])])) fun (z : Option ByteArray × List ByteArray) => (fun (q_33 : Nat × Blk) => bif F.putB z.fst z.snd then bif match z.fst with | some val => false | none => true then none else bif q_17 then Option.bind (unenc encPut (q_1, q_33 :: q_10)) fun (z : Option ByteArray × List ByteArray) => bif F.putB z.fst z.snd then bif match z.fst with | some val => false | none => true then none else Option.bind q_21 fun (z_1 : Int) => bif decide ((0 : Int) ≤ z_1) && decide (z_1 ≤ (3600000 : Int)) then Option.bind (unenc encPut (q_1, [(902, Blk.mk false 5 1 (F.eUs (F.cat (F.bldS z.fst) z.snd ++ q))), q_5, (900, Blk.mk false 9 1 [q_7, [(vS (F.tmS z_1))]])])) fun (z : Option ByteArray × List ByteArray) => bif F.putB z.fst z.snd then bif match z.fst with | some val => false | none => true then none else Option.bind (unenc encPut (q_1, (902, Blk.mk false 5 1 (F.eUs (F.cat (F.bldS z.fst) z.snd ++ q))) :: q_26)) fun (z : Option ByteArray × List ByteArray) => bif F.putB z.fst z.snd then bif match z.fst with | some val => false | none => true then none else some (Ex.normal, St.mk q_31 ((20000, Blk.mk false 5 1 (F.eUs (F.cat (F.bldS z.fst) z.snd ++ q))) :: q_28)) else none else none else none else none else Option.bind q_21 fun (z : Int) => bif decide ((0 : Int) ≤ z) && decide (z ≤ (3600000 : Int)) then Option.bind (unenc encPut (q_1, [q_33, q_5, (900, Blk.mk false 9 1 [q_7, [(vS (F.tmS z))]])])) fun (z : Option ByteArray × List ByteArray) => bif F.putB z.fst z.snd then bif match z.fst with | some val => false | none => true then none else Option.bind (unenc encPut (q_1, (902, Blk.mk false 5 1 (F.eUs (F.cat (F.bldS z.fst) z.snd ++ q))) :: q_26)) fun (z : Option ByteArray × List ByteArray) => bif F.putB z.fst z.snd then bif match z.fst with | some val => false | none => true then none else some (Ex.normal, St.mk q_31 ((20000, Blk.mk false 5 1 (F.eUs (F.cat (F.bldS z.fst) z.snd ++ q))) :: q_28)) else none else none else none else none) (902, Blk.mk false 5 1 (F.eUs (F.cat (F.bldS z.fst) z.snd ++ q))) else bif q_17 then Option.bind (unenc encPut (q_1, q_32 :: q_10)) fun (z : Option ByteArray × List ByteArray) => bif F.putB z.fst z.snd then bif match z.fst with | some val => false | none => true then none else Option.bind q_21 fun (z_1 : Int) => bif decide ((0 : Int) ≤ z_1) && decide (z_1 ≤ (3600000 : Int)) then Option.bind (unenc encPut (q_1, [(902, Blk.mk false 5 1 (F.eUs (F.cat (F.bldS z.fst) z.snd ++ q))), q_5, (900, Blk.mk false 9 1 [q_7, [(vS (F.tmS z_1))]])])) fun (z : Option ByteArray × List ByteArray) => bif F.putB z.fst z.snd then bif match z.fst with | some val => false | none => true then none else Option.bind (unenc encPut (q_1, (902, Blk.mk false 5 1 (F.eUs (F.cat (F.bldS z.fst) z.snd ++ q))) :: q_26)) fun (z : Option ByteArray × List ByteArray) => bif F.putB z.fst z.snd then bif match z.fst with | some val => false | none => true then none else some (Ex.normal, St.mk q_29 ((20000, Blk.mk false 5 1 (F.eUs (F.cat (F.bldS z.fst) z.snd ++ q))) :: q_28)) else none else none else none else none else Option.bind q_21 fun (z : Int) => bif decide ((0 : Int) ≤ z) && decide (z ≤ (3600000 : Int)) then Option.bind (unenc encPut (q_1, [q_32, q_5, (900, Blk.mk false 9 1 [q_7, [(vS (F.tmS z))]])])) fun (z : Option ByteArray × List ByteArray) => bif F.putB z.fst z.snd then bif match z.fst with | some val => false | none => true then none else Option.bind (unenc encPut (q_1, (902, Blk.mk false 5 1 (F.eUs (F.cat (F.bldS z.fst) z.snd ++ q))) :: q_26)) fun (z : Option ByteArray × List ByteArray) => bif F.putB z.fst z.snd then bif match z.fst with | some val => false | none => true then none else some (Ex.normal, St.mk q_29 ((20000, Blk.mk false 5 1 (F.eUs (F.cat (F.bldS z.fst) z.snd ++ q))) :: q_28)) else none else none else none else none) (902, Blk.mk false 5 1 (F.eUs (F.cat (F.bldS z.fst) z.snd ++ q))) else none else bif q_25 then Option.bind q_23 fun (z : ByteArray) => Option.bind (unenc encPut (q_1, [q_30, q_5, (900, Blk.mk false 9 1 [q_6, [(vS (F.dsh z))]])])) fun (z : Option ByteArray × List ByteArray) => (fun (q_32 : Nat × Blk) => bif F.putB z.fst z.snd then bif match z.fst with | some val => false | none => true then none else bif q_17 then Option.bind (unenc encPut (q_1, q_32 :: q_10)) fun (z : Option ByteArray × List ByteArray) => bif F.putB z.fst z.snd then bif match z.fst with | some val => false | none => true then none else Option.bind q_21 fun (z_1 : Int) => bif decide ((0 : Int) ≤ z_1) && decide (z_1 ≤ (3600000 : Int)) then Option.bind (unenc encPut (q_1, [(902, Blk.mk false 5 1 (F.eUs (F.cat (F.bldS z.fst) z.snd ++ q))), q_5, (900, Blk.mk false 9 1 [q_7, [(vS (F.tmS z_1))]])])) fun (z : Option ByteArray × List ByteArray) => bif F.putB z.fst z.snd then bif match z.fst with | some val => false | none => true then none else Option.bind (unenc encPut (q_1, (902, Blk.mk false 5 1 (F.eUs (F.cat (F.bldS z.fst) z.snd ++ q))) :: q_26)) fun (z : Option ByteArray × List ByteArray) => bif F.putB z.fst z.snd then bif match z.fst with | some val => false | none => true then none else some (Ex.normal, St.mk q_31 ((20000, Blk.mk false 5 1 (F.eUs (F.cat (F.bldS z.fst) z.snd ++ q))) :: q_28)) else none else none else none else none else Option.bind q_21 fun (z : Int) => bif decide ((0 : Int) ≤ z) && decide (z ≤ (3600000 : Int)) then Option.bind (unenc encPut (q_1, [q_32, q_5, (900, Blk.mk false 9 1 [q_7, [(vS (F.tmS z))]])])) fun (z : Option ByteArray × List ByteArray) => bif F.putB z.fst z.snd then bif match z.fst with | some val => false | none => true then none else Option.bind (unenc encPut (q_1, (902, Blk.mk false 5 1 (F.eUs (F.cat (F.bldS z.fst) z.snd ++ q))) :: q_26)) fun (z : Option ByteArray × List ByteArray) => bif F.putB z.fst z.snd then bif match z.fst with | some val => false | none => true then none else some (Ex.normal, St.mk q_31 ((20000, Blk.mk false 5 1 (F.eUs (F.cat (F.bldS z.fst) z.snd ++ q))) :: q_28)) else none else none else none else none) (902, Blk.mk false 5 1 (F.eUs (F.cat (F.bldS z.fst) z.snd ++ q))) else bif q_17 then Option.bind (unenc encPut (q_1, q_30 :: q_10)) fun (z : Option ByteArray × List ByteArray) => bif F.putB z.fst z.snd then bif match z.fst with | some val => false | none => true then none else Option.bind q_21 fun (z_1 : Int) => bif decide ((0 : Int) ≤ z_1) && decide (z_1 ≤ (3600000 : Int)) then Option.bind (unenc encPut (q_1, [(902, Blk.mk false 5 1 (F.eUs (F.cat (F.bldS z.fst) z.snd ++ q))), q_5, (900, Blk.mk false 9 1 [q_7, [(vS (F.tmS z_1))]])])) fun (z : Option ByteArray × List ByteArray) => bif F.putB z.fst z.snd then bif match z.fst with | some val => false | none => true then none else Option.bind (unenc encPut (q_1, (902, Blk.mk false 5 1 (F.eUs (F.cat (F.bldS z.fst) z.snd ++ q))) :: q_26)) fun (z : Option ByteArray × List ByteArray) => bif F.putB z.fst z.snd then bif match z.fst with | some val => false | none => true then none else some (Ex.normal, St.mk q_29 ((20000, Blk.mk false 5 1 (F.eUs (F.cat (F.bldS z.fst) z.snd ++ q))) :: q_28)) else none else none else none else none else Option.bind q_21 fun (z : Int) => bif decide ((0 : Int) ≤ z) && decide (z ≤ (3600000 : Int)) then Option.bind (unenc encPut (q_1, [q_30, q_5, (900, Blk.mk false 9 1 [q_7, [(vS (F.tmS z))]])])) fun (z : Option ByteArray × List ByteArray) => bif F.putB z.fst z.snd then bif match z.fst with | some val => false | none => true then none else Option.bind (unenc encPut (q_1, (902, Blk.mk false 5 1 (F.eUs (F.cat (F.bldS z.fst) z.snd ++ q))) :: q_26)) fun (z : Option ByteArray × List ByteArray) => bif F.putB z.fst z.snd then bif match z.fst with | some val => false | none => true then none else some (Ex.normal, St.mk q_29 ((20000, Blk.mk false 5 1 (F.eUs (F.cat (F.bldS z.fst) z.snd ++ q))) :: q_28)) else none else none else none else none) (q_22 :: q_14 :: (41, q_12) :: (7, (vS q_16)) :: q_9)) (902, Blk.mk false 5 1 (F.eUs q_27))) (q_22 :: q_14 :: (41, q_12) :: (7, (vS z.snd.snd.snd.snd.snd.snd.fst)) :: q_9)) [q_4, (2, Blk.mk true 0 0 [[(vI z.fst), (vI z.snd.fst), (vI z.snd.snd.fst), q_12, (vB z.snd.snd.snd.snd.fst)]])]) (F.tX q_18.snd.fst (List.drop q_20 q_18.fst))) [q_5, (900, Blk.mk false 9 1 [[(vS z.snd.snd.snd.snd.snd.snd.snd.fst)]])]) !ByteArray.toList q_16 == ByteArray.toList z.snd.snd.snd.snd.snd.snd.fst) (unenc encDte [(vI q_15)])) (unenc encDsh [(vS q_16)])) (43, (vI (IntKind.wrap IntKind.i64 ((↑z.snd.snd.snd.snd.snd.fst : Int) + (1 : Int)))))) (unenc encDcm ((vI z.snd.snd.snd.snd.snd.snd.snd.snd.fst) :: q_2))) q_18.snd.snd) (List.length q_18.fst)) q_13.snd.snd.snd.snd) q_13.snd.snd.snd.fst) q_13.snd.snd.fst) q_13.snd.fst) (42, (vI (↑(List.length z.snd.snd.snd.fst) : Int)))) z.snd.snd.snd.snd.snd.snd.snd.snd.snd) (AV.sl (List.map eEnt z.snd.snd.snd.fst)) else none else some (Ex.exit (0 : Nat), St.mk q_9 ((20000, Blk.mk false 5 1 (F.eUs s)) :: q_11))) [q_4, (2, Blk.mk true 0 0 [[(vI t), (vI f), (vI b), AV.sl (List.map eEnt es), (vB en)]])]) [q_5, (900, Blk.mk false 9 1 [[(vS (ByteArray.mk (Array.mk [(35 : UInt8), (71 : UInt8), (65 : UInt8), (80 : UInt8)])))]])]) [(6, AV.fn (49 : FuncId) [.ptr 5 0 0]), (5, .ptr 5 0 0), (2, .ptr 2 0 0)]) [(vS (ByteArray.mk (Array.mk [(35 : UInt8), (68 : UInt8), (65 : UInt8), (84 : UInt8), (69 : UInt8), (32 : UInt8)])))]) [(vS (ByteArray.mk (Array.mk [(35 : UInt8), (84 : UInt8), (73 : UInt8), (77 : UInt8), (69 : UInt8), (32 : UInt8)])))]) [(vS (ByteArray.mk (Array.mk [(35 : UInt8), (75 : UInt8), (69 : UInt8), (89 : UInt8), (32 : UInt8)])))]) (901, Blk.mk true 81 0 [[.ptr 901 0 0, .own 902]])) (5, Blk.mk true 81 0 [[.ptr 5 0 0, .own 20000]])) (Ent.mk (ByteArray.mk (Array.mk [])) (0 : Int) false (0 : Int) (ByteArray.mk (Array.mk [])) false [])) [(vI (1000 : Int)), (vI (3 : Int))]) [.own 900, .ptr 901 0 0]) (ByteArray.mk (Array.mk [(10 : UInt8)])) := (execR_bind _ _ _).symm.trans (by kernel_rfl)

theorem lpTx1_ok (t : Int) (f : Int) (b : Int) (es : List Ent) (en : Bool) (s : ByteArray) (key : ByteArray) (i : Nat) (hp : prlTx1 t f b es en s key i = true) : ∀ ex s', (outTx1 t f b es en s key i).val = some (ex, s') → LoopOK enTx (loopN Tryz.f26 0) (stTx1 t f b es en s key i) ex s' := by
  simp only [prlTx1, Bool.and_eq_true, decide_eq_true_eq] at hp
  obtain ⟨⟨⟨h1, h2⟩, h4⟩, h3⟩ := hp
  have h3 := F.tEB_iff.1 h3
  refine loop_gen (st := fun p : ByteArray × ByteArray × Nat => stTx1 t f b es en p.1 p.2.1 p.2.2) (out := fun p => outTx1 t f b es en p.1 p.2.1 p.2.2) (I := fun p => p.2.2 ≤ es.length ∧ (F.tE p.1 p.2.1 (es.drop p.2.2)).size ≤ 80000000) (n := ([43, 42, 41, 7, 6, 5, 2], [20000, 5, 2])) (e := ([6, 5, 2], [20000, 5, 2])) (r := ([], [])) (fun p => es.length - p.2.2) ?_ (s, key, i) ⟨h2, h3⟩
  clear h2 h3
  rintro ⟨s, key, i⟩ ⟨h2, h3⟩
  simp only at h2 h3
  by_cases hlt : i < es.length
  · have hy : es[i]? = some es[i] := List.getElem?_eq_getElem hlt
    have hmem : es[i] ∈ es := List.getElem_mem hlt
    generalize es[i] = y at hy hmem
    have hdd := drop_y hy
    rw [hdd, F.tE] at h3
    have hw := List.all_eq_true.1 h4 y hmem
    unfold F.entW at hw
    simp only [Bool.and_eq_true, decide_eq_true_eq] at hw
    obtain ⟨⟨⟨m1, m2⟩, m3⟩, m4⟩ := hw
    right
    refine ⟨(F.bE s key y, y.key, i + 1), ?_, rfl, ⟨hlt, h3⟩, by simp only; omega, ?_⟩
    · rw [evTx1L]
      simp only [unIta, unDte, unDcm, unDsh, unPut, unWst, unBst, preIta1, preDte1, preDcm1, preDsh1, prePut1, preWst1, preBst1, unstTx1, unstTx2, unstTx10, unstTx20, prlTx1, prlTx2, outTx1, outTx2, etaEnt, etaLst, etaSnd, etaStrm, etaMas, Option.bind_some, List.length_map, unStrs, unInts, unBools, unEnts, unItms, unTrns, cond_true, cond_false, Bool.and_true, Bool.true_and, unWstU, unBstU, F.bldS_some, F.bldLen_some, cast_lt hlt, decide_eq_true hlt, getD_at hy, unPut1, unPut2, resPut, fpl, List.drop_zero]
      have qB : (⟨⟨[35, 66, 82, 69, 65, 75]⟩⟩ : ByteArray) = F.kBrk := rfl
      have qD : (⟨⟨[35, 68, 65, 84, 69, 32]⟩⟩ : ByteArray) = F.kDatS := rfl
      have qK : (⟨⟨[35, 75, 69, 89, 32]⟩⟩ : ByteArray) = F.kKeyS := rfl
      have qG : (⟨⟨[35, 71, 65, 80]⟩⟩ : ByteArray) = F.kGap := rfl
      have qT : (⟨⟨[35, 84, 73, 77, 69, 32]⟩⟩ : ByteArray) = F.kTimS := rfl
      have qs : (y.key.toList == key.toList) = F.seq y.key key := rfl
      rw [qB, qD, qK, qG, qT, qs]
      clear qB qD qK qG qT qs
      have hE := F.tE_le (es.drop (i + 1)) (F.bE s key y) y.key
      obtain ⟨l1, l2, l3, l4⟩ := F.e_le (F.tX s y.extra) key y.brk y.date y.key y.gap
      have hbE : F.bE s key y = F.bE' (F.tX s y.extra) key y.uri y.milli y.brk y.date y.key y.gap := rfl
      have hX := F.tX_le y.extra s
      have hE : (F.bE s key y).size ≤ 80000000 := by omega
      rw [hbE] at hE ⊢
      clear hbE
      unfold F.bE' at hE ⊢
      generalize F.tX s y.extra = T0 at *
      obtain ⟨X1, hX1⟩ : ∃ X1, F.e1 T0 y.brk = X1 := ⟨_, rfl⟩
      rw [hX1] at l1 l2 l3 l4 hE ⊢
      obtain ⟨X2, hX2⟩ : ∃ X2, F.e2 X1 y.date = X2 := ⟨_, rfl⟩
      rw [hX2] at l2 l3 l4 hE ⊢
      obtain ⟨X3, hX3⟩ : ∃ X3, F.e3 X2 key y.key = X3 := ⟨_, rfl⟩
      rw [hX3] at l3 l4 hE ⊢
      obtain ⟨X4, hX4⟩ : ∃ X4, F.e4 X3 y.gap = X4 := ⟨_, rfl⟩
      rw [hX4] at l4 hE ⊢
      have l5 := F.pl_le X4 [F.kTimS, F.tmS y.milli]
      have l6 := F.pl_le (F.pl X4 [F.kTimS, F.tmS y.milli]) [y.uri]
      rw [decide_eq_true m4, decide_eq_true (Nat.zero_le y.extra.length), decide_eq_true (by omega : T0.size ≤ 80000000), decide_eq_true m1, decide_eq_true m2, decide_eq_true m3]
      cases hb : y.brk
      case true =>
        have e : F.pl T0 [F.kBrk] = X1 := by rw [← hX1, hb]; rfl
        rw [pre_ok T0 [F.kBrk] (Nat.le_of_ble_eq_true rfl) (by rw [e]; omega), e]
        by_cases hd : 0 ≤ y.date
        rotate_left
        · have e : X1 = X2 := by rw [← hX2]; unfold F.e2; rw [decide_eq_false hd]; rfl
          rw [decide_eq_false hd, e]
          cases hk : F.seq y.key key
          · have e : F.pl X2 [F.kKeyS, F.dsh y.key] = X3 := by rw [← hX3]; unfold F.e3; rw [hk]; rfl
            rw [pre_ok X2 [F.kKeyS, F.dsh y.key] (Nat.le_of_ble_eq_true rfl) (by rw [e]; omega), e]
            cases hg : y.gap
            · have e : X3 = X4 := by rw [← hX4, hg]; rfl
              rw [e, pre_ok X4 [F.kTimS, F.tmS y.milli] (Nat.le_of_ble_eq_true rfl) (by omega), pre_ok (F.pl X4 [F.kTimS, F.tmS y.milli]) [y.uri] (Nat.le_of_ble_eq_true rfl) (by omega), next_at hlt (by omega : es.length ≤ 9223372036854775807)]
              first | rfl | (rw [hkk]; rfl)
            · have e : F.pl X3 [F.kGap] = X4 := by rw [← hX4, hg]; rfl
              rw [pre_ok X3 [F.kGap] (Nat.le_of_ble_eq_true rfl) (by rw [e]; omega), e, pre_ok X4 [F.kTimS, F.tmS y.milli] (Nat.le_of_ble_eq_true rfl) (by omega), pre_ok (F.pl X4 [F.kTimS, F.tmS y.milli]) [y.uri] (Nat.le_of_ble_eq_true rfl) (by omega), next_at hlt (by omega : es.length ≤ 9223372036854775807)]
              first | rfl | (rw [hkk]; rfl)
          · have e : X2 = X3 := by rw [← hX3]; unfold F.e3; rw [hk]; rfl
            have hkk : y.key = key := F.seq_iff.1 hk
            rw [e]
            cases hg : y.gap
            · have e : X3 = X4 := by rw [← hX4, hg]; rfl
              rw [e, pre_ok X4 [F.kTimS, F.tmS y.milli] (Nat.le_of_ble_eq_true rfl) (by omega), pre_ok (F.pl X4 [F.kTimS, F.tmS y.milli]) [y.uri] (Nat.le_of_ble_eq_true rfl) (by omega), next_at hlt (by omega : es.length ≤ 9223372036854775807)]
              first | rfl | (rw [hkk]; rfl)
            · have e : F.pl X3 [F.kGap] = X4 := by rw [← hX4, hg]; rfl
              rw [pre_ok X3 [F.kGap] (Nat.le_of_ble_eq_true rfl) (by rw [e]; omega), e, pre_ok X4 [F.kTimS, F.tmS y.milli] (Nat.le_of_ble_eq_true rfl) (by omega), pre_ok (F.pl X4 [F.kTimS, F.tmS y.milli]) [y.uri] (Nat.le_of_ble_eq_true rfl) (by omega), next_at hlt (by omega : es.length ≤ 9223372036854775807)]
              first | rfl | (rw [hkk]; rfl)
        · have e : F.pl X1 [F.kDatS, F.dtS y.date] = X2 := by rw [← hX2]; unfold F.e2; rw [decide_eq_true hd]; rfl
          rw [decide_eq_true hd, pre_ok X1 [F.kDatS, F.dtS y.date] (Nat.le_of_ble_eq_true rfl) (by rw [e]; omega), e]
          cases hk : F.seq y.key key
          · have e : F.pl X2 [F.kKeyS, F.dsh y.key] = X3 := by rw [← hX3]; unfold F.e3; rw [hk]; rfl
            rw [pre_ok X2 [F.kKeyS, F.dsh y.key] (Nat.le_of_ble_eq_true rfl) (by rw [e]; omega), e]
            cases hg : y.gap
            · have e : X3 = X4 := by rw [← hX4, hg]; rfl
              rw [e, pre_ok X4 [F.kTimS, F.tmS y.milli] (Nat.le_of_ble_eq_true rfl) (by omega), pre_ok (F.pl X4 [F.kTimS, F.tmS y.milli]) [y.uri] (Nat.le_of_ble_eq_true rfl) (by omega), next_at hlt (by omega : es.length ≤ 9223372036854775807)]
              first | rfl | (rw [hkk]; rfl)
            · have e : F.pl X3 [F.kGap] = X4 := by rw [← hX4, hg]; rfl
              rw [pre_ok X3 [F.kGap] (Nat.le_of_ble_eq_true rfl) (by rw [e]; omega), e, pre_ok X4 [F.kTimS, F.tmS y.milli] (Nat.le_of_ble_eq_true rfl) (by omega), pre_ok (F.pl X4 [F.kTimS, F.tmS y.milli]) [y.uri] (Nat.le_of_ble_eq_true rfl) (by omega), next_at hlt (by omega : es.length ≤ 9223372036854775807)]
              first | rfl | (rw [hkk]; rfl)
          · have e : X2 = X3 := by rw [← hX3]; unfold F.e3; rw [hk]; rfl
            have hkk : y.key = key := F.seq_iff.1 hk
            rw [e]
            cases hg : y.gap
            · have e : X3 = X4 := by rw [← hX4, hg]; rfl
              rw [e, pre_ok X4 [F.kTimS, F.tmS y.milli] (Nat.le_of_ble_eq_true rfl) (by omega), pre_ok (F.pl X4 [F.kTimS, F.tmS y.milli]) [y.uri] (Nat.le_of_ble_eq_true rfl) (by omega), next_at hlt (by omega : es.length ≤ 9223372036854775807)]
              first | rfl | (rw [hkk]; rfl)
            · have e : F.pl X3 [F.kGap] = X4 := by rw [← hX4, hg]; rfl
              rw [pre_ok X3 [F.kGap] (Nat.le_of_ble_eq_true rfl) (by rw [e]; omega), e, pre_ok X4 [F.kTimS, F.tmS y.milli] (Nat.le_of_ble_eq_true rfl) (by omega), pre_ok (F.pl X4 [F.kTimS, F.tmS y.milli]) [y.uri] (Nat.le_of_ble_eq_true rfl) (by omega), next_at hlt (by omega : es.length ≤ 9223372036854775807)]
              first | rfl | (rw [hkk]; rfl)
      case false =>
        have e : T0 = X1 := by rw [← hX1, hb]; rfl
        rw [e]
        by_cases hd : 0 ≤ y.date
        rotate_left
        · have e : X1 = X2 := by rw [← hX2]; unfold F.e2; rw [decide_eq_false hd]; rfl
          rw [decide_eq_false hd, e]
          cases hk : F.seq y.key key
          · have e : F.pl X2 [F.kKeyS, F.dsh y.key] = X3 := by rw [← hX3]; unfold F.e3; rw [hk]; rfl
            rw [pre_ok X2 [F.kKeyS, F.dsh y.key] (Nat.le_of_ble_eq_true rfl) (by rw [e]; omega), e]
            cases hg : y.gap
            · have e : X3 = X4 := by rw [← hX4, hg]; rfl
              rw [e, pre_ok X4 [F.kTimS, F.tmS y.milli] (Nat.le_of_ble_eq_true rfl) (by omega), pre_ok (F.pl X4 [F.kTimS, F.tmS y.milli]) [y.uri] (Nat.le_of_ble_eq_true rfl) (by omega), next_at hlt (by omega : es.length ≤ 9223372036854775807)]
              first | rfl | (rw [hkk]; rfl)
            · have e : F.pl X3 [F.kGap] = X4 := by rw [← hX4, hg]; rfl
              rw [pre_ok X3 [F.kGap] (Nat.le_of_ble_eq_true rfl) (by rw [e]; omega), e, pre_ok X4 [F.kTimS, F.tmS y.milli] (Nat.le_of_ble_eq_true rfl) (by omega), pre_ok (F.pl X4 [F.kTimS, F.tmS y.milli]) [y.uri] (Nat.le_of_ble_eq_true rfl) (by omega), next_at hlt (by omega : es.length ≤ 9223372036854775807)]
              first | rfl | (rw [hkk]; rfl)
          · have e : X2 = X3 := by rw [← hX3]; unfold F.e3; rw [hk]; rfl
            have hkk : y.key = key := F.seq_iff.1 hk
            rw [e]
            cases hg : y.gap
            · have e : X3 = X4 := by rw [← hX4, hg]; rfl
              rw [e, pre_ok X4 [F.kTimS, F.tmS y.milli] (Nat.le_of_ble_eq_true rfl) (by omega), pre_ok (F.pl X4 [F.kTimS, F.tmS y.milli]) [y.uri] (Nat.le_of_ble_eq_true rfl) (by omega), next_at hlt (by omega : es.length ≤ 9223372036854775807)]
              first | rfl | (rw [hkk]; rfl)
            · have e : F.pl X3 [F.kGap] = X4 := by rw [← hX4, hg]; rfl
              rw [pre_ok X3 [F.kGap] (Nat.le_of_ble_eq_true rfl) (by rw [e]; omega), e, pre_ok X4 [F.kTimS, F.tmS y.milli] (Nat.le_of_ble_eq_true rfl) (by omega), pre_ok (F.pl X4 [F.kTimS, F.tmS y.milli]) [y.uri] (Nat.le_of_ble_eq_true rfl) (by omega), next_at hlt (by omega : es.length ≤ 9223372036854775807)]
              first | rfl | (rw [hkk]; rfl)
        · have e : F.pl X1 [F.kDatS, F.dtS y.date] = X2 := by rw [← hX2]; unfold F.e2; rw [decide_eq_true hd]; rfl
          rw [decide_eq_true hd, pre_ok X1 [F.kDatS, F.dtS y.date] (Nat.le_of_ble_eq_true rfl) (by rw [e]; omega), e]
          cases hk : F.seq y.key key
          · have e : F.pl X2 [F.kKeyS, F.dsh y.key] = X3 := by rw [← hX3]; unfold F.e3; rw [hk]; rfl
            rw [pre_ok X2 [F.kKeyS, F.dsh y.key] (Nat.le_of_ble_eq_true rfl) (by rw [e]; omega), e]
            cases hg : y.gap
            · have e : X3 = X4 := by rw [← hX4, hg]; rfl
              rw [e, pre_ok X4 [F.kTimS, F.tmS y.milli] (Nat.le_of_ble_eq_true rfl) (by omega), pre_ok (F.pl X4 [F.kTimS, F.tmS y.milli]) [y.uri] (Nat.le_of_ble_eq_true rfl) (by omega), next_at hlt (by omega : es.length ≤ 9223372036854775807)]
              first | rfl | (rw [hkk]; rfl)
            · have e : F.pl X3 [F.kGap] = X4 := by rw [← hX4, hg]; rfl
              rw [pre_ok X3 [F.kGap] (Nat.le_of_ble_eq_true rfl) (by rw [e]; omega), e, pre_ok X4 [F.kTimS, F.tmS y.milli] (Nat.le_of_ble_eq_true rfl) (by omega), pre_ok (F.pl X4 [F.kTimS, F.tmS y.milli]) [y.uri] (Nat.le_of_ble_eq_true rfl) (by omega), next_at hlt (by omega : es.length ≤ 9223372036854775807)]
              first | rfl | (rw [hkk]; rfl)
          · have e : X2 = X3 := by rw [← hX3]; unfold F.e3; rw [hk]; rfl
            have hkk : y.key = key := F.seq_iff.1 hk
            rw [e]
            cases hg : y.gap
            · have e : X3 = X4 := by rw [← hX4, hg]; rfl
              rw [e, pre_ok X4 [F.kTimS, F.tmS y.milli] (Nat.le_of_ble_eq_true rfl) (by omega), pre_ok (F.pl X4 [F.kTimS, F.tmS y.milli]) [y.uri] (Nat.le_of_ble_eq_true rfl) (by omega), next_at hlt (by omega : es.length ≤ 9223372036854775807)]
              first | rfl | (rw [hkk]; rfl)
            · have e : F.pl X3 [F.kGap] = X4 := by rw [← hX4, hg]; rfl
              rw [pre_ok X3 [F.kGap] (Nat.le_of_ble_eq_true rfl) (by rw [e]; omega), e, pre_ok X4 [F.kTimS, F.tmS y.milli] (Nat.le_of_ble_eq_true rfl) (by omega), pre_ok (F.pl X4 [F.kTimS, F.tmS y.milli]) [y.uri] (Nat.le_of_ble_eq_true rfl) (by omega), next_at hlt (by omega : es.length ≤ 9223372036854775807)]
              first | rfl | (rw [hkk]; rfl)
    · simp only [outTx1, hdd, F.tE]
  · have : i = es.length := by omega
    subst this
    left
    refine ⟨(.exit 0, ⟨[(6, .fn 49 [.ptr 5 0 0]), (5, .ptr 5 0 0), (2, .ptr 2 0 0)], [(20000, ⟨false, 5, 1, F.eUs s⟩), (5, ⟨true, 81, 0, [[.ptr 5 0 0, .own 20000]]⟩), (2, ⟨true, 0, 0, [[vI t, vI f, vI b, .sl (es.map eEnt), vB en]]⟩)]⟩), ?_, ?_, by simp, rfl⟩
    · rw [evTx1L]
      simp
    · simp only [outTx1, List.drop_length, F.tE]
      rfl

end M

def F.xTg : ByteArray := ⟨⟨[35, 84, 65, 82, 71, 69, 84, 32]⟩⟩

def F.xFi : ByteArray := ⟨⟨[35, 70, 73, 82, 83, 84, 32]⟩⟩

def F.xBr : ByteArray := ⟨⟨[35, 66, 82, 69, 65, 75, 83, 32]⟩⟩

def F.h0 : ByteArray := F.kLst ++ ⟨⟨[10]⟩⟩

def F.hd3 (l : Lst) : ByteArray := F.pl (F.pl (F.pl F.h0 [F.xTg, F.itoa l.target]) [F.xFi, F.itoa l.first]) [F.xBr, F.itoa l.breaks]

def F.ltE (l : Lst) (x : ByteArray) : ByteArray := F.tE (F.hd3 l ++ x) ⟨⟨[]⟩⟩ l.entries

def F.ltB (l : Lst) (x : ByteArray) : ByteArray := bif l.ended then F.pl (F.ltE l x) [F.kEnd] else F.ltE l x

structure F.ESz (e : Ent) : Prop where
  uri : e.uri.size ≤ 200
  key : e.key.size ≤ 40
  num : e.extra.length ≤ 20
  ext : ∀ x ∈ e.extra, x.size ≤ 300

theorem F.esz_of {e : Ent} {t : Int} (h : F.entryFault e t = 0) : F.ESz e := by
  have hk0 := (F.eok_of h).key
  unfold F.entryFault at h
  split at h
  · rename_i hu; exact absurd h hu
  rename_i hu
  split at h
  · omega
  split at h
  · omega
  split at h
  · omega
  split at h
  · omega
  split at h
  · omega
  rename_i hx
  have hu : F.uriFault e.uri = 0 := by simpa using hu
  unfold F.uriFault at hu
  split at hu
  · omega
  rename_i hq
  unfold F.out at hq
  simp only [Bool.or_eq_true, decide_eq_true_eq, not_or] at hq
  refine ⟨by omega, ?_, by omega, fun x hxm => ?_⟩
  · rcases hk0 with h1 | h1
    · rw [h1]; decide
    · unfold F.isName at h1
      simp only [Bool.and_eq_true, decide_eq_true_eq] at h1
      exact h1.1.1.2
  · have := F.ffI_all h x hxm
    unfold F.extraFault at this
    split at this
    · omega
    · split at this
      · omega
      · omega

theorem F.entW_of {e : Ent} (h1 : F.EOk e) (h2 : F.ESz e) : F.entW e = true := by
  have a := h1.mil1
  have b := h1.mil2
  have c := h1.dat2
  have d := h2.num
  unfold F.entW
  rw [decide_eq_true (by omega), decide_eq_true (by omega), decide_eq_true c, decide_eq_true (by omega)]
  rfl

theorem F.pl_1 (s x : ByteArray) : (F.pl s [x]).size = s.size + x.size + 1 := by
  unfold F.pl
  simp only [F.cat, ByteArray.size_append]
  rfl

theorem F.pl_2 (s x y : ByteArray) : (F.pl s [x, y]).size = s.size + x.size + y.size + 1 := by
  unfold F.pl
  simp only [F.cat, ByteArray.size_append]
  rfl

theorem F.tX_sz : ∀ (l : List ByteArray) (s : ByteArray), (∀ x ∈ l, x.size ≤ 300) → (F.tX s l).size ≤ s.size + 301 * l.length
  | [], s, _ => by rw [F.tX]; exact Nat.le_add_right _ _
  | x :: l, s, h => by
    have h1 := F.tX_sz l (F.pl s [x]) (fun y hy => h y (List.mem_cons_of_mem _ hy))
    have h2 := h x (List.mem_cons_self ..)
    rw [F.pl_1] at h1
    rw [F.tX, List.length_cons]
    omega

theorem F.bE_sz {s key : ByteArray} {e : Ent} (h1 : F.EOk e) (h2 : F.ESz e) : (F.bE s key e).size ≤ s.size + 10000 := by
  have hx := F.tX_sz e.extra s h2.ext
  have hn := h2.num
  have hu := h2.uri
  have hk := h2.key
  obtain ⟨m, hm⟩ := Int.eq_ofNat_of_zero_le (show 0 ≤ e.milli by have := h1.mil1; omega)
  have hm2 := h1.mil2
  have ht : (F.tmS e.milli).size ≤ 25 := by
    have e1 : F.tmS e.milli = F.itoa ((m / 1000 : Nat) : Int) ++ F.dot ++ F.pad ((m % 1000 : Nat) : Int) 3 := by rw [hm]; rfl
    have t1 := F.itoa_size (n := ((m / 1000 : Nat) : Int)) (by omega) (by omega)
    have t2 := F.pad_size' (m % 1000) (by omega)
    have t3 : F.dot.size = 1 := rfl
    rw [e1, ByteArray.size_append, ByteArray.size_append]
    omega
  have hd : 0 ≤ e.date → (F.dtS e.date).size = 24 := fun hd => by
    obtain ⟨k, hk⟩ := Int.eq_ofNat_of_zero_le hd
    have hd2 := h1.dat2
    have := (F.dtS_ok (n := k) (by omega)).1
    rw [← hk] at this
    unfold F.dtOk at this
    rw [Bool.and_eq_true, Bool.and_eq_true, decide_eq_true_eq] at this
    exact this.1.1
  have hs : (F.dsh e.key).size ≤ 40 := by
    unfold F.dsh
    cases F.seq e.key ⟨⟨[]⟩⟩
    · exact hk
    · show F.dash.size ≤ 40
      decide
  have z1 : F.kBrk.size = 6 := rfl
  have z2 : F.kDatS.size = 6 := rfl
  have z3 : F.kKeyS.size = 5 := rfl
  have z4 : F.kGap.size = 4 := rfl
  have z5 : F.kTimS.size = 6 := rfl
  have a1 : ∀ T : ByteArray, (F.e1 T e.brk).size ≤ T.size + 7 := fun T => by
    unfold F.e1
    cases e.brk
    · rw [cond_false]; omega
    · rw [cond_true, F.pl_1]; omega
  have a2 : ∀ T : ByteArray, (F.e2 T e.date).size ≤ T.size + 31 := fun T => by
    unfold F.e2
    by_cases h : 0 ≤ e.date
    · rw [decide_eq_true h, cond_true, F.pl_2, hd h]; omega
    · rw [decide_eq_false h, cond_false]; omega
  have a3 : ∀ T : ByteArray, (F.e3 T key e.key).size ≤ T.size + 46 := fun T => by
    unfold F.e3
    cases F.seq e.key key
    · rw [cond_false, F.pl_2]; omega
    · rw [cond_true]; omega
  have a4 : ∀ T : ByteArray, (F.e4 T e.gap).size ≤ T.size + 5 := fun T => by
    unfold F.e4
    cases e.gap
    · rw [cond_false]; omega
    · rw [cond_true, F.pl_1]; omega
  unfold F.bE F.bE'
  rw [F.pl_1, F.pl_2]
  have b1 := a1 (F.tX s e.extra)
  have b2 := a2 (F.e1 (F.tX s e.extra) e.brk)
  have b3 := a3 (F.e2 (F.e1 (F.tX s e.extra) e.brk) e.date)
  have b4 := a4 (F.e3 (F.e2 (F.e1 (F.tX s e.extra) e.brk) e.date) key e.key)
  omega

theorem F.tE_sz : ∀ (l : List Ent) (s key : ByteArray), (∀ e ∈ l, F.EOk e ∧ F.ESz e) → (F.tE s key l).size ≤ s.size + 10000 * l.length
  | [], s, key, _ => by rw [F.tE]; exact Nat.le_add_right _ _
  | e :: l, s, key, h => by
    obtain ⟨e1, e2⟩ := h e (List.mem_cons_self ..)
    have h1 := F.tE_sz l (F.bE s key e) e.key (fun y hy => h y (List.mem_cons_of_mem _ hy))
    have h2 := F.bE_sz (s := s) (key := key) e1 e2
    rw [F.tE, List.length_cons]
    omega

theorem F.check_sz {l : Lst} (h : F.check l = 0) : l.entries.length ≤ 1000 ∧ ∀ e ∈ l.entries, F.EOk e ∧ F.ESz e := by
  unfold F.check at h
  split at h
  · omega
  split at h
  · omega
  exact ⟨by omega, fun e he => ⟨F.eok_of (F.ffI_all h e he), F.esz_of (F.ffI_all h e he)⟩⟩

theorem F.hd3_sz {l : Lst} (h : F.check l = 0) : (F.hd3 l).size ≤ 200 ∧ 6 ≤ (F.hd3 l).size := by
  obtain ⟨c1, c2, c3, c4, c5, c6, c7⟩ := F.checkW_ok h
  have t1 := F.itoa_size (n := l.target) (by omega) (by omega)
  have t2 := F.itoa_size (n := l.first) (by omega) (by omega)
  have t3 := F.itoa_size (n := l.breaks) (by omega) (by omega)
  have z0 : F.h0.size = 6 := by unfold F.h0; rw [ByteArray.size_append]; rfl
  have z1 : F.xTg.size = 8 := rfl
  have z2 : F.xFi.size = 7 := rfl
  have z3 : F.xBr.size = 8 := rfl
  unfold F.hd3
  rw [F.pl_2, F.pl_2, F.pl_2]
  omega

namespace M

theorem evLtx (l : Lst) (x : ByteArray) : (runF enTx false Tryz.f26 [.agg (eLst l), vS x]).val =
  (fun (q : ByteArray) => (fun (q_1 : List AV) => (fun (q_2 : Nat × Blk) => (fun (q_3 : List (Nat × Blk)) => Option.bind (unenc encPut (q_1, [(901, Blk.mk true 81 0 [[AV.v (Value.pointer none), AV.v (Value.slice none (0 : Nat) (0 : Nat))]]), (900, Blk.mk false 9 1 [[(vS (ByteArray.mk (Array.mk [(35 : UInt8), (76 : UInt8), (73 : UInt8), (83 : UInt8), (84 : UInt8)])))]])])) fun (z : Option ByteArray × List ByteArray) => bif F.putB z.fst z.snd then bif match z.fst with | some val => false | none => true then Option.bind (unenc encIta [(vI l.target)]) fun (z_1 : Int) => bif decide ((-9223372036854775808 : Int) ≤ z_1) && decide (z_1 ≤ (9223372036854775807 : Int)) then Option.bind (unenc encPut (q_1, [(902, Blk.mk false 5 1 (F.eUs ((match z.snd, ByteArray.mk (Array.mk []) with | [], fallback => fallback | a :: tail, x => a) ++ q))), q_2, (900, Blk.mk false 9 1 [[(vS (ByteArray.mk (Array.mk [(35 : UInt8), (84 : UInt8), (65 : UInt8), (82 : UInt8), (71 : UInt8), (69 : UInt8), (84 : UInt8), (32 : UInt8)])))], [(vS (F.itoa z_1))]])])) fun (z : Option ByteArray × List ByteArray) => bif F.putB z.fst z.snd then bif match z.fst with | some val => false | none => true then none else Option.bind (unenc encIta [(vI l.first)]) fun (z_2 : Int) => bif decide ((-9223372036854775808 : Int) ≤ z_2) && decide (z_2 ≤ (9223372036854775807 : Int)) then Option.bind (unenc encPut (q_1, [(902, Blk.mk false 5 1 (F.eUs (F.cat (F.bldS z.fst) z.snd ++ q))), q_2, (900, Blk.mk false 9 1 [[(vS (ByteArray.mk (Array.mk [(35 : UInt8), (70 : UInt8), (73 : UInt8), (82 : UInt8), (83 : UInt8), (84 : UInt8), (32 : UInt8)])))], [(vS (F.itoa z_2))]])])) fun (z : Option ByteArray × List ByteArray) => bif F.putB z.fst z.snd then bif match z.fst with | some val => false | none => true then none else Option.bind (unenc encIta [(vI l.breaks)]) fun (z_3 : Int) => bif decide ((-9223372036854775808 : Int) ≤ z_3) && decide (z_3 ≤ (9223372036854775807 : Int)) then Option.bind (unenc encPut (q_1, [(902, Blk.mk false 5 1 (F.eUs (F.cat (F.bldS z.fst) z.snd ++ q))), q_2, (900, Blk.mk false 9 1 [[(vS (ByteArray.mk (Array.mk [(35 : UInt8), (66 : UInt8), (82 : UInt8), (69 : UInt8), (65 : UInt8), (75 : UInt8), (83 : UInt8), (32 : UInt8)])))], [(vS (F.itoa z_3))]])])) fun (z : Option ByteArray × List ByteArray) => bif F.putB z.fst z.snd then bif match z.fst with | some val => false | none => true then none else Option.bind (unenc encWst ([.ptr 900 0 0, (vS x)], (901, Blk.mk false 5 1 (F.eUs (F.cat (F.bldS z.fst) z.snd ++ q))) :: q_3)) fun (z : Option ByteArray × ByteArray) => bif F.wstB z.fst z.snd then bif match z.fst with | some val => false | none => true then none else Option.bind (unenc stTx11 (St.mk [(43, (vI (0 : Int))), (42, (vI (↑(List.length (List.map eEnt l.entries)) : Int))), (41, AV.sl (List.map eEnt l.entries)), (7, (vS (ByteArray.mk (Array.mk [])))), (6, AV.fn (49 : Nat) [.ptr 5 0 0]), (5, .ptr 5 0 0), (2, .ptr 2 0 0)] [(20000, Blk.mk false 5 1 (F.eUs (F.bldS z.fst ++ z.snd))), (5, Blk.mk true 81 0 [[.ptr 5 0 0, .own 20000]]), (2, Blk.mk true 0 0 [[(vI l.target), (vI l.first), (vI l.breaks), AV.sl (List.map eEnt l.entries), (vB l.ended)]])])) fun (z : Int × Int × Int × List Ent × Bool × ByteArray × ByteArray × Nat) => (fun (q_4 : Nat) => (fun (q_5 : Nat) => (fun (q_6 : Blk) => bif decide (q_4 ≤ (1000 : Nat)) && decide (q_5 ≤ q_4) && List.all z.snd.snd.snd.fst F.entW && F.tEB z.snd.snd.snd.snd.snd.fst z.snd.snd.snd.snd.snd.snd.fst (List.drop q_5 z.snd.snd.snd.fst) && true then bif z.snd.snd.snd.snd.fst then Option.bind (unenc encPut (q_1, [(902, q_6), q_2, (900, Blk.mk false 9 1 [[(vS (ByteArray.mk (Array.mk [(35 : UInt8), (69 : UInt8), (78 : UInt8), (68 : UInt8)])))]])])) fun (z : Option ByteArray × List ByteArray) => bif F.putB z.fst z.snd then bif match z.fst with | some val => false | none => true then none else Option.bind (unenc encBst ([.ptr 900 0 0], (901, Blk.mk false 5 1 (F.eUs (F.cat (F.bldS z.fst) z.snd ++ q))) :: q_3)) fun (z : Option ByteArray) => bif F.bstB z then bif match z with | some val => false | none => true then none else some ((vS (F.bldS z)), []) else none else none else Option.bind (unenc encBst ([.ptr 900 0 0], (901, q_6) :: q_3)) fun (z : Option ByteArray) => bif F.bstB z then bif match z with | some val => false | none => true then none else some ((vS (F.bldS z)), []) else none else none) (Blk.mk false 5 1 (F.eUs (F.tE z.snd.snd.snd.snd.snd.fst z.snd.snd.snd.snd.snd.snd.fst (List.drop q_5 z.snd.snd.snd.fst))))) z.snd.snd.snd.snd.snd.snd.snd) (List.length z.snd.snd.snd.fst) else none else none else none else none else none else none else none else none else none) [(900, Blk.mk true 81 0 [[.ptr 900 0 0, .own 901]])]) (901, Blk.mk true 81 0 [[.ptr 901 0 0, .own 902]])) [.own 900, .ptr 901 0 0]) (ByteArray.mk (Array.mk [(10 : UInt8)])) := (runFR_val).symm.trans (by kernel_rfl)

def encLtx1 (l : Lst) (x : ByteArray) : List AV := [.agg (eLst l), vS x]

def encLtx (a : Lst × ByteArray) : List AV := encLtx1 a.1 a.2

theorem encLtx_inj (a a' : Lst × ByteArray) (h : encLtx a = encLtx a') : a = a' := by
  simp only [encLtx, encLtx1] at h
  try simp [eUs_inj, strs_inj, ints_inj, ents_inj, eEnt_iff, eLst_iff, eSnds_inj, eStrms_inj] at h
  grind

theorem unLtx (l : Lst) (x : ByteArray) : unenc encLtx ([AV.agg [(vI l.target), (vI l.first), (vI l.breaks), AV.sl (List.map eEnt l.entries), (vB l.ended)], (vS x)]) = some (l, x) := unenc_of encLtx_inj (l, x) rfl

theorem unLtxw (l_target : Int) (l_first : Int) (l_breaks : Int) (l_entries : List Ent) (l_ended : Bool) (x : ByteArray) : unenc encLtx ([AV.agg [(vI l_target), (vI l_first), (vI l_breaks), AV.sl (List.map eEnt l_entries), (vB l_ended)], (vS x)]) = some ((Lst.mk l_target l_first l_breaks l_entries l_ended), x) := unenc_of encLtx_inj ((Lst.mk l_target l_first l_breaks l_entries l_ended), x) rfl

def resLtx1 (l : Lst) (x : ByteArray) : AV × Heap := (vS (F.ltB l x), [])

def preLtx1 (l : Lst) (x : ByteArray) : Bool := decide (F.check l = 0) && decide (x.size ≤ 100)

noncomputable def oLtx : Orc := orc 26 true encLtx (fun a => preLtx1 a.1 a.2) fun a => resLtx1 a.1 a.2

theorem okLtx : OrcOK Tryz.prog noG oLtx := by
  refine mk_ok Tryz.f26 (keep := false) (by kernel_rfl) (by kernel_rfl) enTx_ok mixed (two_loops (x0 := loopN Tryz.f26 0) (x1 := loopN Tryz.f26 1) (by kernel_rfl) (lpo_ok ?_) (lpo_ok ?_)) (by first | exact fun _ _ => ⟨rfl, rfl⟩ | (intro h; cases h)) ?_
  · rintro ⟨t, f, b, es, en, s, key, i⟩ hp
    exact lpTx1_ok t f b es en s key i hp
  · rintro ⟨t, f, b, es, en, i, key, u, m, br, d, ky, g, x, s, j⟩ hp
    exact lpTx2_ok t f b es en i key u m br d ky g x s j hp
  rintro ⟨l, x⟩ hpre hok
  show (runF enTx false _ (encLtx1 _ _)).val = some (resLtx1 _ _)
  unfold encLtx1 resLtx1
  rw [evLtx]
  simp only [preLtx1, Bool.and_eq_true, decide_eq_true_eq] at hpre
  obtain ⟨hc, hx⟩ := hpre
  obtain ⟨c1, c2, c3, c4, c5, c6, c7⟩ := F.checkW_ok hc
  obtain ⟨s1, s2⟩ := F.check_sz hc
  obtain ⟨s3, s4⟩ := F.hd3_sz hc
  have qL : (⟨⟨[35, 76, 73, 83, 84]⟩⟩ : ByteArray) = F.kLst := rfl
  have q1 : (⟨⟨[35, 84, 65, 82, 71, 69, 84, 32]⟩⟩ : ByteArray) = F.xTg := rfl
  have q2 : (⟨⟨[35, 70, 73, 82, 83, 84, 32]⟩⟩ : ByteArray) = F.xFi := rfl
  have q3 : (⟨⟨[35, 66, 82, 69, 65, 75, 83, 32]⟩⟩ : ByteArray) = F.xBr := rfl
  have qE : (⟨⟨[35, 69, 78, 68]⟩⟩ : ByteArray) = F.kEnd := rfl
  simp only [unIta, unWst, unBst, preIta1, unstTx1, unstTx10, prlTx1, outTx1, etaEnt, etaLst, Option.bind_some, List.length_map, cond_true, cond_false, Bool.and_true, Bool.true_and, unWstU, unBstU, F.bldS_some, F.bldLen_some, unPut0, unPut1, unPut2, resPut, fpl, resWst, qL, q1, q2, q3, qE, List.drop_zero]
  have k0 : F.putB none [F.kLst] = true := rfl
  have f0 : F.kLst ++ (⟨⟨[10]⟩⟩ : ByteArray) = F.h0 := rfl
  have f3 : F.pl (F.pl (F.pl F.h0 [F.xTg, F.itoa l.target]) [F.xFi, F.itoa l.first]) [F.xBr, F.itoa l.breaks] = F.hd3 l := rfl
  have p1 := F.pl_le (F.pl F.h0 [F.xTg, F.itoa l.target]) [F.xFi, F.itoa l.first]
  have p2 := F.pl_le (F.pl (F.pl F.h0 [F.xTg, F.itoa l.target]) [F.xFi, F.itoa l.first]) [F.xBr, F.itoa l.breaks]
  rw [f3] at p2
  have hz : (F.hd3 l ++ x).size = (F.hd3 l).size + x.size := ByteArray.size_append
  have hT := F.tE_sz l.entries (F.hd3 l ++ x) ⟨⟨[]⟩⟩ s2
  have hL := F.tE_le l.entries (F.hd3 l ++ x) ⟨⟨[]⟩⟩
  have hw : l.entries.all F.entW = true := List.all_eq_true.2 fun e he => F.entW_of (s2 e he).1 (s2 e he).2
  have fE : F.tE (F.hd3 l ++ x) ⟨⟨[]⟩⟩ l.entries = F.ltE l x := rfl
  rw [fE] at hT hL
  have he1 := F.pl_1 (F.ltE l x) F.kEnd
  have he2 : F.kEnd.size = 4 := rfl
  have P : F.tEB (F.hd3 l ++ x) ⟨⟨[]⟩⟩ l.entries = true := F.tEB_iff.2 (by rw [fE]; omega)
  rw [k0, f0, pre_ok F.h0 [F.xTg, F.itoa l.target] (Nat.le_of_ble_eq_true rfl) (by omega), pre_ok (F.pl F.h0 [F.xTg, F.itoa l.target]) [F.xFi, F.itoa l.first] (Nat.le_of_ble_eq_true rfl) (by omega), pre_ok (F.pl (F.pl F.h0 [F.xTg, F.itoa l.target]) [F.xFi, F.itoa l.first]) [F.xBr, F.itoa l.breaks] (Nat.le_of_ble_eq_true rfl) (by rw [f3]; omega)]
  rw [f3, P, hw, decide_eq_true s1, decide_eq_true (Nat.zero_le l.entries.length), F.wstB_some (by omega : (F.hd3 l).size + x.size ≤ 140737488355328), fE, pre_ok (F.ltE l x) [F.kEnd] (Nat.le_of_ble_eq_true rfl) (by omega)]
  rw [decide_eq_true (by omega : -9223372036854775808 ≤ l.target), decide_eq_true (by omega : l.target ≤ 9223372036854775807), decide_eq_true (by omega : -9223372036854775808 ≤ l.first), decide_eq_true (by omega : l.first ≤ 9223372036854775807), decide_eq_true (by omega : -9223372036854775808 ≤ l.breaks), decide_eq_true (by omega : l.breaks ≤ 9223372036854775807)]
  rw [F.bstB_some (by omega : 0 < (F.pl (F.ltE l x) [F.kEnd]).size), F.bstB_some (by omega : 0 < (F.ltE l x).size)]
  unfold F.ltB
  cases l.ended <;> rfl

theorem evBnd (s : ByteArray) : (runF en0 false Tryz.f25 [vS s]).val =
  bif decide ((500000 : Int) < (↑(ByteArray.size s) : Int)) then some (AV.tup [(vS (ByteArray.mk (Array.mk []))), (vI (2 : Int))], []) else some (AV.tup [(vS s), (vI (0 :
  Int))], []) := (runFR_val).symm.trans (by kernel_rfl)

def encBnd1 (s : ByteArray) : List AV := [vS s]

def encBnd (a : ByteArray) : List AV := encBnd1 a

theorem encBnd_inj (a a' : ByteArray) (h : encBnd a = encBnd a') : a = a' := by
  simp only [encBnd, encBnd1] at h
  try simp [eUs_inj, strs_inj, ints_inj, ents_inj, eEnt_iff, eLst_iff, eSnds_inj, eStrms_inj] at h
  grind

theorem unBnd (s : ByteArray) : unenc encBnd ([(vS s)]) = some (s) := unenc_of encBnd_inj (s) rfl

def resBnd1 (s : ByteArray) : AV × Heap := (.tup [vS (bif decide (500000 < s.size) then ⟨⟨[]⟩⟩ else s), vI (bif decide (500000 < s.size) then 2 else 0)], [])

def preBnd1 (s : ByteArray) : Bool := true

noncomputable def oBnd : Orc := orc 25 true encBnd (fun a => preBnd1 a) fun a => resBnd1 a

theorem okBnd : OrcOK Tryz.prog noG oBnd := by
  refine mk_ok Tryz.f25 (keep := false) (by kernel_rfl) (by kernel_rfl) en0_ok mixed (no_loops (by kernel_rfl)) (by first | exact fun _ _ => ⟨rfl, rfl⟩ | (intro h; cases h)) ?_
  rintro s hpre hok
  show (runF en0 false _ (encBnd1 _)).val = some (resBnd1 _)
  unfold encBnd1 resBnd1
  rw [evBnd]
  have e1 : decide ((500000 : Int) < (s.size : Int)) = decide (500000 < s.size) := decide_eq_decide.2 (by omega)
  simp only [etaEnt, etaLst, etaSnd, etaStrm, etaMas, Option.bind_some, List.length_map, unStrs, unInts, unBools, unEnts, unItms, unTrns, cond_true, cond_false, Bool.and_true, Bool.true_and, unWstU, unBstU, F.bldS_some, F.bldLen_some, e1]
  cases decide (500000 < s.size) <;> rfl

end M

def F.elK (line : ByteArray) (rank : Int) : Nat :=
  bif rank == 5 then 6 else bif F.hasPrefix line F.kX then 0 else bif F.seq line F.kBrk then 1 else bif F.seq line F.kGap then 4 else
  bif F.seq (F.cutH line F.sp) F.kDat && F.cutF line F.sp then 2 else bif F.seq (F.cutH line F.sp) F.kKey && F.cutF line F.sp then 3 else
  bif F.seq (F.cutH line F.sp) F.kTim && F.cutF line F.sp then 5 else 7

def F.keyB (v key : ByteArray) : Bool := decide (v.size ≠ 0) && F.vis v 33 && !F.seq (F.undash v) key

def F.elO (line key : ByteArray) (k : Nat) : Bool :=
  bif Nat.beq k 6 then F.uriL line else bif Nat.beq k 2 then F.dtOk (F.cutT line F.sp) else bif Nat.beq k 3 then F.keyB (F.cutT line F.sp) key else
  bif Nat.beq k 5 then F.milOk (F.cutT line F.sp) else !Nat.beq k 7

def F.elR (line : ByteArray) (rank : Int) (key : ByteArray) : Int :=
  bif !F.elO line key (F.elK line rank) || decide ((F.elK line rank : Int) < rank) || (((F.elK line rank : Int) == rank) && !Nat.beq (F.elK line rank) 0) then -1 else (F.elK line rank : Int)

def F.elE (e : Ent) (line : ByteArray) (k : Nat) : Ent :=
  ⟨bif Nat.beq k 6 then line else e.uri, bif Nat.beq k 5 then F.milV (F.cutT line F.sp) else e.milli, bif Nat.beq k 1 then true else e.brk, bif Nat.beq k 2 then F.dtV (F.cutT line F.sp) else e.date,
   bif Nat.beq k 3 then F.undash (F.cutT line F.sp) else e.key, bif Nat.beq k 4 then true else e.gap, bif Nat.beq k 0 then e.extra ++ [line] else e.extra⟩

theorem F.cutF_ne {s : ByteArray} (h : F.cutF s F.nl = true) : s.size ≠ 0 := by
  intro h0
  have hb : F.bs s = [] := List.length_eq_zero_iff.1 (by rw [F.bs_len, h0])
  unfold F.cutF at h
  rw [hb] at h
  cases h

theorem F.nl_one : 1 ≤ F.nl.size := by decide

def F.enL (s : ByteArray) (n : Int) (e : Ent) (line key : ByteArray) (rank : Int) : Bool × ByteArray × Int × Ent :=
  if F.elR line rank key < 0 then (false, s, n, F.elE e line (F.elK line rank)) else
  if F.elR line rank key = 6 then (true, s, n, F.elE e line (F.elK line rank)) else
  if h : F.cutF s F.nl = true then F.enL (F.cutT s F.nl) (n + 1) (F.elE e line (F.elK line rank)) (F.cutH s F.nl) key (F.elR line rank key) else
  (false, F.cutT s F.nl, n + 1, F.elE e line (F.elK line rank))
termination_by s.size
decreasing_by exact F.cutT_lt F.nl_one (F.cutF_ne h)

theorem F.enL_bad {s : ByteArray} {n : Int} {e : Ent} {line key : ByteArray} {rank : Int} (h : F.elR line rank key < 0) : F.enL s n e line key rank = (false, s, n, F.elE e line (F.elK line rank)) := by
  rw [F.enL, if_pos h]

theorem F.enL_end {s : ByteArray} {n : Int} {e : Ent} {line key : ByteArray} {rank : Int} (h : F.elR line rank key = 6) : F.enL s n e line key rank = (true, s, n, F.elE e line (F.elK line rank)) := by
  rw [F.enL, if_neg (by omega), if_pos h]

theorem F.enL_go {s : ByteArray} {n : Int} {e : Ent} {line key : ByteArray} {rank : Int} (h1 : ¬ F.elR line rank key < 0) (h2 : F.elR line rank key ≠ 6) (h3 : F.cutF s F.nl = true) :
    F.enL s n e line key rank = F.enL (F.cutT s F.nl) (n + 1) (F.elE e line (F.elK line rank)) (F.cutH s F.nl) key (F.elR line rank key) := by
  rw [F.enL, if_neg h1, if_neg h2, dif_pos h3]

theorem F.enL_open {s : ByteArray} {n : Int} {e : Ent} {line key : ByteArray} {rank : Int} (h1 : ¬ F.elR line rank key < 0) (h2 : F.elR line rank key ≠ 6) (h3 : F.cutF s F.nl = false) :
    F.enL s n e line key rank = (false, F.cutT s F.nl, n + 1, F.elE e line (F.elK line rank)) := by
  rw [F.enL, if_neg h1, if_neg h2, dif_neg (by rw [h3]; decide)]

theorem F.elK_le (line : ByteArray) (rank : Int) : F.elK line rank ≤ 7 := by
  unfold F.elK
  generalize (rank == 5) = a
  generalize F.hasPrefix line F.kX = b
  generalize F.seq line F.kBrk = c
  generalize F.seq line F.kGap = d
  generalize (F.seq (F.cutH line F.sp) F.kDat && F.cutF line F.sp) = x
  generalize (F.seq (F.cutH line F.sp) F.kKey && F.cutF line F.sp) = y
  generalize (F.seq (F.cutH line F.sp) F.kTim && F.cutF line F.sp) = z
  cases a <;> cases b <;> cases c <;> cases d <;> cases x <;> cases y <;> cases z <;> decide

theorem F.elR_b (line : ByteArray) (rank : Int) (key : ByteArray) : -1 ≤ F.elR line rank key ∧ F.elR line rank key ≤ 7 := by
  have h := F.elK_le line rank
  unfold F.elR
  cases (!F.elO line key (F.elK line rank) || decide ((F.elK line rank : Int) < rank) || (((F.elK line rank : Int) == rank) && !Nat.beq (F.elK line rank) 0))
  · rw [cond_false]; omega
  · rw [cond_true]; omega

theorem F.elE_len (e : Ent) (line : ByteArray) (k : Nat) : (F.elE e line k).extra.length ≤ e.extra.length + 1 := by
  unfold F.elE
  cases Nat.beq k 0
  · simp only [cond_false]; omega
  · simp only [cond_true, List.length_append, List.length_singleton]; omega

theorem F.enL_le : ∀ (k : Nat) (s : ByteArray) (n : Int) (e : Ent) (line key : ByteArray) (rank : Int), s.size ≤ k → (F.enL s n e line key rank).2.1.size ≤ s.size ∧ n ≤ (F.enL s n e line key rank).2.2.1 ∧ (F.enL s n e line key rank).2.2.1 + (F.enL s n e line key rank).2.1.size ≤ n + s.size + 1 ∧ (F.enL s n e line key rank).2.2.2.extra.length ≤ e.extra.length + 1 + s.size := by
  intro k
  induction k with
  | zero =>
    intro s n e line key rank h
    have hx := F.elE_len e line (F.elK line rank)
    by_cases h1 : F.elR line rank key < 0
    · rw [F.enL_bad h1]; simp only; omega
    · by_cases h2 : F.elR line rank key = 6
      · rw [F.enL_end h2]; simp only; omega
      · have h3 : F.cutF s F.nl = false := by
          cases hc : F.cutF s F.nl
          · rfl
          · exact absurd (by omega) (F.cutF_ne hc)
        have h4 := F.cutT_end h3
        rw [F.enL_open h1 h2 h3]; simp only; omega
  | succ k ih =>
    intro s n e line key rank h
    have hx := F.elE_len e line (F.elK line rank)
    by_cases h1 : F.elR line rank key < 0
    · rw [F.enL_bad h1]; simp only; omega
    · by_cases h2 : F.elR line rank key = 6
      · rw [F.enL_end h2]; simp only; omega
      · cases h3 : F.cutF s F.nl
        · have h4 := F.cutT_end h3
          rw [F.enL_open h1 h2 h3]; simp only; omega
        · have h4 := F.cutT_lt F.nl_one (F.cutF_ne h3)
          obtain ⟨i1, i2, i3, i4⟩ := ih (F.cutT s F.nl) (n + 1) (F.elE e line (F.elK line rank)) (F.cutH s F.nl) key (F.elR line rank key) (by omega)
          rw [F.enL_go h1 h2 h3]; omega

def F.noE (key : ByteArray) : Ent := ⟨⟨⟨[]⟩⟩, 0, false, -1, key, false, []⟩

def F.bdL (s : ByteArray) (n : Int) (key : ByteArray) (es : List Ent) (en : Bool) : Bool × ByteArray × Int × List Ent × Bool :=
  if h0 : s.size = 0 then (true, s, n, es, en) else
  if (!F.cutF s F.nl || en) = true then (false, F.cutT s F.nl, n + 1, es, en) else
  if F.seq (F.cutH s F.nl) F.kEnd = true then F.bdL (F.cutT s F.nl) (n + 1) key es true else
  if (F.enL (F.cutT s F.nl) (n + 1) (F.noE key) (F.cutH s F.nl) key 0).1 = false then
    (false, (F.enL (F.cutT s F.nl) (n + 1) (F.noE key) (F.cutH s F.nl) key 0).2.1, (F.enL (F.cutT s F.nl) (n + 1) (F.noE key) (F.cutH s F.nl) key 0).2.2.1, es, en)
  else F.bdL (F.enL (F.cutT s F.nl) (n + 1) (F.noE key) (F.cutH s F.nl) key 0).2.1 (F.enL (F.cutT s F.nl) (n + 1) (F.noE key) (F.cutH s F.nl) key 0).2.2.1 (F.enL (F.cutT s F.nl) (n + 1) (F.noE key) (F.cutH s F.nl) key 0).2.2.2.key
    (es ++ [(F.enL (F.cutT s F.nl) (n + 1) (F.noE key) (F.cutH s F.nl) key 0).2.2.2]) en
termination_by s.size
decreasing_by
  · exact F.cutT_lt F.nl_one h0
  · exact Nat.lt_of_le_of_lt (F.enL_le _ _ _ _ _ _ _ (Nat.le_refl _)).1 (F.cutT_lt F.nl_one h0)

theorem F.bdL_end {s : ByteArray} {n : Int} {key : ByteArray} {es : List Ent} {en : Bool} (h : s.size = 0) : F.bdL s n key es en = (true, s, n, es, en) := by rw [F.bdL, dif_pos h]

theorem F.bdL_no {s : ByteArray} {n : Int} {key : ByteArray} {es : List Ent} {en : Bool} (h : s.size ≠ 0) (h1 : (!F.cutF s F.nl || en) = true) : F.bdL s n key es en = (false, F.cutT s F.nl, n + 1, es, en) := by
  rw [F.bdL, dif_neg h, if_pos h1]

theorem F.bdL_last {s : ByteArray} {n : Int} {key : ByteArray} {es : List Ent} {en : Bool} (h : s.size ≠ 0) (h1 : (!F.cutF s F.nl || en) = false) (h2 : F.seq (F.cutH s F.nl) F.kEnd = true) :
    F.bdL s n key es en = F.bdL (F.cutT s F.nl) (n + 1) key es true := by
  rw [F.bdL, dif_neg h, if_neg (by rw [h1]; decide), if_pos h2]

theorem F.bdL_bad {s : ByteArray} {n : Int} {key : ByteArray} {es : List Ent} {en : Bool} (h : s.size ≠ 0) (h1 : (!F.cutF s F.nl || en) = false) (h2 : F.seq (F.cutH s F.nl) F.kEnd = false) {r : Bool × ByteArray × Int × Ent}
    (hr : F.enL (F.cutT s F.nl) (n + 1) (F.noE key) (F.cutH s F.nl) key 0 = r) (h3 : r.1 = false) : F.bdL s n key es en = (false, r.2.1, r.2.2.1, es, en) := by
  subst hr
  rw [F.bdL, dif_neg h, if_neg (by rw [h1]; decide), if_neg (by rw [h2]; decide), if_pos h3]

theorem F.bdL_go {s : ByteArray} {n : Int} {key : ByteArray} {es : List Ent} {en : Bool} (h : s.size ≠ 0) (h1 : (!F.cutF s F.nl || en) = false) (h2 : F.seq (F.cutH s F.nl) F.kEnd = false) {r : Bool × ByteArray × Int × Ent}
    (hr : F.enL (F.cutT s F.nl) (n + 1) (F.noE key) (F.cutH s F.nl) key 0 = r) (h3 : r.1 = true) : F.bdL s n key es en = F.bdL r.2.1 r.2.2.1 r.2.2.2.key (es ++ [r.2.2.2]) en := by
  subst hr
  rw [F.bdL, dif_neg h, if_neg (by rw [h1]; decide), if_neg (by rw [h2]; decide), if_neg (by rw [h3]; decide)]

def F.cutP (s p : ByteArray) : ByteArray := bif F.hasPrefix s p then s.extract p.size s.size else s

def F.hdW (w : ByteArray) : ByteArray := w ++ F.sp

def F.hdOk (s w : ByteArray) : Bool := F.cutF s F.nl && F.hasPrefix (F.cutH s F.nl) (F.hdW w) && F.numOk (F.cutP (F.cutH s F.nl) (F.hdW w)) 16

def F.hdV (s w : ByteArray) : Int := F.numV (F.cutP (F.cutH s F.nl) (F.hdW w)) 16

def F.wTg : ByteArray := ⟨⟨[35, 84, 65, 82, 71, 69, 84]⟩⟩

def F.wFi : ByteArray := ⟨⟨[35, 70, 73, 82, 83, 84]⟩⟩

def F.wBr : ByteArray := ⟨⟨[35, 66, 82, 69, 65, 75, 83]⟩⟩

def F.wSk : ByteArray := ⟨⟨[35, 83, 75, 73, 80]⟩⟩

def F.dr : Nat → ByteArray → ByteArray
  | 0, s => s
  | k + 1, s => F.cutT (F.dr k s) F.nl

theorem F.dr_size (k : Nat) (s : ByteArray) : (F.dr k s).size ≤ s.size := by
  induction k with
  | zero => exact Nat.le_refl _
  | succ k ih => exact Nat.le_trans (F.cutT_size _ _) ih

theorem F.enL_ok : ∀ (k : Nat) (s : ByteArray) (n : Int) (e : Ent) (line key : ByteArray) (rank : Int), s.size ≤ k → (F.enL s n e line key rank).1 = true → (F.enL s n e line key rank).2.2.1 + (F.enL s n e line key rank).2.1.size ≤ n + s.size := by
  intro k
  induction k with
  | zero =>
    intro s n e line key rank h ho
    by_cases h1 : F.elR line rank key < 0
    · rw [F.enL_bad h1] at ho; cases ho
    · by_cases h2 : F.elR line rank key = 6
      · rw [F.enL_end h2]; exact Int.le_refl _
      · have h3 : F.cutF s F.nl = false := by
          cases hc : F.cutF s F.nl
          · rfl
          · exact absurd (by omega) (F.cutF_ne hc)
        rw [F.enL_open h1 h2 h3] at ho; cases ho
  | succ k ih =>
    intro s n e line key rank h ho
    by_cases h1 : F.elR line rank key < 0
    · rw [F.enL_bad h1] at ho; cases ho
    · by_cases h2 : F.elR line rank key = 6
      · rw [F.enL_end h2]; exact Int.le_refl _
      · cases h3 : F.cutF s F.nl
        · rw [F.enL_open h1 h2 h3] at ho; cases ho
        · have h4 := F.cutT_lt F.nl_one (F.cutF_ne h3)
          rw [F.enL_go h1 h2 h3] at ho ⊢
          have := ih (F.cutT s F.nl) (n + 1) (F.elE e line (F.elK line rank)) (F.cutH s F.nl) key (F.elR line rank key) (by omega) ho
          omega

def F.mor (ls : List ByteArray) (op : Bool) (a : Nat) : Bool := decide (a < ls.length) && !(op && decide (a + 1 = ls.length))

def F.lAt (ls : List ByteArray) (a : Nat) : ByteArray := ls.getD a ⟨⟨[]⟩⟩

def F.exa (ls : List ByteArray) (op : Bool) (a : Nat) (x : ByteArray) : Bool := F.mor ls op a && F.seq (F.lAt ls a) x

def F.ruri (ls : List ByteArray) (op : Bool) (a : Nat) : Bool := F.mor ls op a && F.uriL (F.lAt ls a)

def F.one (b : Bool) : Nat := bif b then 1 else 0

def F.beh (ls : List ByteArray) (op : Bool) (a : Nat) (w : ByteArray) : Bool := F.mor ls op a && F.hasPrefix (F.lAt ls a) w

def F.behV (ls : List ByteArray) (a : Nat) (w : ByteArray) : ByteArray := (F.lAt ls a).extract w.size (F.lAt ls a).size

def F.rtm (ls : List ByteArray) (op : Bool) (a : Nat) : Bool := F.beh ls op a F.kTimS && F.milOk (F.behV ls a F.kTimS)

def F.rmV (v : ByteArray) : Int := min (F.numV (F.cutH v F.dot) 16) 3600000 * 1000 + (F.dv (F.cutT v F.dot) : Nat)

def F.xs (ls : List ByteArray) (op : Bool) (a : Nat) : List ByteArray :=
  if h : F.beh ls op a F.kX = true then F.lAt ls a :: F.xs ls op (a + 1) else []
termination_by ls.length - a
decreasing_by
  unfold F.beh F.mor at h
  simp only [Bool.and_eq_true, decide_eq_true_eq] at h
  omega

def F.s6 (ls : List ByteArray) (op : Bool) (a : Nat) (e : Ent) : Bool × Nat × Ent :=
  bif F.ruri ls op a then (true, a + 1, { e with uri := F.lAt ls a }) else (false, a, e)

def F.s5 (ls : List ByteArray) (op : Bool) (a : Nat) (e : Ent) : Bool × Nat × Ent :=
  bif F.rtm ls op a then F.s6 ls op (a + 1) { e with milli := F.rmV (F.behV ls a F.kTimS) } else (false, a, e)

def F.s4 (ls : List ByteArray) (op : Bool) (a : Nat) (e : Ent) : Bool × Nat × Ent :=
  bif F.exa ls op a F.kGap then F.s5 ls op (a + 1) { e with gap := true } else F.s5 ls op a e

def F.s3 (key : ByteArray) (ls : List ByteArray) (op : Bool) (a : Nat) (e : Ent) : Bool × Nat × Ent :=
  bif F.beh ls op a F.kKeyS then (bif F.keyB (F.behV ls a F.kKeyS) key then F.s4 ls op (a + 1) { e with key := F.undash (F.behV ls a F.kKeyS) } else (false, a, e)) else F.s4 ls op a e

def F.s2 (key : ByteArray) (ls : List ByteArray) (op : Bool) (a : Nat) (e : Ent) : Bool × Nat × Ent :=
  bif F.beh ls op a F.kDatS then (bif F.dtOk (F.behV ls a F.kDatS) then F.s3 key ls op (a + 1) { e with date := F.dtV (F.behV ls a F.kDatS) } else (false, a, e)) else F.s3 key ls op a e

def F.s1 (key : ByteArray) (ls : List ByteArray) (op : Bool) (a : Nat) (e : Ent) : Bool × Nat × Ent :=
  bif F.exa ls op a F.kBrk then F.s2 key ls op (a + 1) { e with brk := true } else F.s2 key ls op a e

def F.s0 (key : ByteArray) (ls : List ByteArray) (op : Bool) (a : Nat) (e : Ent) : Bool × Nat × Ent :=
  F.s1 key ls op (a + (F.xs ls op a).length) { e with extra := e.extra ++ F.xs ls op a }

end Go.Proofs.YtajmdlpanlbnjaaGreatDoor
