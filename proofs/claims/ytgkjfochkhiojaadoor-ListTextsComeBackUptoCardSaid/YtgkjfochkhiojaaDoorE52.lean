/- What is proved here: how the program takes lines and words (no statement of the seat). -/
import Derived.Test.YtgkjfochkhiojaaDoorE51
namespace Go.Proofs.YtgkjfochkhiojaaDoor
open Go Go.RowKit
set_option linter.unusedVariables false
set_option linter.unusedSimpArgs false

namespace M


theorem drop_y {α : Type} {l : List α} {k : Nat} {y : α} (h : l[k]? = some y) : l.drop k = y :: l.drop (k + 1) := by
  obtain ⟨h1, rfl⟩ := List.getElem?_eq_some_iff.1 h
  exact List.drop_eq_getElem_cons h1

theorem nl_eq : (⟨⟨[10]⟩⟩ : ByteArray) = F.nl := rfl

theorem sp_eq : (⟨⟨[32]⟩⟩ : ByteArray) = F.sp := rfl

theorem evMor (s : ByteArray) (n : Int) : (runF en0 false Tryd.f27 [.pel [vS s, vI n] 0]).val =
  some ((vB !ByteArray.toList s == ByteArray.toList (ByteArray.mk (Array.mk []))), []) := (runFR_val).symm.trans (by kernel_rfl)

def encMor1 (s : ByteArray) (n : Int) : List AV := [.pel [vS s, vI n] 0]

def encMor (a : ByteArray × Int) : List AV := encMor1 a.1 a.2

theorem encMor_inj (a a' : ByteArray × Int) (h : encMor a = encMor a') : a = a' := by
  simp only [encMor, encMor1] at h
  try simp [strs_inj, ents_inj, eEnt_iff, eLst_iff] at h
  grind

theorem unMor (s : ByteArray) (n : Int) : unenc encMor ([AV.pel [(vS s), (vI n)] (0 : Nat)]) = some (s, n) := unenc_of encMor_inj (s, n) rfl

def resMor1 (s : ByteArray) (n : Int) : AV × Heap := (vB (decide (s.size ≠ 0)), [])

def preMor1 (s : ByteArray) (n : Int) : Bool := true

noncomputable def oMor : Orc := orc 27 true encMor (fun a => preMor1 a.1 a.2) fun a => resMor1 a.1 a.2

theorem okMor : OrcOK Tryd.prog noG oMor := by
  refine mk_ok Tryd.f27 (keep := false) (by kernel_rfl) (by kernel_rfl) en0_ok mixed (no_loops (by kernel_rfl)) (by first | exact fun _ _ => ⟨rfl, rfl⟩ | (intro h; cases h)) ?_
  rintro ⟨s, n⟩ hpre hok
  show (runF en0 false _ (encMor1 _ _)).val = some (resMor1 _ _)
  unfold encMor1 resMor1
  rw [evMor]
  simp only [etaEnt, etaLst, etaSnd, etaStrm, etaMas, Option.bind_some, List.length_map, unStrs, unInts, unBools, unEnts, unItms, unTrns, cond_true, cond_false, Bool.and_true, Bool.true_and, F.empty_eq, Bool.not_not]
  done

noncomputable def enTk : Env := envH ty noG lks [oCut] [] [] []

theorem enTk_ok : EnvOK Tryd.prog enTk := by
  refine envH_ok lks_ok ty_ok ?_ ?_
  · simp only [List.forall_mem_cons]
    exact ⟨okCut, by simp⟩
  · simp

theorem evTk (s : ByteArray) (n : Int) : (runH enTk [] Tryd.f25 [.ptr 900 0 0] [(900, ⟨true, 0, 0, [[vS s, vI n]]⟩)]).val =
  Option.bind (unenc encCut [(vS s), (vS (ByteArray.mk (Array.mk [(10 : UInt8)])))]) fun (z : ByteArray × ByteArray) => bif decide (ByteArray.size z.fst ≤ (4294967280 :
  Nat)) then some (AV.tup [(vS (F.cutH z.fst z.snd)), (vB (F.cutF z.fst z.snd))], [(900, Blk.mk true 0 0 [[(vS (F.cutT z.fst z.snd)), (vI (IntKind.wrap IntKind.i64 (n + (1 :
  Int))))]])], []) else none := (runHR_val).symm.trans (by kernel_rfl)

def encTk1 (s : ByteArray) (n : Int) : List AV × Heap := ([.ptr 900 0 0], [(900, ⟨true, 0, 0, [[vS s, vI n]]⟩)])

def encTk (a : ByteArray × Int) : List AV × Heap := encTk1 a.1 a.2

theorem encTk_inj (a a' : ByteArray × Int) (h : encTk a = encTk a') : a = a' := by
  simp only [encTk, encTk1] at h
  try simp [strs_inj, ents_inj, eEnt_iff, eLst_iff] at h
  grind

theorem unTk (s : ByteArray) (n : Int) : unenc encTk (([.ptr 900 0 0], [(900, Blk.mk true 0 0 [[(vS s), (vI n)]])])) = some (s, n) := unenc_of encTk_inj (s, n) rfl

def resTk1 (s : ByteArray) (n : Int) : AV × Heap × List Nat := (.tup [vS (F.cutH s F.nl), vB (F.cutF s F.nl)], [(900, ⟨true, 0, 0, [[vS (F.cutT s F.nl), vI (n + 1)]]⟩)], [])

def preTk1 (s : ByteArray) (n : Int) : Bool := decide (s.size ≤ 500000) && decide (0 ≤ n) && decide (n ≤ 1000000)

noncomputable def oTk : OrcH := orcH 25 encTk (fun a => preTk1 a.1 a.2) fun a => resTk1 a.1 a.2

theorem okTk : OrcHOK Tryd.prog noG oTk := by
  refine mkH_ok (mv := []) Tryd.f25 (by kernel_rfl) (by kernel_rfl) enTk_ok mixed (no_loops (by kernel_rfl)) ?_
  rintro ⟨s, n⟩ hpre hok hokh
  show (runH enTk [] _ (encTk1 _ _).1 (encTk1 _ _).2).val = some (resTk1 _ _)
  unfold encTk1 resTk1
  rw [evTk]
  simp only [preTk1, Bool.and_eq_true, decide_eq_true_eq] at hpre
  have w1 : IntKind.i64.wrap (n + 1) = n + 1 := wrap_id (by omega) (by omega)
  simp only [unCut, preCut1, etaEnt, etaLst, etaSnd, etaStrm, etaMas, Option.bind_some, List.length_map, unStrs, unInts, unBools, unEnts, unItms, unTrns, cond_true, cond_false, Bool.and_true, Bool.true_and, w1, nl_eq, decide_eq_true (by omega : s.size ≤ 4294967280)]
  done

def stWd (w : List ByteArray) (k : Nat) : St := ⟨[(11, vI k), (10, vI w.length), (9, .sl (w.map eStr)), (4, .sl (w.map eStr))], []⟩

def stWd1 (a : (List ByteArray) × Nat) : St := stWd a.1 a.2

theorem stWd_inj (a a' : (List ByteArray) × Nat) (h : stWd1 a = stWd1 a') : a = a' := by
  simp only [stWd1, stWd] at h
  try simp [strs_inj, ents_inj, eEnt_iff, eLst_iff] at h
  grind

theorem unstWd (w : List ByteArray) (k : Nat) : unenc stWd1 (St.mk [(11, (vI (↑k : Int))), (10, (vI (↑(List.length w) : Int))), (9, AV.sl (List.map eStr w)), (4, AV.sl (List.map eStr w))] []) = some (w, k) := unenc_of stWd_inj (w, k) rfl

theorem unstWd0 (w : List ByteArray)  : unenc stWd1 (St.mk [(11, (vI (0 : Int))), (10, (vI (↑(List.length w) : Int))), (9, AV.sl (List.map eStr w)), (4, AV.sl (List.map eStr w))] []) = some (w, 0) := unenc_of stWd_inj (w, 0) rfl

def outWd (w : List ByteArray) (k : Nat) : T (Ex × St) := .ifB ((w.drop k).all F.wdB) (.ret (.exit 0, ⟨[(4, .sl (w.map eStr))], []⟩)) (.ret (.ret, ⟨[(3, vB false), (2, .own 2)], [(2, ⟨false, 9, 1, []⟩)]⟩))

noncomputable def prlWd (w : List ByteArray) (k : Nat) : Bool := decide (w.length ≤ 9223372036854775807) && decide (k ≤ w.length)

noncomputable def lpWd : Nat × (St → T (Ex × St)) := (3, lpo [11, 10, 9, 4] [] stWd1 (fun a => prlWd a.1 a.2) fun a => outWd a.1 a.2)

def encWds1 (s : ByteArray) : List AV := [vS s]

def encWds (a : ByteArray) : List AV := encWds1 a

theorem encWds_inj (a a' : ByteArray) (h : encWds a = encWds a') : a = a' := by
  simp only [encWds, encWds1] at h
  try simp [strs_inj, ents_inj, eEnt_iff, eLst_iff] at h
  grind

theorem unWds (s : ByteArray) : unenc encWds ([(vS s)]) = some (s) := unenc_of encWds_inj (s) rfl

def resWds1 (s : ByteArray) : AV × Heap := (.tup [.sl ((bif F.wOk (F.wds s) then F.wds s else []).map eStr), vB (F.wOk (F.wds s))], [])

def preWds1 (s : ByteArray) : Bool := decide (s.size ≤ 500000)

def stNu (s : ByteArray) (acc : Nat) (k : Nat) : St := ⟨[(29, vI k), (28, vI s.size), (6, vI acc), (0, vS s)], []⟩

def stNu1 (a : ByteArray × Nat × Nat) : St := stNu a.1 a.2.1 a.2.2

theorem stNu_inj (a a' : ByteArray × Nat × Nat) (h : stNu1 a = stNu1 a') : a = a' := by
  simp only [stNu1, stNu] at h
  try simp [strs_inj, ents_inj, eEnt_iff, eLst_iff] at h
  grind

theorem unstNu (s : ByteArray) (acc : Nat) (k : Nat) : unenc stNu1 (St.mk [(29, (vI (↑k : Int))), (28, (vI (↑(ByteArray.size s) : Int))), (6, (vI (↑acc : Int))), (0, (vS s))] []) = some (s, acc, k) := unenc_of stNu_inj (s, acc, k) rfl

theorem unstNu0 (s : ByteArray)  : unenc stNu1 (St.mk [(29, (vI (0 : Int))), (28, (vI (↑(ByteArray.size s) : Int))), (6, (vI (0 : Int))), (0, (vS s))] []) = some (s, 0, 0) := unenc_of stNu_inj (s, 0, 0) rfl

def outNu (s : ByteArray) (acc : Nat) (k : Nat) : T (Ex × St) := .ifB (((F.bs s).drop k).all F.dgB) (.ret (.exit 0, ⟨[(6, vI (F.dvA acc ((F.bs s).drop k) : Nat))], []⟩)) (.ret (.ret, ⟨[(5, vB false), (4, vI 0)], []⟩))

noncomputable def prlNu (s : ByteArray) (acc : Nat) (k : Nat) : Bool := decide (s.size ≤ 18) && decide (k ≤ s.size) && decide (acc < 10 ^ k)

noncomputable def lpNu : Nat × (St → T (Ex × St)) := (5, lpo [29, 28, 6, 0] [] stNu1 (fun a => prlNu a.1 a.2.1 a.2.2) fun a => outNu a.1 a.2.1 a.2.2)

noncomputable def enNu : Env := envH ty noG lks [oDigit] [] [] [lpNu]

theorem enNu_ok : EnvOK Tryd.prog enNu := by
  refine envH_ok lks_ok ty_ok ?_ ?_
  · simp only [List.forall_mem_cons]
    exact ⟨okDigit, by simp⟩
  · simp

theorem evNuL (s : ByteArray) (acc : Nat) (k : Nat) : ((exec enNu (loopN Tryd.f45 0) (stNu s acc k)).bind (lessX ([29, 28, 6, 0], []) ([6], []) ([5, 4], []))).val =
  bif decide ((↑k : Int) < (↑(ByteArray.size s) : Int)) then Option.bind s[k]? fun (z : UInt8) => Option.bind (unenc encDigit [(vU (↑(UInt8.toNat z) : Int))]) fun (z : Int)
  => bif !F.digit z then some (Ex.ret, St.mk [(5, (vB false)), (4, (vI (0 : Int)))] []) else Option.bind s[k]? fun (z : UInt8) => some (Ex.normal, St.mk [(29, (vI
  (IntKind.wrap IntKind.i64 ((↑k : Int) + (1 : Int))))), (28, (vI (↑(ByteArray.size s) : Int))), (6, (vI (IntKind.wrap IntKind.i64 (IntKind.wrap IntKind.i64 ((10 : Int) *
  (↑acc : Int)) + IntKind.wrap IntKind.i64 (IntKind.wrap IntKind.u8 ((↑(UInt8.toNat z) : Int) - (48 : Int))))))), (0, (vS s))] []) else some (Ex.exit (0 : Nat), St.mk [(6,
  (vI (↑acc : Int)))] []) := (execR_bind _ _ _).symm.trans (by kernel_rfl)

theorem lpNu_ok (s : ByteArray) (acc : Nat) (k : Nat) (hp : prlNu s acc k = true) : ∀ ex s', (outNu s acc k).val = some (ex, s') → LoopOK enNu (loopN Tryd.f45 0) (stNu s acc k) ex s' := by
  simp only [prlNu, Bool.and_eq_true, decide_eq_true_eq] at hp
  obtain ⟨⟨h1, h2⟩, h3⟩ := hp
  refine loop_gen (st := fun p : Nat × Nat => stNu s p.1 p.2) (out := fun p => outNu s p.1 p.2) (I := fun p => p.2 ≤ s.size ∧ p.1 < 10 ^ p.2) (n := ([29, 28, 6, 0], [])) (e := ([6], [])) (r := ([5, 4], [])) (fun p => s.size - p.2) ?_ (acc, k) ⟨h2, h3⟩
  clear h2 h3
  rintro ⟨acc, k⟩ ⟨g1, g2⟩
  simp only at g1 g2
  have hl := F.bs_len s
  by_cases hlt : k < s.size
  · have hy : (F.bs s)[k]? = some ((F.bs s)[k]'(by omega)) := List.getElem?_eq_getElem (by omega)
    generalize (F.bs s)[k]'(by omega) = y at hy
    have hd := drop_y hy
    have hb : F.digit (y.toNat : Int) = F.dgB y := by
      unfold F.digit F.dgB
      by_cases a1 : 48 ≤ y.toNat <;> by_cases a2 : y.toNat ≤ 57 <;> simp [a1, a2] <;> omega
    cases hc : F.dgB y
    · left
      refine ⟨(.ret, ⟨[(5, vB false), (4, vI 0)], []⟩), ?_, ?_, by simp, rfl⟩
      · rw [evNuL]
        simp only [unDigit, preDigit1, unstNu, unstNu0, prlNu, outNu, etaEnt, etaLst, etaSnd, etaStrm, etaMas, Option.bind_some, List.length_map, unStrs, unInts, unBools, unEnts, unItms, unTrns, cond_true, cond_false, Bool.and_true, Bool.true_and, cast_lt hlt, F.bs_get, hy, hb, hc]
        rfl
      · simp only [outNu, hd, List.all_cons, hc]
        rfl
    · right
      have hc2 := hc
      unfold F.dgB at hc2
      simp only [Bool.and_eq_true, decide_eq_true_eq] at hc2
      have hp18 : 10 ^ (k + 1) ≤ 10 ^ 18 := Nat.pow_le_pow_right (by decide) (by omega)
      have hn : acc * 10 + (y.toNat - 48) < 10 ^ (k + 1) := by rw [Nat.pow_succ]; omega
      have w1 : IntKind.i64.wrap (10 * (acc : Int)) = 10 * (acc : Int) := wrap_id (by omega) (by omega)
      have w2 : IntKind.u8.wrap ((y.toNat : Int) - 48) = (y.toNat : Int) - 48 := by
        simp only [IntKind.wrap, IntKind.signed, IntKind.bits]
        simp
        omega
      have w3 : IntKind.i64.wrap ((y.toNat : Int) - 48) = (y.toNat : Int) - 48 := wrap_id (by omega) (by omega)
      have w4 : IntKind.i64.wrap (10 * (acc : Int) + ((y.toNat : Int) - 48)) = ((acc * 10 + (y.toNat - 48) : Nat) : Int) := by rw [wrap_id (by omega) (by omega)]; omega
      refine ⟨(acc * 10 + (y.toNat - 48), k + 1), ?_, rfl, ⟨by simp only; omega, hn⟩, by simp only; omega, ?_⟩
      · rw [evNuL]
        simp only [unDigit, preDigit1, unstNu, unstNu0, prlNu, outNu, etaEnt, etaLst, etaSnd, etaStrm, etaMas, Option.bind_some, List.length_map, unStrs, unInts, unBools, unEnts, unItms, unTrns, cond_true, cond_false, Bool.and_true, Bool.true_and, cast_lt hlt, F.bs_get, hy, hb, hc, w1, w2, w3, w4, next_at hlt (by omega : s.size ≤ 9223372036854775807), stNu]
        try rfl
      · simp only [outNu, hd, List.all_cons, hc, Bool.true_and, F.dvA_cons]
  · have : k = s.size := by omega
    subst this
    have hd : (F.bs s).drop s.size = [] := List.drop_eq_nil_of_le (by omega)
    left
    refine ⟨(.exit 0, ⟨[(6, vI acc)], []⟩), ?_, ?_, by simp, rfl⟩
    · rw [evNuL]; simp
    · simp only [outNu, hd, List.all_nil, F.dvA_nil]
      rfl

theorem evNum (s : ByteArray) (most : Int) : (runF enNu false Tryd.f45 [vS s, vI most]).val =
  bif !bif (↑(ByteArray.size s) : Int) == (0 : Int) then true else decide (most < (↑(ByteArray.size s) : Int)) then Option.bind s[(0 : Nat)]? fun (z : UInt8) => bif bif
  (↑(UInt8.toNat z) : Int) == (48 : Int) then decide ((1 : Int) < (↑(ByteArray.size s) : Int)) else false then some (AV.tup [(vI (0 : Int)), (vB false)], []) else
  Option.bind (unenc stNu1 (St.mk [(29, (vI (0 : Int))), (28, (vI (↑(ByteArray.size s) : Int))), (6, (vI (0 : Int))), (0, (vS s))] [])) fun (z : ByteArray × Nat × Nat) =>
  bif decide (ByteArray.size z.fst ≤ (18 : Nat)) && decide (z.snd.snd ≤ ByteArray.size z.fst) && decide (z.snd.fst < (10 : Nat) ^ z.snd.snd) && true then bif List.all
  (List.drop z.snd.snd (F.bs z.fst)) F.dgB then some (AV.tup [(vI (↑(F.dvA z.snd.fst (List.drop z.snd.snd (F.bs z.fst))) : Int)), (vB true)], []) else some (AV.tup [(vI (0 :
  Int)), (vB false)], []) else none else some (AV.tup [(vI (0 : Int)), (vB false)], []) := (runFR_val).symm.trans (by kernel_rfl)

def encNum1 (s : ByteArray) (most : Int) : List AV := [vS s, vI most]

def encNum (a : ByteArray × Int) : List AV := encNum1 a.1 a.2

theorem encNum_inj (a a' : ByteArray × Int) (h : encNum a = encNum a') : a = a' := by
  simp only [encNum, encNum1] at h
  try simp [strs_inj, ents_inj, eEnt_iff, eLst_iff] at h
  grind

theorem unNum (s : ByteArray) (most : Int) : unenc encNum ([(vS s), (vI most)]) = some (s, most) := unenc_of encNum_inj (s, most) rfl

def resNum1 (s : ByteArray) (most : Int) : AV × Heap := (.tup [vI (F.numV s most), vB (F.numOk s most)], [])

def preNum1 (s : ByteArray) (most : Int) : Bool := decide (most ≤ 18)

noncomputable def oNum : Orc := orc 45 true encNum (fun a => preNum1 a.1 a.2) fun a => resNum1 a.1 a.2

theorem okNum : OrcOK Tryd.prog noG oNum := by
  refine mk_ok Tryd.f45 (keep := false) (by kernel_rfl) (by kernel_rfl) enNu_ok mixed (one_loop (x0 := loopN Tryd.f45 0) (by kernel_rfl) (lpo_ok ?_)) (by first | exact fun _ _ => ⟨rfl, rfl⟩ | (intro h; cases h)) ?_
  · rintro ⟨s, acc, k⟩ hp
    exact lpNu_ok s acc k hp
  rintro ⟨s, most⟩ hpre hok
  show (runF enNu false _ (encNum1 _ _)).val = some (resNum1 _ _)
  unfold encNum1 resNum1
  rw [evNum]
  have hpre : most ≤ 18 := of_decide_eq_true hpre
  have h0 := F.bs_len s
  simp only [unDigit, preDigit1, unstNu, unstNu0, prlNu, outNu, etaEnt, etaLst, etaSnd, etaStrm, etaMas, Option.bind_some, List.length_map, unStrs, unInts, unBools, unEnts, unItms, unTrns, cond_true, cond_false, Bool.and_true, Bool.true_and, List.drop_zero, Nat.zero_le, decide_true, (by decide : decide (0 < 10 ^ 0) = true)]
  unfold F.numV F.numOk
  by_cases hz : s.size = 0
  · have e1 : ((s.size : Int) == 0) = true := by simp [hz]
    rw [e1, decide_eq_false (by omega : ¬ s.size ≠ 0)]
    rfl
  · have e1 : ((s.size : Int) == 0) = false := by simp [hz]
    rw [e1, decide_eq_true hz]
    by_cases hm : most < (s.size : Int)
    · rw [decide_eq_true hm, decide_eq_false (by omega : ¬ (s.size : Int) ≤ most)]
      simp
    · rw [decide_eq_false hm, decide_eq_true (by omega : (s.size : Int) ≤ most), decide_eq_true (by omega : s.size ≤ 18)]
      have hb : (F.bs s)[0]? = some ((F.bs s)[0]'(by omega)) := List.getElem?_eq_getElem (by omega)
      generalize (F.bs s)[0]'(by omega) = b at hb
      have hb0 : F.b0 s = (b.toNat : Int) := by unfold F.b0; rw [hb]
      have hs0 : s[0]? = some b := by rw [F.bs_get]; exact hb
      have e2 : decide ((1 : Int) < (s.size : Int)) = decide (1 < s.size) := decide_eq_decide.2 (by omega)
      have e3 : ((b.toNat : Int) == 48) = decide ((b.toNat : Int) = 48) := by by_cases h : (b.toNat : Int) = 48 <;> simp [h]
      have hdv : F.dv s = F.dvA 0 (F.bs s) := rfl
      rw [hb0, hs0, hdv]
      simp only [e2, e3, Option.bind_some, Bool.not_false, Bool.true_and, cond_false, cond_true]
      cases decide ((b.toNat : Int) = 48) <;> cases decide (1 < s.size) <;> cases (F.bs s).all F.dgB <;> rfl

theorem evUnd (s : ByteArray) : (runF en0 false Tryd.f60 [vS s]).val =
  bif ByteArray.toList s == ByteArray.toList (ByteArray.mk (Array.mk [(45 : UInt8)])) then some ((vS (ByteArray.mk (Array.mk []))), []) else some ((vS s), []) := (runFR_val).symm.trans (by kernel_rfl)

def encUnd1 (s : ByteArray) : List AV := [vS s]

def encUnd (a : ByteArray) : List AV := encUnd1 a

theorem encUnd_inj (a a' : ByteArray) (h : encUnd a = encUnd a') : a = a' := by
  simp only [encUnd, encUnd1] at h
  try simp [strs_inj, ents_inj, eEnt_iff, eLst_iff] at h
  grind

theorem unUnd (s : ByteArray) : unenc encUnd ([(vS s)]) = some (s) := unenc_of encUnd_inj (s) rfl

def resUnd1 (s : ByteArray) : AV × Heap := (vS (F.undash s), [])

def preUnd1 (s : ByteArray) : Bool := true

noncomputable def oUnd : Orc := orc 60 true encUnd (fun a => preUnd1 a) fun a => resUnd1 a

theorem okUnd : OrcOK Tryd.prog noG oUnd := by
  refine mk_ok Tryd.f60 (keep := false) (by kernel_rfl) (by kernel_rfl) en0_ok mixed (no_loops (by kernel_rfl)) (by first | exact fun _ _ => ⟨rfl, rfl⟩ | (intro h; cases h)) ?_
  rintro s hpre hok
  show (runF en0 false _ (encUnd1 _)).val = some (resUnd1 _)
  unfold encUnd1 resUnd1
  rw [evUnd]
  simp only [etaEnt, etaLst, etaSnd, etaStrm, etaMas, Option.bind_some, List.length_map, unStrs, unInts, unBools, unEnts, unItms, unTrns, cond_true, cond_false, Bool.and_true, Bool.true_and, F.undash, F.seq]
  cases s.toList == (⟨⟨[45]⟩⟩ : ByteArray).toList <;> rfl

noncomputable def enUr : Env := envH ty noG lks [] [oTk] [] []

theorem enUr_ok : EnvOK Tryd.prog enUr := by
  refine envH_ok lks_ok ty_ok ?_ ?_
  · simp
  · simp only [List.forall_mem_cons]
    exact ⟨okTk, by simp⟩

def encUr1 (s : ByteArray) (n : Int) : List AV × Heap := ([.ptr 900 0 0], [(900, ⟨true, 0, 0, [[vS s, vI n]]⟩)])

def encUr (a : ByteArray × Int) : List AV × Heap := encUr1 a.1 a.2

theorem encUr_inj (a a' : ByteArray × Int) (h : encUr a = encUr a') : a = a' := by
  simp only [encUr, encUr1] at h
  try simp [strs_inj, ents_inj, eEnt_iff, eLst_iff] at h
  grind

theorem unUr (s : ByteArray) (n : Int) : unenc encUr (([.ptr 900 0 0], [(900, Blk.mk true 0 0 [[(vS s), (vI n)]])])) = some (s, n) := unenc_of encUr_inj (s, n) rfl

def resUr1 (s : ByteArray) (n : Int) : AV × Heap × List Nat := (.tup [vS (F.cutH s F.nl), vB (F.ptU s)], [(900, ⟨true, 0, 0, [[vS (F.cutT s F.nl), vI (n + 1)]]⟩)], [])

def preUr1 (s : ByteArray) (n : Int) : Bool := decide (s.size ≤ 500000) && decide (0 ≤ n) && decide (n ≤ 1000000)

end M
end Go.Proofs.YtgkjfochkhiojaaDoor
