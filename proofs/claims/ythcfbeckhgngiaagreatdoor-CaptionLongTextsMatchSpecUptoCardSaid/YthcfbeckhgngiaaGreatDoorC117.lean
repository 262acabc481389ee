/- What is proved here: what a page's methods return and leave, and the lines of a text, of both (no statement of the seat). -/
import Derived.Test.YthcfbeckhgngiaaGreatDoorC116
namespace Go.Proofs.YthcfbeckhgngiaaGreatDoor
open Go Go.RowKit
set_option linter.unusedVariables false
set_option linter.unusedSimpArgs false

/-- How many of the first lines are empty. -/
def F.lead : List ByteArray → Nat
  | [] => 0
  | x :: r => bif F.emp x then F.lead r + 1 else 0

def F.tkB (L : List ByteArray) (a : Nat) : Bool := decide (a < L.length)

def F.tkS (L : List ByteArray) (a : Nat) : ByteArray := bif F.tkB L a then L.getD a ⟨⟨[]⟩⟩ else ⟨⟨[]⟩⟩

theorem F.lead_le : ∀ l, F.lead l ≤ l.length
  | [] => Nat.le_refl 0
  | x :: r => by
    rw [F.lead]
    have := F.lead_le r
    cases F.emp x <;> simp <;> omega

/-- Not too many lines, none too long. -/
def F.linesOk (L : List ByteArray) : Bool := decide (L.length ≤ 200001) && L.all F.small

theorem F.int_ltn (a b : Nat) : decide ((a : Int) < (b : Int)) = decide (a < b) := by
  by_cases h : a < b
  · rw [decide_eq_true h, decide_eq_true (by omega)]
  · rw [decide_eq_false h, decide_eq_false (by omega)]

namespace M

abbrev pg (L : List ByteArray) (a : Nat) : Blk := ⟨true, 0, 0, [[.sl (L.map eStr), vI a]]⟩

theorem evMor (L : List ByteArray) (a : Nat) : (runF en0 false Tryz.f33 [.pel [.sl (L.map eStr), vI a] 0]).val =
  some ((vB (decide ((↑a : Int) < (↑(List.length (List.map eStr L)) : Int)))), []) := (runFR_val).symm.trans (by kernel_rfl)

def encMor1 (L : List ByteArray) (a : Nat) : List AV := [.pel [.sl (L.map eStr), vI a] 0]

def encMor (a : (List ByteArray) × Nat) : List AV := encMor1 a.1 a.2

theorem encMor_inj (a a' : (List ByteArray) × Nat) (h : encMor a = encMor a') : a = a' := by
  simp only [encMor, encMor1] at h
  try simp [strs_inj, ints_inj, bools_inj, eL_eIs_inj, eCaps_inj, eCap_iff, eL_eCaps_inj, eMchs_inj, eMch_iff, eWrds_inj, eWrd_iff, eFnds_inj, eFnd_iff, eRatios_inj, eRatio_iff, eWays_inj, eWay_iff] at h
  grind

theorem unMor (L : List ByteArray) (a : Nat) : unenc encMor ([AV.pel [AV.sl (List.map eStr L), (vI (↑a : Int))] (0 : Nat)]) = some (L, a) := unenc_of encMor_inj (L, a) rfl

def resMor1 (L : List ByteArray) (a : Nat) : AV × Heap := (vB (F.tkB L a), [])

def preMor1 (L : List ByteArray) (a : Nat) : Bool := true

noncomputable def oMor : Orc := orc 33 true encMor (fun a => preMor1 a.1 a.2) fun a => resMor1 a.1 a.2

theorem okMor : OrcOK Tryz.prog noG oMor := by
  refine mk_ok Tryz.f33 (keep := false) (by kernel_rfl) (by kernel_rfl) en0_ok mixed (no_loops (by kernel_rfl)) (by first | exact fun _ _ => ⟨rfl, rfl⟩ | (intro h; cases h)) ?_
  rintro ⟨L, a⟩ hpre hok
  show (runF en0 false _ (encMor1 _ _)).val = some (resMor1 _ _)
  unfold encMor1 resMor1
  rw [evMor]
  simp only [etaCap, etaMch, etaWrd, etaFnd, etaRatio, etaWay, Option.bind_some, List.length_map, unStrs, unInts, unBools, uneL_eIs, unCaps, uneL_eCaps, unMchs, unWrds, unFnds, unRatios, unWays, F.lt, F.le, cond_true, cond_false, Bool.and_true, Bool.true_and, F.tkB]
  rw [F.int_ltn]

theorem evTak (L : List ByteArray) (a : Nat) : (runH en0 [] Tryz.f31 [.ptr 900 0 0] [(900, ⟨true, 0, 0, [[.sl (L.map eStr), vI a]]⟩)]).val =
  bif decide ((↑(List.length (List.map eStr L)) : Int) < IntKind.wrap IntKind.i64 ((↑a : Int) + (1 : Int))) then some (AV.tup [(vS (ByteArray.mk (Array.mk []))), (vB
  false)], [(900, Blk.mk true 0 0 [[AV.sl (List.map eStr L), (vI (IntKind.wrap IntKind.i64 ((↑a : Int) + (1 : Int))))]])], []) else Option.bind (idx (IntKind.wrap
  IntKind.i64 (IntKind.wrap IntKind.i64 ((↑a : Int) + (1 : Int)) - (1 : Int)))) fun (z : Nat) => Option.bind (unenc (List.map eStr) (List.map eStr L)) fun (z_1 : List
  ByteArray) => bif decide (z < List.length z_1) then some (AV.tup [(vS (List.getD z_1 z (ByteArray.mk (Array.mk [])))), (vB true)], [(900, Blk.mk true 0 0 [[AV.sl (List.map
  eStr L), (vI (IntKind.wrap IntKind.i64 ((↑a : Int) + (1 : Int))))]])], []) else none := (runHR_val).symm.trans (by kernel_rfl)

def encTak1 (L : List ByteArray) (a : Nat) : List AV × Heap := ([.ptr 900 0 0], [(900, ⟨true, 0, 0, [[.sl (L.map eStr), vI a]]⟩)])

def encTak (a : (List ByteArray) × Nat) : List AV × Heap := encTak1 a.1 a.2

theorem encTak_inj (a a' : (List ByteArray) × Nat) (h : encTak a = encTak a') : a = a' := by
  simp only [encTak, encTak1] at h
  try simp [strs_inj, ints_inj, bools_inj, eL_eIs_inj, eCaps_inj, eCap_iff, eL_eCaps_inj, eMchs_inj, eMch_iff, eWrds_inj, eWrd_iff, eFnds_inj, eFnd_iff, eRatios_inj, eRatio_iff, eWays_inj, eWay_iff] at h
  grind

theorem unTak (L : List ByteArray) (a : Nat) : unenc encTak (([.ptr 900 0 0], [(900, Blk.mk true 0 0 [[AV.sl (List.map eStr L), (vI (↑a : Int))]])])) = some (L, a) := unenc_of encTak_inj (L, a) rfl

def resTak1 (L : List ByteArray) (a : Nat) : AV × Heap × List Nat := (.tup [vS (F.tkS L a), vB (F.tkB L a)], [(900, ⟨true, 0, 0, [[.sl (L.map eStr), vI (a + 1 : Nat)]]⟩)], [])

def preTak1 (L : List ByteArray) (a : Nat) : Bool := F.linesOk L && decide (a ≤ 200001)

noncomputable def oTak : OrcH := orcH 31 encTak (fun a => preTak1 a.1 a.2) fun a => resTak1 a.1 a.2

theorem okTak : OrcHOK Tryz.prog noG oTak := by
  refine mkH_ok (mv := []) Tryz.f31 (by kernel_rfl) (by kernel_rfl) en0_ok mixed (no_loops (by kernel_rfl)) ?_
  rintro ⟨L, a⟩ hpre hok hokh
  show (runH en0 [] _ (encTak1 _ _).1 (encTak1 _ _).2).val = some (resTak1 _ _)
  unfold encTak1 resTak1
  rw [evTak]
  simp only [preTak1, F.linesOk, Bool.and_eq_true, decide_eq_true_eq] at hpre
  simp only [etaCap, etaMch, etaWrd, etaFnd, etaRatio, etaWay, Option.bind_some, List.length_map, unStrs, unInts, unBools, uneL_eIs, unCaps, uneL_eCaps, unMchs, unWrds, unFnds, unRatios, unWays, F.lt, F.le, cond_true, cond_false, Bool.and_true, Bool.true_and, F.tkB, F.tkS]
  have w1 : IntKind.i64.wrap ((a : Int) + 1) = ((a + 1 : Nat) : Int) := by rw [wrap_id (by omega) (by omega)]; rfl
  have w2 : idx (IntKind.i64.wrap (((a + 1 : Nat) : Int) - 1)) = some a := by
    rw [wrap_id (by omega) (by omega), show ((a + 1 : Nat) : Int) - 1 = (a : Int) by omega]; rfl
  rw [w1, w2]
  by_cases ha : a < L.length
  · simp only [decide_eq_false (show ¬ (L.length : Int) < ((a + 1 : Nat) : Int) by omega), decide_eq_true ha, cond_false, cond_true, Option.bind_some]
  · simp only [decide_eq_true (show (L.length : Int) < ((a + 1 : Nat) : Int) by omega), decide_eq_false ha, cond_false, cond_true, Option.bind_some]

def stBla (L : List ByteArray) (a : Nat) (n : Nat) : St := ⟨[(3, vI n), (0, .ptr 900 0 0)], [(900, ⟨true, 0, 0, [[.sl (L.map eStr), vI a]]⟩)]⟩

def stBla1 (a : (List ByteArray) × Nat × Nat) : St := stBla a.1 a.2.1 a.2.2

theorem stBla_inj (a a' : (List ByteArray) × Nat × Nat) (h : stBla1 a = stBla1 a') : a = a' := by
  simp only [stBla1, stBla] at h
  try simp [strs_inj, ints_inj, bools_inj, eL_eIs_inj, eCaps_inj, eCap_iff, eL_eCaps_inj, eMchs_inj, eMch_iff, eWrds_inj, eWrd_iff, eFnds_inj, eFnd_iff, eRatios_inj, eRatio_iff, eWays_inj, eWay_iff] at h
  grind

theorem unstBla (L : List ByteArray) (a : Nat) (n : Nat) : unenc stBla1 (St.mk [(3, (vI (↑n : Int))), (0, .ptr 900 0 0)] [(900, Blk.mk true 0 0 [[AV.sl (List.map eStr L), (vI (↑a : Int))]])]) = some (L, a, n) := unenc_of stBla_inj (L, a, n) rfl

theorem unstBla0 (L : List ByteArray) (a : Nat)  : unenc stBla1 (St.mk [(3, (vI (0 : Int))), (0, .ptr 900 0 0)] [(900, Blk.mk true 0 0 [[AV.sl (List.map eStr L), (vI (↑a : Int))]])]) = some (L, a, 0) := unenc_of stBla_inj (L, a, 0) rfl

def outBla (L : List ByteArray) (a : Nat) (n : Nat) : T (Ex × St) := .ret (.exit 0, ⟨[(3, vI (n + F.lead (L.drop a) : Nat)), (0, .ptr 900 0 0)], [(900, ⟨true, 0, 0, [[.sl (L.map eStr), vI (a + F.lead (L.drop a) : Nat)]]⟩)]⟩)

noncomputable def prlBla (L : List ByteArray) (a : Nat) (n : Nat) : Bool := decide (L.length ≤ 200001) && decide (a ≤ 200001) && decide (n ≤ a)

noncomputable def lpBla : Nat × (St → T (Ex × St)) := (2, lpo [3, 0] [900] stBla1 (fun a => prlBla a.1 a.2.1 a.2.2) fun a => outBla a.1 a.2.1 a.2.2)

noncomputable def enBla : Env := envH ty noG lks [oMor] [] [] [lpBla]

theorem enBla_ok : EnvOK Tryz.prog enBla := by
  refine envH_ok lks_ok ty_ok ?_ ?_
  · simp only [List.forall_mem_cons]
    exact ⟨okMor, by simp⟩
  · simp

theorem evBlaL (L : List ByteArray) (a : Nat) (n : Nat) : ((exec enBla (loopN Tryz.f32 0) (stBla L a n)).bind (lessX ([3, 0], [900]) ([3, 0], [900]) ([], []))).val =
  Option.bind (unenc encMor [AV.pel [AV.sl (List.map eStr L), (vI (↑a : Int))] (0 : Nat)]) fun (z : List ByteArray × Nat) => bif F.tkB z.fst z.snd then Option.bind (unenc
  (List.map eStr) (List.map eStr L)) fun (z : List ByteArray) => bif decide (a < List.length z) then bif ByteArray.toList (List.getD z a (ByteArray.mk (Array.mk []))) ==
  ByteArray.toList (ByteArray.mk (Array.mk [])) then some (Ex.normal, St.mk [(3, (vI (IntKind.wrap IntKind.i64 ((↑n : Int) + (1 : Int))))), (0, .ptr 900 0 0)] [(900, Blk.mk
  true 0 0 [[AV.sl (List.map eStr L), (vI (IntKind.wrap IntKind.i64 ((↑a : Int) + (1 : Int))))]])]) else some (Ex.exit (0 : Nat), St.mk [(3, (vI (↑n : Int))), (0, .ptr 900 0
  0)] [(900, Blk.mk true 0 0 [[AV.sl (List.map eStr L), (vI (↑a : Int))]])]) else none else some (Ex.exit (0 : Nat), St.mk [(3, (vI (↑n : Int))), (0, .ptr 900 0 0)] [(900,
  Blk.mk true 0 0 [[AV.sl (List.map eStr L), (vI (↑a : Int))]])]) := (execR_bind _ _ _).symm.trans (by kernel_rfl)

theorem lpBla_ok (L : List ByteArray) (a : Nat) (n : Nat) (hp : prlBla L a n = true) : ∀ ex s', (outBla L a n).val = some (ex, s') → LoopOK enBla (loopN Tryz.f32 0) (stBla L a n) ex s' := by
  simp only [prlBla, Bool.and_eq_true, decide_eq_true_eq] at hp
  obtain ⟨⟨h1, h2⟩, h3⟩ := hp
  refine loop_gen (st := fun b : Nat × Nat => stBla L b.1 b.2) (out := fun b => outBla L b.1 b.2) (I := fun b => b.1 ≤ 200001 ∧ b.2 ≤ b.1) (n := ([3, 0], [900])) (e := ([3, 0], [900])) (r := ([], [])) (fun b => L.length - b.1) ?_ (a, n) ⟨h2, h3⟩
  rintro ⟨a, n⟩ ⟨i1, i2⟩
  simp only at i1 i2
  have w1 : IntKind.i64.wrap ((a : Int) + 1) = ((a + 1 : Nat) : Int) := by rw [wrap_id (by omega) (by omega)]; rfl
  have w2 : IntKind.i64.wrap ((n : Int) + 1) = ((n + 1 : Nat) : Int) := by rw [wrap_id (by omega) (by omega)]; rfl
  by_cases ha : a < L.length
  · have hy : L[a]? = some L[a] := List.getElem?_eq_getElem ha
    generalize L[a] = y at hy
    have hd := drop_q hy
    have ht : F.tkB L a = true := decide_eq_true ha
    have ey : (y.toList == (⟨⟨[]⟩⟩ : ByteArray).toList) = F.emp y := rfl
    cases he : F.emp y
    · left
      refine ⟨(.exit 0, ⟨[(3, vI n), (0, .ptr 900 0 0)], [(900, ⟨true, 0, 0, [[.sl (L.map eStr), vI a]]⟩)]⟩), ?_, ?_, by simp, rfl⟩
      · rw [evBlaL]
        simp only [unMor, preMor1, unstBla, unstBla0, prlBla, outBla, etaCap, etaMch, etaWrd, etaFnd, etaRatio, etaWay, Option.bind_some, List.length_map, unStrs, unInts, unBools, uneL_eIs, unCaps, uneL_eCaps, unMchs, unWrds, unFnds, unRatios, unWays, F.lt, F.le, cond_true, cond_false, Bool.and_true, Bool.true_and, ht, decide_eq_true ha, getD_at hy, ey, he]
      · simp only [outBla, hd, F.lead, he, cond_false, Nat.add_zero]
        rfl
    · right
      refine ⟨(a + 1, n + 1), ?_, rfl, ⟨by simp only; omega, by simp only; omega⟩, by simp only; omega, ?_⟩
      · rw [evBlaL]
        simp only [unMor, preMor1, unstBla, unstBla0, prlBla, outBla, etaCap, etaMch, etaWrd, etaFnd, etaRatio, etaWay, Option.bind_some, List.length_map, unStrs, unInts, unBools, uneL_eIs, unCaps, uneL_eCaps, unMchs, unWrds, unFnds, unRatios, unWays, F.lt, F.le, cond_true, cond_false, Bool.and_true, Bool.true_and, ht, decide_eq_true ha, getD_at hy, ey, he, w1, w2]
        rfl
      · have e1 : a + (F.lead (L.drop (a + 1)) + 1) = a + 1 + F.lead (L.drop (a + 1)) := by omega
        have e2 : n + (F.lead (L.drop (a + 1)) + 1) = n + 1 + F.lead (L.drop (a + 1)) := by omega
        simp only [outBla, hd, F.lead, he, cond_true, e1, e2]
  · have ht : F.tkB L a = false := decide_eq_false ha
    have hd : L.drop a = [] := List.drop_eq_nil_of_le (by omega)
    left
    refine ⟨(.exit 0, ⟨[(3, vI n), (0, .ptr 900 0 0)], [(900, ⟨true, 0, 0, [[.sl (L.map eStr), vI a]]⟩)]⟩), ?_, ?_, by simp, rfl⟩
    · rw [evBlaL]
      simp only [unMor, preMor1, unstBla, unstBla0, prlBla, outBla, etaCap, etaMch, etaWrd, etaFnd, etaRatio, etaWay, Option.bind_some, List.length_map, unStrs, unInts, unBools, uneL_eIs, unCaps, uneL_eCaps, unMchs, unWrds, unFnds, unRatios, unWays, F.lt, F.le, cond_true, cond_false, Bool.and_true, Bool.true_and, ht]
    · simp only [outBla, hd, F.lead, Nat.add_zero]
      rfl

theorem evBla (L : List ByteArray) (a : Nat) : (runH enBla [] Tryz.f32 [.ptr 900 0 0] [(900, ⟨true, 0, 0, [[.sl (L.map eStr), vI a]]⟩)]).val =
  Option.bind (unenc stBla1 (St.mk [(3, (vI (0 : Int))), (0, .ptr 900 0 0)] [(900, Blk.mk true 0 0 [[AV.sl (List.map eStr L), (vI (↑a : Int))]])])) fun (z : List ByteArray ×
  Nat × Nat) => bif decide (List.length z.fst ≤ (200001 : Nat)) && decide (z.snd.fst ≤ (200001 : Nat)) && decide (z.snd.snd ≤ z.snd.fst) && true then some ((vI (↑(z.snd.snd
  + F.lead (List.drop z.snd.fst z.fst)) : Int)), [(900, Blk.mk true 0 0 [[AV.sl (List.map eStr z.fst), (vI (↑(z.snd.fst + F.lead (List.drop z.snd.fst z.fst)) : Int))]])],
  []) else none := (runHR_val).symm.trans (by kernel_rfl)

def encBla1 (L : List ByteArray) (a : Nat) : List AV × Heap := ([.ptr 900 0 0], [(900, ⟨true, 0, 0, [[.sl (L.map eStr), vI a]]⟩)])

def encBla (a : (List ByteArray) × Nat) : List AV × Heap := encBla1 a.1 a.2

theorem encBla_inj (a a' : (List ByteArray) × Nat) (h : encBla a = encBla a') : a = a' := by
  simp only [encBla, encBla1] at h
  try simp [strs_inj, ints_inj, bools_inj, eL_eIs_inj, eCaps_inj, eCap_iff, eL_eCaps_inj, eMchs_inj, eMch_iff, eWrds_inj, eWrd_iff, eFnds_inj, eFnd_iff, eRatios_inj, eRatio_iff, eWays_inj, eWay_iff] at h
  grind

theorem unBla (L : List ByteArray) (a : Nat) : unenc encBla (([.ptr 900 0 0], [(900, Blk.mk true 0 0 [[AV.sl (List.map eStr L), (vI (↑a : Int))]])])) = some (L, a) := unenc_of encBla_inj (L, a) rfl

def resBla1 (L : List ByteArray) (a : Nat) : AV × Heap × List Nat := (vI (F.lead (L.drop a)), [(900, ⟨true, 0, 0, [[.sl (L.map eStr), vI (a + F.lead (L.drop a) : Nat)]]⟩)], [])

def preBla1 (L : List ByteArray) (a : Nat) : Bool := F.linesOk L && decide (a ≤ 200001)

noncomputable def oBla : OrcH := orcH 32 encBla (fun a => preBla1 a.1 a.2) fun a => resBla1 a.1 a.2

theorem okBla : OrcHOK Tryz.prog noG oBla := by
  refine mkH_ok (mv := []) Tryz.f32 (by kernel_rfl) (by kernel_rfl) enBla_ok mixed (one_loop (x0 := loopN Tryz.f32 0) (by kernel_rfl) (lpo_ok ?_)) ?_
  · rintro ⟨L, a, n⟩ hp
    exact lpBla_ok L a n hp
  rintro ⟨L, a⟩ hpre hok hokh
  show (runH enBla [] _ (encBla1 _ _).1 (encBla1 _ _).2).val = some (resBla1 _ _)
  unfold encBla1 resBla1
  rw [evBla]
  simp only [preBla1, F.linesOk, Bool.and_eq_true, decide_eq_true_eq] at hpre
  simp only [unMor, preMor1, unstBla, unstBla0, prlBla, outBla, etaCap, etaMch, etaWrd, etaFnd, etaRatio, etaWay, Option.bind_some, List.length_map, unStrs, unInts, unBools, uneL_eIs, unCaps, uneL_eCaps, unMchs, unWrds, unFnds, unRatios, unWays, F.lt, F.le, cond_true, cond_false, Bool.and_true, Bool.true_and, decide_eq_true hpre.1.1, decide_eq_true hpre.2, Nat.zero_le, decide_true, Nat.zero_add]

noncomputable def enNwP : Env := envH ty noG lks [oTrSo, oSpl] [] [] []

theorem enNwP_ok : EnvOK Tryz.prog enNwP := by
  refine envH_ok lks_ok ty_ok ?_ ?_
  · simp only [List.forall_mem_cons]
    exact ⟨okTrSo, okSpl, by simp⟩
  · simp

theorem evNwP (s : ByteArray) : (runH enNwP [] Tryz.f30 [vS s] []).val =
  bif ByteArray.toList s == ByteArray.toList (ByteArray.mk (Array.mk [])) then some (.ptr 0 0 0, [(0, Blk.mk true 0 0 [[AV.e0, (vI (0 : Int))]])], []) else Option.bind
  (unenc encTrSo [(vS s), (vS (ByteArray.mk (Array.mk [(10 : UInt8)])))]) fun (z : ByteArray × ByteArray) => bif F.small z.fst && decide (ByteArray.size z.snd ≤ (100 : Nat))
  then Option.bind (unenc encSpl [(vS (F.trim z.fst z.snd)), (vS (ByteArray.mk (Array.mk [(10 : UInt8)])))]) fun (z : ByteArray × ByteArray) => bif decide (ByteArray.size
  z.fst ≤ (4294967280 : Nat)) && decide ((1 : Nat) ≤ ByteArray.size z.snd) then some (.ptr 0 0 0, [(0, Blk.mk true 0 0 [[AV.sl (List.map eStr (F.split z.fst z.snd)), (vI (0
  : Int))]])], []) else none else none := (runHR_val).symm.trans (by kernel_rfl)

def encNwP1 (s : ByteArray) : List AV × Heap := ([vS s], [])

def encNwP (a : ByteArray) : List AV × Heap := encNwP1 a

theorem encNwP_inj (a a' : ByteArray) (h : encNwP a = encNwP a') : a = a' := by
  simp only [encNwP, encNwP1] at h
  try simp [strs_inj, ints_inj, bools_inj, eL_eIs_inj, eCaps_inj, eCap_iff, eL_eCaps_inj, eMchs_inj, eMch_iff, eWrds_inj, eWrd_iff, eFnds_inj, eFnd_iff, eRatios_inj, eRatio_iff, eWays_inj, eWay_iff] at h
  grind

theorem unNwP (s : ByteArray) : unenc encNwP (([(vS s)], [])) = some (s) := unenc_of encNwP_inj (s) rfl

def resNwP1 (s : ByteArray) : T (AV × Heap × List Nat) := .ret (.ptr 0 0 0, [(0, ⟨true, 0, 0, [[.sl ((F.lns s).map eStr), vI 0]]⟩)], [])

def preNwP1 (s : ByteArray) : Bool := F.small s

noncomputable def oNwP : OrcH := orcT 30 encNwP (fun a => preNwP1 a) fun a => resNwP1 a

theorem okNwP : OrcHOK Tryz.prog noG oNwP := by
  refine mkE_ok (mv := []) Tryz.f30 (by kernel_rfl) (by kernel_rfl) enNwP_ok mixed (no_loops (by kernel_rfl)) ?_
  rintro s r0 hpre hok hokh hr0
  show ((runH enNwP [] _ (encNwP1 _).1 (encNwP1 _).2).val.map weakH) = some r0
  replace hr0 : (resNwP1 _).val = some r0 := hr0
  unfold resNwP1 at hr0
  unfold encNwP1
  rw [evNwP]
  simp only [preNwP1, F.small, decide_eq_true_eq] at hpre
  simp only [unTrSo, unSpl, preTrSo1, preSpl1, etaCap, etaMch, etaWrd, etaFnd, etaRatio, etaWay, Option.bind_some, List.length_map, unStrs, unInts, unBools, uneL_eIs, unCaps, uneL_eCaps, unMchs, unWrds, unFnds, unRatios, unWays, F.lt, F.le, cond_true, cond_false, Bool.and_true, Bool.true_and]
  have e1 : (s.toList == (⟨⟨[]⟩⟩ : ByteArray).toList) = F.emp s := rfl
  have e2 : (⟨⟨[10]⟩⟩ : ByteArray) = F.nl := rfl
  rw [← hr0, e1, e2, F.lns_prog]
  have s1 : F.small s = true := decide_eq_true hpre
  have s2 : (F.trim s F.nl).size ≤ s.size := by
    unfold F.trim
    cases F.hasS s F.nl
    · exact Nat.le_refl _
    · exact F.ext_size _ _ _
  have s3 : decide (F.nl.size ≤ 100) = true := rfl
  have s4 : decide (1 ≤ F.nl.size) = true := rfl
  rw [s1, s3, s4, decide_eq_true (show (F.trim s F.nl).size ≤ 4294967280 by omega)]
  cases F.emp s <;> rfl

end M
end Go.Proofs.YthcfbeckhgngiaaGreatDoor
