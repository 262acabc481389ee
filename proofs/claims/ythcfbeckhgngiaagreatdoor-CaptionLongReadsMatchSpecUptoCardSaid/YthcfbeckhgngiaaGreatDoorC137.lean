/- What is proved here: lines of a text and captions' lines in the long form, of the reference (no statement of the seat). -/
import Derived.Test.YthcfbeckhgngiaaGreatDoorC136
namespace Go.Proofs.YthcfbeckhgngiaaGreatDoor
open Go Go.RowKit
set_option linter.unusedVariables false
set_option linter.unusedSimpArgs false

namespace F

/-- Lines of a caption in the long form, up to an empty one. -/
def scanP : List ByteArray → List ByteArray → Nat → Bool × List ByteArray × Nat
  | [], acc, a => (true, acc, a)
  | x :: r, acc, a => bif emp x then (true, acc, a) else bif plOk x then scanP r (acc ++ [plV x]) (a + 1) else (false, acc, a + 1)

theorem scanP_ge : ∀ (M acc : List ByteArray) (a : Nat), a ≤ (scanP M acc a).2.2
  | [], acc, a => Nat.le_refl _
  | x :: r, acc, a => by
    rw [scanP]
    have := scanP_ge r (acc ++ [plV x]) (a + 1)
    cases emp x
    · cases plOk x
      · simp
      · simp only [cond_false, cond_true]; omega
    · simp

theorem scanP_le : ∀ (M acc : List ByteArray) (a : Nat), (scanP M acc a).2.2 ≤ a + M.length
  | [], acc, a => Nat.le_refl _
  | x :: r, acc, a => by
    rw [scanP]
    have := scanP_le r (acc ++ [plV x]) (a + 1)
    cases emp x
    · cases plOk x
      · simp only [cond_false, List.length_cons]; omega
      · simp only [cond_false, cond_true, List.length_cons]; omega
    · simp

theorem scanP_len : ∀ (M acc : List ByteArray) (a : Nat), (scanP M acc a).1 = true → (scanP M acc a).2.1.length + a = acc.length + (scanP M acc a).2.2
  | [], acc, a, _ => rfl
  | x :: r, acc, a, h => by
    rw [scanP] at h ⊢
    have ih := scanP_len r (acc ++ [plV x]) (a + 1)
    cases he : emp x
    · rw [he] at h
      cases hl : plOk x
      · rw [hl] at h; cases h
      · rw [hl] at h
        simp only [cond_false, cond_true] at h ⊢
        have := ih h
        simp only [List.length_append, List.length_singleton] at this
        omega
    · rfl

theorem bdP_scan : ∀ (M acc : List ByteArray) (a : Nat), acc ≠ [] →
    ((scanP M acc a).1 = true → bdP M acc a = (true, (scanP M acc a).2.1, (scanP M acc a).2.2)) ∧ ((scanP M acc a).1 = false → (bdP M acc a).1 = false ∧ (bdP M acc a).2.2 = (scanP M acc a).2.2)
  | [], acc, a, h => by
    have : acc.isEmpty = false := by cases acc; exact absurd rfl h; rfl
    rw [bdP, scanP, this]
    exact ⟨fun _ => rfl, fun h => by cases h⟩
  | x :: r, acc, a, h => by
    have he : acc.isEmpty = false := by cases acc; exact absurd rfl h; rfl
    have ih := bdP_scan r (acc ++ [plV x]) (a + 1) (by simp)
    rw [bdP, scanP, he]
    cases emp x
    · cases plOk x
      · exact ⟨(fun h => by cases h), fun _ => ⟨rfl, rfl⟩⟩
      · exact ih
    · exact ⟨fun _ => rfl, fun h => by cases h⟩

theorem line_empP {x : ByteArray} (h : emp x = true) : line x = false := by
  rw [emp_size, decide_eq_true_eq] at h
  unfold line clean
  rw [h]
  simp

theorem plOk_emp {x : ByteArray} (h : emp x = true) : plOk x = false := by
  have hz : x.size = 0 := by rw [emp_size] at h; exact of_decide_eq_true h
  have : plV x = ⟨⟨[]⟩⟩ := by unfold plV plR; rw [hz]; rfl
  unfold plOk
  rw [this, line_empP (x := ⟨⟨[]⟩⟩) (by rw [emp_size]; rfl), Bool.and_false]

theorem bdP_first (M : List ByteArray) (a : Nat) :
    ((scanP M [] a).1 = true → (scanP M [] a).2.1 ≠ [] → bdP M [] a = (true, (scanP M [] a).2.1, (scanP M [] a).2.2)) ∧
    ((scanP M [] a).1 = true → (scanP M [] a).2.1 = [] → (bdP M [] a).1 = false ∧ (bdP M [] a).2.2 = (scanP M [] a).2.2 + 1) ∧
    ((scanP M [] a).1 = false → (bdP M [] a).1 = false ∧ (bdP M [] a).2.2 = (scanP M [] a).2.2) := by
  cases M with
  | nil => exact ⟨fun _ h => absurd rfl h, fun _ _ => ⟨rfl, rfl⟩, fun h => by cases h⟩
  | cons x r =>
    have ih := bdP_scan r ([] ++ [plV x]) (a + 1) (by simp)
    have hl := scanP_len r ([] ++ [plV x]) (a + 1)
    have hg := scanP_ge r ([] ++ [plV x]) (a + 1)
    rw [bdP, scanP]
    simp only [List.nil_append] at ih hl hg
    simp only [List.isEmpty_nil, Bool.not_true, Bool.and_false, cond_false, List.nil_append]
    cases he : emp x
    · cases plOk x
      · exact ⟨(fun h => by cases h), (fun h => by cases h), fun _ => ⟨rfl, rfl⟩⟩
      · simp only [cond_false, cond_true]
        refine ⟨fun h1 _ => ih.1 h1, fun h1 h2 => ?_, ih.2⟩
        have := hl h1
        rw [h2] at this
        simp only [List.length_nil, List.length_singleton] at this
        omega
    · rw [plOk_emp he]
      exact ⟨(fun _ h => absurd rfl h), (fun _ _ => ⟨rfl, rfl⟩), fun h => by cases h⟩

/-- Is a line one of times and marks, by the reference's reading? -/
def lgmOk (s : ByteArray) : Bool := (rtm s dot).2.2.2 && mkOk (rtm s dot).2.2.1

theorem lgmOk_eq (s : ByteArray) : lgOk s = lgmOk s := by
  obtain ⟨h1, h2⟩ := rt_eq (s := s) (p := dot) (q := 46) rfl (by decide)
  unfold lgOk lgmOk
  cases ho : (rtm s dot).2.2.2
  · rw [h1, ho]; rfl
  · rw [h2 ho]; rw [ho]

theorem lgm_cap {s : ByteArray} (h : (rtm s dot).2.2.2 = true) (ls : List ByteArray) : lgCap s ls = ⟨(rtm s dot).1, (rtm s dot).2.1, ls, mkRow (rtm s dot).2.2.1, mkBef (rtm s dot).2.2.1, mkAft (rtm s dot).2.2.1⟩ := by
  obtain ⟨h1, h2⟩ := rt_eq (s := s) (p := dot) (q := 46) rfl (by decide)
  unfold lgCap
  rw [h2 h]

end F

namespace M

noncomputable def enRSp : Env := envH ty noG lks [oSpl] [] [] []

theorem enRSp_ok : EnvOK Tryz.prog enRSp := by
  refine envH_ok lks_ok ty_ok ?_ ?_
  · simp only [List.forall_mem_cons]
    exact ⟨okSpl, by simp⟩
  · simp

theorem evRSp (s : ByteArray) : (runF enRSp false Tryz.f14 [vS s]).val =
  Option.bind (unenc encSpl [(vS s), (vS (ByteArray.mk (Array.mk [(10 : UInt8)])))]) fun (z : ByteArray × ByteArray) => bif decide (ByteArray.size z.fst ≤ (4294967280 :
  Nat)) && decide ((1 : Nat) ≤ ByteArray.size z.snd) then Option.bind (idx (IntKind.wrap IntKind.i64 ((↑(List.length (List.map eStr (F.split z.fst z.snd))) : Int) - (1 :
  Int)))) fun (z_1 : Nat) => Option.bind (unenc (List.map eStr) (List.map eStr (F.split z.fst z.snd))) fun (z_2 : List ByteArray) => bif decide (z_1 < List.length z_2) then
  bif ByteArray.toList (List.getD z_2 z_1 (ByteArray.mk (Array.mk []))) == ByteArray.toList (ByteArray.mk (Array.mk [])) then Option.bind (idx (IntKind.wrap IntKind.i64
  ((↑(List.length (List.map eStr (F.split z.fst z.snd))) : Int) - (1 : Int)))) fun (z_3 : Nat) => bif Nat.ble (0 : Nat) z_3 && Nat.ble z_3 (List.length (List.map eStr
  (F.split z.fst z.snd))) && List.all (List.map eStr (F.split z.fst z.snd)) fun (r : Row) => Nat.beq (List.length r) (1 : Nat) then some (AV.sl (List.take z_3 (List.map eStr
  (F.split z.fst z.snd))), []) else none else some (AV.sl (List.map eStr (F.split z.fst z.snd)), []) else none else none := (runFR_val).symm.trans (by kernel_rfl)

def encRSp1 (s : ByteArray) : List AV := [vS s]

def encRSp (a : ByteArray) : List AV := encRSp1 a

theorem encRSp_inj (a a' : ByteArray) (h : encRSp a = encRSp a') : a = a' := by
  simp only [encRSp, encRSp1] at h
  try simp [strs_inj, ints_inj, bools_inj, eL_eIs_inj, eCaps_inj, eCap_iff, eL_eCaps_inj, eMchs_inj, eMch_iff, eWrds_inj, eWrd_iff, eFnds_inj, eFnd_iff, eRatios_inj, eRatio_iff, eWays_inj, eWay_iff] at h
  grind

theorem unRSp (s : ByteArray) : unenc encRSp ([(vS s)]) = some (s) := unenc_of encRSp_inj (s) rfl

def resRSp1 (s : ByteArray) : AV × Heap := (.sl ((F.lns s).map eStr), [])

def preRSp1 (s : ByteArray) : Bool := F.small s

noncomputable def oRSp : Orc := orc 14 false encRSp (fun a => preRSp1 a) fun a => resRSp1 a

theorem okRSp : OrcOK Tryz.prog noG oRSp := by
  refine mk_ok Tryz.f14 (keep := false) (by kernel_rfl) (by kernel_rfl) enRSp_ok mixed (no_loops (by kernel_rfl)) (by first | exact fun _ _ => ⟨rfl, rfl⟩ | (intro h; cases h)) ?_
  rintro s hpre hok
  show (runF enRSp false _ (encRSp1 _)).val = some (resRSp1 _)
  unfold encRSp1 resRSp1
  rw [evRSp]
  simp only [preRSp1, F.small, decide_eq_true_eq] at hpre
  have e1 : (⟨⟨[10]⟩⟩ : ByteArray) = F.nl := rfl
  have h1 := F.split_len (s := s) (sep := F.nl) (Nat.le_refl 1)
  have h2 := Lib.countB_le F.nl (Nat.le_refl 1) s.size s (Nat.le_refl _)
  have hi : idx (IntKind.i64.wrap (((F.split s F.nl).length : Int) - 1)) = some ((F.split s F.nl).length - 1) := by
    rw [wrap_id (by omega) (by omega), show ((F.split s F.nl).length : Int) - 1 = (((F.split s F.nl).length - 1 : Nat) : Int) by omega]; rfl
  have ey : ∀ y : ByteArray, (y.toList == (⟨⟨[]⟩⟩ : ByteArray).toList) = F.emp y := fun _ => rfl
  simp only [unSpl, preSpl1, etaCap, etaMch, etaWrd, etaFnd, etaRatio, etaWay, Option.bind_some, List.length_map, unStrs, unInts, unBools, uneL_eIs, unCaps, uneL_eCaps, unMchs, unWrds, unFnds, unRatios, unWays, F.lt, F.le, cond_true, cond_false, Bool.and_true, Bool.true_and, e1, hi, F.lns, decide_eq_true hpre, all_strs, ey]
  rw [decide_eq_true (show (F.split s F.nl).length - 1 < (F.split s F.nl).length by omega), ble_t (Nat.zero_le _), ble_t (show (F.split s F.nl).length - 1 ≤ (F.split s F.nl).length by omega)]
  cases F.emp ((F.split s F.nl).getD ((F.split s F.nl).length - 1) ⟨⟨[]⟩⟩)
  · rfl
  · simp only [cond_true, List.map_take]
    rfl

def stEmy (L : List ByteArray) (a : Nat) : St := ⟨[(1, vI a), (0, .sl (L.map eStr))], []⟩

def stEmy1 (a : (List ByteArray) × Nat) : St := stEmy a.1 a.2

theorem stEmy_inj (a a' : (List ByteArray) × Nat) (h : stEmy1 a = stEmy1 a') : a = a' := by
  simp only [stEmy1, stEmy] at h
  try simp [strs_inj, ints_inj, bools_inj, eL_eIs_inj, eCaps_inj, eCap_iff, eL_eCaps_inj, eMchs_inj, eMch_iff, eWrds_inj, eWrd_iff, eFnds_inj, eFnd_iff, eRatios_inj, eRatio_iff, eWays_inj, eWay_iff] at h
  grind

theorem unstEmy (L : List ByteArray) (a : Nat) : unenc stEmy1 (St.mk [(1, (vI (↑a : Int))), (0, AV.sl (List.map eStr L))] []) = some (L, a) := unenc_of stEmy_inj (L, a) rfl

def outEmy (L : List ByteArray) (a : Nat) : T (Ex × St) := .ret (.exit 0, ⟨[(1, vI (a + F.lead (L.drop a) : Nat))], []⟩)

noncomputable def prlEmy (L : List ByteArray) (a : Nat) : Bool := decide (L.length ≤ 200001) && decide (a ≤ 200001)

noncomputable def lpEmy : Nat × (St → T (Ex × St)) := (1, lpo [1, 0] [] stEmy1 (fun a => prlEmy a.1 a.2) fun a => outEmy a.1 a.2)

noncomputable def enEmy : Env := envH ty noG lks [] [] [] [lpEmy]

theorem enEmy_ok : EnvOK Tryz.prog enEmy := by
  refine envH_ok lks_ok ty_ok ?_ ?_
  · simp
  · simp

theorem evEmyL (L : List ByteArray) (a : Nat) : ((exec enEmy (loopN Tryz.f15 0) (stEmy L a)).bind (lessX ([1, 0], []) ([1], []) ([], []))).val =
  bif decide ((↑a : Int) < (↑(List.length (List.map eStr L)) : Int)) then Option.bind (unenc (List.map eStr) (List.map eStr L)) fun (z : List ByteArray) => bif decide (a <
  List.length z) then bif ByteArray.toList (List.getD z a (ByteArray.mk (Array.mk []))) == ByteArray.toList (ByteArray.mk (Array.mk [])) then some (Ex.normal, St.mk [(1, (vI
  (IntKind.wrap IntKind.i64 ((↑a : Int) + (1 : Int))))), (0, AV.sl (List.map eStr L))] []) else some (Ex.exit (0 : Nat), St.mk [(1, (vI (↑a : Int)))] []) else none else some
  (Ex.exit (0 : Nat), St.mk [(1, (vI (↑a : Int)))] []) := (execR_bind _ _ _).symm.trans (by kernel_rfl)

theorem lpEmy_ok (L : List ByteArray) (a : Nat) (hp : prlEmy L a = true) : ∀ ex s', (outEmy L a).val = some (ex, s') → LoopOK enEmy (loopN Tryz.f15 0) (stEmy L a) ex s' := by
  simp only [prlEmy, Bool.and_eq_true, decide_eq_true_eq] at hp
  obtain ⟨h1, h2⟩ := hp
  refine loop_gen (st := fun b : Nat => stEmy L b) (out := fun b => outEmy L b) (I := fun b => b ≤ 200001) (n := ([1, 0], [])) (e := ([1], [])) (r := ([], [])) (fun b => L.length - b) ?_ a h2
  intro a i1
  have w1 : IntKind.i64.wrap ((a : Int) + 1) = ((a + 1 : Nat) : Int) := by rw [wrap_id (by omega) (by omega)]; rfl
  by_cases ha : a < L.length
  · have hy : L[a]? = some L[a] := List.getElem?_eq_getElem ha
    generalize L[a] = y at hy
    have hd := drop_q hy
    have ey : (y.toList == (⟨⟨[]⟩⟩ : ByteArray).toList) = F.emp y := rfl
    cases he : F.emp y
    · left
      refine ⟨(.exit 0, ⟨[(1, vI a)], []⟩), ?_, ?_, by simp, rfl⟩
      · rw [evEmyL]
        simp only [unstEmy, prlEmy, outEmy, etaCap, etaMch, etaWrd, etaFnd, etaRatio, etaWay, Option.bind_some, List.length_map, unStrs, unInts, unBools, uneL_eIs, unCaps, uneL_eCaps, unMchs, unWrds, unFnds, unRatios, unWays, F.lt, F.le, cond_true, cond_false, Bool.and_true, Bool.true_and, cast_lt ha, decide_eq_true ha, getD_at hy, ey, he]
        try rfl
      · simp only [outEmy, hd, F.lead, he, cond_false, Nat.add_zero]
        rfl
    · right
      refine ⟨a + 1, ?_, rfl, by omega, by omega, ?_⟩
      · rw [evEmyL]
        simp only [unstEmy, prlEmy, outEmy, etaCap, etaMch, etaWrd, etaFnd, etaRatio, etaWay, Option.bind_some, List.length_map, unStrs, unInts, unBools, uneL_eIs, unCaps, uneL_eCaps, unMchs, unWrds, unFnds, unRatios, unWays, F.lt, F.le, cond_true, cond_false, Bool.and_true, Bool.true_and, cast_lt ha, decide_eq_true ha, getD_at hy, ey, he, w1]
        try rfl
      · have e1 : a + (F.lead (L.drop (a + 1)) + 1) = a + 1 + F.lead (L.drop (a + 1)) := by omega
        simp only [outEmy, hd, F.lead, he, cond_true, e1]
  · have hd : L.drop a = [] := List.drop_eq_nil_of_le (by omega)
    left
    refine ⟨(.exit 0, ⟨[(1, vI a)], []⟩), ?_, ?_, by simp, rfl⟩
    · rw [evEmyL]
      simp only [unstEmy, prlEmy, outEmy, etaCap, etaMch, etaWrd, etaFnd, etaRatio, etaWay, Option.bind_some, List.length_map, unStrs, unInts, unBools, uneL_eIs, unCaps, uneL_eCaps, unMchs, unWrds, unFnds, unRatios, unWays, F.lt, F.le, cond_true, cond_false, Bool.and_true, Bool.true_and, decide_eq_false (show ¬ (a : Int) < (L.length : Int) by omega)]
      try rfl
    · simp only [outEmy, hd, F.lead, Nat.add_zero]
      rfl

theorem evEmy (L : List ByteArray) (a : Nat) : (runF enEmy false Tryz.f15 [.sl (L.map eStr), vI a]).val =
  Option.bind (unenc stEmy1 (St.mk [(1, (vI (↑a : Int))), (0, AV.sl (List.map eStr L))] [])) fun (z : List ByteArray × Nat) => bif decide (List.length z.fst ≤ (200001 :
  Nat)) && decide (z.snd ≤ (200001 : Nat)) && true then some ((vI (↑(z.snd + F.lead (List.drop z.snd z.fst)) : Int)), []) else none := (runFR_val).symm.trans (by kernel_rfl)

def encEmy1 (L : List ByteArray) (a : Nat) : List AV := [.sl (L.map eStr), vI a]

def encEmy (a : (List ByteArray) × Nat) : List AV := encEmy1 a.1 a.2

theorem encEmy_inj (a a' : (List ByteArray) × Nat) (h : encEmy a = encEmy a') : a = a' := by
  simp only [encEmy, encEmy1] at h
  try simp [strs_inj, ints_inj, bools_inj, eL_eIs_inj, eCaps_inj, eCap_iff, eL_eCaps_inj, eMchs_inj, eMch_iff, eWrds_inj, eWrd_iff, eFnds_inj, eFnd_iff, eRatios_inj, eRatio_iff, eWays_inj, eWay_iff] at h
  grind

theorem unEmy (L : List ByteArray) (a : Nat) : unenc encEmy ([AV.sl (List.map eStr L), (vI (↑a : Int))]) = some (L, a) := unenc_of encEmy_inj (L, a) rfl

def resEmy1 (L : List ByteArray) (a : Nat) : AV × Heap := (vI (a + F.lead (L.drop a) : Nat), [])

def preEmy1 (L : List ByteArray) (a : Nat) : Bool := decide (L.length ≤ 200001) && decide (a ≤ 200001)

noncomputable def oEmy : Orc := orc 15 true encEmy (fun a => preEmy1 a.1 a.2) fun a => resEmy1 a.1 a.2

theorem okEmy : OrcOK Tryz.prog noG oEmy := by
  refine mk_ok Tryz.f15 (keep := false) (by kernel_rfl) (by kernel_rfl) enEmy_ok mixed (one_loop (x0 := loopN Tryz.f15 0) (by kernel_rfl) (lpo_ok ?_)) (by first | exact fun _ _ => ⟨rfl, rfl⟩ | (intro h; cases h)) ?_
  · rintro ⟨L, a⟩ hp
    exact lpEmy_ok L a hp
  rintro ⟨L, a⟩ hpre hok
  show (runF enEmy false _ (encEmy1 _ _)).val = some (resEmy1 _ _)
  unfold encEmy1 resEmy1
  rw [evEmy]
  simp only [preEmy1] at hpre
  simp only [unstEmy, prlEmy, outEmy, etaCap, etaMch, etaWrd, etaFnd, etaRatio, etaWay, Option.bind_some, List.length_map, unStrs, unInts, unBools, uneL_eIs, unCaps, uneL_eCaps, unMchs, unWrds, unFnds, unRatios, unWays, F.lt, F.le, cond_true, cond_false, Bool.and_true, Bool.true_and, hpre]

end M
end Go.Proofs.YthcfbeckhgngiaaGreatDoor
