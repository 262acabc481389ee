/- What is proved here: lines of a text, of the reference; its way of reading a caption's lines (no statement of the seat). -/
import Derived.Test.YthcfbeckhgngiaaDoorC120
namespace Go.Proofs.YthcfbeckhgngiaaDoor
open Go Go.RowKit
set_option linter.unusedVariables false
set_option linter.unusedSimpArgs false

namespace F

/-- Lines of a caption, up to an empty one. -/
def scan : List ByteArray → Nat → Bool × Nat
  | [], a => (true, a)
  | x :: r, a => bif emp x then (true, a) else bif line x then scan r (a + 1) else (false, a + 1)

theorem scan_ge : ∀ (M : List ByteArray) (a : Nat), a ≤ (scan M a).2
  | [], a => Nat.le_refl _
  | x :: r, a => by
    rw [scan]
    have := scan_ge r (a + 1)
    cases emp x
    · cases line x
      · simp
      · simp only [cond_false, cond_true]; omega
    · simp

theorem scan_le : ∀ (M : List ByteArray) (a : Nat), (scan M a).2 ≤ a + M.length
  | [], a => Nat.le_refl _
  | x :: r, a => by
    rw [scan]
    have := scan_le r (a + 1)
    cases emp x
    · cases line x
      · simp only [cond_false, List.length_cons]; omega
      · simp only [cond_false, cond_true, List.length_cons]; omega
    · simp

theorem bd_scan : ∀ (M acc : List ByteArray) (a : Nat), acc ≠ [] →
    ((scan M a).1 = true → bd M acc a = (true, acc ++ M.take ((scan M a).2 - a), (scan M a).2)) ∧ ((scan M a).1 = false → (bd M acc a).1 = false ∧ (bd M acc a).2.2 = (scan M a).2)
  | [], acc, a, h => by
    have : acc.isEmpty = false := by cases acc; exact absurd rfl h; rfl
    rw [bd, scan, this]
    exact ⟨fun _ => by simp, fun h => by cases h⟩
  | x :: r, acc, a, h => by
    have he : acc.isEmpty = false := by cases acc; exact absurd rfl h; rfl
    have ih := bd_scan r (acc ++ [x]) (a + 1) (by simp)
    have hg := scan_ge r (a + 1)
    rw [bd, scan, he]
    cases emp x
    · cases line x
      · exact ⟨(fun h => by cases h), fun _ => ⟨rfl, rfl⟩⟩
      · simp only [Bool.false_and, cond_false, cond_true]
        refine ⟨fun h1 => ?_, ih.2⟩
        rw [ih.1 h1]
        have e : (scan r (a + 1)).2 - a = (scan r (a + 1)).2 - (a + 1) + 1 := by omega
        rw [e, List.take_succ_cons, List.append_assoc, List.singleton_append]
    · exact ⟨fun _ => by simp, fun h => by cases h⟩

theorem line_emp {x : ByteArray} (h : emp x = true) : line x = false := by
  rw [emp_size, decide_eq_true_eq] at h
  unfold line clean
  rw [h]
  simp

theorem bd_first (M : List ByteArray) (a : Nat) :
    ((scan M a).1 = true → (scan M a).2 ≠ a → bd M [] a = (true, M.take ((scan M a).2 - a), (scan M a).2)) ∧
    ((scan M a).1 = true → (scan M a).2 = a → (bd M [] a).1 = false ∧ (bd M [] a).2.2 = a + 1) ∧
    ((scan M a).1 = false → (bd M [] a).1 = false ∧ (bd M [] a).2.2 = (scan M a).2) := by
  cases M with
  | nil => exact ⟨fun _ h => absurd rfl h, fun _ _ => ⟨rfl, rfl⟩, fun h => by cases h⟩
  | cons x r =>
    have ih := bd_scan r ([] ++ [x]) (a + 1) (by simp)
    have hg := scan_ge r (a + 1)
    rw [bd, scan]
    simp only [List.isEmpty_nil, Bool.not_true, Bool.and_false, cond_false]
    cases he : emp x
    · cases line x
      · exact ⟨(fun h => by cases h), (fun h => by cases h), fun _ => ⟨rfl, rfl⟩⟩
      · simp only [cond_false, cond_true]
        refine ⟨fun h1 _ => ?_, fun h1 h2 => by omega, ih.2⟩
        rw [ih.1 h1]
        have e : (scan r (a + 1)).2 - a = (scan r (a + 1)).2 - (a + 1) + 1 := by omega
        rw [e, List.take_succ_cons]
        rfl
    · rw [line_emp he]
      exact ⟨(fun _ h => absurd rfl h), (fun _ _ => ⟨rfl, rfl⟩), fun h => by cases h⟩

end F

namespace M

noncomputable def enRSp : Env := envH ty noG lks [oSpl] [] [] []

theorem enRSp_ok : EnvOK Tryd.prog enRSp := by
  refine envH_ok lks_ok ty_ok ?_ ?_
  · simp only [List.forall_mem_cons]
    exact ⟨okSpl, by simp⟩
  · simp

theorem evRSp (s : ByteArray) : (runF enRSp false Tryd.f16 [vS s]).val =
  Option.bind (unenc encSpl [(vS s), (vS (ByteArray.mk (Array.mk [(10 : UInt8)])))]) fun (z : ByteArray × ByteArray) => bif decide (ByteArray.size z.fst ≤ (4294967280 :
  Nat)) && decide ((1 : Nat) ≤ ByteArray.size z.snd) then Option.bind (idx (IntKind.wrap IntKind.i64 ((↑(List.length (List.map eStr (F.split z.fst z.snd))) : Int) - (1 :
  Int)))) fun (z_1 : Nat) => Option.bind (unenc (List.map eStr) (List.map eStr (F.split z.fst z.snd))) fun (z_2 : List ByteArray) => bif decide (z_1 < List.length z_2) then
  bif ByteArray.toList (List.getD z_2 z_1 (ByteArray.mk (Array.mk []))) == ByteArray.toList (ByteArray.mk (Array.mk [])) then Option.bind (idx (IntKind.wrap IntKind.i64
  ((↑(List.length (List.map eStr (F.split z.fst z.snd))) : Int) - (1 : Int)))) fun (z_3 : Nat) => bif Nat.ble (0 : Nat) z_3 && Nat.ble z_3 (List.length (List.map eStr
  (F.split z.fst z.snd))) && List.all (List.map eStr (F.split z.fst z.snd)) fun (r : Row) => Nat.beq (List.length r) (1 : Nat) then some (AV.sl (List.take z_3 (List.map eStr
  (F.split z.fst z.snd))), []) else none else some (AV.sl (List.map eStr (F.split z.fst z.snd)), []) else none else none := (runFR_val).symm.trans (by kernel_rfl)

def encRSp1 (s : ByteArray) : List AV := [vS s]

def encRSp (a : ByteArray) : List AV := encRSp1 a

theorem encRSp_inj (a a' : ByteArray) (h : encRSp a = encRSp a') : a = a' := by
  simp only [encRSp, encRSp1] at h
  try simp [strs_inj, ints_inj, bools_inj, eL_eIs_inj, eCaps_inj, eCap_iff, eL_eCaps_inj, eMchs_inj, eMch_iff, eWrds_inj, eWrd_iff, eFnds_inj, eFnd_iff, eRatios_inj, eRatio_iff, eWays_inj, eWay_iff] at h
  grind

theorem unRSp (s : ByteArray) : unenc encRSp ([(vS s)]) = some (s) := unenc_of encRSp_inj (s) rfl

def resRSp1 (s : ByteArray) : AV × Heap := (.sl ((F.lns s).map eStr), [])

def preRSp1 (s : ByteArray) : Bool := F.small s

noncomputable def oRSp : Orc := orc 16 false encRSp (fun a => preRSp1 a) fun a => resRSp1 a

theorem okRSp : OrcOK Tryd.prog noG oRSp := by
  refine mk_ok Tryd.f16 (keep := false) (by kernel_rfl) (by kernel_rfl) enRSp_ok mixed (no_loops (by kernel_rfl)) (by first | exact fun _ _ => ⟨rfl, rfl⟩ | (intro h; cases h)) ?_
  rintro s hpre hok
  show (runF enRSp false _ (encRSp1 _)).val = some (resRSp1 _)
  unfold encRSp1 resRSp1
  rw [evRSp]
  simp only [preRSp1, F.small, decide_eq_true_eq] at hpre
  have e1 : (⟨⟨[10]⟩⟩ : ByteArray) = F.nl := rfl
  have h1 := F.split_len (s := s) (sep := F.nl) (Nat.le_refl 1)
  have h2 := Lib.countB_le F.nl (Nat.le_refl 1) s.size s (Nat.le_refl _)
  have hi : idx (IntKind.i64.wrap (((F.split s F.nl).length : Int) - 1)) = some ((F.split s F.nl).length - 1) := by
    rw [wrap_id (by omega) (by omega), show ((F.split s F.nl).length : Int) - 1 = (((F.split s F.nl).length - 1 : Nat) : Int) by omega]; rfl
  have ey : ∀ y : ByteArray, (y.toList == (⟨⟨[]⟩⟩ : ByteArray).toList) = F.emp y := fun _ => rfl
  simp only [unSpl, preSpl1, etaCap, etaMch, etaWrd, etaFnd, etaRatio, etaWay, Option.bind_some, List.length_map, unStrs, unInts, unBools, uneL_eIs, unCaps, uneL_eCaps, unMchs, unWrds, unFnds, unRatios, unWays, F.lt, F.le, cond_true, cond_false, Bool.and_true, Bool.true_and, e1, hi, F.lns, decide_eq_true hpre, all_strs, ey]
  rw [decide_eq_true (show (F.split s F.nl).length - 1 < (F.split s F.nl).length by omega), ble_t (Nat.zero_le _), ble_t (show (F.split s F.nl).length - 1 ≤ (F.split s F.nl).length by omega)]
  cases F.emp ((F.split s F.nl).getD ((F.split s F.nl).length - 1) ⟨⟨[]⟩⟩)
  · rfl
  · simp only [cond_true, List.map_take]
    rfl

def stEmy (L : List ByteArray) (a : Nat) : St := ⟨[(1, vI a), (0, .sl (L.map eStr))], []⟩

def stEmy1 (a : (List ByteArray) × Nat) : St := stEmy a.1 a.2

theorem stEmy_inj (a a' : (List ByteArray) × Nat) (h : stEmy1 a = stEmy1 a') : a = a' := by
  simp only [stEmy1, stEmy] at h
  try simp [strs_inj, ints_inj, bools_inj, eL_eIs_inj, eCaps_inj, eCap_iff, eL_eCaps_inj, eMchs_inj, eMch_iff, eWrds_inj, eWrd_iff, eFnds_inj, eFnd_iff, eRatios_inj, eRatio_iff, eWays_inj, eWay_iff] at h
  grind

theorem unstEmy (L : List ByteArray) (a : Nat) : unenc stEmy1 (St.mk [(1, (vI (↑a : Int))), (0, AV.sl (List.map eStr L))] []) = some (L, a) := unenc_of stEmy_inj (L, a) rfl

def outEmy (L : List ByteArray) (a : Nat) : T (Ex × St) := .ret (.exit 0, ⟨[(1, vI (a + F.lead (L.drop a) : Nat))], []⟩)

noncomputable def prlEmy (L : List ByteArray) (a : Nat) : Bool := decide (L.length ≤ 200001) && decide (a ≤ 200001)

noncomputable def lpEmy : Nat × (St → T (Ex × St)) := (1, lpo [1, 0] [] stEmy1 (fun a => prlEmy a.1 a.2) fun a => outEmy a.1 a.2)

noncomputable def enEmy : Env := envH ty noG lks [] [] [] [lpEmy]

theorem enEmy_ok : EnvOK Tryd.prog enEmy := by
  refine envH_ok lks_ok ty_ok ?_ ?_
  · simp
  · simp

theorem evEmyL (L : List ByteArray) (a : Nat) : ((exec enEmy (loopN Tryd.f17 0) (stEmy L a)).bind (lessX ([1, 0], []) ([1], []) ([], []))).val =
  bif decide ((↑a : Int) < (↑(List.length (List.map eStr L)) : Int)) then Option.bind (unenc (List.map eStr) (List.map eStr L)) fun (z : List ByteArray) => bif decide (a <
  List.length z) then bif ByteArray.toList (List.getD z a (ByteArray.mk (Array.mk []))) == ByteArray.toList (ByteArray.mk (Array.mk [])) then some (Ex.normal, St.mk [(1, (vI
  (IntKind.wrap IntKind.i64 ((↑a : Int) + (1 : Int))))), (0, AV.sl (List.map eStr L))] []) else some (Ex.exit (0 : Nat), St.mk [(1, (vI (↑a : Int)))] []) else none else some
  (Ex.exit (0 : Nat), St.mk [(1, (vI (↑a : Int)))] []) := (execR_bind _ _ _).symm.trans (by kernel_rfl)

theorem lpEmy_ok (L : List ByteArray) (a : Nat) (hp : prlEmy L a = true) : ∀ ex s', (outEmy L a).val = some (ex, s') → LoopOK enEmy (loopN Tryd.f17 0) (stEmy L a) ex s' := by
  simp only [prlEmy, Bool.and_eq_true, decide_eq_true_eq] at hp
  obtain ⟨h1, h2⟩ := hp
  refine loop_gen (st := fun b : Nat => stEmy L b) (out := fun b => outEmy L b) (I := fun b => b ≤ 200001) (n := ([1, 0], [])) (e := ([1], [])) (r := ([], [])) (fun b => L.length - b) ?_ a h2
  intro a i1
  have w1 : IntKind.i64.wrap ((a : Int) + 1) = ((a + 1 : Nat) : Int) := by rw [wrap_id (by omega) (by omega)]; rfl
  by_cases ha : a < L.length
  · have hy : L[a]? = some L[a] := List.getElem?_eq_getElem ha
    generalize L[a] = y at hy
    have hd := drop_q hy
    have ey : (y.toList == (⟨⟨[]⟩⟩ : ByteArray).toList) = F.emp y := rfl
    cases he : F.emp y
    · left
      refine ⟨(.exit 0, ⟨[(1, vI a)], []⟩), ?_, ?_, by simp, rfl⟩
      · rw [evEmyL]
        simp only [unstEmy, prlEmy, outEmy, etaCap, etaMch, etaWrd, etaFnd, etaRatio, etaWay, Option.bind_some, List.length_map, unStrs, unInts, unBools, uneL_eIs, unCaps, uneL_eCaps, unMchs, unWrds, unFnds, unRatios, unWays, F.lt, F.le, cond_true, cond_false, Bool.and_true, Bool.true_and, cast_lt ha, decide_eq_true ha, getD_at hy, ey, he]
        try rfl
      · simp only [outEmy, hd, F.lead, he, cond_false, Nat.add_zero]
        rfl
    · right
      refine ⟨a + 1, ?_, rfl, by omega, by omega, ?_⟩
      · rw [evEmyL]
        simp only [unstEmy, prlEmy, outEmy, etaCap, etaMch, etaWrd, etaFnd, etaRatio, etaWay, Option.bind_some, List.length_map, unStrs, unInts, unBools, uneL_eIs, unCaps, uneL_eCaps, unMchs, unWrds, unFnds, unRatios, unWays, F.lt, F.le, cond_true, cond_false, Bool.and_true, Bool.true_and, cast_lt ha, decide_eq_true ha, getD_at hy, ey, he, w1]
        try rfl
      · have e1 : a + (F.lead (L.drop (a + 1)) + 1) = a + 1 + F.lead (L.drop (a + 1)) := by omega
        simp only [outEmy, hd, F.lead, he, cond_true, e1]
  · have hd : L.drop a = [] := List.drop_eq_nil_of_le (by omega)
    left
    refine ⟨(.exit 0, ⟨[(1, vI a)], []⟩), ?_, ?_, by simp, rfl⟩
    · rw [evEmyL]
      simp only [unstEmy, prlEmy, outEmy, etaCap, etaMch, etaWrd, etaFnd, etaRatio, etaWay, Option.bind_some, List.length_map, unStrs, unInts, unBools, uneL_eIs, unCaps, uneL_eCaps, unMchs, unWrds, unFnds, unRatios, unWays, F.lt, F.le, cond_true, cond_false, Bool.and_true, Bool.true_and, decide_eq_false (show ¬ (a : Int) < (L.length : Int) by omega)]
      try rfl
    · simp only [outEmy, hd, F.lead, Nat.add_zero]
      rfl

theorem evEmy (L : List ByteArray) (a : Nat) : (runF enEmy false Tryd.f17 [.sl (L.map eStr), vI a]).val =
  Option.bind (unenc stEmy1 (St.mk [(1, (vI (↑a : Int))), (0, AV.sl (List.map eStr L))] [])) fun (z : List ByteArray × Nat) => bif decide (List.length z.fst ≤ (200001 :
  Nat)) && decide (z.snd ≤ (200001 : Nat)) && true then some ((vI (↑(z.snd + F.lead (List.drop z.snd z.fst)) : Int)), []) else none := (runFR_val).symm.trans (by kernel_rfl)

def encEmy1 (L : List ByteArray) (a : Nat) : List AV := [.sl (L.map eStr), vI a]

def encEmy (a : (List ByteArray) × Nat) : List AV := encEmy1 a.1 a.2

theorem encEmy_inj (a a' : (List ByteArray) × Nat) (h : encEmy a = encEmy a') : a = a' := by
  simp only [encEmy, encEmy1] at h
  try simp [strs_inj, ints_inj, bools_inj, eL_eIs_inj, eCaps_inj, eCap_iff, eL_eCaps_inj, eMchs_inj, eMch_iff, eWrds_inj, eWrd_iff, eFnds_inj, eFnd_iff, eRatios_inj, eRatio_iff, eWays_inj, eWay_iff] at h
  grind

theorem unEmy (L : List ByteArray) (a : Nat) : unenc encEmy ([AV.sl (List.map eStr L), (vI (↑a : Int))]) = some (L, a) := unenc_of encEmy_inj (L, a) rfl

def resEmy1 (L : List ByteArray) (a : Nat) : AV × Heap := (vI (a + F.lead (L.drop a) : Nat), [])

def preEmy1 (L : List ByteArray) (a : Nat) : Bool := decide (L.length ≤ 200001) && decide (a ≤ 200001)

noncomputable def oEmy : Orc := orc 17 true encEmy (fun a => preEmy1 a.1 a.2) fun a => resEmy1 a.1 a.2

theorem okEmy : OrcOK Tryd.prog noG oEmy := by
  refine mk_ok Tryd.f17 (keep := false) (by kernel_rfl) (by kernel_rfl) enEmy_ok mixed (one_loop (x0 := loopN Tryd.f17 0) (by kernel_rfl) (lpo_ok ?_)) (by first | exact fun _ _ => ⟨rfl, rfl⟩ | (intro h; cases h)) ?_
  · rintro ⟨L, a⟩ hp
    exact lpEmy_ok L a hp
  rintro ⟨L, a⟩ hpre hok
  show (runF enEmy false _ (encEmy1 _ _)).val = some (resEmy1 _ _)
  unfold encEmy1 resEmy1
  rw [evEmy]
  simp only [preEmy1] at hpre
  simp only [unstEmy, prlEmy, outEmy, etaCap, etaMch, etaWrd, etaFnd, etaRatio, etaWay, Option.bind_some, List.length_map, unStrs, unInts, unBools, uneL_eIs, unCaps, uneL_eCaps, unMchs, unWrds, unFnds, unRatios, unWays, F.lt, F.le, cond_true, cond_false, Bool.and_true, Bool.true_and, hpre]

end M
end Go.Proofs.YthcfbeckhgngiaaDoor
