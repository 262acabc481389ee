/- What is proved here: what headendref1.compare returns on limbs (no statement of the seat). -/
import Derived.Test.YtlemjphdhapfpaaGreatDoorD85
namespace Go.Proofs.YtlemjphdhapfpaaGreatDoor
open Go Go.RowKit
set_option linter.unusedVariables false
set_option linter.unusedSimpArgs false

/-- The first limbs, compared from the greatest one down. -/
def F.cmpK (a b : List Int) : Nat → Int
  | 0 => 0
  | k + 1 => bif decide (a.getD k 0 < b.getD k 0) then -1 else bif decide (b.getD k 0 < a.getD k 0) then 1 else F.cmpK a b k

theorem F.cmpA_app : ∀ (a b : List Int) (x y : Int), a.length = b.length → F.cmpA (a ++ [x]) (b ++ [y]) = if x < y then -1 else if y < x then 1 else F.cmpA a b
  | [], [], x, y, _ => by simp [F.cmpA]
  | p :: a, q :: b, x, y, h => by
    have ih := F.cmpA_app a b x y (by simpa using h)
    rw [List.cons_append, List.cons_append, F.cmpA, ih, F.cmpA]
    by_cases h1 : x < y
    · simp [h1]
    · by_cases h2 : y < x
      · simp [h1, h2]
      · simp [h1, h2]

theorem F.cmpK_eq {a b : List Int} (h : a.length = b.length) : ∀ k, k ≤ a.length → F.cmpK a b k = F.cmpA (a.take k) (b.take k)
  | 0, _ => rfl
  | k + 1, hk => by
    have h1 : k < a.length := hk
    have h2 : k < b.length := by omega
    have ih := F.cmpK_eq h k (by omega)
    rw [List.take_succ_eq_append_getElem h1, List.take_succ_eq_append_getElem h2, F.cmpA_app _ _ _ _ (by simp; omega), F.cmpK, ih]
    simp only [List.getD, List.getElem?_eq_getElem h1, List.getElem?_eq_getElem h2, Option.getD_some, Bool.cond_decide]

theorem F.cmpK_all {a b : List Int} (h : a.length = b.length) : F.cmpK a b a.length = F.cmpL a b := by
  rw [F.cmpK_eq h _ (Nat.le_refl _), List.take_length, h, List.take_length]
  unfold F.cmpL
  rw [if_neg (by omega), if_neg (by omega)]

namespace M

def stCpr (a : List Int) (b : List Int) (i : Int) : St := ⟨[(5, vI i), (1, .sl (b.map eI)), (0, .sl (a.map eI))], []⟩

def stCpr1 (a : (List Int) × (List Int) × Int) : St := stCpr a.1 a.2.1 a.2.2

theorem stCpr_inj (a a' : (List Int) × (List Int) × Int) (h : stCpr1 a = stCpr1 a') : a = a' := by
  simp only [stCpr1, stCpr] at h
  try simp [strs_inj, ints_inj, bools_inj, u8s_inj, eEnts_inj, eEnt_iff, eLsts_inj, eLst_iff, eSegs_inj, eSeg_iff, eRots_inj, eRot_iff, eBeats_inj, eBeat_iff, eSpans_inj, eSpan_iff, eHoles_inj, eHole_iff] at h
  grind

theorem unstCpr (a : List Int) (b : List Int) (i : Int) : unenc stCpr1 (St.mk [(5, (vI i)), (1, AV.sl (List.map eI b)), (0, AV.sl (List.map eI a))] []) = some (a, b, i) := unenc_of stCpr_inj (a, b, i) rfl

def outCpr (a : List Int) (b : List Int) (i : Int) : T (Ex × St) := .ifB (F.cmpK a b (i + 1).toNat == 0) (.ret (.exit 0, ⟨[], []⟩)) (.ret (.ret, ⟨[(4, vI (F.cmpK a b (i + 1).toNat))], []⟩))

noncomputable def prlCpr (a : List Int) (b : List Int) (i : Int) : Bool := decide (a.length ≤ 1000) && decide (a.length = b.length) && decide (-1 ≤ i) && decide (i < a.length)

noncomputable def lpCpr : Nat × (St → T (Ex × St)) := (6, lpo [5, 1, 0] [] stCpr1 (fun a => prlCpr a.1 a.2.1 a.2.2) fun a => outCpr a.1 a.2.1 a.2.2)

noncomputable def enCpr : Env := envH ty noG lks [] [] [] [lpCpr]

theorem enCpr_ok : EnvOK Tryz.prog enCpr := by
  refine envH_ok lks_ok ty_ok ?_ ?_
  · simp
  · simp

theorem evCprL (a : List Int) (b : List Int) (i : Int) : ((exec enCpr (loopN Tryz.f72 0) (stCpr a b i)).bind (lessX ([5, 1, 0], []) ([], []) ([4], []))).val =
  bif decide ((0 : Int) ≤ i) then Option.bind (idx i) fun (z : Nat) => Option.bind (unenc (List.map eI) (List.map eI a)) fun (z_1 : List Int) => bif decide (z < List.length
  z_1) then Option.bind (idx i) fun (z_2 : Nat) => Option.bind (unenc (List.map eI) (List.map eI b)) fun (z_3 : List Int) => bif decide (z_2 < List.length z_3) then bif
  decide (List.getD z_1 z (0 : Int) < List.getD z_3 z_2 (0 : Int)) then some (Ex.ret, St.mk [(4, (vI (-1 : Int)))] []) else Option.bind (idx i) fun (z : Nat) => Option.bind
  (unenc (List.map eI) (List.map eI a)) fun (z_4 : List Int) => bif decide (z < List.length z_4) then Option.bind (idx i) fun (z_5 : Nat) => Option.bind (unenc (List.map eI)
  (List.map eI b)) fun (z_6 : List Int) => bif decide (z_5 < List.length z_6) then bif decide (List.getD z_6 z_5 (0 : Int) < List.getD z_4 z (0 : Int)) then some (Ex.ret,
  St.mk [(4, (vI (1 : Int)))] []) else some (Ex.normal, St.mk [(5, (vI (IntKind.wrap IntKind.i64 (i - (1 : Int))))), (1, AV.sl (List.map eI b)), (0, AV.sl (List.map eI a))]
  []) else none else none else none else none else some (Ex.exit (0 : Nat), St.mk [] []) := (execR_bind _ _ _).symm.trans (by kernel_rfl)

theorem lpCpr_ok (a : List Int) (b : List Int) (i : Int) (hp : prlCpr a b i = true) : ∀ ex s', (outCpr a b i).val = some (ex, s') → LoopOK enCpr (loopN Tryz.f72 0) (stCpr a b i) ex s' := by
  simp only [prlCpr, Bool.and_eq_true, decide_eq_true_eq] at hp
  obtain ⟨⟨⟨h1, h2⟩, h3⟩, h4⟩ := hp
  obtain ⟨n, rfl⟩ : ∃ n : Nat, i = (n : Int) - 1 := ⟨(i + 1).toNat, by omega⟩
  refine loop_gen (st := fun n : Nat => stCpr a b ((n : Int) - 1)) (out := fun n : Nat => outCpr a b ((n : Int) - 1)) (I := fun n => n ≤ a.length) (n := ([5, 1, 0], [])) (e := ([], [])) (r := ([4], [])) (fun n => n) ?_ n (by omega)
  intro n hn
  have e : ((n : Int) - 1 + 1).toNat = n := by omega
  cases n with
  | zero =>
    left
    refine ⟨(.exit 0, ⟨[], []⟩), ?_, ?_, by simp, rfl⟩
    · rw [evCprL]; simp
    · simp only [outCpr, e]; rfl
  | succ j =>
    have hlt : j < a.length := hn
    have hlt2 : j < b.length := by omega
    have hy : a[j]? = some a[j] := List.getElem?_eq_getElem hlt
    have hz : b[j]? = some b[j] := List.getElem?_eq_getElem hlt2
    have hg : a.getD j 0 = a[j] := by simp [hy]
    have hg2 : b.getD j 0 = b[j] := by simp [hz]
    generalize a[j] = y at hy hg
    generalize b[j] = z at hz hg2
    have hj : (((j + 1 : Nat) : Int) - 1) = (j : Int) := by omega
    have hw : IntKind.i64.wrap ((j : Int) - 1) = (j : Int) - 1 := wrap_id (by omega) (by omega)
    rw [hj] at e ⊢
    have hi : idx ((j : Nat) : Int) = some j := idx_n (by omega)
    have h0 : decide ((0 : Int) ≤ (j : Int)) = true := decide_eq_true (by omega)
    by_cases c1 : y < z
    · left
      refine ⟨(.ret, ⟨[(4, vI (-1))], []⟩), ?_, ?_, by simp, rfl⟩
      · rw [evCprL]
        simp only [unstCpr, prlCpr, outCpr, etaEnt, etaLst, etaSeg, etaRot, etaBeat, etaSpan, etaHole, Option.bind_some, List.length_map, unStrs, unInts, unBools, unU8s, unEnts, unLsts, unSegs, unRots, unBeats, unSpans, unHoles, F.lt, F.le, cond_true, cond_false, Bool.and_true, Bool.true_and, hi, h0, decide_eq_true hlt, decide_eq_true hlt2, getD_at hy, getD_at hz, decide_eq_true c1]
      · simp only [outCpr, e, F.cmpK, hg, hg2, decide_eq_true c1]; rfl
    · by_cases c2 : z < y
      · left
        refine ⟨(.ret, ⟨[(4, vI 1)], []⟩), ?_, ?_, by simp, rfl⟩
        · rw [evCprL]
          simp only [unstCpr, prlCpr, outCpr, etaEnt, etaLst, etaSeg, etaRot, etaBeat, etaSpan, etaHole, Option.bind_some, List.length_map, unStrs, unInts, unBools, unU8s, unEnts, unLsts, unSegs, unRots, unBeats, unSpans, unHoles, F.lt, F.le, cond_true, cond_false, Bool.and_true, Bool.true_and, hi, h0, decide_eq_true hlt, decide_eq_true hlt2, getD_at hy, getD_at hz, decide_eq_false c1, decide_eq_true c2]
        · simp only [outCpr, e, F.cmpK, hg, hg2, decide_eq_false c1, decide_eq_true c2]; rfl
      · right
        refine ⟨j, ?_, rfl, by omega, by omega, ?_⟩
        · rw [evCprL]
          simp only [unstCpr, prlCpr, outCpr, etaEnt, etaLst, etaSeg, etaRot, etaBeat, etaSpan, etaHole, Option.bind_some, List.length_map, unStrs, unInts, unBools, unU8s, unEnts, unLsts, unSegs, unRots, unBeats, unSpans, unHoles, F.lt, F.le, cond_true, cond_false, Bool.and_true, Bool.true_and, hi, h0, decide_eq_true hlt, decide_eq_true hlt2, getD_at hy, getD_at hz, decide_eq_false c1, decide_eq_false c2, hw, stCpr]
        · have e2 : ((j : Int) - 1 + 1).toNat = j := by omega
          simp only [outCpr, e, e2, F.cmpK, hg, hg2, decide_eq_false c1, decide_eq_false c2, cond_false]

theorem evCpr (a : List Int) (b : List Int) : (runF enCpr false Tryz.f72 [.sl (a.map eI), .sl (b.map eI)]).val =
  bif (↑(List.length (List.map eI a)) : Int) != (↑(List.length (List.map eI b)) : Int) then bif decide ((↑(List.length (List.map eI a)) : Int) < (↑(List.length (List.map eI
  b)) : Int)) then some ((vI (-1 : Int)), []) else some ((vI (1 : Int)), []) else Option.bind (unenc stCpr1 (St.mk [(5, (vI (IntKind.wrap IntKind.i64 ((↑(List.length
  (List.map eI a)) : Int) - (1 : Int))))), (1, AV.sl (List.map eI b)), (0, AV.sl (List.map eI a))] [])) fun (z : List Int × List Int × Int) => bif decide (List.length z.fst
  ≤ (1000 : Nat)) && decide (List.length z.fst = List.length z.snd.fst) && decide ((-1 : Int) ≤ z.snd.snd) && decide (z.snd.snd < (↑(List.length z.fst) : Int)) && true then
  bif F.cmpK z.fst z.snd.fst (Int.toNat (z.snd.snd + (1 : Int))) == (0 : Int) then some ((vI (0 : Int)), []) else some ((vI (F.cmpK z.fst z.snd.fst (Int.toNat (z.snd.snd +
  (1 : Int))))), []) else none := (runFR_val).symm.trans (by kernel_rfl)

def encCpr1 (a : List Int) (b : List Int) : List AV := [.sl (a.map eI), .sl (b.map eI)]

def encCpr (a : (List Int) × (List Int)) : List AV := encCpr1 a.1 a.2

theorem encCpr_inj (a a' : (List Int) × (List Int)) (h : encCpr a = encCpr a') : a = a' := by
  simp only [encCpr, encCpr1] at h
  try simp [strs_inj, ints_inj, bools_inj, u8s_inj, eEnts_inj, eEnt_iff, eLsts_inj, eLst_iff, eSegs_inj, eSeg_iff, eRots_inj, eRot_iff, eBeats_inj, eBeat_iff, eSpans_inj, eSpan_iff, eHoles_inj, eHole_iff] at h
  grind

theorem unCpr (a : List Int) (b : List Int) : unenc encCpr ([AV.sl (List.map eI a), AV.sl (List.map eI b)]) = some (a, b) := unenc_of encCpr_inj (a, b) rfl

def resCpr1 (a : List Int) (b : List Int) : AV × Heap := (vI (F.sgn (F.nv a) (F.nv b)), [])

def preCpr1 (a : List Int) (b : List Int) : Bool := F.nk 1000 a && F.nk 1000 b

noncomputable def oCpr : Orc := orc 72 true encCpr (fun a => preCpr1 a.1 a.2) fun a => resCpr1 a.1 a.2

theorem okCpr : OrcOK Tryz.prog noG oCpr := by
  refine mk_ok Tryz.f72 (keep := false) (by kernel_rfl) (by kernel_rfl) enCpr_ok mixed (one_loop (x0 := loopN Tryz.f72 0) (by kernel_rfl) (lpo_ok ?_)) (by first | exact fun _ _ => ⟨rfl, rfl⟩ | (intro h; cases h)) ?_
  · rintro ⟨a, b, i⟩ hp
    exact lpCpr_ok a b i hp
  rintro ⟨a, b⟩ hpre hok
  show (runF enCpr false _ (encCpr1 _ _)).val = some (resCpr1 _ _)
  unfold encCpr1 resCpr1
  rw [evCpr]
  have hpre : (F.nk 1000 a && F.nk 1000 b) = true := hpre
  rw [Bool.and_eq_true] at hpre
  have l1 := F.nk_len hpre.1
  have l2 := F.nk_len hpre.2
  have hres : F.sgn ((F.nv a : Nat) : Int) ((F.nv b : Nat) : Int) = F.cmpL a b := by
    obtain ⟨m, hm1, hm⟩ := F.nk_of hpre.1
    obtain ⟨n, hn1, hn⟩ := F.nk_of hpre.2
    rw [hm1, hn1, F.nv_lb, F.nv_lb, F.cmp_lb]
  have hw : IntKind.i64.wrap ((a.length : Int) - 1) = (a.length : Int) - 1 := wrap_id (by omega) (by omega)
  by_cases h : a.length = b.length
  · have e : (((a.length : Int) - 1) + 1).toNat = a.length := by omega
    have hk := F.cmpK_all h
    have hb : ((a.length : Int) != (b.length : Int)) = false := by rw [h]; simp
    simp only [unstCpr, prlCpr, outCpr, etaEnt, etaLst, etaSeg, etaRot, etaBeat, etaSpan, etaHole, Option.bind_some, List.length_map, unStrs, unInts, unBools, unU8s, unEnts, unLsts, unSegs, unRots, unBeats, unSpans, unHoles, F.lt, F.le, cond_true, cond_false, Bool.and_true, Bool.true_and, hw, hb, e, hk, hres, decide_eq_true h, decide_eq_true l1, decide_eq_true (by omega : (-1 : Int) ≤ (a.length : Int) - 1), decide_eq_true (by omega : (a.length : Int) - 1 < (a.length : Int))]
    cases hc : F.cmpL a b == 0
    · rfl
    · have : F.cmpL a b = 0 := by simpa using hc
      rw [this]; rfl
  · have hb : ((a.length : Int) != (b.length : Int)) = true := by simp; omega
    simp only [unstCpr, prlCpr, outCpr, etaEnt, etaLst, etaSeg, etaRot, etaBeat, etaSpan, etaHole, Option.bind_some, List.length_map, unStrs, unInts, unBools, unU8s, unEnts, unLsts, unSegs, unRots, unBeats, unSpans, unHoles, F.lt, F.le, cond_true, cond_false, Bool.and_true, Bool.true_and, hb, hres]
    unfold F.cmpL
    by_cases c : a.length < b.length
    · rw [decide_eq_true (by omega : (a.length : Int) < (b.length : Int)), if_pos c]; rfl
    · rw [decide_eq_false (by omega : ¬ (a.length : Int) < (b.length : Int)), if_neg c, if_pos (by omega)]; rfl

end M
end Go.Proofs.YtlemjphdhapfpaaGreatDoor
