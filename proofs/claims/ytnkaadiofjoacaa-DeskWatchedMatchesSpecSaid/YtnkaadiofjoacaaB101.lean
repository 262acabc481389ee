/- What is proved here: the contract of slices.Concat at integers (no statement of the seat). -/
import Derived.Test.YtnkaadiofjoacaaB100
import Derived.Test.YtnkaadiofjoacaaB81
namespace Go.Proofs.Ytnkaadiofjoacaa
open Go Go.RowKit
set_option linter.unusedVariables false
set_option linter.unusedSimpArgs false
set_option maxHeartbeats 1000000

/-- How many elements there are in all. -/
def F.totI : List (List Int) → Nat
  | [] => 0
  | l :: r => l.length + F.totI r

namespace M

def stCi1 (ls : List (List Int)) (k : Nat) (n : Nat) : St := ⟨[(11, vI k), (10, vI ls.length), (9, .sl (ls.map eL_eI)), (3, vI n), (0, .sl (ls.map eL_eI))], []⟩

def stCi11 (a : (List (List Int)) × Nat × Nat) : St := stCi1 a.1 a.2.1 a.2.2

theorem stCi1_inj (a a' : (List (List Int)) × Nat × Nat) (h : stCi11 a = stCi11 a') : a = a' := by
  simp only [stCi11, stCi1] at h
  try simp [strs_inj, ints_inj, bools_inj, eL_eIs_inj, eBeats_inj, eBeat_iff, eL_eBeats_inj, eSpans_inj, eSpan_iff, eHoles_inj, eHole_iff, eLevels_inj, eLevel_iff, eFigss_inj, eFigs_iff, eRatios_inj, eRatio_iff, eReps_inj, eRep_iff, eStays_inj, eStay_iff] at h
  grind

theorem unstCi1 (ls : List (List Int)) (k : Nat) (n : Nat) : unenc stCi11 (St.mk [(11, (vI (↑k : Int))), (10, (vI (↑(List.length ls) : Int))), (9, AV.sl (List.map eL_eI ls)), (3, (vI (↑n : Int))), (0, AV.sl (List.map eL_eI ls))] []) = some (ls, k, n) := unenc_of stCi1_inj (ls, k, n) rfl

theorem unstCi10 (ls : List (List Int))  : unenc stCi11 (St.mk [(11, (vI (0 : Int))), (10, (vI (↑(List.length ls) : Int))), (9, AV.sl (List.map eL_eI ls)), (3, (vI (0 : Int))), (0, AV.sl (List.map eL_eI ls))] []) = some (ls, 0, 0) := unenc_of stCi1_inj (ls, 0, 0) rfl

def outCi1 (ls : List (List Int)) (k : Nat) (n : Nat) : T (Ex × St) := .ret (.exit 0, ⟨[(3, vI ((n + F.totI (ls.drop k) : Nat) : Int)), (0, .sl (ls.map eL_eI))], []⟩)

noncomputable def prlCi1 (ls : List (List Int)) (k : Nat) (n : Nat) : Bool := decide (ls.length ≤ 100 ∧ k ≤ ls.length ∧ n + F.totI (ls.drop k) ≤ 100000)

noncomputable def lpCi1 : Nat × (St → T (Ex × St)) := (3, lpo [11, 10, 9, 3, 0] [] stCi11 (fun a => prlCi1 a.1 a.2.1 a.2.2) fun a => outCi1 a.1 a.2.1 a.2.2)

def stCi2 (ls : List (List Int)) (k : Nat) (out : List Int) : St := ⟨[(27, vI k), (26, vI ls.length), (25, .sl (ls.map eL_eI)), (6, .own 25000)], [(25000, ⟨false, 3, 1, out.map eI⟩)]⟩

def stCi21 (a : (List (List Int)) × Nat × (List Int)) : St := stCi2 a.1 a.2.1 a.2.2

theorem stCi2_inj (a a' : (List (List Int)) × Nat × (List Int)) (h : stCi21 a = stCi21 a') : a = a' := by
  simp only [stCi21, stCi2] at h
  try simp [strs_inj, ints_inj, bools_inj, eL_eIs_inj, eBeats_inj, eBeat_iff, eL_eBeats_inj, eSpans_inj, eSpan_iff, eHoles_inj, eHole_iff, eLevels_inj, eLevel_iff, eFigss_inj, eFigs_iff, eRatios_inj, eRatio_iff, eReps_inj, eRep_iff, eStays_inj, eStay_iff] at h
  grind

theorem unstCi2 (ls : List (List Int)) (k : Nat) (out : List Int) : unenc stCi21 (St.mk [(27, (vI (↑k : Int))), (26, (vI (↑(List.length ls) : Int))), (25, AV.sl (List.map eL_eI ls)), (6, .own 25000)] [(25000, Blk.mk false 3 1 (List.map eI out))]) = some (ls, k, out) := unenc_of stCi2_inj (ls, k, out) rfl

theorem unstCi20 (ls : List (List Int))  : unenc stCi21 (St.mk [(27, (vI (0 : Int))), (26, (vI (↑(List.length ls) : Int))), (25, AV.sl (List.map eL_eI ls)), (6, .own 25000)] [(25000, Blk.mk false 3 1 [])]) = some (ls, 0, []) := unenc_of stCi2_inj (ls, 0, []) rfl

def outCi2 (ls : List (List Int)) (k : Nat) (out : List Int) : T (Ex × St) := .ret (.exit 2, ⟨[(6, .own 25000)], [(25000, ⟨false, 3, 1, (out ++ (ls.drop k).flatten).map eI⟩)]⟩)

noncomputable def prlCi2 (ls : List (List Int)) (k : Nat) (out : List Int) : Bool := decide (ls.length ≤ 100 ∧ k ≤ ls.length ∧ out.length + F.totI (ls.drop k) ≤ 100000)

noncomputable def lpCi2 : Nat × (St → T (Ex × St)) := (11, lpo [27, 26, 25, 6] [25000] stCi21 (fun a => prlCi2 a.1 a.2.1 a.2.2) fun a => outCi2 a.1 a.2.1 a.2.2)

noncomputable def enCi : Env := envH ty noG lks [] [oGrI] [] [lpCi1, lpCi2]

theorem enCi_ok : EnvOK Try.prog enCi := by
  refine envH_ok lks_ok ty_ok ?_ ?_
  · simp
  · simp only [List.forall_mem_cons]
    exact ⟨okGrI, by simp⟩

theorem totI_at {ls : List (List Int)} {k : Nat} {y : List Int} (h : ls[k]? = some y) : F.totI (ls.drop k) = y.length + F.totI (ls.drop (k + 1)) := by
  rw [drop_at h]; rfl

theorem totI_end (ls : List (List Int)) : F.totI (ls.drop ls.length) = 0 := by rw [List.drop_length]; rfl

theorem evCi1L (ls : List (List Int)) (k : Nat) (n : Nat) : ((exec enCi (loopN Try.f50 0) (stCi1 ls k n)).bind (lessX ([11, 10, 9, 3, 0], []) ([3, 0], []) ([], []))).val =
  bif decide ((↑k : Int) < (↑(List.length ls) : Int)) then Option.bind (unenc (List.map eL_eI) (List.map eL_eI ls)) fun (z : List (List Int)) => bif decide (k < List.length
  z) then bif decide (IntKind.wrap IntKind.i64 ((↑n : Int) + (↑(List.length (List.map eI (List.getD z k []))) : Int)) < (0 : Int)) then none else some (Ex.normal, St.mk
  [(11, (vI (IntKind.wrap IntKind.i64 ((↑k : Int) + (1 : Int))))), (10, (vI (↑(List.length ls) : Int))), (9, AV.sl (List.map eL_eI ls)), (3, (vI (IntKind.wrap IntKind.i64
  ((↑n : Int) + (↑(List.length (List.map eI (List.getD z k []))) : Int))))), (0, AV.sl (List.map eL_eI ls))] []) else none else some (Ex.exit (0 : Nat), St.mk [(3, (vI (↑n :
  Int))), (0, AV.sl (List.map eL_eI ls))] []) := (execR_bind _ _ _).symm.trans (by kernel_rfl)

theorem lpCi1_ok (ls : List (List Int)) (k : Nat) (n : Nat) (hp : prlCi1 ls k n = true) : ∀ ex s', (outCi1 ls k n).val = some (ex, s') → LoopOK enCi (loopN Try.f50 0) (stCi1 ls k n) ex s' := by
  simp only [prlCi1, Bool.and_eq_true, decide_eq_true_eq] at hp
  refine loop_gen (st := fun s : Nat × Nat => stCi1 ls s.1 s.2) (out := fun s => outCi1 ls s.1 s.2) (I := fun s => ls.length ≤ 100 ∧ s.1 ≤ ls.length ∧ s.2 + F.totI (ls.drop s.1) ≤ 100000) (n := ([11, 10, 9, 3, 0], [])) (e := ([3, 0], [])) (r := ([], [])) (fun s => ls.length - s.1) ?_ (k, n) hp
  rintro ⟨k, n⟩ ⟨h1, h2, h3⟩
  simp only at h1 h2 h3
  by_cases hlt : k < ls.length
  · right
    obtain ⟨y, hy⟩ := at_lt hlt
    rw [totI_at hy] at h3
    refine ⟨(k + 1, n + y.length), ?_, rfl, ⟨h1, hlt, by simp only; omega⟩, by simp only; omega, ?_⟩
    · rw [evCi1L]
      simp only [unGrI, preGrI1, unstCi1, unstCi2, unstCi10, unstCi20, prlCi1, prlCi2, outCi1, outCi2, etaBeat, etaSpan, etaHole, etaLevel, etaFigs, etaRatio, etaRep, etaStay, Option.bind_some, List.length_map, unStrs, unInts, unBools, uneL_eIs, unBeats, uneL_eBeats, unSpans, unHoles, unLevels, unFigss, unRatios, unReps, unStays, F.lt, F.le, cond_true, cond_false, Bool.and_true, Bool.true_and, cast_lt hlt, decide_eq_true hlt, getD_at hy, w_add (show n + y.length ≤ 9223372036854775807 by omega), w_add1 (show k < 9223372036854775807 by omega), stCi1]
      rw [show decide (((n + y.length : Nat) : Int) < 0) = false from decide_eq_false (by omega)]
      rfl
    · simp only [outCi1, totI_at hy, Nat.add_assoc]
  · left
    have : k = ls.length := by omega
    subst this
    refine ⟨_, ?_, rfl, by simp, rfl⟩
    rw [evCi1L]
    simp only [cast_ge, cond_false, totI_end, Nat.add_zero]

theorem evCi2L (ls : List (List Int)) (k : Nat) (out : List Int) : ((exec enCi (loopN Try.f50 1) (stCi2 ls k out)).bind (lessX ([27, 26, 25, 6], [25000]) ([6], [25000]) ([], []))).val =
  bif decide ((↑k : Int) < (↑(List.length ls) : Int)) then Option.bind (unenc (List.map eL_eI) (List.map eL_eI ls)) fun (z : List (List Int)) => bif decide (k < List.length
  z) then bif Nat.ble ((List.length (List.map eI out) + List.length (List.map eI (List.getD z k []))) * (8 : Nat)) (140737488355328 : Nat) && List.all (List.map eI
  (List.getD z k [])) fun (r : Row) => Nat.beq (List.length r) (TI.mk false (1 : Nat) [] [AV.e0] (3 : Nat) (1 : Nat) (8 : Nat) [(vI (0 : Int))] none (4 : Nat) []).esize then
  some (Ex.normal, St.mk [(27, (vI (IntKind.wrap IntKind.i64 ((↑k : Int) + (1 : Int))))), (26, (vI (↑(List.length ls) : Int))), (25, AV.sl (List.map eL_eI ls)), (6, .own
  25000)] [(25000, Blk.mk false 3 1 (List.map eI out ++ List.map eI (List.getD z k [])))]) else none else none else some (Ex.exit (2 : Nat), St.mk [(6, .own 25000)] [(25000,
  Blk.mk false 3 1 (List.map eI out))]) := (execR_bind _ _ _).symm.trans (by kernel_rfl)

theorem lpCi2_ok (ls : List (List Int)) (k : Nat) (out : List Int) (hp : prlCi2 ls k out = true) : ∀ ex s', (outCi2 ls k out).val = some (ex, s') → LoopOK enCi (loopN Try.f50 1) (stCi2 ls k out) ex s' := by
  simp only [prlCi2, Bool.and_eq_true, decide_eq_true_eq] at hp
  refine loop_gen (st := fun s : Nat × List Int => stCi2 ls s.1 s.2) (out := fun s => outCi2 ls s.1 s.2) (I := fun s => ls.length ≤ 100 ∧ s.1 ≤ ls.length ∧ s.2.length + F.totI (ls.drop s.1) ≤ 100000) (n := ([27, 26, 25, 6], [25000])) (e := ([6], [25000])) (r := ([], [])) (fun s => ls.length - s.1) ?_ (k, out) hp
  rintro ⟨k, out⟩ ⟨h1, h2, h3⟩
  simp only at h1 h2 h3
  by_cases hlt : k < ls.length
  · right
    obtain ⟨y, hy⟩ := at_lt hlt
    rw [totI_at hy] at h3
    refine ⟨(k + 1, out ++ y), ?_, rfl, ⟨h1, hlt, by simp only [List.length_append]; omega⟩, by simp only; omega, ?_⟩
    · rw [evCi2L]
      simp only [unGrI, preGrI1, unstCi1, unstCi2, unstCi10, unstCi20, prlCi1, prlCi2, outCi1, outCi2, etaBeat, etaSpan, etaHole, etaLevel, etaFigs, etaRatio, etaRep, etaStay, Option.bind_some, List.length_map, unStrs, unInts, unBools, uneL_eIs, unBeats, uneL_eBeats, unSpans, unHoles, unLevels, unFigss, unRatios, unReps, unStays, F.lt, F.le, cond_true, cond_false, Bool.and_true, Bool.true_and, cast_lt hlt, decide_eq_true hlt, getD_at hy, w_add1 (show k < 9223372036854775807 by omega), ble_t (show (out.length + y.length) * 8 ≤ 140737488355328 by omega), all_ints, stCi2, List.map_append]
    · simp only [outCi2, drop_at hy, List.flatten_cons, List.append_assoc]
  · left
    have : k = ls.length := by omega
    subst this
    refine ⟨_, ?_, rfl, by simp, rfl⟩
    rw [evCi2L]
    simp only [cast_ge, cond_false, List.drop_length, List.flatten_nil, List.append_nil]

theorem evCi (ls : List (List Int)) : (runF enCi true Try.f50 [.sl (ls.map eL_eI)]).val =
  Option.bind (unenc stCi11 (St.mk [(11, (vI (0 : Int))), (10, (vI (↑(List.length (List.map eL_eI ls)) : Int))), (9, AV.sl (List.map eL_eI ls)), (3, (vI (0 : Int))), (0,
  AV.sl (List.map eL_eI ls))] [])) fun (z : List (List Int) × Nat × Nat) => bif decide (List.length z.fst ≤ (100 : Nat) ∧ z.snd.fst ≤ List.length z.fst ∧ z.snd.snd + F.totI
  (List.drop z.snd.fst z.fst) ≤ (100000 : Nat)) && true then Option.bind (unenc encGrI ([AV.e0, (vI (↑(z.snd.snd + F.totI (List.drop z.snd.fst z.fst)) : Int))], [])) fun
  (z_1 : Nat) => bif decide (z_1 ≤ (100000 : Nat)) then Option.bind (unenc stCi21 (St.mk [(27, (vI (0 : Int))), (26, (vI (↑(List.length (List.map eL_eI z.fst)) : Int))),
  (25, AV.sl (List.map eL_eI z.fst)), (6, .own 25000)] [(25000, Blk.mk false 3 1 [])])) fun (z : List (List Int) × Nat × List Int) => bif decide (List.length z.fst ≤ (100 :
  Nat) ∧ z.snd.fst ≤ List.length z.fst ∧ List.length z.snd.snd + F.totI (List.drop z.snd.fst z.fst) ≤ (100000 : Nat)) && true then some (.own 0, [(0, Blk.mk false 3 1
  (List.map eI (z.snd.snd ++ List.flatten (List.drop z.snd.fst z.fst))))]) else none else none else none := (runFR_val).symm.trans (by kernel_rfl)

def encCi1 (ls : List (List Int)) : List AV := [.sl (ls.map eL_eI)]

def encCi (a : (List (List Int))) : List AV := encCi1 a

theorem encCi_inj (a a' : (List (List Int))) (h : encCi a = encCi a') : a = a' := by
  simp only [encCi, encCi1] at h
  try simp [strs_inj, ints_inj, bools_inj, eL_eIs_inj, eBeats_inj, eBeat_iff, eL_eBeats_inj, eSpans_inj, eSpan_iff, eHoles_inj, eHole_iff, eLevels_inj, eLevel_iff, eFigss_inj, eFigs_iff, eRatios_inj, eRatio_iff, eReps_inj, eRep_iff, eStays_inj, eStay_iff] at h
  grind

theorem unCi (ls : List (List Int)) : unenc encCi ([AV.sl (List.map eL_eI ls)]) = some (ls) := unenc_of encCi_inj (ls) rfl

def resCi1 (ls : List (List Int)) : AV × Heap := (.own 0, [(0, ⟨false, 3, 1, ls.flatten.map eI⟩)])

def preCi1 (ls : List (List Int)) : Bool := decide (ls.length ≤ 100 ∧ F.totI ls ≤ 100000)

noncomputable def oCi : Orc := orc 50 false encCi (fun a => preCi1 a) fun a => resCi1 a

theorem okCi : OrcOK Try.prog noG oCi := by
  refine mk_ok Try.f50 (keep := true) (by kernel_rfl) (by kernel_rfl) enCi_ok mixed (two_loops (x0 := loopN Try.f50 0) (x1 := loopN Try.f50 1) (by kernel_rfl) (lpo_ok ?_) (lpo_ok ?_)) (by first | exact fun _ _ => ⟨rfl, rfl⟩ | (intro h; cases h)) ?_
  · rintro ⟨ls, k, n⟩ hp
    exact lpCi1_ok ls k n hp
  · rintro ⟨ls, k, out⟩ hp
    exact lpCi2_ok ls k out hp
  rintro ls hpre hok
  show (runF enCi true _ (encCi1 _)).val = some (resCi1 _)
  unfold encCi1 resCi1
  rw [evCi]
  simp only [preCi1, decide_eq_true_eq] at hpre
  simp only [unGrI, preGrI1, unstCi1, unstCi2, unstCi10, unstCi20, prlCi1, prlCi2, outCi1, outCi2, etaBeat, etaSpan, etaHole, etaLevel, etaFigs, etaRatio, etaRep, etaStay, Option.bind_some, List.length_map, unStrs, unInts, unBools, uneL_eIs, unBeats, uneL_eBeats, unSpans, unHoles, unLevels, unFigss, unRatios, unReps, unStays, F.lt, F.le, cond_true, cond_false, Bool.and_true, Bool.true_and, hpre, Nat.zero_le, Nat.zero_add, List.drop_zero, List.length_nil, List.nil_append, and_self, decide_true]

theorem unCi2 (a b : List Int) : unenc encCi ([.sl [[.sl (a.map eI)], [.sl (b.map eI)]]] : List AV) = some [a, b] := unenc_of encCi_inj [a, b] rfl

end M
end Go.Proofs.Ytnkaadiofjoacaa
