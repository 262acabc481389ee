/- What is proved here: the contract of slices.Concat at beats (no statement of the seat). -/
import Derived.Test.YtlnflhmepnbcmaaB70
import Derived.Test.YtlnflhmepnbcmaaB71
namespace Go.Proofs.Ytlnflhmepnbcmaa
open Go Go.RowKit
set_option linter.unusedVariables false
set_option linter.unusedSimpArgs false
set_option maxHeartbeats 1000000

/-- How many elements there are in all. -/
def F.totL : List (List Beat) → Nat
  | [] => 0
  | l :: r => l.length + F.totL r

namespace M

def stCc1 (ls : List (List Beat)) (k : Nat) (n : Nat) : St := ⟨[(11, vI k), (10, vI ls.length), (9, .sl (ls.map eL_eBeat)), (3, vI n), (0, .sl (ls.map eL_eBeat))], []⟩

def stCc11 (a : (List (List Beat)) × Nat × Nat) : St := stCc1 a.1 a.2.1 a.2.2

theorem stCc1_inj (a a' : (List (List Beat)) × Nat × Nat) (h : stCc11 a = stCc11 a') : a = a' := by
  simp only [stCc11, stCc1] at h
  try simp [strs_inj, ints_inj, bools_inj, eBeats_inj, eBeat_iff, eL_eBeats_inj, eSpans_inj, eSpan_iff, eHoles_inj, eHole_iff, eLevels_inj, eLevel_iff, eFigss_inj, eFigs_iff, eRatios_inj, eRatio_iff, eReps_inj, eRep_iff, eStays_inj, eStay_iff] at h
  grind

theorem unstCc1 (ls : List (List Beat)) (k : Nat) (n : Nat) : unenc stCc11 (St.mk [(11, (vI (↑k : Int))), (10, (vI (↑(List.length ls) : Int))), (9, AV.sl (List.map eL_eBeat ls)), (3, (vI (↑n : Int))), (0, AV.sl (List.map eL_eBeat ls))] []) = some (ls, k, n) := unenc_of stCc1_inj (ls, k, n) rfl

theorem unstCc10 (ls : List (List Beat))  : unenc stCc11 (St.mk [(11, (vI (0 : Int))), (10, (vI (↑(List.length ls) : Int))), (9, AV.sl (List.map eL_eBeat ls)), (3, (vI (0 : Int))), (0, AV.sl (List.map eL_eBeat ls))] []) = some (ls, 0, 0) := unenc_of stCc1_inj (ls, 0, 0) rfl

def outCc1 (ls : List (List Beat)) (k : Nat) (n : Nat) : T (Ex × St) := .ret (.exit 0, ⟨[(3, vI ((n + F.totL (ls.drop k) : Nat) : Int)), (0, .sl (ls.map eL_eBeat))], []⟩)

noncomputable def prlCc1 (ls : List (List Beat)) (k : Nat) (n : Nat) : Bool := decide (ls.length ≤ 100 ∧ k ≤ ls.length ∧ n + F.totL (ls.drop k) ≤ 100000)

noncomputable def lpCc1 : Nat × (St → T (Ex × St)) := (3, lpo [11, 10, 9, 3, 0] [] stCc11 (fun a => prlCc1 a.1 a.2.1 a.2.2) fun a => outCc1 a.1 a.2.1 a.2.2)

def stCc2 (ls : List (List Beat)) (k : Nat) (out : List Beat) : St := ⟨[(27, vI k), (26, vI ls.length), (25, .sl (ls.map eL_eBeat)), (6, .own 25000)], [(25000, ⟨false, 29, 5, out.map eBeat⟩)]⟩

def stCc21 (a : (List (List Beat)) × Nat × (List Beat)) : St := stCc2 a.1 a.2.1 a.2.2

theorem stCc2_inj (a a' : (List (List Beat)) × Nat × (List Beat)) (h : stCc21 a = stCc21 a') : a = a' := by
  simp only [stCc21, stCc2] at h
  try simp [strs_inj, ints_inj, bools_inj, eBeats_inj, eBeat_iff, eL_eBeats_inj, eSpans_inj, eSpan_iff, eHoles_inj, eHole_iff, eLevels_inj, eLevel_iff, eFigss_inj, eFigs_iff, eRatios_inj, eRatio_iff, eReps_inj, eRep_iff, eStays_inj, eStay_iff] at h
  grind

theorem unstCc2 (ls : List (List Beat)) (k : Nat) (out : List Beat) : unenc stCc21 (St.mk [(27, (vI (↑k : Int))), (26, (vI (↑(List.length ls) : Int))), (25, AV.sl (List.map eL_eBeat ls)), (6, .own 25000)] [(25000, Blk.mk false 29 5 (List.map eBeat out))]) = some (ls, k, out) := unenc_of stCc2_inj (ls, k, out) rfl

theorem unstCc20 (ls : List (List Beat))  : unenc stCc21 (St.mk [(27, (vI (0 : Int))), (26, (vI (↑(List.length ls) : Int))), (25, AV.sl (List.map eL_eBeat ls)), (6, .own 25000)] [(25000, Blk.mk false 29 5 [])]) = some (ls, 0, []) := unenc_of stCc2_inj (ls, 0, []) rfl

def outCc2 (ls : List (List Beat)) (k : Nat) (out : List Beat) : T (Ex × St) := .ret (.exit 2, ⟨[(6, .own 25000)], [(25000, ⟨false, 29, 5, (out ++ (ls.drop k).flatten).map eBeat⟩)]⟩)

noncomputable def prlCc2 (ls : List (List Beat)) (k : Nat) (out : List Beat) : Bool := decide (ls.length ≤ 100 ∧ k ≤ ls.length ∧ out.length + F.totL (ls.drop k) ≤ 100000)

noncomputable def lpCc2 : Nat × (St → T (Ex × St)) := (11, lpo [27, 26, 25, 6] [25000] stCc21 (fun a => prlCc2 a.1 a.2.1 a.2.2) fun a => outCc2 a.1 a.2.1 a.2.2)

noncomputable def enCc : Env := envH ty noG lks [] [oGrN] [] [lpCc1, lpCc2]

theorem enCc_ok : EnvOK Try.prog enCc := by
  refine envH_ok lks_ok ty_ok ?_ ?_
  · simp
  · simp only [List.forall_mem_cons]
    exact ⟨okGrN, by simp⟩

theorem totL_at {ls : List (List Beat)} {k : Nat} {y : List Beat} (h : ls[k]? = some y) : F.totL (ls.drop k) = y.length + F.totL (ls.drop (k + 1)) := by
  rw [dropAt h]; rfl

theorem totL_end (ls : List (List Beat)) : F.totL (ls.drop ls.length) = 0 := by rw [List.drop_length]; rfl

theorem evCc1L (ls : List (List Beat)) (k : Nat) (n : Nat) : ((exec enCc (loopN Try.f16 0) (stCc1 ls k n)).bind (lessX ([11, 10, 9, 3, 0], []) ([3, 0], []) ([], []))).val =
  bif decide ((↑k : Int) < (↑(List.length ls) : Int)) then Option.bind (unenc (List.map eL_eBeat) (List.map eL_eBeat ls)) fun (z : List (List Beat)) => bif decide (k <
  List.length z) then bif decide (IntKind.wrap IntKind.i64 ((↑n : Int) + (↑(List.length (List.map eBeat (List.getD z k []))) : Int)) < (0 : Int)) then none else some
  (Ex.normal, St.mk [(11, (vI (IntKind.wrap IntKind.i64 ((↑k : Int) + (1 : Int))))), (10, (vI (↑(List.length ls) : Int))), (9, AV.sl (List.map eL_eBeat ls)), (3, (vI
  (IntKind.wrap IntKind.i64 ((↑n : Int) + (↑(List.length (List.map eBeat (List.getD z k []))) : Int))))), (0, AV.sl (List.map eL_eBeat ls))] []) else none else some (Ex.exit
  (0 : Nat), St.mk [(3, (vI (↑n : Int))), (0, AV.sl (List.map eL_eBeat ls))] []) := (execR_bind _ _ _).symm.trans (by kernel_rfl)

theorem lpCc1_ok (ls : List (List Beat)) (k : Nat) (n : Nat) (hp : prlCc1 ls k n = true) : ∀ ex s', (outCc1 ls k n).val = some (ex, s') → LoopOK enCc (loopN Try.f16 0) (stCc1 ls k n) ex s' := by
  simp only [prlCc1, Bool.and_eq_true, decide_eq_true_eq] at hp
  refine loop_gen (st := fun s : Nat × Nat => stCc1 ls s.1 s.2) (out := fun s => outCc1 ls s.1 s.2) (I := fun s => ls.length ≤ 100 ∧ s.1 ≤ ls.length ∧ s.2 + F.totL (ls.drop s.1) ≤ 100000) (n := ([11, 10, 9, 3, 0], [])) (e := ([3, 0], [])) (r := ([], [])) (fun s => ls.length - s.1) ?_ (k, n) hp
  rintro ⟨k, n⟩ ⟨h1, h2, h3⟩
  simp only at h1 h2 h3
  by_cases hlt : k < ls.length
  · right
    obtain ⟨y, hy⟩ := at_lt hlt
    rw [totL_at hy] at h3
    refine ⟨(k + 1, n + y.length), ?_, rfl, ⟨h1, hlt, by simp only; omega⟩, by simp only; omega, ?_⟩
    · rw [evCc1L]
      simp only [unGrN, preGrN1, unstCc1, unstCc2, unstCc10, unstCc20, prlCc1, prlCc2, outCc1, outCc2, etaBeat, etaSpan, etaHole, etaLevel, etaFigs, etaRatio, etaRep, etaStay, Option.bind_some, List.length_map, unStrs, unInts, unBools, unBeats, uneL_eBeats, unSpans, unHoles, unLevels, unFigss, unRatios, unReps, unStays, F.lt, F.le, cond_true, cond_false, Bool.and_true, Bool.true_and, cast_lt hlt, decide_eq_true hlt, getD_at hy, w_add (show n + y.length ≤ 9223372036854775807 by omega), w_add1 (show k < 9223372036854775807 by omega), stCc1]
      rw [show decide (((n + y.length : Nat) : Int) < 0) = false from decide_eq_false (by omega)]
      rfl
    · simp only [outCc1, totL_at hy, Nat.add_assoc]
  · left
    have : k = ls.length := by omega
    subst this
    refine ⟨_, ?_, rfl, by simp, rfl⟩
    rw [evCc1L]
    simp only [cast_ge, cond_false, totL_end, Nat.add_zero]

theorem evCc2L (ls : List (List Beat)) (k : Nat) (out : List Beat) : ((exec enCc (loopN Try.f16 1) (stCc2 ls k out)).bind (lessX ([27, 26, 25, 6], [25000]) ([6], [25000]) ([], []))).val =
  bif decide ((↑k : Int) < (↑(List.length ls) : Int)) then Option.bind (unenc (List.map eL_eBeat) (List.map eL_eBeat ls)) fun (z : List (List Beat)) => bif decide (k <
  List.length z) then bif Nat.ble ((List.length (List.map eBeat out) + List.length (List.map eBeat (List.getD z k []))) * (48 : Nat)) (140737488355328 : Nat) && List.all
  (List.map eBeat (List.getD z k [])) fun (r : Row) => Nat.beq (List.length r) (TI.mk false (1 : Nat) [] [AV.e0] (29 : Nat) (5 : Nat) (48 : Nat) [(vS (ByteArray.mk (Array.mk
  []))), (vI (0 : Int)), (vI (0 : Int)), (vI (0 : Int)), (vI (0 : Int))] none (4 : Nat) []).esize then some (Ex.normal, St.mk [(27, (vI (IntKind.wrap IntKind.i64 ((↑k : Int)
  + (1 : Int))))), (26, (vI (↑(List.length ls) : Int))), (25, AV.sl (List.map eL_eBeat ls)), (6, .own 25000)] [(25000, Blk.mk false 29 5 (List.map eBeat out ++ List.map
  eBeat (List.getD z k [])))]) else none else none else some (Ex.exit (2 : Nat), St.mk [(6, .own 25000)] [(25000, Blk.mk false 29 5 (List.map eBeat out))]) := (execR_bind _ _ _).symm.trans (by kernel_rfl)

theorem lpCc2_ok (ls : List (List Beat)) (k : Nat) (out : List Beat) (hp : prlCc2 ls k out = true) : ∀ ex s', (outCc2 ls k out).val = some (ex, s') → LoopOK enCc (loopN Try.f16 1) (stCc2 ls k out) ex s' := by
  simp only [prlCc2, Bool.and_eq_true, decide_eq_true_eq] at hp
  refine loop_gen (st := fun s : Nat × List Beat => stCc2 ls s.1 s.2) (out := fun s => outCc2 ls s.1 s.2) (I := fun s => ls.length ≤ 100 ∧ s.1 ≤ ls.length ∧ s.2.length + F.totL (ls.drop s.1) ≤ 100000) (n := ([27, 26, 25, 6], [25000])) (e := ([6], [25000])) (r := ([], [])) (fun s => ls.length - s.1) ?_ (k, out) hp
  rintro ⟨k, out⟩ ⟨h1, h2, h3⟩
  simp only at h1 h2 h3
  by_cases hlt : k < ls.length
  · right
    obtain ⟨y, hy⟩ := at_lt hlt
    rw [totL_at hy] at h3
    refine ⟨(k + 1, out ++ y), ?_, rfl, ⟨h1, hlt, by simp only [List.length_append]; omega⟩, by simp only; omega, ?_⟩
    · rw [evCc2L]
      simp only [unGrN, preGrN1, unstCc1, unstCc2, unstCc10, unstCc20, prlCc1, prlCc2, outCc1, outCc2, etaBeat, etaSpan, etaHole, etaLevel, etaFigs, etaRatio, etaRep, etaStay, Option.bind_some, List.length_map, unStrs, unInts, unBools, unBeats, uneL_eBeats, unSpans, unHoles, unLevels, unFigss, unRatios, unReps, unStays, F.lt, F.le, cond_true, cond_false, Bool.and_true, Bool.true_and, cast_lt hlt, decide_eq_true hlt, getD_at hy, w_add1 (show k < 9223372036854775807 by omega), ble_t (show (out.length + y.length) * 48 ≤ 140737488355328 by omega), all_Beats, stCc2, List.map_append]
    · simp only [outCc2, dropAt hy, List.flatten_cons, List.append_assoc]
  · left
    have : k = ls.length := by omega
    subst this
    refine ⟨_, ?_, rfl, by simp, rfl⟩
    rw [evCc2L]
    simp only [cast_ge, cond_false, List.drop_length, List.flatten_nil, List.append_nil]

theorem evCc (ls : List (List Beat)) : (runF enCc true Try.f16 [.sl (ls.map eL_eBeat)]).val =
  Option.bind (unenc stCc11 (St.mk [(11, (vI (0 : Int))), (10, (vI (↑(List.length (List.map eL_eBeat ls)) : Int))), (9, AV.sl (List.map eL_eBeat ls)), (3, (vI (0 : Int))),
  (0, AV.sl (List.map eL_eBeat ls))] [])) fun (z : List (List Beat) × Nat × Nat) => bif decide (List.length z.fst ≤ (100 : Nat) ∧ z.snd.fst ≤ List.length z.fst ∧ z.snd.snd +
  F.totL (List.drop z.snd.fst z.fst) ≤ (100000 : Nat)) && true then Option.bind (unenc encGrN ([AV.e0, (vI (↑(z.snd.snd + F.totL (List.drop z.snd.fst z.fst)) : Int))], []))
  fun (z_1 : Nat) => bif decide (z_1 ≤ (100000 : Nat)) then Option.bind (unenc stCc21 (St.mk [(27, (vI (0 : Int))), (26, (vI (↑(List.length (List.map eL_eBeat z.fst)) :
  Int))), (25, AV.sl (List.map eL_eBeat z.fst)), (6, .own 25000)] [(25000, Blk.mk false 29 5 [])])) fun (z : List (List Beat) × Nat × List Beat) => bif decide (List.length
  z.fst ≤ (100 : Nat) ∧ z.snd.fst ≤ List.length z.fst ∧ List.length z.snd.snd + F.totL (List.drop z.snd.fst z.fst) ≤ (100000 : Nat)) && true then some (.own 0, [(0, Blk.mk
  false 29 5 (List.map eBeat (z.snd.snd ++ List.flatten (List.drop z.snd.fst z.fst))))]) else none else none else none := (runFR_val).symm.trans (by kernel_rfl)

def encCc1 (ls : List (List Beat)) : List AV := [.sl (ls.map eL_eBeat)]

def encCc (a : (List (List Beat))) : List AV := encCc1 a

theorem encCc_inj (a a' : (List (List Beat))) (h : encCc a = encCc a') : a = a' := by
  simp only [encCc, encCc1] at h
  try simp [strs_inj, ints_inj, bools_inj, eBeats_inj, eBeat_iff, eL_eBeats_inj, eSpans_inj, eSpan_iff, eHoles_inj, eHole_iff, eLevels_inj, eLevel_iff, eFigss_inj, eFigs_iff, eRatios_inj, eRatio_iff, eReps_inj, eRep_iff, eStays_inj, eStay_iff] at h
  grind

theorem unCc (ls : List (List Beat)) : unenc encCc ([AV.sl (List.map eL_eBeat ls)]) = some (ls) := unenc_of encCc_inj (ls) rfl

def resCc1 (ls : List (List Beat)) : AV × Heap := (.own 0, [(0, ⟨false, 29, 5, ls.flatten.map eBeat⟩)])

def preCc1 (ls : List (List Beat)) : Bool := decide (ls.length ≤ 100 ∧ F.totL ls ≤ 100000)

noncomputable def oCc : Orc := orc 16 false encCc (fun a => preCc1 a) fun a => resCc1 a

theorem okCc : OrcOK Try.prog noG oCc := by
  refine mk_ok Try.f16 (keep := true) (by kernel_rfl) (by kernel_rfl) enCc_ok mixed (two_loops (x0 := loopN Try.f16 0) (x1 := loopN Try.f16 1) (by kernel_rfl) (lpo_ok ?_) (lpo_ok ?_)) (by first | exact fun _ _ => ⟨rfl, rfl⟩ | (intro h; cases h)) ?_
  · rintro ⟨ls, k, n⟩ hp
    exact lpCc1_ok ls k n hp
  · rintro ⟨ls, k, out⟩ hp
    exact lpCc2_ok ls k out hp
  rintro ls hpre hok
  show (runF enCc true _ (encCc1 _)).val = some (resCc1 _)
  unfold encCc1 resCc1
  rw [evCc]
  simp only [preCc1, decide_eq_true_eq] at hpre
  simp only [unGrN, preGrN1, unstCc1, unstCc2, unstCc10, unstCc20, prlCc1, prlCc2, outCc1, outCc2, etaBeat, etaSpan, etaHole, etaLevel, etaFigs, etaRatio, etaRep, etaStay, Option.bind_some, List.length_map, unStrs, unInts, unBools, unBeats, uneL_eBeats, unSpans, unHoles, unLevels, unFigss, unRatios, unReps, unStays, F.lt, F.le, cond_true, cond_false, Bool.and_true, Bool.true_and, hpre, Nat.zero_le, Nat.zero_add, List.drop_zero, List.length_nil, List.nil_append, and_self, decide_true]

theorem unCc2 (a b : List Beat) : unenc encCc ([.sl [[.sl (a.map eBeat)], [.sl (b.map eBeat)]]] : List AV) = some [a, b] := unenc_of encCc_inj [a, b] rfl

end M
end Go.Proofs.Ytlnflhmepnbcmaa
