/- What is proved here: what MergeBeats of the program returns on plain data (no statement of the seat). -/
import Derived.Test.YtlnflhmepnbcmaaB72
import Derived.Test.YtlnflhmepnbcmaaB64
namespace Go.Proofs.Ytlnflhmepnbcmaa
open Go Go.RowKit
set_option linter.unusedVariables false
set_option linter.unusedSimpArgs false
set_option maxHeartbeats 1000000

namespace F

/-- Two neighbours are of one place. -/
def cl (p : Beat) : List Beat → Bool
  | [] => false
  | y :: r => (border p y == 0) || cl y r

def clL : List Beat → Bool
  | [] => false
  | x :: r => cl x r

/-- Two lists of beats come together. -/
def both (a b : List Beat) : List Beat := dd (K.srt ltB (a ++ b))

def merge2 (ys : List Beat) : List Beat × Int := bif clL ys then ([], 12) else bif checkB ys != 0 then ([], checkB ys) else (ys, 0)

def mergeB (a b : List Beat) : List Beat × Int :=
  bif checkB a != 0 then ([], checkB a) else bif checkB b != 0 then ([], checkB b) else merge2 (both a b)

theorem both_len (a b : List Beat) : (both a b).length ≤ a.length + b.length := by
  unfold both
  have := dd_len (K.srt ltB (a ++ b))
  rw [K.srt_len swB, List.length_append] at this
  exact this

theorem checkB_len {l : List Beat} (h : checkB l = 0) : l.length ≤ 3000 := by
  unfold checkB at h
  by_cases h2 : 3000 < l.length
  · rw [decide_eq_true h2, cond_true] at h; cases h
  · omega

end F

namespace M

def stFst (l : List Int) (k : Nat) : St := ⟨[(7, vI k), (6, vI l.length), (5, .sl (l.map eI))], []⟩

def stFst1 (a : (List Int) × Nat) : St := stFst a.1 a.2

theorem stFst_inj (a a' : (List Int) × Nat) (h : stFst1 a = stFst1 a') : a = a' := by
  simp only [stFst1, stFst] at h
  try simp [strs_inj, ints_inj, bools_inj, eBeats_inj, eBeat_iff, eL_eBeats_inj, eSpans_inj, eSpan_iff, eHoles_inj, eHole_iff, eLevels_inj, eLevel_iff, eFigss_inj, eFigs_iff, eRatios_inj, eRatio_iff, eReps_inj, eRep_iff, eStays_inj, eStay_iff] at h
  grind

theorem unstFst (l : List Int) (k : Nat) : unenc stFst1 (St.mk [(7, (vI (↑k : Int))), (6, (vI (↑(List.length l) : Int))), (5, AV.sl (List.map eI l))] []) = some (l, k) := unenc_of stFst_inj (l, k) rfl

theorem unstFst0 (l : List Int)  : unenc stFst1 (St.mk [(7, (vI (0 : Int))), (6, (vI (↑(List.length l) : Int))), (5, AV.sl (List.map eI l))] []) = some (l, 0) := unenc_of stFst_inj (l, 0) rfl

def outFst (l : List Int) (k : Nat) : T (Ex × St) := .ifB (decide (M.ffI id (l.drop k) = 0)) (.ret (.exit 0, ⟨[], []⟩)) (.ret (.ret, ⟨[(2, vI (M.ffI id (l.drop k)))], []⟩))

noncomputable def prlFst (l : List Int) (k : Nat) : Bool := decide (l.length ≤ 9223372036854775807) && decide (k ≤ l.length)

noncomputable def lpFst : Nat × (St → T (Ex × St)) := (2, lpo [7, 6, 5] [] stFst1 (fun a => prlFst a.1 a.2) fun a => outFst a.1 a.2)

noncomputable def enFst : Env := envH ty noG lks [] [] [] [lpFst]

theorem enFst_ok : EnvOK Try.prog enFst := by
  refine envH_ok lks_ok ty_ok ?_ ?_
  · simp
  · simp

theorem evFstL (l : List Int) (k : Nat) : ((exec enFst (loopN Try.f15 0) (stFst l k)).bind (lessX ([7, 6, 5], []) ([], []) ([2], []))).val =
  bif decide ((↑k : Int) < (↑(List.length l) : Int)) then Option.bind (unenc (List.map eI) (List.map eI l)) fun (z : List Int) => bif decide (k < List.length z) then bif
  List.getD z k (0 : Int) != (0 : Int) then some (Ex.ret, St.mk [(2, (vI (List.getD z k (0 : Int))))] []) else some (Ex.normal, St.mk [(7, (vI (IntKind.wrap IntKind.i64 ((↑k
  : Int) + (1 : Int))))), (6, (vI (↑(List.length l) : Int))), (5, AV.sl (List.map eI l))] []) else none else some (Ex.exit (0 : Nat), St.mk [] []) := (execR_bind _ _ _).symm.trans (by kernel_rfl)

theorem lpFst_ok (l : List Int) (k : Nat) (hp : prlFst l k = true) : ∀ ex s', (outFst l k).val = some (ex, s') → LoopOK enFst (loopN Try.f15 0) (stFst l k) ex s' := by
  simp only [prlFst, Bool.and_eq_true, decide_eq_true_eq] at hp
  refine loop_code (xs := l) (st := stFst l) (g := id) (o := fun c => (.ret, ⟨[(2, vI c)], []⟩)) (n := ([7, 6, 5], [])) (e := ([], [])) (r := ([2], [])) ?_ ⟨by simp, rfl⟩ (fun _ => ⟨by simp, rfl⟩) (fun _ => rfl) ?_ k hp.2
  · rw [evFstL]; simp
  · intro k y hy
    have hlt := lt_at hy
    rw [evFstL]
    simp only [unstFst, unstFst0, prlFst, outFst, etaBeat, etaSpan, etaHole, etaLevel, etaFigs, etaRatio, etaRep, etaStay, Option.bind_some, List.length_map, unStrs, unInts, unBools, unBeats, uneL_eBeats, unSpans, unHoles, unLevels, unFigss, unRatios, unReps, unStays, F.lt, F.le, cond_true, cond_false, Bool.and_true, Bool.true_and, cast_lt hlt, decide_eq_true hlt, next_at hlt hp.1, getD_at hy, stFst]
    by_cases h : y = 0
    · subst h; rfl
    · have hb : (y != 0) = true := by simp [h]
      simp only [hb, cond_true, id, h, if_false]

theorem evFst (l : List Int) : (runF enFst false Try.f15 [.sl (l.map eI)]).val =
  Option.bind (unenc stFst1 (St.mk [(7, (vI (0 : Int))), (6, (vI (↑(List.length (List.map eI l)) : Int))), (5, AV.sl (List.map eI l))] [])) fun (z : List Int × Nat) => bif
  decide (List.length z.fst ≤ (9223372036854775807 : Nat)) && decide (z.snd ≤ List.length z.fst) && true then bif decide (ffI id (List.drop z.snd z.fst) = (0 : Int)) then
  some ((vI (0 : Int)), []) else some ((vI (ffI id (List.drop z.snd z.fst))), []) else none := (runFR_val).symm.trans (by kernel_rfl)

def encFst1 (l : List Int) : List AV := [.sl (l.map eI)]

def encFst (a : (List Int)) : List AV := encFst1 a

theorem encFst_inj (a a' : (List Int)) (h : encFst a = encFst a') : a = a' := by
  simp only [encFst, encFst1] at h
  try simp [strs_inj, ints_inj, bools_inj, eBeats_inj, eBeat_iff, eL_eBeats_inj, eSpans_inj, eSpan_iff, eHoles_inj, eHole_iff, eLevels_inj, eLevel_iff, eFigss_inj, eFigs_iff, eRatios_inj, eRatio_iff, eReps_inj, eRep_iff, eStays_inj, eStay_iff] at h
  grind

theorem unFst (l : List Int) : unenc encFst ([AV.sl (List.map eI l)]) = some (l) := unenc_of encFst_inj (l) rfl

def resFst1 (l : List Int) : AV × Heap := (vI (M.ffI id l), [])

def preFst1 (l : List Int) : Bool := true

noncomputable def oFst : Orc := orc 15 true encFst (fun a => preFst1 a) fun a => resFst1 a

theorem okFst : OrcOK Try.prog noG oFst := by
  refine mk_ok Try.f15 (keep := false) (by kernel_rfl) (by kernel_rfl) enFst_ok mixed (one_loop (x0 := loopN Try.f15 0) (by kernel_rfl) (lpo_ok ?_)) (by first | exact fun _ _ => ⟨rfl, rfl⟩ | (intro h; cases h)) ?_
  · rintro ⟨l, k⟩ hp
    exact lpFst_ok l k hp
  rintro l hpre hok
  show (runF enFst false _ (encFst1 _)).val = some (resFst1 _)
  unfold encFst1 resFst1
  rw [evFst]
  have hx : l.length ≤ 9223372036854775807 := by simpa using (okA_sl (hok _ (List.mem_cons_self ..))).1
  simp only [unstFst, unstFst0, prlFst, outFst, etaBeat, etaSpan, etaHole, etaLevel, etaFigs, etaRatio, etaRep, etaStay, Option.bind_some, List.length_map, unStrs, unInts, unBools, unBeats, uneL_eBeats, unSpans, unHoles, unLevels, unFigss, unRatios, unReps, unStays, F.lt, F.le, cond_true, cond_false, Bool.and_true, Bool.true_and, hx, List.drop_zero, Nat.zero_le, decide_true]
  by_cases h : M.ffI id l = 0 <;> simp [h]

theorem fst_two (a b : Int) : unenc encFst [.sl [[vI a], [vI b]]] = some [a, b] := unenc_of encFst_inj [a, b] rfl

theorem ff_two (a b : Int) : M.ffI id [a, b] = (bif a != 0 then a else b) := by
  simp only [M.ffI, id]
  by_cases h : a = 0
  · subst h
    by_cases h2 : b = 0
    · subst h2; rfl
    · simp [h2]
  · rw [if_neg h, bne1 h]; rfl

def stMb (rows : List Beat) (n : Nat) (k : Nat) : St := ⟨[(29, vI k), (28, vI n), (7, .win 23000 0 n)], [(23000, ⟨false, 29, 5, rows.map eBeat⟩)]⟩

def stMb1 (a : (List Beat) × Nat × Nat) : St := stMb a.1 a.2.1 a.2.2

theorem stMb_inj (a a' : (List Beat) × Nat × Nat) (h : stMb1 a = stMb1 a') : a = a' := by
  simp only [stMb1, stMb] at h
  try simp [strs_inj, ints_inj, bools_inj, eBeats_inj, eBeat_iff, eL_eBeats_inj, eSpans_inj, eSpan_iff, eHoles_inj, eHole_iff, eLevels_inj, eLevel_iff, eFigss_inj, eFigs_iff, eRatios_inj, eRatio_iff, eReps_inj, eRep_iff, eStays_inj, eStay_iff] at h
  grind

theorem unstMb (rows : List Beat) (n : Nat) (k : Nat) : unenc stMb1 (St.mk [(29, (vI (↑k : Int))), (28, (vI (↑n : Int))), (7, AV.win (23000 : Nat) (0 : Nat) n)] [(23000, Blk.mk false 29 5 (List.map eBeat rows))]) = some (rows, n, k) := unenc_of stMb_inj (rows, n, k) rfl

theorem unstMb0 (rows : List Beat) (n : Nat)  : unenc stMb1 (St.mk [(29, (vI (0 : Int))), (28, (vI (↑n : Int))), (7, AV.win (23000 : Nat) (0 : Nat) n)] [(23000, Blk.mk false 29 5 (List.map eBeat rows))]) = some (rows, n, 0) := unenc_of stMb_inj (rows, n, 0) rfl

def outMb (rows : List Beat) (n : Nat) (k : Nat) : T (Ex × St) := .ifB (F.clL ((rows.take n).drop (k - 1))) (.ret (.ret, ⟨[(5, vI 12), (4, .own 4)], [(4, ⟨false, 29, 5, []⟩)]⟩)) (.ret (.exit 0, ⟨[(7, .win 23000 0 n)], [(23000, ⟨false, 29, 5, rows.map eBeat⟩)]⟩))

noncomputable def prlMb (rows : List Beat) (n : Nat) (k : Nat) : Bool := decide (n ≤ rows.length ∧ rows.length ≤ 100000 ∧ k = 0)

noncomputable def lpMb : Nat × (St → T (Ex × St)) := (8, lpo [29, 28, 7] [23000] stMb1 (fun a => prlMb a.1 a.2.1 a.2.2) fun a => outMb a.1 a.2.1 a.2.2)

noncomputable def enMb : Env := envH ty noG lks [oChb, oBor, oFst, oCc] [oSSt, oCq] [] [lpMb]

theorem enMb_ok : EnvOK Try.prog enMb := by
  refine envH_ok lks_ok ty_ok ?_ ?_
  · simp only [List.forall_mem_cons]
    exact ⟨okChb, okBor, okFst, okCc, by simp⟩
  · simp only [List.forall_mem_cons]
    exact ⟨okSSt, okCq, by simp⟩

theorem evMbL (rows : List Beat) (n : Nat) (k : Nat) : ((exec enMb (loopN Try.f5 0) (stMb rows n k)).bind (lessX ([29, 28, 7], [23000]) ([7], [23000]) ([5, 4], [4]))).val =
  bif decide ((↑k : Int) < (↑n : Int)) then bif decide ((0 : Int) < (↑k : Int)) then Option.bind (idx (IntKind.wrap IntKind.i64 ((↑k : Int) - (1 : Int)))) fun (z : Nat) =>
  bif decide (z < n) then Option.bind (unenc (List.map eBeat) (List.map eBeat rows)) fun (z_1 : List Beat) => bif decide ((0 : Nat) + z < List.length z_1) then bif decide (k
  < n) then Option.bind (unenc (List.map eBeat) (List.map eBeat rows)) fun (z_2 : List Beat) => bif decide ((0 : Nat) + k < List.length z_2) then Option.bind (unenc encBor
  [AV.agg [(vS (List.getD z_1 ((0 : Nat) + z) (Beat.mk (ByteArray.mk (Array.mk [])) (0 : Int) (0 : Int) (0 : Int) (0 : Int))).session), (vI (List.getD z_1 ((0 : Nat) + z)
  (Beat.mk (ByteArray.mk (Array.mk [])) (0 : Int) (0 : Int) (0 : Int) (0 : Int))).no), (vI (List.getD z_1 ((0 : Nat) + z) (Beat.mk (ByteArray.mk (Array.mk [])) (0 : Int) (0
  : Int) (0 : Int) (0 : Int))).time), (vI (List.getD z_1 ((0 : Nat) + z) (Beat.mk (ByteArray.mk (Array.mk [])) (0 : Int) (0 : Int) (0 : Int) (0 : Int))).state), (vI
  (List.getD z_1 ((0 : Nat) + z) (Beat.mk (ByteArray.mk (Array.mk [])) (0 : Int) (0 : Int) (0 : Int) (0 : Int))).rate)], AV.agg [(vS (List.getD z_2 ((0 : Nat) + k) (Beat.mk
  (ByteArray.mk (Array.mk [])) (0 : Int) (0 : Int) (0 : Int) (0 : Int))).session), (vI (List.getD z_2 ((0 : Nat) + k) (Beat.mk (ByteArray.mk (Array.mk [])) (0 : Int) (0 :
  Int) (0 : Int) (0 : Int))).no), (vI (List.getD z_2 ((0 : Nat) + k) (Beat.mk (ByteArray.mk (Array.mk [])) (0 : Int) (0 : Int) (0 : Int) (0 : Int))).time), (vI (List.getD
  z_2 ((0 : Nat) + k) (Beat.mk (ByteArray.mk (Array.mk [])) (0 : Int) (0 : Int) (0 : Int) (0 : Int))).state), (vI (List.getD z_2 ((0 : Nat) + k) (Beat.mk (ByteArray.mk
  (Array.mk [])) (0 : Int) (0 : Int) (0 : Int) (0 : Int))).rate)]]) fun (z : Beat × Beat) => bif F.border z.fst z.snd == (0 : Int) then some (Ex.ret, St.mk [(5, (vI (12 :
  Int))), (4, .own 4)] [(4, Blk.mk false 29 5 [])]) else some (Ex.normal, St.mk [(29, (vI (IntKind.wrap IntKind.i64 ((↑k : Int) + (1 : Int))))), (28, (vI (↑n : Int))), (7,
  AV.win (23000 : Nat) (0 : Nat) n)] [(23000, Blk.mk false 29 5 (List.map eBeat rows))]) else none else none else none else none else some (Ex.normal, St.mk [(29, (vI
  (IntKind.wrap IntKind.i64 ((↑k : Int) + (1 : Int))))), (28, (vI (↑n : Int))), (7, AV.win (23000 : Nat) (0 : Nat) n)] [(23000, Blk.mk false 29 5 (List.map eBeat rows))])
  else some (Ex.exit (0 : Nat), St.mk [(7, AV.win (23000 : Nat) (0 : Nat) n)] [(23000, Blk.mk false 29 5 (List.map eBeat rows))]) := (execR_bind _ _ _).symm.trans (by kernel_rfl)

theorem lpMb_ok (rows : List Beat) (n : Nat) (k : Nat) (hp : prlMb rows n k = true) : ∀ ex s', (outMb rows n k).val = some (ex, s') → LoopOK enMb (loopN Try.f5 0) (stMb rows n k) ex s' := by
  simp only [prlMb, Bool.and_eq_true, decide_eq_true_eq] at hp
  obtain ⟨h1, h2, h3⟩ := hp
  subst h3
  have hl : (rows.take n).length = n := by rw [List.length_take]; omega
  refine loop_gen (st := stMb rows n) (out := outMb rows n) (I := fun k => k ≤ n) (n := ([29, 28, 7], [23000])) (e := ([7], [23000])) (r := ([5, 4], [4])) (fun k => n - k) ?_ 0 (Nat.zero_le _)
  intro k hk
  by_cases hlt : k < n
  · obtain ⟨y, hy⟩ := at_lt (show k < rows.length by omega)
    have hy2 : (rows.take n)[k]? = some y := by rw [List.getElem?_take, if_pos hlt]; exact hy
    cases k with
    | zero =>
      right
      refine ⟨1, ?_, rfl, hlt, by omega, rfl⟩
      rw [evMbL]
      have h0 : decide ((0 : Int) < ((0 : Nat) : Int)) = false := rfl
      simp only [unChb, unBor, unFst, unCc, unSSt, unCq, unBorw, preChb1, preBor1, preFst1, preCc1, preSSt1, preCq1, unstMb, unstMb0, prlMb, outMb, etaBeat, etaSpan, etaHole, etaLevel, etaFigs, etaRatio, etaRep, etaStay, Option.bind_some, List.length_map, unStrs, unInts, unBools, unBeats, uneL_eBeats, unSpans, unHoles, unLevels, unFigss, unRatios, unReps, unStays, F.lt, F.le, cond_true, cond_false, Bool.and_true, Bool.true_and, cast_lt hlt, h0, w_add1 (show 0 < 9223372036854775807 by omega), Nat.zero_add, stMb]
    | succ k =>
      obtain ⟨z, hz⟩ := at_lt (show k < rows.length by omega)
      have hz2 : (rows.take n)[k]? = some z := by rw [List.getElem?_take, if_pos (by omega)]; exact hz
      have h0 : decide ((0 : Int) < ((k + 1 : Nat) : Int)) = true := decide_eq_true (by omega)
      have hd : (rows.take n).drop k = z :: y :: (rows.take n).drop (k + 1 + 1) := by rw [dropAt hz2, dropAt hy2]
      have hd2 : (rows.take n).drop (k + 1) = y :: (rows.take n).drop (k + 1 + 1) := dropAt hy2
      cases hq : (F.border z y == 0)
      · right
        refine ⟨k + 1 + 1, ?_, rfl, hlt, by omega, ?_⟩
        · rw [evMbL]
          simp only [unChb, unBor, unFst, unCc, unSSt, unCq, unBorw, preChb1, preBor1, preFst1, preCc1, preSSt1, preCq1, unstMb, unstMb0, prlMb, outMb, etaBeat, etaSpan, etaHole, etaLevel, etaFigs, etaRatio, etaRep, etaStay, Option.bind_some, List.length_map, unStrs, unInts, unBools, unBeats, uneL_eBeats, unSpans, unHoles, unLevels, unFigss, unRatios, unReps, unStays, F.lt, F.le, cond_true, cond_false, Bool.and_true, Bool.true_and, cast_lt hlt, h0, w_sub1 (show 1 ≤ k + 1 by omega) (show k + 1 ≤ 9223372036854775807 by omega), Nat.add_sub_cancel, idxN, Nat.zero_add, decide_eq_true hlt, decide_eq_true (show k < n by omega), decide_eq_true (lt_at hz), decide_eq_true (lt_at hy), getD_at hz, getD_at hy, hq, w_add1 (show k + 1 < 9223372036854775807 by omega), stMb]
        · simp only [outMb, Nat.add_sub_cancel, hd, hd2, F.clL, F.cl, hq, Bool.false_or]
      · left
        refine ⟨(.ret, ⟨[(5, vI 12), (4, .own 4)], [(4, ⟨false, 29, 5, []⟩)]⟩), ?_, ?_, by simp, rfl⟩
        · rw [evMbL]
          simp only [unChb, unBor, unFst, unCc, unSSt, unCq, unBorw, preChb1, preBor1, preFst1, preCc1, preSSt1, preCq1, unstMb, unstMb0, prlMb, outMb, etaBeat, etaSpan, etaHole, etaLevel, etaFigs, etaRatio, etaRep, etaStay, Option.bind_some, List.length_map, unStrs, unInts, unBools, unBeats, uneL_eBeats, unSpans, unHoles, unLevels, unFigss, unRatios, unReps, unStays, F.lt, F.le, cond_true, cond_false, Bool.and_true, Bool.true_and, cast_lt hlt, h0, w_sub1 (show 1 ≤ k + 1 by omega) (show k + 1 ≤ 9223372036854775807 by omega), Nat.add_sub_cancel, idxN, Nat.zero_add, decide_eq_true hlt, decide_eq_true (show k < n by omega), decide_eq_true (lt_at hz), decide_eq_true (lt_at hy), getD_at hz, getD_at hy, hq]
        · simp only [outMb, Nat.add_sub_cancel, hd, F.clL, F.cl, hq, Bool.true_or]
          rfl
  · have : k = n := by omega
    subst this
    left
    refine ⟨(.exit 0, ⟨[(7, .win 23000 0 k)], [(23000, ⟨false, 29, 5, rows.map eBeat⟩)]⟩), ?_, ?_, by simp, rfl⟩
    · rw [evMbL]
      simp only [cast_ge, cond_false]
    · have : F.clL ((rows.take k).drop (k - 1)) = false := by
        cases k with
        | zero => rfl
        | succ k =>
          have e : ((rows.take (k + 1)).drop (k + 1 - 1)).length = 1 := by rw [List.length_drop, hl]; omega
          match h : (rows.take (k + 1)).drop (k + 1 - 1), e with
          | [x], _ => rfl
      simp only [outMb, this]
      rfl

theorem evMb (a : List Beat) (b : List Beat) : (runF enMb false Try.f5 [.sl (a.map eBeat), .sl (b.map eBeat)]).val =
  Option.bind (unenc encChb [AV.sl (List.map eBeat a)]) fun (z : List Beat) => Option.bind (unenc encChb [AV.sl (List.map eBeat b)]) fun (z_1 : List Beat) => Option.bind
  (unenc encFst [AV.sl [[(vI (F.checkB z))], [(vI (F.checkB z_1))]]]) fun (z : List Int) => bif ffI id z != (0 : Int) then some (AV.tup [AV.sl [], (vI (ffI id z))], []) else
  Option.bind (unenc encCc [AV.sl [[AV.sl (List.map eBeat a)], [AV.sl (List.map eBeat b)]]]) fun (z : List (List Beat)) => bif decide (List.length z ≤ (100 : Nat) ∧ F.totL z
  ≤ (100000 : Nat)) then Option.bind (unenc encSSt ([.own 900, AV.fn (18 : Nat) []], [(900, Blk.mk false 29 5 (List.map eBeat (List.flatten z)))])) fun (z : List Beat) =>
  bif decide (List.length z ≤ (100000 : Nat)) then Option.bind (unenc encCq ([.own 900], [(900, Blk.mk false 29 5 (List.map eBeat (K.srt F.ltB z)))])) fun (z : List Beat) =>
  bif decide (List.length z ≤ (100000 : Nat)) then Option.bind (unenc stMb1 (St.mk [(29, (vI (0 : Int))), (28, (vI (↑(List.length (F.dd z)) : Int))), (7, AV.win (List.getD
  [(23000 : Nat)] (0 : Nat) (0 : Nat)) (0 : Nat) (List.length (F.dd z)))] [(List.getD [(23000 : Nat)] (0 : Nat) (0 : Nat), Blk.mk false 29 5 (List.map eBeat (F.dd z ++
  List.replicate (List.length z - List.length (F.dd z)) (Beat.mk (ByteArray.mk (Array.mk [])) (0 : Int) (0 : Int) (0 : Int) (0 : Int)))))])) fun (z : List Beat × Nat × Nat)
  => bif decide (z.snd.fst ≤ List.length z.fst ∧ List.length z.fst ≤ (100000 : Nat) ∧ z.snd.snd = (0 : Nat)) && true then bif F.clL (List.drop (z.snd.snd - (1 : Nat))
  (List.take z.snd.fst z.fst)) then some (AV.tup [AV.sl [], (vI (12 : Int))], []) else Option.bind (unenc encChb [AV.sl (List.take z.snd.fst (List.map eBeat z.fst))]) fun
  (z_2 : List Beat) => bif F.checkB z_2 != (0 : Int) then some (AV.tup [AV.sl [], (vI (F.checkB z_2))], []) else some (AV.tup [AV.sl (List.take z.snd.fst (List.map eBeat
  z.fst)), (vI (0 : Int))], []) else none else none else none else none := (runFR_val).symm.trans (by kernel_rfl)

def encMb1 (a : List Beat) (b : List Beat) : List AV := [.sl (a.map eBeat), .sl (b.map eBeat)]

def encMb (a : (List Beat) × (List Beat)) : List AV := encMb1 a.1 a.2

theorem encMb_inj (a a' : (List Beat) × (List Beat)) (h : encMb a = encMb a') : a = a' := by
  simp only [encMb, encMb1] at h
  try simp [strs_inj, ints_inj, bools_inj, eBeats_inj, eBeat_iff, eL_eBeats_inj, eSpans_inj, eSpan_iff, eHoles_inj, eHole_iff, eLevels_inj, eLevel_iff, eFigss_inj, eFigs_iff, eRatios_inj, eRatio_iff, eReps_inj, eRep_iff, eStays_inj, eStay_iff] at h
  grind

theorem unMb (a : List Beat) (b : List Beat) : unenc encMb ([AV.sl (List.map eBeat a), AV.sl (List.map eBeat b)]) = some (a, b) := unenc_of encMb_inj (a, b) rfl

def resMb1 (a : List Beat) (b : List Beat) : AV × Heap := (.tup [.sl ((F.mergeB a b).1.map eBeat), vI (F.mergeB a b).2], [])

def preMb1 (a : List Beat) (b : List Beat) : Bool := true

noncomputable def oMb : Orc := orc 5 false encMb (fun a => preMb1 a.1 a.2) fun a => resMb1 a.1 a.2

theorem okMb : OrcOK Try.prog noG oMb := by
  refine mk_ok Try.f5 (keep := false) (by kernel_rfl) (by kernel_rfl) enMb_ok mixed (one_loop (x0 := loopN Try.f5 0) (by kernel_rfl) (lpo_ok ?_)) (by first | exact fun _ _ => ⟨rfl, rfl⟩ | (intro h; cases h)) ?_
  · rintro ⟨rows, n, k⟩ hp
    exact lpMb_ok rows n k hp
  rintro ⟨a, b⟩ hpre hok
  show (runF enMb false _ (encMb1 _ _)).val = some (resMb1 _ _)
  unfold encMb1 resMb1
  rw [evMb]
  simp only [unChb, unBor, unFst, unCc, unSSt, unCq, unBorw, preChb1, preBor1, preFst1, preCc1, preSSt1, preCq1, unstMb, unstMb0, prlMb, outMb, etaBeat, etaSpan, etaHole, etaLevel, etaFigs, etaRatio, etaRep, etaStay, Option.bind_some, List.length_map, unStrs, unInts, unBools, unBeats, uneL_eBeats, unSpans, unHoles, unLevels, unFigss, unRatios, unReps, unStays, F.lt, F.le, cond_true, cond_false, Bool.and_true, Bool.true_and, fst_two, ff_two, F.mergeB, F.merge2, unCc2]
  by_cases h1 : F.checkB a = 0
  case neg =>
    rw [bne1 h1]
    simp only [cond_true, bne1 h1]
    rfl
  rw [bne0 h1]
  simp only [cond_false]
  by_cases h2 : F.checkB b = 0
  case neg =>
    rw [bne1 h2]; rfl
  rw [bne0 h2]
  have l1 := F.checkB_len h1
  have l2 := F.checkB_len h2
  have q1 : [a, b].length ≤ 100 ∧ F.totL [a, b] ≤ 100000 := ⟨by simp, by show a.length + (b.length + 0) ≤ _; omega⟩
  have q2 : (K.srt F.ltB (a ++ b)).length ≤ 100000 := by rw [K.srt_len F.swB, List.length_append]; omega
  have e1 : [a, b].flatten = a ++ b := by simp
  have q3 : (a ++ b).length ≤ 100000 := by rw [List.length_append]; omega
  have q4 := F.dd_len (K.srt F.ltB (a ++ b))
  simp only [unChb, unBor, unFst, unCc, unSSt, unCq, unBorw, preChb1, preBor1, preFst1, preCc1, preSSt1, preCq1, unstMb, unstMb0, prlMb, outMb, etaBeat, etaSpan, etaHole, etaLevel, etaFigs, etaRatio, etaRep, etaStay, Option.bind_some, List.length_map, unStrs, unInts, unBools, unBeats, uneL_eBeats, unSpans, unHoles, unLevels, unFigss, unRatios, unReps, unStays, F.lt, F.le, cond_true, cond_false, Bool.and_true, Bool.true_and, q1, and_self, decide_true, e1, q3, q2]
  have eg : ([23000] : List Nat).getD 0 0 = 23000 := rfl
  have eb : F.dd (K.srt F.ltB (a ++ b)) = F.both a b := rfl
  have el := F.both_len a b
  have em : (K.srt F.ltB (a ++ b)).length = a.length + b.length := by rw [K.srt_len F.swB, List.length_append]
  rw [eg, eb, em]
  generalize F.both a b = ys at el ⊢
  obtain ⟨zs, hz⟩ : ∃ zs : List Beat, zs = List.replicate (a.length + b.length - ys.length) ⟨⟨#[]⟩, 0, 0, 0, 0⟩ := ⟨_, rfl⟩
  have hzl : zs.length = a.length + b.length - ys.length := by rw [hz, List.length_replicate]
  rw [← hz]
  have q5 : ys.length ≤ (ys ++ zs).length ∧ (ys ++ zs).length ≤ 100000 ∧ 0 = 0 := ⟨by rw [List.length_append]; omega, by rw [List.length_append]; omega, rfl⟩
  have e5 : (ys ++ zs).take ys.length = ys := List.take_left' rfl
  have e6 : ((ys ++ zs).map eBeat).take ys.length = ys.map eBeat := by rw [← List.map_take, e5]
  simp only [unChb, unBor, unFst, unCc, unSSt, unCq, unBorw, preChb1, preBor1, preFst1, preCc1, preSSt1, preCq1, unstMb, unstMb0, prlMb, outMb, etaBeat, etaSpan, etaHole, etaLevel, etaFigs, etaRatio, etaRep, etaStay, Option.bind_some, List.length_map, unStrs, unInts, unBools, unBeats, uneL_eBeats, unSpans, unHoles, unLevels, unFigss, unRatios, unReps, unStays, F.lt, F.le, cond_true, cond_false, Bool.and_true, Bool.true_and, q5, and_self, decide_true, e5, e6, Nat.zero_sub, List.drop_zero]
  cases F.clL ys
  · by_cases h3 : F.checkB ys = 0
    · rw [bne0 h3]; rfl
    · rw [bne1 h3]; rfl
  · rfl

end M
end Go.Proofs.Ytlnflhmepnbcmaa
