/- What is proved here: characters of captions, and how fast they are, of both (no statement of the seat). -/
import Derived.Test.YtniealifncgilaaDoorC12
namespace Go.Proofs.YtniealifncgilaaDoor
open Go Go.RowKit
set_option linter.unusedVariables false
set_option linter.unusedSimpArgs false

/-- The characters of lines. -/
def F.chF (a : Int) (ls : List ByteArray) : Int := ls.foldl (fun a s => IntKind.i64.wrap (a + F.runes s)) a

namespace M

noncomputable def enRCh : Env := envH ty noG lks [oRun] [] [] []

theorem enRCh_ok : EnvOK Tryd.prog enRCh := by
  refine envH_ok lks_ok ty_ok ?_ ?_
  · simp only [List.forall_mem_cons]
    exact ⟨okRun, by simp⟩
  · simp

theorem evRCh (s : ByteArray) : (runF enRCh false Tryd.f54 [vS s]).val =
  Option.bind (unenc encRun [(vS s)]) fun (z : ByteArray) => bif decide (ByteArray.size z ≤ (4294967280 : Nat)) then some ((vI (F.runes z)), []) else none := by kernel_rfl

def encRCh1 (s : ByteArray) : List AV := [vS s]

def encRCh (a : ByteArray) : List AV := encRCh1 a

theorem encRCh_inj (a a' : ByteArray) (h : encRCh a = encRCh a') : a = a' := by
  simp only [encRCh, encRCh1] at h
  try simp [strs_inj, ints_inj, bools_inj, eCaps_inj, eCap_iff, eL_eCaps_inj, eMchs_inj, eMch_iff, eWrds_inj, eWrd_iff, eFnds_inj, eFnd_iff, eRatios_inj, eRatio_iff, eWays_inj, eWay_iff] at h
  grind

theorem unRCh (s : ByteArray) : unenc encRCh ([(vS s)]) = some (s) := unenc_of encRCh_inj (s) rfl

def resRCh1 (s : ByteArray) : AV × Heap := (vI (F.runes s), [])

def preRCh1 (s : ByteArray) : Bool := decide (s.size ≤ 4294967280)

noncomputable def oRCh : Orc := orc 54 true encRCh (fun a => preRCh1 a) fun a => resRCh1 a

theorem okRCh : OrcOK Tryd.prog noG oRCh := by
  refine mk_ok Tryd.f54 (keep := false) (by kernel_rfl) (by kernel_rfl) enRCh_ok mixed (no_loops (by kernel_rfl)) (by first | exact fun _ _ => ⟨rfl, rfl⟩ | (intro h; cases h)) ?_
  rintro s hpre hok
  show (runF enRCh false _ (encRCh1 _)).val = some (resRCh1 _)
  unfold encRCh1 resRCh1
  rw [evRCh]
  simp only [preRCh1] at hpre
  simp only [unRun, preRun1, etaCap, etaMch, etaWrd, etaFnd, etaRatio, etaWay, Option.bind_some, List.length_map, unStrs, unInts, unBools, unCaps, uneL_eCaps, unMchs, unWrds, unFnds, unRatios, unWays, F.lt, F.le, cond_true, cond_false, Bool.and_true, Bool.true_and, hpre]

def stChs (ls : List ByteArray) (a : Int) (k : Nat) : St := ⟨[(9, vI k), (8, vI ls.length), (7, .sl (ls.map eStr)), (3, vI a)], []⟩

def stChs1 (a : (List ByteArray) × Int × Nat) : St := stChs a.1 a.2.1 a.2.2

theorem stChs_inj (a a' : (List ByteArray) × Int × Nat) (h : stChs1 a = stChs1 a') : a = a' := by
  simp only [stChs1, stChs] at h
  try simp [strs_inj, ints_inj, bools_inj, eCaps_inj, eCap_iff, eL_eCaps_inj, eMchs_inj, eMch_iff, eWrds_inj, eWrd_iff, eFnds_inj, eFnd_iff, eRatios_inj, eRatio_iff, eWays_inj, eWay_iff] at h
  grind

theorem unstChs (ls : List ByteArray) (a : Int) (k : Nat) : unenc stChs1 (St.mk [(9, (vI (↑k : Int))), (8, (vI (↑(List.length ls) : Int))), (7, AV.sl (List.map eStr ls)), (3, (vI a))] []) = some (ls, a, k) := unenc_of stChs_inj (ls, a, k) rfl

theorem unstChs0 (ls : List ByteArray) : unenc stChs1 (St.mk [(9, (vI (0 : Int))), (8, (vI (↑(List.length ls) : Int))), (7, AV.sl (List.map eStr ls)), (3, (vI (0 : Int)))] []) = some (ls, 0, 0) := unenc_of stChs_inj (ls, 0, 0) rfl

def outChs (ls : List ByteArray) (a : Int) (k : Nat) : T (Ex × St) := .ret (.exit 0, ⟨[(3, vI (F.chF a (ls.drop k)))], []⟩)

noncomputable def prlChs (ls : List ByteArray) (a : Int) (k : Nat) : Bool := decide (ls.length ≤ 9223372036854775807) && decide (k ≤ ls.length) && F.smL ls

noncomputable def lpChs : Nat × (St → T (Ex × St)) := (3, lpo [9, 8, 7, 3] [] stChs1 (fun a => prlChs a.1 a.2.1 a.2.2) fun a => outChs a.1 a.2.1 a.2.2)

noncomputable def enChs : Env := envH ty noG lks [oRun] [] [] [lpChs]

theorem enChs_ok : EnvOK Tryd.prog enChs := by
  refine envH_ok lks_ok ty_ok ?_ ?_
  · simp only [List.forall_mem_cons]
    exact ⟨okRun, by simp⟩
  · simp

theorem evChsL (ls : List ByteArray) (a : Int) (k : Nat) : ((exec enChs (loopN Tryd.f64 0) (stChs ls a k)).bind (lessX ([9, 8, 7, 3], []) ([3], []) ([], []))).val =
  bif decide ((↑k : Int) < (↑(List.length ls) : Int)) then Option.bind (unenc (List.map eStr) (List.map eStr ls)) fun (z : List ByteArray) => bif decide (k < List.length z)
  then Option.bind (unenc encRun [(vS (List.getD z k (ByteArray.mk (Array.mk []))))]) fun (z : ByteArray) => bif decide (ByteArray.size z ≤ (4294967280 : Nat)) then some
  (Ex.normal, St.mk [(9, (vI (IntKind.wrap IntKind.i64 ((↑k : Int) + (1 : Int))))), (8, (vI (↑(List.length ls) : Int))), (7, AV.sl (List.map eStr ls)), (3, (vI (IntKind.wrap
  IntKind.i64 (a + F.runes z))))] []) else none else none else some (Ex.exit (0 : Nat), St.mk [(3, (vI a))] []) := by kernel_rfl

theorem lpChs_ok (ls : List ByteArray) (a : Int) (k : Nat) (hp : prlChs ls a k = true) : ∀ ex s', (outChs ls a k).val = some (ex, s') → LoopOK enChs (loopN Tryd.f64 0) (stChs ls a k) ex s' := by
  simp only [prlChs, Bool.and_eq_true, decide_eq_true_eq] at hp
  obtain ⟨⟨h1, h2⟩, h3⟩ := hp
  refine loop_fold (xs := ls) (st := stChs ls) (f := fun a s => IntKind.i64.wrap (a + F.runes s)) (fin := fun a => (.exit 0, ⟨[(3, vI a)], []⟩)) (I := fun _ _ => True) (n := ([9, 8, 7, 3], [])) (e := ([3], [])) (r := ([], [])) ?_ (fun _ => ⟨by simp, rfl⟩) (fun _ _ => rfl) ?_ a k h2 trivial
  · intro a _
    rw [evChsL]; simp
  · intro a k y hy _
    have hlt := lt_at hy
    have hsm : decide (y.size ≤ 4294967280) = true := F.smL_at h3 (List.mem_of_getElem? hy)
    rw [evChsL]
    simp only [unRun, preRun1, unstChs, unstChs0, prlChs, outChs, etaCap, etaMch, etaWrd, etaFnd, etaRatio, etaWay, Option.bind_some, List.length_map, unStrs, unInts, unBools, unCaps, uneL_eCaps, unMchs, unWrds, unFnds, unRatios, unWays, F.lt, F.le, cond_true, cond_false, Bool.and_true, Bool.true_and, cast_lt hlt, decide_eq_true hlt, next_at hlt h1, getD_at hy, stChs, hsm]
    simp

theorem cap_lines {c : Cap} (h : OkA (.agg (eCap c))) : c.lines.length ≤ 9223372036854775807 := by
  have h := okA_agg h
  simp only [eCap, List.forall_mem_cons] at h
  simpa using (okA_sl h.2.2.1).1

theorem evChs (c : Cap) : (runF enChs false Tryd.f64 [.agg (eCap c)]).val =
  Option.bind (unenc stChs1 (St.mk [(9, (vI (0 : Int))), (8, (vI (↑(List.length (List.map eStr c.lines)) : Int))), (7, AV.sl (List.map eStr c.lines)), (3, (vI (0 : Int)))]
  [])) fun (z : List ByteArray × Int × Nat) => bif decide (List.length z.fst ≤ (9223372036854775807 : Nat)) && decide (z.snd.snd ≤ List.length z.fst) && F.smL z.fst && true
  then some ((vI (F.chF z.snd.fst (List.drop z.snd.snd z.fst))), []) else none := by kernel_rfl

def encChs1 (c : Cap) : List AV := [.agg (eCap c)]

def encChs (a : Cap) : List AV := encChs1 a

theorem encChs_inj (a a' : Cap) (h : encChs a = encChs a') : a = a' := by
  simp only [encChs, encChs1] at h
  try simp [strs_inj, ints_inj, bools_inj, eCaps_inj, eCap_iff, eL_eCaps_inj, eMchs_inj, eMch_iff, eWrds_inj, eWrd_iff, eFnds_inj, eFnd_iff, eRatios_inj, eRatio_iff, eWays_inj, eWay_iff] at h
  grind

theorem unChs (c : Cap) : unenc encChs ([AV.agg [(vI c.fr), (vI c.to), AV.sl (List.map eStr c.lines), (vI c.row), (vB c.bef), (vB c.aft)]]) = some (c) := unenc_of encChs_inj (c) rfl

theorem unChsw (c_fr : Int) (c_to : Int) (c_lines : List ByteArray) (c_row : Int) (c_bef : Bool) (c_aft : Bool) : unenc encChs ([AV.agg [(vI c_fr), (vI c_to), AV.sl (List.map eStr c_lines), (vI c_row), (vB c_bef), (vB c_aft)]]) = some ((Cap.mk c_fr c_to c_lines c_row c_bef c_aft)) := unenc_of encChs_inj ((Cap.mk c_fr c_to c_lines c_row c_bef c_aft)) rfl

def resChs1 (c : Cap) : AV × Heap := (vI (F.chF 0 c.lines), [])

def preChs1 (c : Cap) : Bool := F.smL c.lines

noncomputable def oChs : Orc := orc 64 true encChs (fun a => preChs1 a) fun a => resChs1 a

theorem okChs : OrcOK Tryd.prog noG oChs := by
  refine mk_ok Tryd.f64 (keep := false) (by kernel_rfl) (by kernel_rfl) enChs_ok mixed (one_loop (x0 := loopN Tryd.f64 0) (by kernel_rfl) (lpo_ok ?_)) (by first | exact fun _ _ => ⟨rfl, rfl⟩ | (intro h; cases h)) ?_
  · rintro ⟨ls, a, k⟩ hp
    exact lpChs_ok ls a k hp
  rintro c hpre hok
  show (runF enChs false _ (encChs1 _)).val = some (resChs1 _)
  unfold encChs1 resChs1
  rw [evChs]
  simp only [preChs1] at hpre
  have hx := cap_lines (hok _ (List.mem_cons_self ..))
  simp only [unRun, preRun1, unstChs, unstChs0, prlChs, outChs, etaCap, etaMch, etaWrd, etaFnd, etaRatio, etaWay, Option.bind_some, List.length_map, unStrs, unInts, unBools, unCaps, uneL_eCaps, unMchs, unWrds, unFnds, unRatios, unWays, F.lt, F.le, cond_true, cond_false, Bool.and_true, Bool.true_and, hx, hpre, List.drop_zero, Nat.zero_le, decide_true]

def stRd (ls : List ByteArray) (a : Int) (k : Nat) : St := ⟨[(9, vI k), (8, vI ls.length), (7, .sl (ls.map eStr)), (3, vI a)], []⟩

def stRd1 (a : (List ByteArray) × Int × Nat) : St := stRd a.1 a.2.1 a.2.2

theorem stRd_inj (a a' : (List ByteArray) × Int × Nat) (h : stRd1 a = stRd1 a') : a = a' := by
  simp only [stRd1, stRd] at h
  try simp [strs_inj, ints_inj, bools_inj, eCaps_inj, eCap_iff, eL_eCaps_inj, eMchs_inj, eMch_iff, eWrds_inj, eWrd_iff, eFnds_inj, eFnd_iff, eRatios_inj, eRatio_iff, eWays_inj, eWay_iff] at h
  grind

theorem unstRd (ls : List ByteArray) (a : Int) (k : Nat) : unenc stRd1 (St.mk [(9, (vI (↑k : Int))), (8, (vI (↑(List.length ls) : Int))), (7, AV.sl (List.map eStr ls)), (3, (vI a))] []) = some (ls, a, k) := unenc_of stRd_inj (ls, a, k) rfl

theorem unstRd0 (ls : List ByteArray) : unenc stRd1 (St.mk [(9, (vI (0 : Int))), (8, (vI (↑(List.length ls) : Int))), (7, AV.sl (List.map eStr ls)), (3, (vI (0 : Int)))] []) = some (ls, 0, 0) := unenc_of stRd_inj (ls, 0, 0) rfl

def outRd (ls : List ByteArray) (a : Int) (k : Nat) : T (Ex × St) := .ret (.exit 0, ⟨[(3, vI (F.chF a (ls.drop k)))], []⟩)

noncomputable def prlRd (ls : List ByteArray) (a : Int) (k : Nat) : Bool := decide (ls.length ≤ 9223372036854775807) && decide (k ≤ ls.length) && F.smL ls

noncomputable def lpRd : Nat × (St → T (Ex × St)) := (3, lpo [9, 8, 7, 3] [] stRd1 (fun a => prlRd a.1 a.2.1 a.2.2) fun a => outRd a.1 a.2.1 a.2.2)

noncomputable def enRd : Env := envH ty noG lks [oRCh] [] [] [lpRd]

theorem enRd_ok : EnvOK Tryd.prog enRd := by
  refine envH_ok lks_ok ty_ok ?_ ?_
  · simp only [List.forall_mem_cons]
    exact ⟨okRCh, by simp⟩
  · simp

theorem evRdL (ls : List ByteArray) (a : Int) (k : Nat) : ((exec enRd (loopN Tryd.f65 0) (stRd ls a k)).bind (lessX ([9, 8, 7, 3], []) ([3], []) ([], []))).val =
  bif decide ((↑k : Int) < (↑(List.length ls) : Int)) then Option.bind (unenc (List.map eStr) (List.map eStr ls)) fun (z : List ByteArray) => bif decide (k < List.length z)
  then Option.bind (unenc encRCh [(vS (List.getD z k (ByteArray.mk (Array.mk []))))]) fun (z : ByteArray) => bif decide (ByteArray.size z ≤ (4294967280 : Nat)) then some
  (Ex.normal, St.mk [(9, (vI (IntKind.wrap IntKind.i64 ((↑k : Int) + (1 : Int))))), (8, (vI (↑(List.length ls) : Int))), (7, AV.sl (List.map eStr ls)), (3, (vI (IntKind.wrap
  IntKind.i64 (a + F.runes z))))] []) else none else none else some (Ex.exit (0 : Nat), St.mk [(3, (vI a))] []) := by kernel_rfl

theorem lpRd_ok (ls : List ByteArray) (a : Int) (k : Nat) (hp : prlRd ls a k = true) : ∀ ex s', (outRd ls a k).val = some (ex, s') → LoopOK enRd (loopN Tryd.f65 0) (stRd ls a k) ex s' := by
  simp only [prlRd, Bool.and_eq_true, decide_eq_true_eq] at hp
  obtain ⟨⟨h1, h2⟩, h3⟩ := hp
  refine loop_fold (xs := ls) (st := stRd ls) (f := fun a s => IntKind.i64.wrap (a + F.runes s)) (fin := fun a => (.exit 0, ⟨[(3, vI a)], []⟩)) (I := fun _ _ => True) (n := ([9, 8, 7, 3], [])) (e := ([3], [])) (r := ([], [])) ?_ (fun _ => ⟨by simp, rfl⟩) (fun _ _ => rfl) ?_ a k h2 trivial
  · intro a _
    rw [evRdL]; simp
  · intro a k y hy _
    have hlt := lt_at hy
    have hsm : decide (y.size ≤ 4294967280) = true := F.smL_at h3 (List.mem_of_getElem? hy)
    rw [evRdL]
    simp only [unRCh, preRCh1, unstRd, unstRd0, prlRd, outRd, etaCap, etaMch, etaWrd, etaFnd, etaRatio, etaWay, Option.bind_some, List.length_map, unStrs, unInts, unBools, unCaps, uneL_eCaps, unMchs, unWrds, unFnds, unRatios, unWays, F.lt, F.le, cond_true, cond_false, Bool.and_true, Bool.true_and, cast_lt hlt, decide_eq_true hlt, next_at hlt h1, getD_at hy, stRd, hsm]
    simp

theorem evRd (c : Cap) : (runF enRd false Tryd.f65 [.agg (eCap c)]).val =
  Option.bind (unenc stRd1 (St.mk [(9, (vI (0 : Int))), (8, (vI (↑(List.length (List.map eStr c.lines)) : Int))), (7, AV.sl (List.map eStr c.lines)), (3, (vI (0 : Int)))]
  [])) fun (z : List ByteArray × Int × Nat) => bif decide (List.length z.fst ≤ (9223372036854775807 : Nat)) && decide (z.snd.snd ≤ List.length z.fst) && F.smL z.fst && true
  then some ((vI (F.chF z.snd.fst (List.drop z.snd.snd z.fst))), []) else none := by kernel_rfl

def encRd1 (c : Cap) : List AV := [.agg (eCap c)]

def encRd (a : Cap) : List AV := encRd1 a

theorem encRd_inj (a a' : Cap) (h : encRd a = encRd a') : a = a' := by
  simp only [encRd, encRd1] at h
  try simp [strs_inj, ints_inj, bools_inj, eCaps_inj, eCap_iff, eL_eCaps_inj, eMchs_inj, eMch_iff, eWrds_inj, eWrd_iff, eFnds_inj, eFnd_iff, eRatios_inj, eRatio_iff, eWays_inj, eWay_iff] at h
  grind

theorem unRd (c : Cap) : unenc encRd ([AV.agg [(vI c.fr), (vI c.to), AV.sl (List.map eStr c.lines), (vI c.row), (vB c.bef), (vB c.aft)]]) = some (c) := unenc_of encRd_inj (c) rfl

theorem unRdw (c_fr : Int) (c_to : Int) (c_lines : List ByteArray) (c_row : Int) (c_bef : Bool) (c_aft : Bool) : unenc encRd ([AV.agg [(vI c_fr), (vI c_to), AV.sl (List.map eStr c_lines), (vI c_row), (vB c_bef), (vB c_aft)]]) = some ((Cap.mk c_fr c_to c_lines c_row c_bef c_aft)) := unenc_of encRd_inj ((Cap.mk c_fr c_to c_lines c_row c_bef c_aft)) rfl

def resRd1 (c : Cap) : AV × Heap := (vI (F.chF 0 c.lines), [])

def preRd1 (c : Cap) : Bool := F.smL c.lines

noncomputable def oRd : Orc := orc 65 true encRd (fun a => preRd1 a) fun a => resRd1 a

theorem okRd : OrcOK Tryd.prog noG oRd := by
  refine mk_ok Tryd.f65 (keep := false) (by kernel_rfl) (by kernel_rfl) enRd_ok mixed (one_loop (x0 := loopN Tryd.f65 0) (by kernel_rfl) (lpo_ok ?_)) (by first | exact fun _ _ => ⟨rfl, rfl⟩ | (intro h; cases h)) ?_
  · rintro ⟨ls, a, k⟩ hp
    exact lpRd_ok ls a k hp
  rintro c hpre hok
  show (runF enRd false _ (encRd1 _)).val = some (resRd1 _)
  unfold encRd1 resRd1
  rw [evRd]
  simp only [preRd1] at hpre
  have hx := cap_lines (hok _ (List.mem_cons_self ..))
  simp only [unRCh, preRCh1, unstRd, unstRd0, prlRd, outRd, etaCap, etaMch, etaWrd, etaFnd, etaRatio, etaWay, Option.bind_some, List.length_map, unStrs, unInts, unBools, unCaps, uneL_eCaps, unMchs, unWrds, unFnds, unRatios, unWays, F.lt, F.le, cond_true, cond_false, Bool.and_true, Bool.true_and, hx, hpre, List.drop_zero, Nat.zero_le, decide_true]

end M
end Go.Proofs.YtniealifncgilaaDoor
