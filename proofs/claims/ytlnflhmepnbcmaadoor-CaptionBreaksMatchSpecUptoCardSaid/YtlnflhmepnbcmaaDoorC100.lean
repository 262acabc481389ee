/- What is proved here: what lines of words lack of a width, by the reference (no statement of the seat). -/
import Derived.Test.YtlnflhmepnbcmaaDoorC8
import Derived.Test.YtlnflhmepnbcmaaDoorC13
namespace Go.Proofs.YtlnflhmepnbcmaaDoor
open Go Go.RowKit
set_option linter.unusedVariables false
set_option linter.unusedSimpArgs false

namespace F

def lkS (n : Int) (s : ByteArray) : Int := IntKind.i64.wrap (n - IntKind.i64.wrap (F.runes s + 1))

def lkN (ws : List ByteArray) (n : Int) : Int := ws.foldl lkS n

def lkF (n : Int) : Int := bif decide (n < 0) then 1099511627776 else IntKind.i64.wrap (n * n)

/-- What a line of words lacks. -/
def lacks (ws : List ByteArray) (w : Int) (i j : Nat) : Int := lkF (lkN ((ws.take j).drop i) (IntKind.i64.wrap (w + 1)))

end F

namespace M

def stLk (ws : List ByteArray) (n : Int) (k : Nat) : St := ⟨[(19, vI k), (18, vI ws.length), (17, .sl (ws.map eStr)), (9, vI n)], []⟩

def stLk1 (a : (List ByteArray) × Int × Nat) : St := stLk a.1 a.2.1 a.2.2

theorem stLk_inj (a a' : (List ByteArray) × Int × Nat) (h : stLk1 a = stLk1 a') : a = a' := by
  simp only [stLk1, stLk] at h
  try simp [strs_inj, ints_inj, bools_inj, eL_eIs_inj, eCaps_inj, eCap_iff, eL_eCaps_inj, eMchs_inj, eMch_iff, eWrds_inj, eWrd_iff, eFnds_inj, eFnd_iff, eRatios_inj, eRatio_iff, eWays_inj, eWay_iff] at h
  grind

theorem unstLk (ws : List ByteArray) (n : Int) (k : Nat) : unenc stLk1 (St.mk [(19, (vI (↑k : Int))), (18, (vI (↑(List.length ws) : Int))), (17, AV.sl (List.map eStr ws)), (9, (vI n))] []) = some (ws, n, k) := unenc_of stLk_inj (ws, n, k) rfl

theorem unstLk0 (ws : List ByteArray) (n : Int)  : unenc stLk1 (St.mk [(19, (vI (0 : Int))), (18, (vI (↑(List.length ws) : Int))), (17, AV.sl (List.map eStr ws)), (9, (vI n))] []) = some (ws, n, 0) := unenc_of stLk_inj (ws, n, 0) rfl

def outLk (ws : List ByteArray) (n : Int) (k : Nat) : T (Ex × St) := .ret (.exit 0, ⟨[(9, vI (F.lkN (ws.drop k) n))], []⟩)

noncomputable def prlLk (ws : List ByteArray) (n : Int) (k : Nat) : Bool := decide (ws.length ≤ 9223372036854775807) && decide (k ≤ ws.length) && F.smL ws

noncomputable def lpLk : Nat × (St → T (Ex × St)) := (3, lpo [19, 18, 17, 9] [] stLk1 (fun a => prlLk a.1 a.2.1 a.2.2) fun a => outLk a.1 a.2.1 a.2.2)

noncomputable def enLk : Env := envH ty noG lks [oRCh] [] [] [lpLk]

theorem enLk_ok : EnvOK Tryd.prog enLk := by
  refine envH_ok lks_ok ty_ok ?_ ?_
  · simp only [List.forall_mem_cons]
    exact ⟨okRCh, by simp⟩
  · simp

theorem evLkL (ws : List ByteArray) (n : Int) (k : Nat) : ((exec enLk (loopN Tryd.f36 0) (stLk ws n k)).bind (lessX ([19, 18, 17, 9], []) ([9], []) ([], []))).val =
  bif decide ((↑k : Int) < (↑(List.length ws) : Int)) then Option.bind (unenc (List.map eStr) (List.map eStr ws)) fun (z : List ByteArray) => bif decide (k < List.length z)
  then Option.bind (unenc encRCh [(vS (List.getD z k (ByteArray.mk (Array.mk []))))]) fun (z : ByteArray) => bif decide (ByteArray.size z ≤ (4294967280 : Nat)) then some
  (Ex.normal, St.mk [(19, (vI (IntKind.wrap IntKind.i64 ((↑k : Int) + (1 : Int))))), (18, (vI (↑(List.length ws) : Int))), (17, AV.sl (List.map eStr ws)), (9, (vI
  (IntKind.wrap IntKind.i64 (n - IntKind.wrap IntKind.i64 (F.runes z + (1 : Int))))))] []) else none else none else some (Ex.exit (0 : Nat), St.mk [(9, (vI n))] []) := by kernel_rfl

theorem lpLk_ok (ws : List ByteArray) (n : Int) (k : Nat) (hp : prlLk ws n k = true) : ∀ ex s', (outLk ws n k).val = some (ex, s') → LoopOK enLk (loopN Tryd.f36 0) (stLk ws n k) ex s' := by
  simp only [prlLk, Bool.and_eq_true, decide_eq_true_eq] at hp
  obtain ⟨⟨h1, h2⟩, h3⟩ := hp
  refine loop_fold (xs := ws) (st := stLk ws) (f := F.lkS) (fin := fun a => (.exit 0, ⟨[(9, vI a)], []⟩)) (I := fun _ _ => True) (n := ([19, 18, 17, 9], [])) (e := ([9], [])) (r := ([], [])) ?_ (fun _ => ⟨by simp, rfl⟩) (fun _ _ => rfl) ?_ n k h2 trivial
  · intro a _
    rw [evLkL]; simp
  · intro a k y hy _
    have hlt := lt_at hy
    have hsm : decide (y.size ≤ 4294967280) = true := F.smL_at h3 (List.mem_of_getElem? hy)
    refine ⟨?_, trivial⟩
    rw [evLkL]
    simp only [unRCh, preRCh1, unstLk, unstLk0, prlLk, outLk, etaCap, etaMch, etaWrd, etaFnd, etaRatio, etaWay, Option.bind_some, List.length_map, unStrs, unInts, unBools, uneL_eIs, unCaps, uneL_eCaps, unMchs, unWrds, unFnds, unRatios, unWays, F.lt, F.le, cond_true, cond_false, Bool.and_true, Bool.true_and, cast_lt hlt, decide_eq_true hlt, next_at hlt h1, getD_at hy, stLk, hsm, F.lkS]

theorem evLk (ws : List ByteArray) (i : Nat) (j : Nat) (w : Int) : (runF enLk false Tryd.f36 [.sl (ws.map eStr), vI i, vI j, vI w]).val =
  bif Nat.ble i j && Nat.ble j (List.length (List.map eStr ws)) && List.all (List.map eStr ws) fun (r : Row) => Nat.beq (List.length r) (1 : Nat) then Option.bind (unenc
  stLk1 (St.mk [(19, (vI (0 : Int))), (18, (vI (↑(List.length (List.drop i (List.take j (List.map eStr ws)))) : Int))), (17, AV.sl (List.drop i (List.take j (List.map eStr
  ws)))), (9, (vI (IntKind.wrap IntKind.i64 (w + (1 : Int)))))] [])) fun (z : List ByteArray × Int × Nat) => bif decide (List.length z.fst ≤ (9223372036854775807 : Nat)) &&
  decide (z.snd.snd ≤ List.length z.fst) && F.smL z.fst && true then bif decide (F.lkN (List.drop z.snd.snd z.fst) z.snd.fst < (0 : Int)) then some ((vI (1099511627776 :
  Int)), []) else some ((vI (IntKind.wrap IntKind.i64 (F.lkN (List.drop z.snd.snd z.fst) z.snd.fst * F.lkN (List.drop z.snd.snd z.fst) z.snd.fst))), []) else none else none := by kernel_rfl

def encLk1 (ws : List ByteArray) (i : Nat) (j : Nat) (w : Int) : List AV := [.sl (ws.map eStr), vI i, vI j, vI w]

def encLk (a : (List ByteArray) × Nat × Nat × Int) : List AV := encLk1 a.1 a.2.1 a.2.2.1 a.2.2.2

theorem encLk_inj (a a' : (List ByteArray) × Nat × Nat × Int) (h : encLk a = encLk a') : a = a' := by
  simp only [encLk, encLk1] at h
  try simp [strs_inj, ints_inj, bools_inj, eL_eIs_inj, eCaps_inj, eCap_iff, eL_eCaps_inj, eMchs_inj, eMch_iff, eWrds_inj, eWrd_iff, eFnds_inj, eFnd_iff, eRatios_inj, eRatio_iff, eWays_inj, eWay_iff] at h
  grind

theorem unLk (ws : List ByteArray) (i : Nat) (j : Nat) (w : Int) : unenc encLk ([AV.sl (List.map eStr ws), (vI (↑i : Int)), (vI (↑j : Int)), (vI w)]) = some (ws, i, j, w) := unenc_of encLk_inj (ws, i, j, w) rfl

def resLk1 (ws : List ByteArray) (i : Nat) (j : Nat) (w : Int) : AV × Heap := (vI (F.lacks ws w i j), [])

def preLk1 (ws : List ByteArray) (i : Nat) (j : Nat) (w : Int) : Bool := decide (i ≤ j ∧ j ≤ ws.length ∧ ws.length ≤ 100000) && F.smL ws

noncomputable def oLk : Orc := orc 36 true encLk (fun a => preLk1 a.1 a.2.1 a.2.2.1 a.2.2.2) fun a => resLk1 a.1 a.2.1 a.2.2.1 a.2.2.2

theorem okLk : OrcOK Tryd.prog noG oLk := by
  refine mk_ok Tryd.f36 (keep := false) (by kernel_rfl) (by kernel_rfl) enLk_ok mixed (one_loop (x0 := loopN Tryd.f36 0) (by kernel_rfl) (lpo_ok ?_)) (by first | exact fun _ _ => ⟨rfl, rfl⟩ | (intro h; cases h)) ?_
  · rintro ⟨ws, n, k⟩ hp
    exact lpLk_ok ws n k hp
  rintro ⟨ws, i, j, w⟩ hpre hok
  show (runF enLk false _ (encLk1 _ _ _ _)).val = some (resLk1 _ _ _ _)
  unfold encLk1 resLk1
  rw [evLk]
  simp only [preLk1, Bool.and_eq_true, decide_eq_true_eq] at hpre
  obtain ⟨⟨h1, h2, h3⟩, h4⟩ := hpre
  have e1 : (ws.map eStr).take j = (ws.take j).map eStr := by rw [List.map_take]
  have e2 : ((ws.take j).map eStr).drop i = ((ws.take j).drop i).map eStr := by rw [List.map_drop]
  have hsub : ∀ y ∈ (ws.take j).drop i, y ∈ ws := fun y hy => List.mem_of_mem_take (List.mem_of_mem_drop hy)
  have hs : F.smL ((ws.take j).drop i) = true := List.all_eq_true.2 fun y hy => List.all_eq_true.1 h4 y (hsub y hy)
  have hl : decide (((ws.take j).drop i).length ≤ 9223372036854775807) = true := decide_eq_true (by rw [List.length_drop, List.length_take]; omega)
  have b1 : Nat.ble i j = true := ble_t h1
  have b2 : Nat.ble j ws.length = true := ble_t h2
  simp only [unRCh, preRCh1, unstLk, unstLk0, prlLk, outLk, etaCap, etaMch, etaWrd, etaFnd, etaRatio, etaWay, Option.bind_some, List.length_map, unStrs, unInts, unBools, uneL_eIs, unCaps, uneL_eCaps, unMchs, unWrds, unFnds, unRatios, unWays, F.lt, F.le, cond_true, cond_false, Bool.and_true, Bool.true_and, F.lacks, F.lkF, F.lkN, e1, e2, b1, b2]
  simp only [all_strs, Bool.and_true, cond_true, unstLk, unstLk0, Option.bind_some, hl, hs, Nat.zero_le, decide_true, List.drop_zero, List.length_map]
  by_cases hm : ((ws.take j).drop i).foldl F.lkS (IntKind.i64.wrap (w + 1)) < 0
  · simp [hm]
  · simp [hm]

end M
end Go.Proofs.YtlnflhmepnbcmaaDoor
