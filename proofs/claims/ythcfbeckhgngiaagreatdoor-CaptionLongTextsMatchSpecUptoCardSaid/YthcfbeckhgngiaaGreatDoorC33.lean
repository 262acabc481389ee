/- What is proved here: when two lists of captions are alike (no statement of the seat). -/
import Derived.Test.YthcfbeckhgngiaaGreatDoorC9
namespace Go.Proofs.YthcfbeckhgngiaaGreatDoor
open Go Go.RowKit
set_option linter.unusedVariables false
set_option linter.unusedSimpArgs false

namespace M

theorem drop_at {α : Type} {xs : List α} {k : Nat} {y : α} (h : xs[k]? = some y) : xs.drop k = y :: xs.drop (k + 1) := by
  have hlt := lt_at h
  rw [List.drop_eq_getElem_cons hlt]
  congr 1
  exact (List.getElem?_eq_some_iff.1 h).2

def stSa (a : List Cap) (b : List Cap) (k : Nat) : St := ⟨[(15, vI k), (14, vI a.length), (13, .sl (a.map eCap)), (1, .sl (b.map eCap))], []⟩

def stSa1 (a : (List Cap) × (List Cap) × Nat) : St := stSa a.1 a.2.1 a.2.2

theorem stSa_inj (a a' : (List Cap) × (List Cap) × Nat) (h : stSa1 a = stSa1 a') : a = a' := by
  simp only [stSa1, stSa] at h
  try simp [strs_inj, ints_inj, bools_inj, eL_eIs_inj, eCaps_inj, eCap_iff, eL_eCaps_inj, eMchs_inj, eMch_iff, eWrds_inj, eWrd_iff, eFnds_inj, eFnd_iff, eRatios_inj, eRatio_iff, eWays_inj, eWay_iff] at h
  grind

theorem unstSa (a : List Cap) (b : List Cap) (k : Nat) : unenc stSa1 (St.mk [(15, (vI (↑k : Int))), (14, (vI (↑(List.length a) : Int))), (13, AV.sl (List.map eCap a)), (1, AV.sl (List.map eCap b))] []) = some (a, b, k) := unenc_of stSa_inj (a, b, k) rfl

theorem unstSa0 (a : List Cap) (b : List Cap)  : unenc stSa1 (St.mk [(15, (vI (0 : Int))), (14, (vI (↑(List.length a) : Int))), (13, AV.sl (List.map eCap a)), (1, AV.sl (List.map eCap b))] []) = some (a, b, 0) := unenc_of stSa_inj (a, b, 0) rfl

def outSa (a : List Cap) (b : List Cap) (k : Nat) : T (Ex × St) := .ifB (F.sameCs ((a.zip b).drop k)) (.ret (.exit 0, ⟨[], []⟩)) (.ret (.ret, ⟨[(4, vB false)], []⟩))

noncomputable def prlSa (a : List Cap) (b : List Cap) (k : Nat) : Bool := decide (a.length ≤ 9223372036854775807) && decide (k ≤ a.length) && decide (a.length = b.length)

noncomputable def lpSa : Nat × (St → T (Ex × St)) := (4, lpo [15, 14, 13, 1] [] stSa1 (fun a => prlSa a.1 a.2.1 a.2.2) fun a => outSa a.1 a.2.1 a.2.2)

noncomputable def enSa : Env := envH ty noG lks [oEqS] [] [] [lpSa]

theorem enSa_ok : EnvOK Tryz.prog enSa := by
  refine envH_ok lks_ok ty_ok ?_ ?_
  · simp only [List.forall_mem_cons]
    exact ⟨okEqS, by simp⟩
  · simp

theorem evSaL (a : List Cap) (b : List Cap) (k : Nat) : ((exec enSa (loopN Tryz.f7 0) (stSa a b k)).bind (lessX ([15, 14, 13, 1], []) ([], []) ([4], []))).val =
  bif decide ((↑k : Int) < (↑(List.length a) : Int)) then Option.bind (unenc (List.map eCap) (List.map eCap a)) fun (z : List Cap) => bif decide (k < List.length z) then
  Option.bind (unenc (List.map eCap) (List.map eCap b)) fun (z_1 : List Cap) => bif decide (k < List.length z_1) then bif !bif bif bif bif (List.getD z k (Cap.mk (0 : Int)
  (0 : Int) [] (0 : Int) false false)).fr != (List.getD z_1 k (Cap.mk (0 : Int) (0 : Int) [] (0 : Int) false false)).fr then true else (List.getD z k (Cap.mk (0 : Int) (0 :
  Int) [] (0 : Int) false false)).to != (List.getD z_1 k (Cap.mk (0 : Int) (0 : Int) [] (0 : Int) false false)).to then true else (List.getD z k (Cap.mk (0 : Int) (0 : Int)
  [] (0 : Int) false false)).row != (List.getD z_1 k (Cap.mk (0 : Int) (0 : Int) [] (0 : Int) false false)).row then true else !(List.getD z k (Cap.mk (0 : Int) (0 : Int) []
  (0 : Int) false false)).bef == (List.getD z_1 k (Cap.mk (0 : Int) (0 : Int) [] (0 : Int) false false)).bef then true else !(List.getD z k (Cap.mk (0 : Int) (0 : Int) [] (0
  : Int) false false)).aft == (List.getD z_1 k (Cap.mk (0 : Int) (0 : Int) [] (0 : Int) false false)).aft then Option.bind (unenc encEqS [AV.sl (List.map eStr (List.getD z k
  (Cap.mk (0 : Int) (0 : Int) [] (0 : Int) false false)).lines), AV.sl (List.map eStr (List.getD z_1 k (Cap.mk (0 : Int) (0 : Int) [] (0 : Int) false false)).lines)]) fun
  (z_2 : List ByteArray × List ByteArray) => bif bif bif bif bif bif (List.getD z k (Cap.mk (0 : Int) (0 : Int) [] (0 : Int) false false)).fr != (List.getD z_1 k (Cap.mk (0
  : Int) (0 : Int) [] (0 : Int) false false)).fr then true else (List.getD z k (Cap.mk (0 : Int) (0 : Int) [] (0 : Int) false false)).to != (List.getD z_1 k (Cap.mk (0 :
  Int) (0 : Int) [] (0 : Int) false false)).to then true else (List.getD z k (Cap.mk (0 : Int) (0 : Int) [] (0 : Int) false false)).row != (List.getD z_1 k (Cap.mk (0 : Int)
  (0 : Int) [] (0 : Int) false false)).row then true else !(List.getD z k (Cap.mk (0 : Int) (0 : Int) [] (0 : Int) false false)).bef == (List.getD z_1 k (Cap.mk (0 : Int) (0
  : Int) [] (0 : Int) false false)).bef then true else !(List.getD z k (Cap.mk (0 : Int) (0 : Int) [] (0 : Int) false false)).aft == (List.getD z_1 k (Cap.mk (0 : Int) (0 :
  Int) [] (0 : Int) false false)).aft then true else !F.sameSL z_2.fst z_2.snd then some (Ex.ret, St.mk [(4, (vB false))] []) else some (Ex.normal, St.mk [(15, (vI
  (IntKind.wrap IntKind.i64 ((↑k : Int) + (1 : Int))))), (14, (vI (↑(List.length a) : Int))), (13, AV.sl (List.map eCap a)), (1, AV.sl (List.map eCap b))] []) else bif !bif
  bif bif bif (List.getD z k (Cap.mk (0 : Int) (0 : Int) [] (0 : Int) false false)).fr != (List.getD z_1 k (Cap.mk (0 : Int) (0 : Int) [] (0 : Int) false false)).fr then
  true else (List.getD z k (Cap.mk (0 : Int) (0 : Int) [] (0 : Int) false false)).to != (List.getD z_1 k (Cap.mk (0 : Int) (0 : Int) [] (0 : Int) false false)).to then true
  else (List.getD z k (Cap.mk (0 : Int) (0 : Int) [] (0 : Int) false false)).row != (List.getD z_1 k (Cap.mk (0 : Int) (0 : Int) [] (0 : Int) false false)).row then true
  else !(List.getD z k (Cap.mk (0 : Int) (0 : Int) [] (0 : Int) false false)).bef == (List.getD z_1 k (Cap.mk (0 : Int) (0 : Int) [] (0 : Int) false false)).bef then true
  else !(List.getD z k (Cap.mk (0 : Int) (0 : Int) [] (0 : Int) false false)).aft == (List.getD z_1 k (Cap.mk (0 : Int) (0 : Int) [] (0 : Int) false false)).aft then none
  else some (Ex.ret, St.mk [(4, (vB false))] []) else none else none else some (Ex.exit (0 : Nat), St.mk [] []) := by kernel_rfl

theorem lpSa_ok (a : List Cap) (b : List Cap) (k : Nat) (hp : prlSa a b k = true) : ∀ ex s', (outSa a b k).val = some (ex, s') → LoopOK enSa (loopN Tryz.f7 0) (stSa a b k) ex s' := by
  simp only [prlSa, Bool.and_eq_true, decide_eq_true_eq] at hp
  obtain ⟨⟨h1, h2⟩, h3⟩ := hp
  have hz : (a.zip b).length = a.length := by rw [List.length_zip]; omega
  refine loop_all (xs := a.zip b) (st := stSa a b) (p := fun p => F.sameC p.1 p.2) (n := ([15, 14, 13, 1], [])) (e := ([], [])) (r := ([4], [])) ?_ ⟨by simp, rfl⟩ ⟨by simp, rfl⟩ (fun _ => rfl) ?_ k (by omega)
  · rw [hz]; rw [evSaL]; simp
  · intro k y hy
    obtain ⟨ha, hb⟩ := F.zip_at hy
    have hlt := lt_at ha
    have hlt' := lt_at hb
    rw [evSaL]
    simp only [unEqS, preEqS1, unstSa, unstSa0, prlSa, outSa, etaCap, etaMch, etaWrd, etaFnd, etaRatio, etaWay, Option.bind_some, List.length_map, unStrs, unInts, unBools, uneL_eIs, unCaps, uneL_eCaps, unMchs, unWrds, unFnds, unRatios, unWays, F.lt, F.le, cond_true, cond_false, Bool.and_true, Bool.true_and, cast_lt hlt, decide_eq_true hlt, decide_eq_true hlt', next_at hlt h1, getD_at ha, getD_at hb, stSa, F.sameC, bne]
    cases (y.1.fr == y.2.fr) <;> cases (y.1.to == y.2.to) <;> cases (y.1.row == y.2.row) <;> cases (y.1.bef == y.2.bef) <;> cases (y.1.aft == y.2.aft) <;> cases F.sameSL y.1.lines y.2.lines <;> rfl

theorem evSa (a : List Cap) (b : List Cap) : (runF enSa false Tryz.f7 [.sl (a.map eCap), .sl (b.map eCap)]).val =
  bif (↑(List.length (List.map eCap a)) : Int) != (↑(List.length (List.map eCap b)) : Int) then some ((vB false), []) else Option.bind (unenc stSa1 (St.mk [(15, (vI (0 :
  Int))), (14, (vI (↑(List.length (List.map eCap a)) : Int))), (13, AV.sl (List.map eCap a)), (1, AV.sl (List.map eCap b))] [])) fun (z : List Cap × List Cap × Nat) => bif
  decide (List.length z.fst ≤ (9223372036854775807 : Nat)) && decide (z.snd.snd ≤ List.length z.fst) && decide (List.length z.fst = List.length z.snd.fst) && true then bif
  F.sameCs (List.drop z.snd.snd (List.zip z.fst z.snd.fst)) then some ((vB true), []) else some ((vB false), []) else none := by kernel_rfl

def encSa1 (a : List Cap) (b : List Cap) : List AV := [.sl (a.map eCap), .sl (b.map eCap)]

def encSa (a : (List Cap) × (List Cap)) : List AV := encSa1 a.1 a.2

theorem encSa_inj (a a' : (List Cap) × (List Cap)) (h : encSa a = encSa a') : a = a' := by
  simp only [encSa, encSa1] at h
  try simp [strs_inj, ints_inj, bools_inj, eL_eIs_inj, eCaps_inj, eCap_iff, eL_eCaps_inj, eMchs_inj, eMch_iff, eWrds_inj, eWrd_iff, eFnds_inj, eFnd_iff, eRatios_inj, eRatio_iff, eWays_inj, eWay_iff] at h
  grind

theorem unSa (a : List Cap) (b : List Cap) : unenc encSa ([AV.sl (List.map eCap a), AV.sl (List.map eCap b)]) = some (a, b) := unenc_of encSa_inj (a, b) rfl

def resSa1 (a : List Cap) (b : List Cap) : AV × Heap := (vB (F.sameCL a b), [])

def preSa1 (a : List Cap) (b : List Cap) : Bool := true

noncomputable def oSa : Orc := orc 7 true encSa (fun a => preSa1 a.1 a.2) fun a => resSa1 a.1 a.2

theorem okSa : OrcOK Tryz.prog noG oSa := by
  refine mk_ok Tryz.f7 (keep := false) (by kernel_rfl) (by kernel_rfl) enSa_ok mixed (one_loop (x0 := loopN Tryz.f7 0) (by kernel_rfl) (lpo_ok ?_)) (by first | exact fun _ _ => ⟨rfl, rfl⟩ | (intro h; cases h)) ?_
  · rintro ⟨a, b, k⟩ hp
    exact lpSa_ok a b k hp
  rintro ⟨a, b⟩ hpre hok
  show (runF enSa false _ (encSa1 _ _)).val = some (resSa1 _ _)
  unfold encSa1 resSa1
  rw [evSa]
  have hx := caps_len (hok _ (List.mem_cons_self ..))
  simp only [unEqS, preEqS1, unstSa, unstSa0, prlSa, outSa, etaCap, etaMch, etaWrd, etaFnd, etaRatio, etaWay, Option.bind_some, List.length_map, unStrs, unInts, unBools, uneL_eIs, unCaps, uneL_eCaps, unMchs, unWrds, unFnds, unRatios, unWays, F.lt, F.le, cond_true, cond_false, Bool.and_true, Bool.true_and, F.sameCL, hx, List.drop_zero, Nat.zero_le, decide_true, F.len_eq, bne]
  cases decide (a.length = b.length) <;> cases F.sameCs (a.zip b) <;> rfl

end M
end Go.Proofs.YthcfbeckhgngiaaGreatDoor
