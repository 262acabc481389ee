/- What is proved here: the statement ListDeltasMatchSpec where what it reads is of bulk at most 1048576: the law returns true, and each argument reads as it did; tied to the program's text where variables are listed. -/
import Derived.Lib.LaidU8
import Derived.MakeChecks
import Derived.Shelf.Vars
import Derived.Test.YtajmdlpanlbnjaaGreatDoorRows
import Derived.Test.YtajmdlpanlbnjaaGreatDoorChecked
import Derived.Test.YtajmdlpanlbnjaaGreatDoorCards
import Derived.Test.YtajmdlpanlbnjaaGreatDoorTie
import Derived.SevenTiedAt
import Derived.Lay
import Derived.Test.YtajmdlpanlbnjaaGreatDoorB5

namespace Go.Proofs.YtajmdlpanlbnjaaGreatDoor
open Go Go.RowKit
set_option linter.unusedVariables false
set_option linter.unusedSimpArgs false
set_option maxHeartbeats 1000000

def F.cat (s : ByteArray) : List ByteArray → ByteArray
  | [] => s
  | x :: l => F.cat (s ++ x) l

theorem F.cat_le : ∀ (l : List ByteArray) (s : ByteArray), s.size ≤ (F.cat s l).size
  | [], s => Nat.le_refl _
  | x :: l, s => by
    have := F.cat_le l (s ++ x)
    rw [ByteArray.size_append] at this
    rw [F.cat]
    omega

def F.isO {α : Type} (o : Option α) : Bool := o.isNone

def F.putB (o : Option ByteArray) (l : List ByteArray) : Bool := bif F.isO o then decide (l.length = 1) && decide ((l.headD ⟨⟨[]⟩⟩).size ≤ 1000) else decide (l.length ≤ 1000) && decide ((F.cat (F.bldS o) l).size ≤ 90000000)

namespace M

def stPt (ps : List ByteArray) (s : ByteArray) (k : Nat) : St := ⟨[(7, vI k), (6, vI ps.length), (5, .own 900), (1, .ptr 901 0 0)], [(902, ⟨false, 5, 1, F.eUs s⟩), (901, ⟨true, 81, 0, [[.ptr 901 0 0, .own 902]]⟩), (900, ⟨false, 9, 1, ps.map eStr⟩)]⟩

def stPt1 (a : (List ByteArray) × ByteArray × Nat) : St := stPt a.1 a.2.1 a.2.2

theorem stPt_inj (a a' : (List ByteArray) × ByteArray × Nat) (h : stPt1 a = stPt1 a') : a = a' := by
  simp only [stPt1, stPt] at h
  try simp [eUs_inj, strs_inj, ints_inj, ents_inj, eEnt_iff, eLst_iff, eSnds_inj, eStrms_inj] at h
  grind

theorem unstPt (ps : List ByteArray) (s : ByteArray) (k : Nat) : unenc stPt1 (St.mk [(7, (vI (↑k : Int))), (6, (vI (↑(List.length ps) : Int))), (5, .own 900), (1, .ptr 901 0 0)] [(902, Blk.mk false 5 1 (F.eUs s)), (901, Blk.mk true 81 0 [[.ptr 901 0
  0, .own 902]]), (900, Blk.mk false 9 1 (List.map eStr ps))]) = some (ps, s, k) := unenc_of stPt_inj (ps, s, k) rfl

theorem unstPt0 (ps : List ByteArray) (s : ByteArray)  : unenc stPt1 (St.mk [(7, (vI (0 : Int))), (6, (vI (↑(List.length ps) : Int))), (5, .own 900), (1, .ptr 901 0 0)] [(902, Blk.mk false 5 1 (F.eUs s)), (901, Blk.mk true 81 0 [[.ptr 901 0
  0, .own 902]]), (900, Blk.mk false 9 1 (List.map eStr ps))]) = some (ps, s, 0) := unenc_of stPt_inj (ps, s, 0) rfl

def outPt (ps : List ByteArray) (s : ByteArray) (k : Nat) : T (Ex × St) := .ret (.exit 0, ⟨[(1, .ptr 901 0 0)], [(902, ⟨false, 5, 1, F.eUs (F.cat s (ps.drop k))⟩), (901, ⟨true, 81, 0, [[.ptr 901 0 0, .own 902]]⟩), (900, ⟨false, 9, 1, ps.map eStr⟩)]⟩)

noncomputable def prlPt (ps : List ByteArray) (s : ByteArray) (k : Nat) : Bool := decide (ps.length ≤ 1000) && decide (k ≤ ps.length) && decide ((F.cat s (ps.drop k)).size ≤ 90000000)

noncomputable def lpPt : Nat × (St → T (Ex × St)) := (1, lpo [7, 6, 5, 1] [902, 901, 900] stPt1 (fun a => prlPt a.1 a.2.1 a.2.2) fun a => outPt a.1 a.2.1 a.2.2)

noncomputable def enPt : Env := envH ty noG lks [] [oWst, oWby] [902] [lpPt]

theorem enPt_ok : EnvOK Tryz.prog enPt := by
  refine envH_ok lks_ok ty_ok ?_ ?_
  · simp
  · simp only [List.forall_mem_cons]
    exact ⟨okWst, okWby, by simp⟩

theorem evPtL (ps : List ByteArray) (s : ByteArray) (k : Nat) : ((exec enPt (loopN Tryz.f49 0) (stPt ps s k)).bind (lessX ([7, 6, 5, 1], [902, 901, 900]) ([1], [902, 901, 900]) ([], []))).val =
  bif decide ((↑k : Int) < (↑(List.length ps) : Int)) then bif decide (k < List.length (Blk.mk false 9 1 (List.map eStr ps)).rows) then Option.bind (unenc (List.map eStr) (List.map eStr ps)) fun (z : List ByteArray) => bif decide (k < List.length z) then Option.bind (unenc encWst ([.ptr 900 0 0, (vS (List.getD z k (ByteArray.mk (Array.mk []))))], [(901, Blk.mk false 5 1 (F.eUs s)), (900, Blk.mk true 81 0 [[.ptr 900 0 0, .own 901]])])) fun (z : Option ByteArray × ByteArray) => bif F.wstB z.fst z.snd then bif match z.fst with | some val => false | none => true then none else some (Ex.normal, St.mk [(7, (vI (IntKind.wrap IntKind.i64 ((↑k : Int) + (1 : Int))))), (6, (vI (↑(List.length ps) : Int))), (5, .own 900), (1, .ptr 901 0 0)] [(902, Blk.mk false 5 1 (F.eUs (F.bldS z.fst ++ z.snd))), (901, Blk.mk true 81 0 [[.ptr 901 0 0, .own 902]]), (900, Blk.mk false 9 1 (List.map eStr ps))]) else none else none else none else some (Ex.exit (0 : Nat), St.mk [(1, .ptr 901 0 0)] [(902, Blk.mk false 5 1 (F.eUs s)), (901, Blk.mk true 81 0 [[.ptr 901 0 0, .own 902]]), (900, Blk.mk false 9 1 (List.map eStr ps))]) := (execR_bind _ _ _).symm.trans (by kernel_rfl)

theorem lpPt_ok (ps : List ByteArray) (s : ByteArray) (k : Nat) (hp : prlPt ps s k = true) : ∀ ex s', (outPt ps s k).val = some (ex, s') → LoopOK enPt (loopN Tryz.f49 0) (stPt ps s k) ex s' := by
  simp only [prlPt, Bool.and_eq_true, decide_eq_true_eq] at hp
  obtain ⟨⟨h1, h2⟩, h3⟩ := hp
  refine loop_gen (st := fun p : ByteArray × Nat => stPt ps p.1 p.2) (out := fun p => outPt ps p.1 p.2) (I := fun p => p.2 ≤ ps.length ∧ (F.cat p.1 (ps.drop p.2)).size ≤ 90000000) (n := ([7, 6, 5, 1], [902, 901, 900])) (e := ([1], [902, 901, 900])) (r := ([], [])) (fun p => ps.length - p.2) ?_ (s, k) ⟨h2, h3⟩
  clear h2 h3
  rintro ⟨s, k⟩ ⟨h2, h3⟩
  simp only at h2 h3
  by_cases hlt : k < ps.length
  · have hy : ps[k]? = some ps[k] := List.getElem?_eq_getElem hlt
    generalize ps[k] = y at hy
    have hd := drop_y hy
    rw [hd, F.cat] at h3
    have hc := F.cat_le (ps.drop (k + 1)) (s ++ y)
    rw [ByteArray.size_append] at hc
    have hi : idx (k : Int) = some k := rfl
    right
    refine ⟨(s ++ y, k + 1), ?_, rfl, ⟨hlt, h3⟩, by simp only; omega, ?_⟩
    · rw [evPtL]
      simp only [unWst, unWby, preWst1, preWby1, unstPt, unstPt0, prlPt, outPt, etaEnt, etaLst, etaSnd, etaStrm, etaMas, Option.bind_some, List.length_map, unStrs, unInts, unBools, unEnts, unItms, unTrns, cond_true, cond_false, Bool.and_true, Bool.true_and, unWstU, unBstU, F.bldS_some, F.bldLen_some, cast_lt hlt, decide_eq_true hlt, getD_at hy, hi, preWst1, resWst]
      rw [F.wstB_some (by omega : s.size + y.size ≤ 140737488355328), next_at hlt (by omega : ps.length ≤ 9223372036854775807)]
      rfl
    · simp only [outPt, hd, F.cat]
  · have : k = ps.length := by omega
    subst this
    left
    refine ⟨(.exit 0, ⟨[(1, .ptr 901 0 0)], [(902, ⟨false, 5, 1, F.eUs s⟩), (901, ⟨true, 81, 0, [[.ptr 901 0 0, .own 902]]⟩), (900, ⟨false, 9, 1, ps.map eStr⟩)]⟩), ?_, ?_, by simp, rfl⟩
    · rw [evPtL]
      simp only [unWst, unWby, preWst1, preWby1, unstPt, unstPt0, prlPt, outPt, etaEnt, etaLst, etaSnd, etaStrm, etaMas, Option.bind_some, List.length_map, unStrs, unInts, unBools, unEnts, unItms, unTrns, cond_true, cond_false, Bool.and_true, Bool.true_and, unWstU, unBstU, F.bldS_some, F.bldLen_some]
      try simp
    · simp only [outPt, List.drop_length, F.cat]
      rfl

theorem evPt (ps : List ByteArray) (s : ByteArray) : (runH enPt [902] Tryz.f49 [.own 900, .ptr 901 0 0] [(902, ⟨false, 5, 1, F.eUs s⟩), (901, ⟨true, 81, 0, [[.ptr 901 0 0, .own 902]]⟩), (900, ⟨false, 9, 1, ps.map eStr⟩)]).val =
  Option.bind (unenc stPt1 (St.mk [(7, (vI (0 : Int))), (6, (vI (↑(List.length (List.map eStr ps)) : Int))), (5, .own 900), (1, .ptr 901 0 0)] [(902, Blk.mk false 5 1 (F.eUs
  s)), (901, Blk.mk true 81 0 [[.ptr 901 0 0, .own 902]]), (900, Blk.mk false 9 1 (List.map eStr ps))])) fun (z : List ByteArray × ByteArray × Nat) => bif decide
  (List.length z.fst ≤ (1000 : Nat)) && decide (z.snd.snd ≤ List.length z.fst) && decide (ByteArray.size (F.cat z.snd.fst (List.drop z.snd.snd z.fst)) ≤ (90000000 : Nat)) &&
  true then Option.bind (unenc encWby ([.ptr 900 0 0, (vU (10 : Int))], [(901, Blk.mk false 5 1 (F.eUs (F.cat z.snd.fst (List.drop z.snd.snd z.fst)))), (900, Blk.mk true 81
  0 [[.ptr 900 0 0, .own 901]])])) fun (z_1 : ByteArray) => bif decide (ByteArray.size z_1 ≤ (100000000 : Nat)) then some (AV.tup [], [(902, Blk.mk false 5 1 (F.eUs (z_1 ++
  ByteArray.mk (Array.mk [(10 : UInt8)])))), (901, Blk.mk true 81 0 [[.ptr 901 0 0, .own 902]]), (900, Blk.mk false 9 1 (List.map eStr z.fst))], [(902 : Nat)]) else none
  else none := (runHR_val).symm.trans (by kernel_rfl)

def encPt1 (ps : List ByteArray) (s : ByteArray) : List AV × Heap := ([.own 900, .ptr 901 0 0], [(902, ⟨false, 5, 1, F.eUs s⟩), (901, ⟨true, 81, 0, [[.ptr 901 0 0, .own 902]]⟩), (900, ⟨false, 9, 1, ps.map eStr⟩)])

def encPt (a : (List ByteArray) × ByteArray) : List AV × Heap := encPt1 a.1 a.2

theorem encPt_inj (a a' : (List ByteArray) × ByteArray) (h : encPt a = encPt a') : a = a' := by
  simp only [encPt, encPt1] at h
  try simp [eUs_inj, strs_inj, ints_inj, ents_inj, eEnt_iff, eLst_iff, eSnds_inj, eStrms_inj] at h
  grind

def resPt1 (ps : List ByteArray) (s : ByteArray) : AV × Heap × List Nat := (.tup [], [(902, ⟨false, 5, 1, F.eUs (F.cat s ps ++ ⟨⟨[10]⟩⟩)⟩), (901, ⟨true, 81, 0, [[.ptr 901 0 0, .own 902]]⟩), (900, ⟨false, 9, 1, ps.map eStr⟩)], [902])

def prePt1 (ps : List ByteArray) (s : ByteArray) : Bool := decide (ps.length ≤ 1000) && decide ((F.cat s ps).size ≤ 90000000)

noncomputable def oPt : OrcH := orcH 49 encPt (fun a => prePt1 a.1 a.2) fun a => resPt1 a.1 a.2

theorem okPt : OrcHOK Tryz.prog noG oPt := by
  refine mkH_ok (mv := [902]) Tryz.f49 (by kernel_rfl) (by kernel_rfl) enPt_ok mixed (one_loop (x0 := loopN Tryz.f49 0) (by kernel_rfl) (lpo_ok ?_)) ?_
  · rintro ⟨ps, s, k⟩ hp
    exact lpPt_ok ps s k hp
  rintro ⟨ps, s⟩ hpre hok hokh
  show (runH enPt [902] _ (encPt1 _ _).1 (encPt1 _ _).2).val = some (resPt1 _ _)
  unfold encPt1 resPt1
  rw [evPt]
  simp only [prePt1, Bool.and_eq_true, decide_eq_true_eq] at hpre
  simp only [unWst, unWby, preWst1, preWby1, unstPt, unstPt0, prlPt, outPt, etaEnt, etaLst, etaSnd, etaStrm, etaMas, Option.bind_some, List.length_map, unStrs, unInts, unBools, unEnts, unItms, unTrns, cond_true, cond_false, Bool.and_true, Bool.true_and, unWstU, unBstU, F.bldS_some, F.bldLen_some, decide_eq_true hpre.1, decide_eq_true hpre.2, List.drop_zero, Nat.zero_le, decide_true, decide_eq_true (by omega : (F.cat s ps).size ≤ 100000000)]

def stP0 (x : ByteArray) : St := ⟨[(7, vI 0), (6, vI ((1 : Nat) : Int)), (5, .own 900), (1, .ptr 901 0 0)], [(901, ⟨true, 81, 0, [[.v (.pointer none), .v (.slice none 0 0)]]⟩), (900, ⟨false, 9, 1, [[vS x]]⟩)]⟩

def stP01 (a : ByteArray) : St := stP0 a

theorem stP0_inj (a a' : ByteArray) (h : stP01 a = stP01 a') : a = a' := by
  simp only [stP01, stP0] at h
  try simp [eUs_inj, strs_inj, ints_inj, ents_inj, eEnt_iff, eLst_iff, eSnds_inj, eStrms_inj] at h
  grind

theorem unstP0 (x : ByteArray) : unenc stP01 (St.mk [(7, (vI (0 : Int))), (6, (vI (↑(1 : Nat) : Int))), (5, .own 900), (1, .ptr 901 0 0)] [(901, Blk.mk true 81 0 [[AV.v (Value.pointer none), AV.v (Value.slice none (0
  : Nat) (0 : Nat))]]), (900, Blk.mk false 9 1 [[(vS x)]])]) = some (x) := unenc_of stP0_inj (x) rfl

def outP0 (x : ByteArray) : T (Ex × St) := .ret (.exit 0, ⟨[(1, .ptr 901 0 0)], [(13000, ⟨false, 5, 1, F.eUs x⟩), (901, ⟨true, 81, 0, [[.ptr 901 0 0, .own 13000]]⟩), (900, ⟨false, 9, 1, [[vS x]]⟩)]⟩)

noncomputable def prlP0 (x : ByteArray) : Bool := decide (x.size ≤ 1000)

noncomputable def lpP0 : Nat × (St → T (Ex × St)) := (1, lpo [7, 6, 5, 1] [901, 900] stP01 (fun a => prlP0 a) fun a => outP0 a)

noncomputable def enP0 : Env := envH ty noG lks [] [oWst, oWby] [902, 13000] [lpP0]

theorem enP0_ok : EnvOK Tryz.prog enP0 := by
  refine envH_ok lks_ok ty_ok ?_ ?_
  · simp
  · simp only [List.forall_mem_cons]
    exact ⟨okWst, okWby, by simp⟩

def stP1 (x : ByteArray) : St := ⟨[(7, vI 1), (6, vI ((1 : Nat) : Int)), (5, .own 900), (1, .ptr 901 0 0)], [(13000, ⟨false, 5, 1, F.eUs x⟩), (901, ⟨true, 81, 0, [[.ptr 901 0 0, .own 13000]]⟩), (900, ⟨false, 9, 1, [[vS x]]⟩)]⟩

theorem evP0a (x : ByteArray) : ((exec enP0 (loopN Tryz.f49 0) (stP0 x)).bind (lessX ([7, 6, 5, 1], [13000, 901, 900]) ([1], [13000, 901, 900]) ([], []))).val =
  Option.bind (unenc (List.map eStr) [[(vS x)]]) fun (z : List ByteArray) => bif decide ((0 : Nat) < List.length z) then Option.bind (unenc encWst ([.ptr 900 0 0, (vS (List.getD z (0 : Nat) (ByteArray.mk (Array.mk []))))], [(900, Blk.mk true 81 0 [[AV.v (Value.pointer none), AV.v (Value.slice none (0 : Nat) (0 : Nat))]])])) fun (z : Option ByteArray × ByteArray) => bif F.wstB z.fst z.snd then bif match z.fst with | some val => false | none => true then some (Ex.normal, St.mk [(7, (vI (IntKind.wrap IntKind.i64 ((0 : Int) + (1 : Int))))), (6, (vI (↑(1 : Nat) : Int))), (5, .own 900), (1, .ptr 901 0 0)] [(13000, Blk.mk false 5 1 (F.eUs z.snd)), (901, Blk.mk true 81 0 [[.ptr 901 0 0, .own 13000]]), (900, Blk.mk false 9 1 [[(vS x)]])]) else none else none else none := (execR_bind _ _ _).symm.trans (by kernel_rfl)

theorem evP0b (x : ByteArray) : ((exec enP0 (loopN Tryz.f49 0) (stP1 x)).bind (lessX ([7, 6, 5, 1], [13000, 901, 900]) ([1], [13000, 901, 900]) ([], []))).val =
  some (Ex.exit (0 : Nat), St.mk [(1, .ptr 901 0 0)] [(13000, Blk.mk false 5 1 (F.eUs x)), (901, Blk.mk true 81 0 [[.ptr 901 0 0, .own 13000]]), (900, Blk.mk false 9 1 [[(vS
  x)]])]) := (execR_bind _ _ _).symm.trans (by kernel_rfl)

theorem lpP0_ok (x : ByteArray) (hp : prlP0 x = true) : ∀ ex s', (outP0 x).val = some (ex, s') → LoopOK enP0 (loopN Tryz.f49 0) (stP0 x) ex s' := by
  simp only [prlP0, decide_eq_true_eq] at hp
  refine loop_gen (st := fun b : Bool => match b with | false => stP0 x | true => stP1 x) (out := fun _ => outP0 x) (I := fun _ => True) (n := ([7, 6, 5, 1], [13000, 901, 900])) (e := ([1], [13000, 901, 900])) (r := ([], [])) (fun b => match b with | false => 1 | true => 0) ?_ false trivial
  intro b _
  cases b
  · right
    refine ⟨true, ?_, rfl, trivial, by decide, rfl⟩
    show ((exec enP0 (loopN Tryz.f49 0) (stP0 x)).bind _).val = _
    rw [evP0a]
    have hun : unenc (List.map eStr) [[vS x]] = some [x] := unStrs [x]
    have hb : F.wstB none x = true := F.wstB_none (by omega)
    simp only [unWst, unWby, preWst1, preWby1, unstP0, prlP0, outP0, etaEnt, etaLst, etaSnd, etaStrm, etaMas, Option.bind_some, List.length_map, unStrs, unInts, unBools, unEnts, unItms, unTrns, cond_true, cond_false, Bool.and_true, Bool.true_and, unWstU, unBstU, F.bldS_some, F.bldLen_some, unWst, preWst1, resWst, hun]
    show (bif decide (0 < 1) then bif F.wstB none x then _ else _ else _) = _
    rw [hb]
    rfl
  · left
    refine ⟨(.exit 0, ⟨[(1, .ptr 901 0 0)], [(13000, ⟨false, 5, 1, F.eUs x⟩), (901, ⟨true, 81, 0, [[.ptr 901 0 0, .own 13000]]⟩), (900, ⟨false, 9, 1, [[vS x]]⟩)]⟩), ?_, rfl, by simp, rfl⟩
    show ((exec enP0 (loopN Tryz.f49 0) (stP1 x)).bind _).val = _
    rw [evP0b]
    try rfl

theorem evP0 (x : ByteArray) : (runH enP0 [] Tryz.f49 [.own 900, .ptr 901 0 0] [(901, ⟨true, 81, 0, [[.v (.pointer none), .v (.slice none 0 0)]]⟩), (900, ⟨false, 9, 1, [[vS x]]⟩)]).val =
  Option.bind (unenc stP01 (St.mk [(7, (vI (0 : Int))), (6, (vI (↑(1 : Nat) : Int))), (5, .own 900), (1, .ptr 901 0 0)] [(901, Blk.mk true 81 0 [[AV.v (Value.pointer none),
  AV.v (Value.slice none (0 : Nat) (0 : Nat))]]), (900, Blk.mk false 9 1 [[(vS x)]])])) fun (z : ByteArray) => bif decide (ByteArray.size z ≤ (1000 : Nat)) && true then
  Option.bind (unenc encWby ([.ptr 900 0 0, (vU (10 : Int))], [(901, Blk.mk false 5 1 (F.eUs z)), (900, Blk.mk true 81 0 [[.ptr 900 0 0, .own 901]])])) fun (z_1 : ByteArray)
  => bif decide (ByteArray.size z_1 ≤ (100000000 : Nat)) then some (AV.tup [], [(901, Blk.mk true 81 0 [[.ptr 901 0 0, .own 0]]), (900, Blk.mk false 9 1 [[(vS z)]]), (0,
  Blk.mk false 5 1 (F.eUs (z_1 ++ ByteArray.mk (Array.mk [(10 : UInt8)]))))], []) else none else none := (runHR_val).symm.trans (by kernel_rfl)

def encP01 (x : ByteArray) : List AV × Heap := ([.own 900, .ptr 901 0 0], [(901, ⟨true, 81, 0, [[.v (.pointer none), .v (.slice none 0 0)]]⟩), (900, ⟨false, 9, 1, [[vS x]]⟩)])

def encP0 (a : ByteArray) : List AV × Heap := encP01 a

theorem encP0_inj (a a' : ByteArray) (h : encP0 a = encP0 a') : a = a' := by
  simp only [encP0, encP01] at h
  try simp [eUs_inj, strs_inj, ints_inj, ents_inj, eEnt_iff, eLst_iff, eSnds_inj, eStrms_inj] at h
  grind

def resP01 (x : ByteArray) : AV × Heap × List Nat := (.tup [], [(901, ⟨true, 81, 0, [[.ptr 901 0 0, .own 0]]⟩), (900, ⟨false, 9, 1, [[vS x]]⟩), (0, ⟨false, 5, 1, F.eUs (x ++ ⟨⟨[10]⟩⟩)⟩)], [])

def preP01 (x : ByteArray) : Bool := decide (x.size ≤ 1000)

noncomputable def oP0 : OrcH := orcH 49 encP0 (fun a => preP01 a) fun a => resP01 a

theorem okP0 : OrcHOK Tryz.prog noG oP0 := by
  refine mkH_ok (mv := []) Tryz.f49 (by kernel_rfl) (by kernel_rfl) enP0_ok mixed (one_loop (x0 := loopN Tryz.f49 0) (by kernel_rfl) (lpo_ok ?_)) ?_
  · intro x hp
    exact lpP0_ok x hp
  rintro x hpre hok hokh
  show (runH enP0 [] _ (encP01 _).1 (encP01 _).2).val = some (resP01 _)
  unfold encP01 resP01
  rw [evP0]
  have hpre : x.size ≤ 1000 := of_decide_eq_true hpre
  simp only [unWst, unWby, preWst1, preWby1, unstP0, prlP0, outP0, etaEnt, etaLst, etaSnd, etaStrm, etaMas, Option.bind_some, List.length_map, unStrs, unInts, unBools, unEnts, unItms, unTrns, cond_true, cond_false, Bool.and_true, Bool.true_and, unWstU, unBstU, F.bldS_some, F.bldLen_some, decide_eq_true hpre, decide_eq_true (by omega : x.size ≤ 100000000)]

def encPut (a : Option ByteArray × List ByteArray) : List AV × Heap := ([.own 900, .ptr 901 0 0], match a.1 with
  | none => [(901, ⟨true, 81, 0, [[.v (.pointer none), .v (.slice none 0 0)]]⟩), (900, ⟨false, 9, 1, a.2.map eStr⟩)]
  | some s => [(902, ⟨false, 5, 1, F.eUs s⟩), (901, ⟨true, 81, 0, [[.ptr 901 0 0, .own 902]]⟩), (900, ⟨false, 9, 1, a.2.map eStr⟩)])

theorem encPut_inj (a a' : Option ByteArray × List ByteArray) (h : encPut a = encPut a') : a = a' := by
  obtain ⟨o, l⟩ := a
  obtain ⟨o', l'⟩ := a'
  unfold encPut at h
  cases o with
  | none => cases o' with
    | none =>
      simp only [Prod.mk.injEq, List.cons.injEq, Blk.mk.injEq, true_and, and_true] at h
      rw [strs_inj.1 h]
    | some s => simp at h
  | some s => cases o' with
    | none => simp at h
    | some s' =>
      simp only [Prod.mk.injEq, List.cons.injEq, Blk.mk.injEq, true_and, and_true] at h
      obtain ⟨h1, h2⟩ := h
      rw [strs_inj.1 h2, eUs_inj.1 h1]

theorem unPut0 (x : ByteArray) : unenc encPut (([.own 900, .ptr 901 0 0], [(901, Blk.mk true 81 0 [[AV.v (Value.pointer none), AV.v (Value.slice none (0 : Nat) (0 : Nat))]]), (900, Blk.mk false 9 1 [[(vS x)]])])) = some (none, [x]) := unenc_of encPut_inj (none, [x]) rfl

theorem unPut1 (s : ByteArray) (x : ByteArray) : unenc encPut (([.own 900, .ptr 901 0 0], [(902, Blk.mk false 5 1 (F.eUs s)), (901, Blk.mk true 81 0 [[.ptr 901 0 0, .own 902]]), (900, Blk.mk false 9 1 [[(vS x)]])])) = some (some s, [x]) := unenc_of encPut_inj (some s, [x]) rfl

theorem unPut2 (s : ByteArray) (x : ByteArray) (y : ByteArray) : unenc encPut (([.own 900, .ptr 901 0 0], [(902, Blk.mk false 5 1 (F.eUs s)), (901, Blk.mk true 81 0 [[.ptr 901 0 0, .own 902]]), (900, Blk.mk false 9 1 [[(vS x)], [(vS y)]])])) = some (some s, [x, y]) := unenc_of encPut_inj (some s, [x, y]) rfl

theorem unPut (s : ByteArray) (l : List ByteArray) : unenc encPut (([.own 900, .ptr 901 0 0], [(902, Blk.mk false 5 1 (F.eUs s)), (901, Blk.mk true 81 0 [[.ptr 901 0 0, .own 902]]), (900, Blk.mk false 9 1 (List.map eStr l))])) = some (some s, l) := unenc_of encPut_inj (some s, l) rfl

def prePut1 (o : Option ByteArray) (l : List ByteArray) : Bool := F.putB o l

def resPut (a : Option ByteArray × List ByteArray) : T (AV × Heap × List Nat) := .ifB a.1.isNone
  (.ret (.tup [], [(901, ⟨true, 81, 0, [[.ptr 901 0 0, .own 0]]⟩), (900, ⟨false, 9, 1, a.2.map eStr⟩), (0, ⟨false, 5, 1, F.eUs (a.2.headD ⟨⟨[]⟩⟩ ++ ⟨⟨[10]⟩⟩)⟩)], []))
  (.ret (.tup [], [(902, ⟨false, 5, 1, F.eUs (F.cat (F.bldS a.1) a.2 ++ ⟨⟨[10]⟩⟩)⟩), (901, ⟨true, 81, 0, [[.ptr 901 0 0, .own 902]]⟩), (900, ⟨false, 9, 1, a.2.map eStr⟩)], [902]))

noncomputable def oPut : OrcH := orcT 49 encPut (fun a => prePut1 a.1 a.2) resPut

theorem okPut : OrcHOK Tryz.prog noG oPut := by
  refine orcT_ok ⟨Tryz.f49, by kernel_rfl, by kernel_rfl, by kernel_rfl⟩ (fun a r hp _ _ hr => ?_)
  obtain ⟨o, l⟩ := a
  cases o with
  | none =>
    have hp : (decide (l.length = 1) && decide ((l.headD ⟨⟨[]⟩⟩).size ≤ 1000)) = true := hp
    simp only [Bool.and_eq_true, decide_eq_true_eq] at hp
    obtain ⟨x, l0, rfl⟩ := List.exists_cons_of_length_eq_add_one (l := l) (n := 0) hp.1
    have hl0 : l0 = [] := List.length_eq_zero_iff.1 (by have := hp.1; simpa using this)
    subst hl0
    have hx : x.size ≤ 1000 := hp.2
    have hr : resP01 x = r := Option.some.inj hr
    subst hr
    refine okP0.1 (encP0 x).1 (encP0 x).2 _ _ _ ?_
    show (T.opt (unenc encP0 (encP0 x)) fun a => T.ifB (preP01 a) (T.ret (resP01 a)) T.fail).val = _
    rw [unenc_of encP0_inj x rfl]
    show (T.ifB (decide (x.size ≤ 1000)) (T.ret (resP01 x)) T.fail).val = _
    rw [decide_eq_true hx]
    rfl
  | some s =>
    have hp : (decide (l.length ≤ 1000) && decide ((F.cat s l).size ≤ 90000000)) = true := hp
    have hr : resPt1 l s = r := Option.some.inj hr
    subst hr
    refine okPt.1 (encPt (l, s)).1 (encPt (l, s)).2 _ _ _ ?_
    show (T.opt (unenc encPt (encPt (l, s))) fun a => T.ifB (prePt1 a.1 a.2) (T.ret (resPt1 a.1 a.2)) T.fail).val = _
    rw [unenc_of encPt_inj (l, s) rfl]
    show (T.ifB (decide (l.length ≤ 1000) && decide ((F.cat s l).size ≤ 90000000)) (T.ret (resPt1 l s)) T.fail).val = _
    rw [hp]
    rfl

end M

def F.kX : ByteArray := ⟨⟨[35, 88]⟩⟩

def F.kBrk : ByteArray := ⟨⟨[35, 66, 82, 69, 65, 75]⟩⟩

def F.kGap : ByteArray := ⟨⟨[35, 71, 65, 80]⟩⟩

def F.kLst : ByteArray := ⟨⟨[35, 76, 73, 83, 84]⟩⟩

def F.kEnd : ByteArray := ⟨⟨[35, 69, 78, 68]⟩⟩

def F.dash : ByteArray := ⟨⟨[45]⟩⟩

def F.kTimS : ByteArray := ⟨⟨[35, 84, 73, 77, 69, 32]⟩⟩

def F.kDatS : ByteArray := ⟨⟨[35, 68, 65, 84, 69, 32]⟩⟩

def F.kKeyS : ByteArray := ⟨⟨[35, 75, 69, 89, 32]⟩⟩

def F.dsh (s : ByteArray) : ByteArray := bif F.seq s ⟨⟨[]⟩⟩ then F.dash else s

structure F.EOk (e : Ent) : Prop where
  uri1 : e.uri.size ≠ 0
  uri2 : F.b0 e.uri ≠ 35
  uri3 : F.vis e.uri 33 = true
  mil1 : 1 ≤ e.milli
  mil2 : e.milli ≤ 3600000
  dat1 : -1 ≤ e.date
  dat2 : e.date ≤ 253402300799999
  key : e.key = ⟨⟨[]⟩⟩ ∨ F.isName e.key = true
  ext : ∀ x ∈ e.extra, F.hasPrefix x F.kX = true ∧ F.vis x 32 = true

theorem F.ffI_all {γ : Type} {g : γ → Int} : ∀ {l : List γ}, M.ffI g l = 0 → ∀ x ∈ l, g x = 0
  | [], _, x, hx => by cases hx
  | y :: l, h, x, hx => by
    rw [M.ffI] at h
    by_cases h0 : g y = 0
    · rw [if_pos h0] at h
      rcases List.mem_cons.1 hx with e | e
      · rw [e]; exact h0
      · exact F.ffI_all h x e
    · rw [if_neg h0] at h; exact absurd h h0

theorem F.eok_of {e : Ent} {t : Int} (h : F.entryFault e t = 0) : F.EOk e := by
  unfold F.entryFault at h
  split at h
  · rename_i hu; exact absurd h hu
  rename_i hu
  split at h
  · omega
  rename_i hm
  split at h
  · omega
  split at h
  · omega
  rename_i hd
  split at h
  · omega
  rename_i hk
  split at h
  · omega
  rename_i hx
  have hu : F.uriFault e.uri = 0 := by simpa using hu
  unfold F.uriFault at hu
  split at hu
  · omega
  rename_i hq
  clear hu
  unfold F.out at hq hm hd
  simp only [Bool.or_eq_true, decide_eq_true_eq, not_or, Bool.not_eq_true', Bool.not_eq_false] at hq hm hd
  refine ⟨by omega, hq.1.2, hq.2, by omega, by omega, by omega, by omega, ?_, fun x hxm => ?_⟩
  · cases hs : F.seq e.key ⟨#[]⟩
    · right
      rw [hs] at hk
      simpa using hk
    · left
      exact F.seq_iff.1 hs
  · have := F.ffI_all h x hxm
    unfold F.extraFault at this
    split at this
    · omega
    · rename_i h1
      simp only [Bool.or_eq_true, Bool.not_eq_true', not_or, Bool.not_eq_false] at h1
      exact h1

theorem F.checkW_ok {l : Lst} (h : F.check l = 0) : 1 ≤ l.target ∧ l.target ≤ 3600 ∧ 0 ≤ l.first ∧ l.first ≤ 999999999999000 ∧ 0 ≤ l.breaks ∧ l.breaks ≤ 1000000000000000 ∧ ∀ e ∈ l.entries, F.EOk e := by
  unfold F.check at h
  split at h
  · omega
  rename_i h1
  split at h
  · omega
  unfold F.out at h1
  simp only [Bool.or_eq_true, decide_eq_true_eq, not_or] at h1
  exact ⟨by omega, by omega, by omega, by omega, by omega, by omega, fun e he => F.eok_of (F.ffI_all h e he)⟩

def F.pl (s : ByteArray) (l : List ByteArray) : ByteArray := F.cat s l ++ ⟨⟨[10]⟩⟩

theorem F.pl_le (s : ByteArray) (l : List ByteArray) : s.size ≤ (F.cat s l).size ∧ (F.cat s l).size ≤ (F.pl s l).size := by
  refine ⟨F.cat_le l s, ?_⟩
  unfold F.pl
  rw [ByteArray.size_append]
  omega

def F.tX (s : ByteArray) : List ByteArray → ByteArray
  | [] => s
  | x :: l => F.tX (F.pl s [x]) l

theorem F.tX_le : ∀ (l : List ByteArray) (s : ByteArray), s.size ≤ (F.tX s l).size
  | [], s => Nat.le_refl _
  | x :: l, s => by
    have h1 := F.tX_le l (F.pl s [x])
    have h2 := F.pl_le s [x]
    rw [F.tX]
    omega

def F.e1 (s : ByteArray) (brk : Bool) : ByteArray := bif brk then F.pl s [F.kBrk] else s

def F.e2 (s : ByteArray) (d : Int) : ByteArray := bif decide (0 ≤ d) then F.pl s [F.kDatS, F.dtS d] else s

def F.e3 (s key ky : ByteArray) : ByteArray := bif F.seq ky key then s else F.pl s [F.kKeyS, F.dsh ky]

def F.e4 (s : ByteArray) (g : Bool) : ByteArray := bif g then F.pl s [F.kGap] else s

def F.bE' (s key : ByteArray) (u : ByteArray) (m : Int) (b : Bool) (d : Int) (ky : ByteArray) (g : Bool) : ByteArray := F.pl (F.pl (F.e4 (F.e3 (F.e2 (F.e1 s b) d) key ky) g) [F.kTimS, F.tmS m]) [u]

def F.bE (s key : ByteArray) (e : Ent) : ByteArray := F.bE' (F.tX s e.extra) key e.uri e.milli e.brk e.date e.key e.gap

def F.tE (s key : ByteArray) : List Ent → ByteArray
  | [] => s
  | e :: l => F.tE (F.bE s key e) e.key l

theorem F.e_le (s key : ByteArray) (b : Bool) (d : Int) (ky : ByteArray) (g : Bool) : s.size ≤ (F.e1 s b).size ∧ (F.e1 s b).size ≤ (F.e2 (F.e1 s b) d).size ∧ (F.e2 (F.e1 s b) d).size ≤ (F.e3 (F.e2 (F.e1 s b) d) key ky).size ∧ (F.e3 (F.e2 (F.e1 s b) d) key ky).size ≤ (F.e4 (F.e3 (F.e2 (F.e1 s b) d) key ky) g).size := by
  have hpl : ∀ (s : ByteArray) (l : List ByteArray), s.size ≤ (F.pl s l).size := fun s l => by have := F.pl_le s l; omega
  refine ⟨?_, ?_, ?_, ?_⟩
  · generalize s = z
    unfold F.e1
    cases b
    · exact Nat.le_refl _
    · exact hpl _ _
  · generalize F.e1 s b = z
    unfold F.e2
    cases decide (0 ≤ d)
    · exact Nat.le_refl _
    · exact hpl _ _
  · generalize F.e2 (F.e1 s b) d = z
    unfold F.e3
    cases F.seq ky key
    · exact hpl _ _
    · exact Nat.le_refl _
  · generalize F.e3 (F.e2 (F.e1 s b) d) key ky = z
    unfold F.e4
    cases g
    · exact Nat.le_refl _
    · exact hpl _ _

theorem F.bE_le (s key : ByteArray) (e : Ent) : (F.tX s e.extra).size ≤ (F.bE s key e).size := by
  obtain ⟨h1, h2, h3, h4⟩ := F.e_le (F.tX s e.extra) key e.brk e.date e.key e.gap
  unfold F.bE F.bE'
  have h5 := F.pl_le (F.e4 (F.e3 (F.e2 (F.e1 (F.tX s e.extra) e.brk) e.date) key e.key) e.gap) [F.kTimS, F.tmS e.milli]
  have h6 := F.pl_le (F.pl (F.e4 (F.e3 (F.e2 (F.e1 (F.tX s e.extra) e.brk) e.date) key e.key) e.gap) [F.kTimS, F.tmS e.milli]) [e.uri]
  omega

theorem F.tE_le : ∀ (l : List Ent) (s key : ByteArray), s.size ≤ (F.tE s key l).size
  | [], s, key => Nat.le_refl _
  | e :: l, s, key => by
    have h1 := F.tE_le l (F.bE s key e) e.key
    have h2 := F.bE_le s key e
    have h3 := F.tX_le e.extra s
    rw [F.tE]
    omega

def F.entW (e : Ent) : Bool := decide (0 ≤ e.milli) && decide (e.milli ≤ 3600000) && decide (e.date ≤ 253402300799999) && decide (e.extra.length ≤ 1000)

def F.tEB (s key : ByteArray) (l : List Ent) : Bool := decide ((F.tE s key l).size ≤ 80000000)

theorem F.tEB_iff {s key : ByteArray} {l : List Ent} : F.tEB s key l = true ↔ (F.tE s key l).size ≤ 80000000 := by
  unfold F.tEB
  exact decide_eq_true_iff

namespace M

theorem evDsh (s : ByteArray) : (runF en0 false Tryz.f53 [vS s]).val =
  bif ByteArray.toList s == ByteArray.toList (ByteArray.mk (Array.mk [])) then some ((vS (ByteArray.mk (Array.mk [(45 : UInt8)]))), []) else some ((vS s), []) := (runFR_val).symm.trans (by kernel_rfl)

def encDsh1 (s : ByteArray) : List AV := [vS s]

def encDsh (a : ByteArray) : List AV := encDsh1 a

theorem encDsh_inj (a a' : ByteArray) (h : encDsh a = encDsh a') : a = a' := by
  simp only [encDsh, encDsh1] at h
  try simp [eUs_inj, strs_inj, ints_inj, ents_inj, eEnt_iff, eLst_iff, eSnds_inj, eStrms_inj] at h
  grind

theorem unDsh (s : ByteArray) : unenc encDsh ([(vS s)]) = some (s) := unenc_of encDsh_inj (s) rfl

def resDsh1 (s : ByteArray) : AV × Heap := (vS (F.dsh s), [])

def preDsh1 (s : ByteArray) : Bool := true

noncomputable def oDsh : Orc := orc 53 true encDsh (fun a => preDsh1 a) fun a => resDsh1 a

theorem okDsh : OrcOK Tryz.prog noG oDsh := by
  refine mk_ok Tryz.f53 (keep := false) (by kernel_rfl) (by kernel_rfl) en0_ok mixed (no_loops (by kernel_rfl)) (by first | exact fun _ _ => ⟨rfl, rfl⟩ | (intro h; cases h)) ?_
  rintro s hpre hok
  show (runF en0 false _ (encDsh1 _)).val = some (resDsh1 _)
  unfold encDsh1 resDsh1
  rw [evDsh]
  simp only [etaEnt, etaLst, etaSnd, etaStrm, etaMas, Option.bind_some, List.length_map, unStrs, unInts, unBools, unEnts, unItms, unTrns, cond_true, cond_false, Bool.and_true, Bool.true_and, unWstU, unBstU, F.bldS_some, F.bldLen_some, F.dsh, F.seq]
  cases s.toList == (⟨⟨[]⟩⟩ : ByteArray).toList <;> rfl

def stTx2 (t : Int) (f : Int) (b : Int) (es : List Ent) (en : Bool) (i : Nat) (key : ByteArray) (u : ByteArray) (m : Int) (br : Bool) (d : Int) (ky : ByteArray) (g : Bool) (x : List ByteArray) (s : ByteArray) (j : Nat) : St := ⟨[(50, vI j), (49, vI x.length), (48, .sl (x.map eStr)), (43, vI i), (42, vI es.length), (41, .sl (es.map eEnt)), (9, .ptr 9 0 0), (7, vS key), (6, .fn 49 [.ptr 5 0 0]), (5, .ptr 5 0 0), (2, .ptr 2 0 0)], [(20000, ⟨false, 5, 1, F.eUs s⟩), (9, ⟨true, 0, 0, [[vS u, vI m, vB br, vI d, vS ky, vB g, .sl (x.map eStr)]]⟩), (5, ⟨true, 81, 0, [[.ptr 5 0 0, .own 20000]]⟩), (2, ⟨true, 0, 0, [[vI t, vI f, vI b, .sl (es.map eEnt), vB en]]⟩)]⟩

def stTx21 (a : Int × Int × Int × (List Ent) × Bool × Nat × ByteArray × ByteArray × Int × Bool × Int × ByteArray × Bool × (List ByteArray) × ByteArray × Nat) : St := stTx2 a.1 a.2.1 a.2.2.1 a.2.2.2.1 a.2.2.2.2.1 a.2.2.2.2.2.1 a.2.2.2.2.2.2.1 a.2.2.2.2.2.2.2.1 a.2.2.2.2.2.2.2.2.1 a.2.2.2.2.2.2.2.2.2.1 a.2.2.2.2.2.2.2.2.2.2.1 a.2.2.2.2.2.2.2.2.2.2.2.1 a.2.2.2.2.2.2.2.2.2.2.2.2.1 a.2.2.2.2.2.2.2.2.2.2.2.2.2.1 a.2.2.2.2.2.2.2.2.2.2.2.2.2.2.1 a.2.2.2.2.2.2.2.2.2.2.2.2.2.2.2

theorem stTx2_inj (a a' : Int × Int × Int × (List Ent) × Bool × Nat × ByteArray × ByteArray × Int × Bool × Int × ByteArray × Bool × (List ByteArray) × ByteArray × Nat) (h : stTx21 a = stTx21 a') : a = a' := by
  simp only [stTx21, stTx2] at h
  try simp [eUs_inj, strs_inj, ints_inj, ents_inj, eEnt_iff, eLst_iff, eSnds_inj, eStrms_inj] at h
  grind

theorem unstTx2 (t : Int) (f : Int) (b : Int) (es : List Ent) (en : Bool) (i : Nat) (key : ByteArray) (u : ByteArray) (m : Int) (br : Bool) (d : Int) (ky : ByteArray) (g : Bool) (x : List ByteArray) (s : ByteArray) (j : Nat) : unenc stTx21 (St.mk [(50, (vI (↑j : Int))), (49, (vI (↑(List.length x) : Int))), (48, AV.sl (List.map eStr x)), (43, (vI (↑i : Int))), (42, (vI (↑(List.length es) : Int))), (41, AV.sl
  (List.map eEnt es)), (9, .ptr 9 0 0), (7, (vS key)), (6, AV.fn (49 : FuncId) [.ptr 5 0 0]), (5, .ptr 5 0 0), (2, .ptr 2 0 0)] [(20000, Blk.mk false 5 1 (F.eUs s)), (9,
  Blk.mk true 0 0 [[(vS u), (vI m), (vB br), (vI d), (vS ky), (vB g), AV.sl (List.map eStr x)]]), (5, Blk.mk true 81 0 [[.ptr 5 0 0, .own 20000]]), (2, Blk.mk true 0 0 [[(vI
  t), (vI f), (vI b), AV.sl (List.map eEnt es), (vB en)]])]) = some (t, f, b, es, en, i, key, u, m, br, d, ky, g, x, s, j) := unenc_of stTx2_inj (t, f, b, es, en, i, key, u, m, br, d, ky, g, x, s, j) rfl

theorem unstTx20 (t : Int) (f : Int) (b : Int) (es : List Ent) (en : Bool) (i : Nat) (key : ByteArray) (u : ByteArray) (m : Int) (br : Bool) (d : Int) (ky : ByteArray) (g : Bool) (x : List ByteArray) (s : ByteArray)  : unenc stTx21 (St.mk [(50, (vI (0 : Int))), (49, (vI (↑(List.length x) : Int))), (48, AV.sl (List.map eStr x)), (43, (vI (↑i : Int))), (42, (vI (↑(List.length es) : Int))), (41, AV.sl
  (List.map eEnt es)), (9, .ptr 9 0 0), (7, (vS key)), (6, AV.fn (49 : FuncId) [.ptr 5 0 0]), (5, .ptr 5 0 0), (2, .ptr 2 0 0)] [(20000, Blk.mk false 5 1 (F.eUs s)), (9,
  Blk.mk true 0 0 [[(vS u), (vI m), (vB br), (vI d), (vS ky), (vB g), AV.sl (List.map eStr x)]]), (5, Blk.mk true 81 0 [[.ptr 5 0 0, .own 20000]]), (2, Blk.mk true 0 0 [[(vI
  t), (vI f), (vI b), AV.sl (List.map eEnt es), (vB en)]])]) = some (t, f, b, es, en, i, key, u, m, br, d, ky, g, x, s, 0) := unenc_of stTx2_inj (t, f, b, es, en, i, key, u, m, br, d, ky, g, x, s, 0) rfl

def outTx2 (t : Int) (f : Int) (b : Int) (es : List Ent) (en : Bool) (i : Nat) (key : ByteArray) (u : ByteArray) (m : Int) (br : Bool) (d : Int) (ky : ByteArray) (g : Bool) (x : List ByteArray) (s : ByteArray) (j : Nat) : T (Ex × St) := .ret (.exit 2, ⟨[(43, vI i), (42, vI es.length), (41, .sl (es.map eEnt)), (9, .ptr 9 0 0), (7, vS key), (6, .fn 49 [.ptr 5 0 0]), (5, .ptr 5 0 0), (2, .ptr 2 0 0)], [(20000, ⟨false, 5, 1, F.eUs (F.tX s (x.drop j))⟩), (9, ⟨true, 0, 0, [[vS u, vI m, vB br, vI d, vS ky, vB g, .sl (x.map eStr)]]⟩), (5, ⟨true, 81, 0, [[.ptr 5 0 0, .own 20000]]⟩), (2, ⟨true, 0, 0, [[vI t, vI f, vI b, .sl (es.map eEnt), vB en]]⟩)]⟩)

noncomputable def prlTx2 (t : Int) (f : Int) (b : Int) (es : List Ent) (en : Bool) (i : Nat) (key : ByteArray) (u : ByteArray) (m : Int) (br : Bool) (d : Int) (ky : ByteArray) (g : Bool) (x : List ByteArray) (s : ByteArray) (j : Nat) : Bool := decide (x.length ≤ 1000) && decide (j ≤ x.length) && decide ((F.tX s (x.drop j)).size ≤ 80000000)

noncomputable def lpTx2 : Nat × (St → T (Ex × St)) := (13, lpo [50, 49, 48, 43, 42, 41, 9, 7, 6, 5, 2] [20000, 9, 5, 2] stTx21 (fun a => prlTx2 a.1 a.2.1 a.2.2.1 a.2.2.2.1 a.2.2.2.2.1 a.2.2.2.2.2.1 a.2.2.2.2.2.2.1 a.2.2.2.2.2.2.2.1 a.2.2.2.2.2.2.2.2.1 a.2.2.2.2.2.2.2.2.2.1 a.2.2.2.2.2.2.2.2.2.2.1 a.2.2.2.2.2.2.2.2.2.2.2.1 a.2.2.2.2.2.2.2.2.2.2.2.2.1 a.2.2.2.2.2.2.2.2.2.2.2.2.2.1 a.2.2.2.2.2.2.2.2.2.2.2.2.2.2.1 a.2.2.2.2.2.2.2.2.2.2.2.2.2.2.2) fun a => outTx2 a.1 a.2.1 a.2.2.1 a.2.2.2.1 a.2.2.2.2.1 a.2.2.2.2.2.1 a.2.2.2.2.2.2.1 a.2.2.2.2.2.2.2.1 a.2.2.2.2.2.2.2.2.1 a.2.2.2.2.2.2.2.2.2.1 a.2.2.2.2.2.2.2.2.2.2.1 a.2.2.2.2.2.2.2.2.2.2.2.1 a.2.2.2.2.2.2.2.2.2.2.2.2.1 a.2.2.2.2.2.2.2.2.2.2.2.2.2.1 a.2.2.2.2.2.2.2.2.2.2.2.2.2.2.1 a.2.2.2.2.2.2.2.2.2.2.2.2.2.2.2)

def stTx1 (t : Int) (f : Int) (b : Int) (es : List Ent) (en : Bool) (s : ByteArray) (key : ByteArray) (i : Nat) : St := ⟨[(43, vI i), (42, vI es.length), (41, .sl (es.map eEnt)), (7, vS key), (6, .fn 49 [.ptr 5 0 0]), (5, .ptr 5 0 0), (2, .ptr 2 0 0)], [(20000, ⟨false, 5, 1, F.eUs s⟩), (5, ⟨true, 81, 0, [[.ptr 5 0 0, .own 20000]]⟩), (2, ⟨true, 0, 0, [[vI t, vI f, vI b, .sl (es.map eEnt), vB en]]⟩)]⟩

def stTx11 (a : Int × Int × Int × (List Ent) × Bool × ByteArray × ByteArray × Nat) : St := stTx1 a.1 a.2.1 a.2.2.1 a.2.2.2.1 a.2.2.2.2.1 a.2.2.2.2.2.1 a.2.2.2.2.2.2.1 a.2.2.2.2.2.2.2

theorem stTx1_inj (a a' : Int × Int × Int × (List Ent) × Bool × ByteArray × ByteArray × Nat) (h : stTx11 a = stTx11 a') : a = a' := by
  simp only [stTx11, stTx1] at h
  try simp [eUs_inj, strs_inj, ints_inj, ents_inj, eEnt_iff, eLst_iff, eSnds_inj, eStrms_inj] at h
  grind

theorem unstTx1 (t : Int) (f : Int) (b : Int) (es : List Ent) (en : Bool) (s : ByteArray) (key : ByteArray) (i : Nat) : unenc stTx11 (St.mk [(43, (vI (↑i : Int))), (42, (vI (↑(List.length es) : Int))), (41, AV.sl (List.map eEnt es)), (7, (vS key)), (6, AV.fn (49 : FuncId) [.ptr 5 0 0]), (5, .ptr 5 0 0),
  (2, .ptr 2 0 0)] [(20000, Blk.mk false 5 1 (F.eUs s)), (5, Blk.mk true 81 0 [[.ptr 5 0 0, .own 20000]]), (2, Blk.mk true 0 0 [[(vI t), (vI f), (vI b), AV.sl (List.map eEnt
  es), (vB en)]])]) = some (t, f, b, es, en, s, key, i) := unenc_of stTx1_inj (t, f, b, es, en, s, key, i) rfl

theorem unstTx10 (t : Int) (f : Int) (b : Int) (es : List Ent) (en : Bool) (s : ByteArray)  : unenc stTx11 (St.mk [(43, (vI (0 : Int))), (42, (vI (↑(List.length es) : Int))), (41, AV.sl (List.map eEnt es)), (7, (vS (ByteArray.mk (Array.mk [])))), (6, AV.fn (49 : FuncId) [.ptr 5
  0 0]), (5, .ptr 5 0 0), (2, .ptr 2 0 0)] [(20000, Blk.mk false 5 1 (F.eUs s)), (5, Blk.mk true 81 0 [[.ptr 5 0 0, .own 20000]]), (2, Blk.mk true 0 0 [[(vI t), (vI f), (vI
  b), AV.sl (List.map eEnt es), (vB en)]])]) = some (t, f, b, es, en, s, ⟨⟨[]⟩⟩, 0) := unenc_of stTx1_inj (t, f, b, es, en, s, ⟨⟨[]⟩⟩, 0) rfl

def outTx1 (t : Int) (f : Int) (b : Int) (es : List Ent) (en : Bool) (s : ByteArray) (key : ByteArray) (i : Nat) : T (Ex × St) := .ret (.exit 0, ⟨[(6, .fn 49 [.ptr 5 0 0]), (5, .ptr 5 0 0), (2, .ptr 2 0 0)], [(20000, ⟨false, 5, 1, F.eUs (F.tE s key (es.drop i))⟩), (5, ⟨true, 81, 0, [[.ptr 5 0 0, .own 20000]]⟩), (2, ⟨true, 0, 0, [[vI t, vI f, vI b, .sl (es.map eEnt), vB en]]⟩)]⟩)

noncomputable def prlTx1 (t : Int) (f : Int) (b : Int) (es : List Ent) (en : Bool) (s : ByteArray) (key : ByteArray) (i : Nat) : Bool := decide (es.length ≤ 1000) && decide (i ≤ es.length) && es.all F.entW && F.tEB s key (es.drop i)

noncomputable def lpTx1 : Nat × (St → T (Ex × St)) := (10, lpo [43, 42, 41, 7, 6, 5, 2] [20000, 5, 2] stTx11 (fun a => prlTx1 a.1 a.2.1 a.2.2.1 a.2.2.2.1 a.2.2.2.2.1 a.2.2.2.2.2.1 a.2.2.2.2.2.2.1 a.2.2.2.2.2.2.2) fun a => outTx1 a.1 a.2.1 a.2.2.1 a.2.2.2.1 a.2.2.2.2.1 a.2.2.2.2.2.1 a.2.2.2.2.2.2.1 a.2.2.2.2.2.2.2)

theorem pre_ok (s : ByteArray) (l : List ByteArray) (h1 : l.length ≤ 1000) (h2 : (F.pl s l).size ≤ 80000000) : F.putB (some s) l = true := by
  have h3 := F.pl_le s l
  show (decide (l.length ≤ 1000) && decide ((F.cat s l).size ≤ 90000000)) = true
  rw [decide_eq_true h1, decide_eq_true (by omega)]
  rfl

theorem fpl (s : ByteArray) (l : List ByteArray) : F.cat s l ++ (⟨⟨[10]⟩⟩ : ByteArray) = F.pl s l := rfl

noncomputable def enTx : Env := envH ty noG lks [oIta, oDte, oDcm, oDsh] [oPut, oWst, oBst] [20000] [lpTx1, lpTx2]

theorem enTx_ok : EnvOK Tryz.prog enTx := by
  refine envH_ok lks_ok ty_ok ?_ ?_
  · simp only [List.forall_mem_cons]
    exact ⟨okIta, okDte, okDcm, okDsh, by simp⟩
  · simp only [List.forall_mem_cons]
    exact ⟨okPut, okWst, okBst, by simp⟩

theorem evTx2L (t : Int) (f : Int) (b : Int) (es : List Ent) (en : Bool) (i : Nat) (key : ByteArray) (u : ByteArray) (m : Int) (br : Bool) (d : Int) (ky : ByteArray) (g : Bool) (x : List ByteArray) (s : ByteArray) (j : Nat) : ((exec enTx (loopN Tryz.f26 1) (stTx2 t f b es en i key u m br d ky g x s j)).bind (lessX ([50, 49, 48, 43, 42, 41, 9, 7, 6, 5, 2], [20000, 9, 5, 2]) ([43, 42, 41, 9, 7, 6, 5, 2], [20000, 9, 5, 2]) ([], []))).val =
  (fun (q : List (Nat × AV)) => (fun (q_1 : List (Nat × Blk)) => bif decide ((↑j : Int) < (↑(List.length x) : Int)) then Option.bind (unenc (List.map eStr) (List.map eStr x)) fun (z : List ByteArray) => bif decide (j < List.length z) then Option.bind (unenc encPut ([.own 900, .ptr 901 0 0], [(902, Blk.mk false 5 1 (F.eUs s)), (901, Blk.mk true 81 0 [[.ptr 901 0 0, .own 902]]), (900, Blk.mk false 9 1 [[(vS (List.getD z j (ByteArray.mk (Array.mk []))))]])])) fun (z : Option ByteArray × List ByteArray) => bif F.putB z.fst z.snd then bif match z.fst with | some val => false | none => true then none else some (Ex.normal, St.mk ((50, (vI (IntKind.wrap IntKind.i64 ((↑j : Int) + (1 : Int))))) :: (49, (vI (↑(List.length x) : Int))) :: (48, AV.sl (List.map eStr x)) :: q) ((20000, Blk.mk false 5 1 (F.eUs (F.cat (F.bldS z.fst) z.snd ++ ByteArray.mk (Array.mk [(10 : UInt8)])))) :: q_1)) else none else none else some (Ex.exit (2 : Nat), St.mk q ((20000, Blk.mk false 5 1 (F.eUs s)) :: q_1))) [(9, Blk.mk true 0 0 [[(vS u), (vI m), (vB br), (vI d), (vS ky), (vB g), AV.sl (List.map eStr x)]]), (5, Blk.mk true 81 0 [[.ptr 5 0 0, .own 20000]]), (2, Blk.mk true 0 0 [[(vI t), (vI f), (vI b), AV.sl (List.map eEnt es), (vB en)]])]) [(43, (vI (↑i : Int))), (42, (vI (↑(List.length es) : Int))), (41, AV.sl (List.map eEnt es)), (9, .ptr 9 0 0), (7, (vS key)), (6, AV.fn (49 : FuncId) [.ptr 5 0 0]), (5, .ptr 5 0 0), (2, .ptr 2 0 0)] := (execR_bind _ _ _).symm.trans (by kernel_rfl)

theorem lpTx2_ok (t : Int) (f : Int) (b : Int) (es : List Ent) (en : Bool) (i : Nat) (key : ByteArray) (u : ByteArray) (m : Int) (br : Bool) (d : Int) (ky : ByteArray) (g : Bool) (x : List ByteArray) (s : ByteArray) (j : Nat) (hp : prlTx2 t f b es en i key u m br d ky g x s j = true) : ∀ ex s', (outTx2 t f b es en i key u m br d ky g x s j).val = some (ex, s') → LoopOK enTx (loopN Tryz.f26 1) (stTx2 t f b es en i key u m br d ky g x s j) ex s' := by
  simp only [prlTx2, Bool.and_eq_true, decide_eq_true_eq] at hp
  obtain ⟨⟨h1, h2⟩, h3⟩ := hp
  refine loop_gen (st := fun p : ByteArray × Nat => stTx2 t f b es en i key u m br d ky g x p.1 p.2) (out := fun p => outTx2 t f b es en i key u m br d ky g x p.1 p.2) (I := fun p => p.2 ≤ x.length ∧ (F.tX p.1 (x.drop p.2)).size ≤ 80000000) (n := ([50, 49, 48, 43, 42, 41, 9, 7, 6, 5, 2], [20000, 9, 5, 2])) (e := ([43, 42, 41, 9, 7, 6, 5, 2], [20000, 9, 5, 2])) (r := ([], [])) (fun p => x.length - p.2) ?_ (s, j) ⟨h2, h3⟩
  clear h2 h3
  rintro ⟨s, j⟩ ⟨h2, h3⟩
  simp only at h2 h3
  by_cases hlt : j < x.length
  · have hy : x[j]? = some x[j] := List.getElem?_eq_getElem hlt
    generalize x[j] = y at hy
    have hdd := drop_y hy
    rw [hdd, F.tX] at h3
    have hc := F.tX_le (x.drop (j + 1)) (F.pl s [y])
    have hc2 := F.pl_le s [y]
    have hc3 : F.cat s [y] = s ++ y := rfl
    right
    refine ⟨(F.pl s [y], j + 1), ?_, rfl, ⟨hlt, h3⟩, by simp only; omega, ?_⟩
    · rw [evTx2L]
      simp only [unIta, unDte, unDcm, unDsh, unPut, unWst, unBst, preIta1, preDte1, preDcm1, preDsh1, prePut1, preWst1, preBst1, unstTx1, unstTx2, unstTx10, unstTx20, prlTx1, prlTx2, outTx1, outTx2, etaEnt, etaLst, etaSnd, etaStrm, etaMas, Option.bind_some, List.length_map, unStrs, unInts, unBools, unEnts, unItms, unTrns, cond_true, cond_false, Bool.and_true, Bool.true_and, unWstU, unBstU, F.bldS_some, F.bldLen_some, cast_lt hlt, decide_eq_true hlt, getD_at hy, unPut1, resPut, fpl]
      rw [pre_ok s [y] (Nat.le_of_ble_eq_true rfl) (by omega), next_at hlt (by omega : x.length ≤ 9223372036854775807)]
      rfl
    · simp only [outTx2, hdd, F.tX]
  · have : j = x.length := by omega
    subst this
    left
    refine ⟨(.exit 2, ⟨[(43, vI i), (42, vI es.length), (41, .sl (es.map eEnt)), (9, .ptr 9 0 0), (7, vS key), (6, .fn 49 [.ptr 5 0 0]), (5, .ptr 5 0 0), (2, .ptr 2 0 0)], [(20000, ⟨false, 5, 1, F.eUs s⟩), (9, ⟨true, 0, 0, [[vS u, vI m, vB br, vI d, vS ky, vB g, .sl (x.map eStr)]]⟩), (5, ⟨true, 81, 0, [[.ptr 5 0 0, .own 20000]]⟩), (2, ⟨true, 0, 0, [[vI t, vI f, vI b, .sl (es.map eEnt), vB en]]⟩)]⟩), ?_, ?_, by simp, rfl⟩
    · rw [evTx2L]
      simp
    · simp only [outTx2, List.drop_length, F.tX]
      rfl

theorem evTx1L (t : Int) (f : Int) (b : Int) (es : List Ent) (en : Bool) (s : ByteArray) (key : ByteArray) (i : Nat) : ((exec enTx (loopN Tryz.f26 0) (stTx1 t f b es en s key i)).bind (lessX ([43, 42, 41, 7, 6, 5, 2], [20000, 5, 2]) ([6, 5, 2], [20000, 5, 2]) ([], []))).val =
  (fun (q : ByteArray) => (fun (q_1 : List AV) => (fun (q_2 : List AV) => (fun (q_3 : Ent) => (fun (q_4 : Nat × Blk) => (fun (q_5 : Nat × Blk) => (fun (q_6 : List AV) => (fun (q_7 : List AV) => (fun (q_8 : List AV) => (fun (q_9 : List (Nat × AV)) => (fun (q_10 : List (Nat × Blk)) => (fun (q_11 : List (Nat × Blk)) => bif decide ((↑i : Int) < (↑(List.length es) : Int)) then Option.bind (unenc (List.map eEnt) (List.map eEnt es)) fun (z : List Ent) => bif decide (i < List.length z) then Option.bind (unenc stTx21 (St.mk ((50, (vI (0 : Int))) :: (49, (vI (↑(List.length (List.map eStr (List.getD z i q_3).extra)) : Int))) :: (48, AV.sl (List.map eStr (List.getD z i q_3).extra)) :: (43, (vI (↑i : Int))) :: (42, (vI (↑(List.length es) : Int))) :: (41, AV.sl (List.map eEnt es)) :: (9, .ptr 9 0 0) :: (7, (vS key)) :: q_9) ((20000, Blk.mk false 5 1 (F.eUs s)) :: (9, Blk.mk true 0 0 [[(vS (List.getD z i q_3).uri), (vI (List.getD z i q_3).milli), (vB (List.getD z i q_3).brk), (vI (List.getD z i q_3).date), (vS (List.getD z i q_3).key), (vB (List.getD z i q_3).gap), AV.sl (List.map eStr (List.getD z i q_3).extra)]]) :: q_11))) fun (z : Int × Int × Int × List Ent × Bool × Nat × ByteArray × ByteArray × Int × Bool × Int × ByteArray × Bool × List ByteArray × ByteArray × Nat) => (fun (q_12 : AV) => (fun (q_13 : Bool × Int × ByteArray × Bool × List ByteArray × ByteArray × Nat) => (fun (q_14 : Nat × AV) => (fun (q_15 : Int) => (fun (q_16 : ByteArray) => (fun (q_17 : Bool) => (fun (q_18 : List ByteArray × ByteArray × Nat) => (fun (q_19 : Nat) => (fun (q_20 : Nat) => (fun (q_21 : Option Int) => (fun (q_22 : Nat × AV) => (fun (q_23 : Option ByteArray) => (fun (q_24 : Option Int) => (fun (q_25 : Bool) => (fun (q_26 : List (Nat × Blk)) => (fun (q_27 : ByteArray) => (fun (q_28 : List (Nat × Blk)) => (fun (q_29 : List (Nat × AV)) => (fun (q_30 : Nat × Blk) => (fun (q_31 : List (Nat × AV)) => bif decide (q_19 ≤ (1000 : Nat)) && decide (q_20 ≤ q_19) && decide (ByteArray.size q_27 ≤ (80000000 : Nat)) && true then bif q_13.fst then Option.bind (unenc encPut (q_1, [q_30, q_5, (900, Blk.mk false 9 1 [[(vS (ByteArray.mk (Array.mk [(35 : UInt8), (66 : UInt8), (82 : UInt8), (69 : UInt8), (65 : UInt8), (75 : UInt8)])))]])])) fun (z : Option ByteArray × List ByteArray) => (fun (q_32 : Nat × Blk) => bif F.putB z.fst z.snd then bif match z.fst with | some val => false | none => true then none else bif decide ((0 : Int) ≤ q_15) then Option.bind q_24 fun (z : Int) => bif decide ((0 : Int) ≤ z) && decide (z ≤ (253402300799999 : Int)) then Option.bind (unenc encPut (q_1, [q_32, q_5, (900, Blk.mk false 9 1 [q_8, [(vS (F.dtS z))]])])) fun (z : Option ByteArray × List ByteArray) => (fun (q_33 : Nat × Blk) => bif F.putB z.fst z.snd then bif match z.fst with | some val => false | none => true then none else bif q_25 then Option.bind q_23 fun (z : ByteArray) => Option.bind (unenc encPut (q_1, [q_33, q_5, (900, Blk.mk false 9 1 [q_6, [(vS (F.dsh z))]])])) fun (z : Option ByteArray × List ByteArray) => (fun (q_34 : Nat × Blk) => bif F.putB z.fst z.snd then bif match z.fst with | some val => false | none => true then none else bif q_17 then Option.bind (unenc encPut (q_1, q_34 :: q_10)) fun (z : Option ByteArray × List ByteArray) => bif F.putB z.fst z.snd then bif match z.fst with | some val => false | none => true then none else Option.bind q_21 fun (z_1 : Int) => bif decide ((0 : Int) ≤ z_1) && decide (z_1 ≤ (3600000 : Int)) then Option.bind (unenc encPut (q_1, [(902, Blk.mk false 5 1 (F.eUs (F.cat (F.bldS z.fst) z.snd ++ q))), q_5, (900, Blk.mk false 9 1 [q_7, [(vS (F.tmS z_1))]])])) fun (z : Option ByteArray × List ByteArray) => bif F.putB z.fst z.snd then bif match z.fst with | some val => false | none => true then none else Option.bind (unenc encPut (q_1, (902, Blk.mk false 5 1 (F.eUs (F.cat (F.bldS z.fst) z.snd ++ q))) :: q_26)) fun (z : Option ByteArray × List ByteArray) => bif F.putB z.fst z.snd then bif match z.fst with | some val => false | none => true then none else some (Ex.normal, St.mk q_31 ((20000, Blk.mk false 5 1 (F.eUs (F.cat (F.bldS z.fst) z.snd ++ q))) :: q_28)) else none else none else none else none else Option.bind q_21 fun (z : Int) => bif decide ((0 : Int) ≤ z) && decide (z ≤ (3600000 : Int)) then Option.bind (unenc encPut (q_1, [q_34, q_5, (900, Blk.mk false 9 1 [q_7, [(vS (F.tmS z))]])])) fun (z : Option ByteArray × List ByteArray) => bif F.putB z.fst z.snd then bif match z.fst with | some val => false | none => true then none else Option.bind (unenc encPut (q_1, (902, Blk.mk false 5 1 (F.eUs (F.cat (F.bldS z.fst) z.snd ++ q))) :: q_26)) fun (z : Option ByteArray × List ByteArray) => bif F.putB z.fst z.snd then bif match z.fst with | some val => false | none => true then none else some (Ex.normal, St.mk q_31 ((20000, Blk.mk false 5 1 (F.eUs (F.cat (F.bldS z.fst) z.snd ++ q))) :: q_28)) else none else none else none else none) (902, Blk.mk false 5 1 (F.eUs (F.cat (F.bldS z.fst) z.snd ++ q))) else bif q_17 then Option.bind (unenc encPut (q_1, q_33 :: q_10)) fun (z : Option ByteArray × List ByteArray) => bif F.putB z.fst z.snd then bif match z.fst with | some val => false | none => true then none else Option.bind q_21 fun (z_1 : Int) => bif decide ((0 : Int) ≤ z_1) && decide (z_1 ≤ (3600000 : Int)) then Option.bind (unenc encPut (q_1, [(902, Blk.mk false 5 1 (F.eUs (F.cat (F.bldS z.fst) z.snd ++ q))), q_5, (900, Blk.mk false 9 1 [q_7, [(vS (F.tmS z_1))]])])) fun (z : Option ByteArray × List ByteArray) => bif F.putB z.fst z.snd then bif match z.fst with | some val => false | none => true then none else Option.bind (unenc encPut (q_1, (902, Blk.mk false 5 1 (F.eUs (F.cat (F.bldS z.fst) z.snd ++ q))) :: q_26)) fun (z : Option ByteArray × List ByteArray) => bif F.putB z.fst z.snd then bif match z.fst with | some val => false | none => true then none else some (Ex.normal, St.mk q_29 ((20000, Blk.mk false 5 1 (F.eUs (F.cat (F.bldS z.fst) z.snd ++ q))) :: q_28)) else none else none else none else none else Option.bind q_21 fun (z : Int) => bif decide ((0 : Int) ≤ z) && decide (z ≤ (3600000 : Int)) then Option.bind (unenc encPut (q_1, [q_33, q_5, (900, Blk.mk false 9 1 [q_7, [(vS (F.tmS z))]])])) fun (z : Option ByteArray × List ByteArray) => bif F.putB z.fst z.snd then bif match z.fst with | some val => false | none => true then none else Option.bind (unenc encPut (q_1, (902, Blk.mk false 5 1 (F.eUs (F.cat (F.bldS z.fst) z.snd ++ q))) :: q_26)) fun (z : Option ByteArray × List ByteArray) => bif F.putB z.fst z.snd then bif match z.fst with | some val => false | none => true then none else some (Ex.normal, St.mk q_29 ((20000, Blk.mk false 5 1 (F.eUs (F.cat (F.bldS z.fst) z.snd ++ q))) :: q_28)) else none else none else none else none) (902, Blk.mk false 5 1 (F.eUs (F.cat (F.bldS z.fst) z.snd ++ q))) else none else bif q_25 then Option.bind q_23 fun (z : ByteArray) => Option.bind (unenc encPut (q_1, [q_32, q_5, (900, Blk.mk false 9 1 [q_6, [(vS (F.dsh z))]])])) fun (z : Option ByteArray × List ByteArray) => (fun (q_33 : Nat × Blk) => bif F.putB z.fst z.snd then bif match z.fst with | some val => false | none => true then none else bif q_17 then Option.bind (unenc encPut (q_1, q_33 :: q_10)) fun (z : Option ByteArray × List ByteArray) => bif F.putB z.fst z.snd then bif match z.fst with | some val => false | none => true then none else Option.bind q_21 fun (z_1 : Int) => bif decide ((0 : Int) ≤ z_1) && decide (z_1 ≤ (3600000 : Int)) then Option.bind (unenc encPut (q_1, [(902, Blk.mk false 5 1 (F.eUs (F.cat (F.bldS z.fst) z.snd ++ q))), q_5, (900, Blk.mk false 9 1 [q_7, [(vS (F.tmS z_1))]])])) fun (z : Option ByteArray × List ByteArray) => bif F.putB z.fst z.snd then bif match z.fst with | some val => false | none => true then none else Option.bind (unenc encPut (q_1, (902, Blk.mk false 5 1 (F.eUs (F.cat (F.bldS z.fst) z.snd ++ q))) :: q_26)) fun (z : Option ByteArray × List ByteArray) => bif F.putB z.fst z.snd then bif match z.fst with | some val => false | none => true then none else some (Ex.normal, St.mk q_31 ((20000, Blk.mk false 5 1 (F.eUs (F.cat (F.bldS z.fst) z.snd ++ q))) :: q_28)) else none else none else none else none else Option.bind q_21 fun (z : Int) => bif decide ((0 : Int) ≤ z) && decide (z ≤ (3600000 : Int)) then Option.bind (unenc encPut (q_1, [q_33, q_5, (900, Blk.mk false 9 1 [q_7, [(vS (F.tmS z))]])])) fun (z : Option ByteArray × List ByteArray) => bif F.putB z.fst z.snd then bif match z.fst with | some val => false | none => true then none else Option.bind (unenc encPut (q_1, (902, Blk.mk false 5 1 (F.eUs (F.cat (F.bldS z.fst) z.snd ++ q))) :: q_26)) fun (z : Option ByteArray × List ByteArray) => bif F.putB z.fst z.snd then bif match z.fst with | some val => false | none => true then none else some (Ex.normal, St.mk q_31 ((20000, Blk.mk false 5 1 (F.eUs (F.cat (F.bldS z.fst) z.snd ++ q))) :: q_28)) else none else none else none else none) (902, Blk.mk false 5 1 (F.eUs (F.cat (F.bldS z.fst) z.snd ++ q))) else bif q_17 then Option.bind (unenc encPut (q_1, q_32 :: q_10)) fun (z : Option ByteArray × List ByteArray) => bif F.putB z.fst z.snd then bif match z.fst with | some val => false | none => true then none else Option.bind q_21 fun (z_1 : Int) => bif decide ((0 : Int) ≤ z_1) && decide (z_1 ≤ (3600000 : Int)) then Option.bind (unenc encPut (q_1, [(902, Blk.mk false 5 1 (F.eUs (F.cat (F.bldS z.fst) z.snd ++ q))), q_5, (900, Blk.mk false 9 1 [q_7, [(vS (F.tmS z_1))]])])) fun (z : Option ByteArray × List ByteArray) => bif F.putB z.fst z.snd then bif match z.fst with | some val => false | none => true then none else Option.bind (unenc encPut (q_1, (902, Blk.mk false 5 1 (F.eUs (F.cat (F.bldS z.fst) z.snd ++ q))) :: q_26)) fun (z : Option ByteArray × List ByteArray) => bif F.putB z.fst z.snd then bif match z.fst with | some val => false | none => true then none else some (Ex.normal, St.mk q_29 ((20000, Blk.mk false 5 1 (F.eUs (F.cat (F.bldS z.fst) z.snd ++ q))) :: q_28)) else none else none else none else none else Option.bind q_21 fun (z : Int) => bif decide ((0 : Int) ≤ z) && decide (z ≤ (3600000 : Int)) then Option.bind (unenc encPut (q_1, [q_32, q_5, (900, Blk.mk false 9 1 [q_7, [(vS (F.tmS z))]])])) fun (z : Option ByteArray × List ByteArray) => bif F.putB z.fst z.snd then bif match z.fst with | some val => false | none => true then none else Option.bind (unenc encPut (q_1, (902, Blk.mk false 5 1 (F.eUs (F.cat (F.bldS z.fst) z.snd ++ q))) :: q_26)) fun (z : Option ByteArray × List ByteArray) => bif F.putB z.fst z.snd then bif match z.fst with | some val => false | none => true then none else some (Ex.normal, St.mk q_29 ((20000, Blk.mk false 5 1 (F.eUs (F.cat (F.bldS z.fst) z.snd ++ q))) :: q_28)) else none else none else none else none) (902, Blk.mk false 5 1 (F.eUs (F.cat (F.bldS z.fst) z.snd ++ q))) else bif decide ((0 : Int) ≤ q_15) then Option.bind q_24 fun (z : Int) => bif decide ((0 : Int) ≤ z) && decide (z ≤ (253402300799999 : Int)) then Option.bind (unenc encPut (q_1, [q_30, q_5, (900, Blk.mk false 9 1 [q_8, [(vS (F.dtS z))]])])) fun (z : Option ByteArray × List ByteArray) => (fun (q_32 : Nat × Blk) => bif F.putB z.fst z.snd then bif match z.fst with | some val => false | none => true then none else bif q_25 then Option.bind q_23 fun (z : ByteArray) => Option.bind (unenc encPut (q_1, [q_32, q_5, (900, Blk.mk false 9 1 [q_6, [(vS (F.dsh z))]])])) fun (z : Option ByteArray × List ByteArray) => (fun (q_33 : Nat × Blk) => bif F.putB z.fst z.snd then bif match z.fst with | some val => false | none => true then none else bif q_17 then Option.bind (unenc encPut (q_1, q_33 :: q_10)) fun (z : Option ByteArray × List ByteArray) => bif F.putB z.fst z.snd then bif match z.fst with | some val => false | none => true then none else Option.bind q_21 fun (z_1 : Int) => bif decide ((0 : Int) ≤ z_1) && decide (z_1 ≤ (3600000 : Int)) then Option.bind (unenc encPut (q_1, [(902, Blk.mk false 5 1 (F.eUs (F.cat (F.bldS z.fst) z.snd ++ q))), q_5, (900, Blk.mk false 9 1 [q_7, [(vS (F.tmS z_1))]])])) fun (z : Option ByteArray × List ByteArray) => bif F.putB z.fst z.snd then bif match z.fst with | some val => false | none => true then none else Option.bind (unenc encPut (q_1, (902, Blk.mk false 5 1 (F.eUs (F.cat (F.bldS z.fst) z.snd ++ q))) :: q_26)) fun (z : Option ByteArray × List ByteArray) => bif F.putB z.fst z.snd then bif match z.fst with | some val => false | none => true then none else some (Ex.normal, St.mk q_31 ((20000, Blk.mk false 5 1 (F.eUs (F.cat (F.bldS z.fst) z.snd ++ q))) :: q_28)) else none else none else none else none else Option.bind q_21 fun (z : Int) => bif decide ((0 : Int) ≤ z) && decide (z ≤ (3600000 : Int)) then Option.bind (unenc encPut (q_1, [q_33, q_5, (900, Blk.mk false 9 1 [q_7, [(vS (F.tmS z))]])])) fun (z : Option ByteArray × List ByteArray) => bif F.putB z.fst z.snd then bif match z.fst with | some val => false | none => true then none else Option.bind (unenc encPut (q_1, (902, Blk.mk false 5 1 (F.eUs (F.cat (F.bldS z.fst) z.snd ++ q))) :: q_26)) fun (z : Option ByteArray × List ByteArray) => bif F.putB z.fst z.snd then bif match z.fst with | some val => false | none => true then none else some (Ex.normal, St.mk q_31 ((20000, Blk.mk false 5 1 (F.eUs (F.cat (F.bldS z.fst) z.snd ++ q))) :: q_28)) else none else none else none else none) (902, Blk.mk false 5 1 (F.eUs (F.cat (F.bldS z.fst) z.snd ++ q))) else bif q_17 then Option.bind (unenc encPut (q_1, q_32 :: q_10)) fun (z : Option ByteArray × List ByteArray) => bif F.putB z.fst z.snd then bif match z.fst with | some val => false | none => true then none else Option.bind q_21 fun (z_1 : Int) => bif decide ((0 : Int) ≤ z_1) && decide (z_1 ≤ (3600000 : Int)) then Option.bind (unenc encPut (q_1, [(902, Blk.mk false 5 1 (F.eUs (F.cat (F.bldS z.fst) z.snd ++ q))), q_5, (900, Blk.mk false 9 1 [q_7, [(vS (F.tmS z_1))]])])) fun (z : Option ByteArray × List ByteArray) => bif F.putB z.fst z.snd then bif match z.fst with | some val => false | none => true then none else Option.bind (unenc encPut (q_1, (902, Blk.mk false 5 1 (F.eUs (F.cat (F.bldS z.fst) z.snd ++ q))) :: q_26)) fun (z : Option ByteArray × List ByteArray) => bif F.putB z.fst z.snd then bif match z.fst with | some val => false | none => true then none else some (Ex.normal, St.mk q_29 ((20000, Blk.mk false 5 1 (F.eUs (F.cat (F.bldS z.fst) z.snd ++ q))) :: q_28)) else none else none else none else none else Option.bind q_21 fun (z : Int) => bif decide ((0 : Int) ≤ z) && decide (z ≤ (3600000 : Int)) then Option.bind (unenc encPut (q_1, [q_32, q_5, (900, Blk.mk false 9 1 [q_7, [(vS (F.tmS z))]])])) fun (z : Option ByteArray × List ByteArray) => bif F.putB z.fst z.snd then bif match z.fst with | some val => false | none => true then none else Option.bind (unenc encPut (q_1, (902, Blk.mk false 5 1 (F.eUs (F.cat (F.bldS z.fst) z.snd ++ q))) :: q_26)) fun (z : Option ByteArray × List ByteArray) => bif F.putB z.fst z.snd then bif match z.fst with | some val => false | none => true then none else some (Ex.normal, St.mk q_29 ((20000, Blk.mk false 5 1 (F.eUs (F.cat (F.bldS z.fst) z.snd ++ q))) :: q_28)) else none else none else none else none) (902, Blk.mk false 5 1 (F.eUs (F.cat (F.bldS z.fst) z.snd ++ q))) else none else bif q_25 then Option.bind q_23 fun (z : ByteArray) => Option.bind (unenc encPut (q_1, [q_30, q_5, (900, Blk.mk false 9 1 [q_6, [(vS (F.dsh z))]])])) fun (z : Option ByteArray × List ByteArray) => (fun (q_32 : Nat × Blk) => bif F.putB z.fst z.snd then bif match z.fst with | some val => false | none => true then none else bif q_17 then Option.bind (unenc encPut (q_1, q_32 :: q_10)) fun (z : Option ByteArray × List ByteArray) => bif F.putB z.fst z.snd then bif match z.fst with | some val => false | none => true then none else Option.bind q_21 fun (z_1 : Int) => bif decide ((0 : Int) ≤ z_1) && decide (z_1 ≤ (3600000 : Int)) then Option.bind (unenc encPut (q_1, [(902, Blk.mk false 5 1 (F.eUs (F.cat (F.bldS z.fst) z.snd ++ q))), q_5, (900, Blk.mk false 9 1 [q_7, [(vS (F.tmS z_1))]])])) fun (z : Option ByteArray × List ByteArray) => bif F.putB z.fst z.snd then bif match z.fst with | some val => false | none => true then none else Option.bind (unenc encPut (q_1, (902, Blk.mk false 5 1 (F.eUs (F.cat (F.bldS z.fst) z.snd ++ q))) :: q_26)) fun (z : Option ByteArray × List ByteArray) => bif F.putB z.fst z.snd then bif match z.fst with | some val => false | none => true then none else some (Ex.normal, St.mk q_31 ((20000, Blk.mk false 5 1 (F.eUs (F.cat (F.bldS z.fst) z.snd ++ q))) :: q_28)) else none else none else none else none else Option.bind q_21 fun (z : Int) => bif decide ((0 : Int) ≤ z) && decide (z ≤ (3600000 : Int)) then Option.bind (unenc encPut (q_1, [q_32, q_5, (900, Blk.mk false 9 1 [q_7, [(vS (F.tmS z))]])])) fun (z : Option ByteArray × List ByteArray) => bif F.putB z.fst z.snd then bif match z.fst with | some val => false | none => true then none else Option.bind (unenc encPut (q_1, (902, Blk.mk false 5 1 (F.eUs (F.cat (F.bldS z.fst) z.snd ++ q))) :: q_26)) fun (z : Option ByteArray × List ByteArray) => bif F.putB z.fst z.snd then bif match z.fst with | some val => false | none => true then none else some (Ex.normal, St.mk q_31 ((20000, Blk.mk false 5 1 (F.eUs (F.cat (F.bldS z.fst) z.snd ++ q))) :: q_28)) else none else none else none else none) (902, Blk.mk false 5 1 (F.eUs (F.cat (F.bldS z.fst) z.snd ++ q))) else bif q_17 then Option.bind (unenc encPut (q_1, q_30 :: q_10)) fun (z : Option ByteArray × List ByteArray) => bif F.putB z.fst z.snd then bif match z.fst with | some val => false | none => true then none else Option.bind q_21 fun (z_1 : Int) => bif decide ((0 : Int) ≤ z_1) && decide (z_1 ≤ (3600000 : Int)) then Option.bind (unenc encPut (q_1, [(902, Blk.mk false 5 1 (F.eUs (F.cat (F.bldS z.fst) z.snd ++ q))), q_5, (900, Blk.mk false 9 1 [q_7, [(vS (F.tmS z_1))]])])) fun (z : Option ByteArray × List ByteArray) => bif F.putB z.fst z.snd then bif match z.fst with | some val => false | none => true then none else Option.bind (unenc encPut (q_1, (902, Blk.mk false 5 1 (F.eUs (F.cat (F.bldS z.fst) z.snd ++ q))) :: q_26)) fun (z : Option ByteArray × List ByteArray) => bif F.putB z.fst z.snd then bif match z.fst with | some val => false | none => true then none else some (Ex.normal, St.mk q_29 ((20000, Blk.mk false 5 1 (F.eUs (F.cat (F.bldS z.fst) z.snd ++ q))) :: q_28)) else none else none else none else none else Option.bind q_21 fun (z : Int) => bif decide ((0 : Int) ≤ z) && decide (z ≤ (3600000 : Int)) then Option.bind (unenc encPut (q_1, [q_30, q_5, (900, Blk.mk false 9 1 [q_7, [(vS (F.tmS z))]])])) fun (z : Option ByteArray × List ByteArray) => bif F.putB z.fst z.snd then bif match z.fst with | some val => false | none => true then none else Option.bind (unenc encPut (q_1, (902, Blk.mk false 5 1 (F.eUs (F.cat (F.bldS z.fst) z.snd ++ q))) :: q_26)) fun (z : Option ByteArray × List ByteArray) => bif F.putB z.fst z.snd then bif match z.fst with | some val => false | none => true then none else some (Ex.normal, St.mk q_29 ((20000, Blk.mk false 5 1 (F.eUs (F.cat (F.bldS z.fst) z.snd ++ q))) :: q_28)) else none else none else none else none) (q_22 :: q_14 :: (41, q_12) :: (7, (vS q_16)) :: q_9)) (902, Blk.mk false 5 1 (F.eUs q_27))) (q_22 :: q_14 :: (41, q_12) :: (7, (vS z.snd.snd.snd.snd.snd.snd.fst)) :: q_9)) [q_4, (2, Blk.mk true 0 0 [[(vI z.fst), (vI z.snd.fst), (vI z.snd.snd.fst), q_12, (vB z.snd.snd.snd.snd.fst)]])]) (F.tX q_18.snd.fst (List.drop q_20 q_18.fst))) [q_5, (900, Blk.mk false 9 1 [[(vS z.snd.snd.snd.snd.snd.snd.snd.fst)]])]) !ByteArray.toList q_16 == ByteArray.toList z.snd.snd.snd.snd.snd.snd.fst) (unenc encDte [(vI q_15)])) (unenc encDsh [(vS q_16)])) (43, (vI (IntKind.wrap IntKind.i64 ((↑z.snd.snd.snd.snd.snd.fst : Int) + (1 : Int)))))) (unenc encDcm ((vI z.snd.snd.snd.snd.snd.snd.snd.snd.fst) :: q_2))) q_18.snd.snd) (List.length q_18.fst)) q_13.snd.snd.snd.snd) q_13.snd.snd.snd.fst) q_13.snd.snd.fst) q_13.snd.fst) (42, (vI (↑(List.length z.snd.snd.snd.fst) : Int)))) z.snd.snd.snd.snd.snd.snd.snd.snd.snd) (AV.sl (List.map eEnt z.snd.snd.snd.fst)) else none else some (Ex.exit (0 : Nat), St.mk q_9 ((20000, Blk.mk false 5 1 (F.eUs s)) :: q_11))) [q_4, (2, Blk.mk true 0 0 [[(vI t), (vI f), (vI b), AV.sl (List.map eEnt es), (vB en)]])]) [q_5, (900, Blk.mk false 9 1 [[(vS (ByteArray.mk (Array.mk [(35 : UInt8), (71 : UInt8), (65 : UInt8), (80 : UInt8)])))]])]) [(6, AV.fn (49 : FuncId) [.ptr 5 0 0]), (5, .ptr 5 0 0), (2, .ptr 2 0 0)]) [(vS (ByteArray.mk (Array.mk [(35 : UInt8), (68 : UInt8), (65 : UInt8), (84 : UInt8), (69 : UInt8), (32 : UInt8)])))]) [(vS (ByteArray.mk (Array.mk [(35 : UInt8), (84 : UInt8), (73 : UInt8), (77 : UInt8), (69 : UInt8), (32 : UInt8)])))]) [(vS (ByteArray.mk (Array.mk [(35 : UInt8), (75 : UInt8), (69 : UInt8), (89 : UInt8), (32 : UInt8)])))]) (901, Blk.mk true 81 0 [[.ptr 901 0 0, .own 902]])) (5, Blk.mk true 81 0 [[.ptr 5 0 0, .own 20000]])) (Ent.mk (ByteArray.mk (Array.mk [])) (0 : Int) false (0 : Int) (ByteArray.mk (Array.mk [])) false [])) [(vI (1000 : Int)), (vI (3 : Int))]) [.own 900, .ptr 901 0 0]) (ByteArray.mk (Array.mk [(10 : UInt8)])) := (execR_bind _ _ _).symm.trans (by kernel_rfl)

theorem lpTx1_ok (t : Int) (f : Int) (b : Int) (es : List Ent) (en : Bool) (s : ByteArray) (key : ByteArray) (i : Nat) (hp : prlTx1 t f b es en s key i = true) : ∀ ex s', (outTx1 t f b es en s key i).val = some (ex, s') → LoopOK enTx (loopN Tryz.f26 0) (stTx1 t f b es en s key i) ex s' := by
  simp only [prlTx1, Bool.and_eq_true, decide_eq_true_eq] at hp
  obtain ⟨⟨⟨h1, h2⟩, h4⟩, h3⟩ := hp
  have h3 := F.tEB_iff.1 h3
  refine loop_gen (st := fun p : ByteArray × ByteArray × Nat => stTx1 t f b es en p.1 p.2.1 p.2.2) (out := fun p => outTx1 t f b es en p.1 p.2.1 p.2.2) (I := fun p => p.2.2 ≤ es.length ∧ (F.tE p.1 p.2.1 (es.drop p.2.2)).size ≤ 80000000) (n := ([43, 42, 41, 7, 6, 5, 2], [20000, 5, 2])) (e := ([6, 5, 2], [20000, 5, 2])) (r := ([], [])) (fun p => es.length - p.2.2) ?_ (s, key, i) ⟨h2, h3⟩
  clear h2 h3
  rintro ⟨s, key, i⟩ ⟨h2, h3⟩
  simp only at h2 h3
  by_cases hlt : i < es.length
  · have hy : es[i]? = some es[i] := List.getElem?_eq_getElem hlt
    have hmem : es[i] ∈ es := List.getElem_mem hlt
    generalize es[i] = y at hy hmem
    have hdd := drop_y hy
    rw [hdd, F.tE] at h3
    have hw := List.all_eq_true.1 h4 y hmem
    unfold F.entW at hw
    simp only [Bool.and_eq_true, decide_eq_true_eq] at hw
    obtain ⟨⟨⟨m1, m2⟩, m3⟩, m4⟩ := hw
    right
    refine ⟨(F.bE s key y, y.key, i + 1), ?_, rfl, ⟨hlt, h3⟩, by simp only; omega, ?_⟩
    · rw [evTx1L]
      simp only [unIta, unDte, unDcm, unDsh, unPut, unWst, unBst, preIta1, preDte1, preDcm1, preDsh1, prePut1, preWst1, preBst1, unstTx1, unstTx2, unstTx10, unstTx20, prlTx1, prlTx2, outTx1, outTx2, etaEnt, etaLst, etaSnd, etaStrm, etaMas, Option.bind_some, List.length_map, unStrs, unInts, unBools, unEnts, unItms, unTrns, cond_true, cond_false, Bool.and_true, Bool.true_and, unWstU, unBstU, F.bldS_some, F.bldLen_some, cast_lt hlt, decide_eq_true hlt, getD_at hy, unPut1, unPut2, resPut, fpl, List.drop_zero]
      have qB : (⟨⟨[35, 66, 82, 69, 65, 75]⟩⟩ : ByteArray) = F.kBrk := rfl
      have qD : (⟨⟨[35, 68, 65, 84, 69, 32]⟩⟩ : ByteArray) = F.kDatS := rfl
      have qK : (⟨⟨[35, 75, 69, 89, 32]⟩⟩ : ByteArray) = F.kKeyS := rfl
      have qG : (⟨⟨[35, 71, 65, 80]⟩⟩ : ByteArray) = F.kGap := rfl
      have qT : (⟨⟨[35, 84, 73, 77, 69, 32]⟩⟩ : ByteArray) = F.kTimS := rfl
      have qs : (y.key.toList == key.toList) = F.seq y.key key := rfl
      rw [qB, qD, qK, qG, qT, qs]
      clear qB qD qK qG qT qs
      have hE := F.tE_le (es.drop (i + 1)) (F.bE s key y) y.key
      obtain ⟨l1, l2, l3, l4⟩ := F.e_le (F.tX s y.extra) key y.brk y.date y.key y.gap
      have hbE : F.bE s key y = F.bE' (F.tX s y.extra) key y.uri y.milli y.brk y.date y.key y.gap := rfl
      have hX := F.tX_le y.extra s
      have hE : (F.bE s key y).size ≤ 80000000 := by omega
      rw [hbE] at hE ⊢
      clear hbE
      unfold F.bE' at hE ⊢
      generalize F.tX s y.extra = T0 at *
      obtain ⟨X1, hX1⟩ : ∃ X1, F.e1 T0 y.brk = X1 := ⟨_, rfl⟩
      rw [hX1] at l1 l2 l3 l4 hE ⊢
      obtain ⟨X2, hX2⟩ : ∃ X2, F.e2 X1 y.date = X2 := ⟨_, rfl⟩
      rw [hX2] at l2 l3 l4 hE ⊢
      obtain ⟨X3, hX3⟩ : ∃ X3, F.e3 X2 key y.key = X3 := ⟨_, rfl⟩
      rw [hX3] at l3 l4 hE ⊢
      obtain ⟨X4, hX4⟩ : ∃ X4, F.e4 X3 y.gap = X4 := ⟨_, rfl⟩
      rw [hX4] at l4 hE ⊢
      have l5 := F.pl_le X4 [F.kTimS, F.tmS y.milli]
      have l6 := F.pl_le (F.pl X4 [F.kTimS, F.tmS y.milli]) [y.uri]
      rw [decide_eq_true m4, decide_eq_true (Nat.zero_le y.extra.length), decide_eq_true (by omega : T0.size ≤ 80000000), decide_eq_true m1, decide_eq_true m2, decide_eq_true m3]
      cases hb : y.brk
      case true =>
        have e : F.pl T0 [F.kBrk] = X1 := by rw [← hX1, hb]; rfl
        rw [pre_ok T0 [F.kBrk] (Nat.le_of_ble_eq_true rfl) (by rw [e]; omega), e]
        by_cases hd : 0 ≤ y.date
        rotate_left
        · have e : X1 = X2 := by rw [← hX2]; unfold F.e2; rw [decide_eq_false hd]; rfl
          rw [decide_eq_false hd, e]
          cases hk : F.seq y.key key
          · have e : F.pl X2 [F.kKeyS, F.dsh y.key] = X3 := by rw [← hX3]; unfold F.e3; rw [hk]; rfl
            rw [pre_ok X2 [F.kKeyS, F.dsh y.key] (Nat.le_of_ble_eq_true rfl) (by rw [e]; omega), e]
            cases hg : y.gap
            · have e : X3 = X4 := by rw [← hX4, hg]; rfl
              rw [e, pre_ok X4 [F.kTimS, F.tmS y.milli] (Nat.le_of_ble_eq_true rfl) (by omega), pre_ok (F.pl X4 [F.kTimS, F.tmS y.milli]) [y.uri] (Nat.le_of_ble_eq_true rfl) (by omega), next_at hlt (by omega : es.length ≤ 9223372036854775807)]
              first | rfl | (rw [hkk]; rfl)
            · have e : F.pl X3 [F.kGap] = X4 := by rw [← hX4, hg]; rfl
              rw [pre_ok X3 [F.kGap] (Nat.le_of_ble_eq_true rfl) (by rw [e]; omega), e, pre_ok X4 [F.kTimS, F.tmS y.milli] (Nat.le_of_ble_eq_true rfl) (by omega), pre_ok (F.pl X4 [F.kTimS, F.tmS y.milli]) [y.uri] (Nat.le_of_ble_eq_true rfl) (by omega), next_at hlt (by omega : es.length ≤ 9223372036854775807)]
              first | rfl | (rw [hkk]; rfl)
          · have e : X2 = X3 := by rw [← hX3]; unfold F.e3; rw [hk]; rfl
            have hkk : y.key = key := F.seq_iff.1 hk
            rw [e]
            cases hg : y.gap
            · have e : X3 = X4 := by rw [← hX4, hg]; rfl
              rw [e, pre_ok X4 [F.kTimS, F.tmS y.milli] (Nat.le_of_ble_eq_true rfl) (by omega), pre_ok (F.pl X4 [F.kTimS, F.tmS y.milli]) [y.uri] (Nat.le_of_ble_eq_true rfl) (by omega), next_at hlt (by omega : es.length ≤ 9223372036854775807)]
              first | rfl | (rw [hkk]; rfl)
            · have e : F.pl X3 [F.kGap] = X4 := by rw [← hX4, hg]; rfl
              rw [pre_ok X3 [F.kGap] (Nat.le_of_ble_eq_true rfl) (by rw [e]; omega), e, pre_ok X4 [F.kTimS, F.tmS y.milli] (Nat.le_of_ble_eq_true rfl) (by omega), pre_ok (F.pl X4 [F.kTimS, F.tmS y.milli]) [y.uri] (Nat.le_of_ble_eq_true rfl) (by omega), next_at hlt (by omega : es.length ≤ 9223372036854775807)]
              first | rfl | (rw [hkk]; rfl)
        · have e : F.pl X1 [F.kDatS, F.dtS y.date] = X2 := by rw [← hX2]; unfold F.e2; rw [decide_eq_true hd]; rfl
          rw [decide_eq_true hd, pre_ok X1 [F.kDatS, F.dtS y.date] (Nat.le_of_ble_eq_true rfl) (by rw [e]; omega), e]
          cases hk : F.seq y.key key
          · have e : F.pl X2 [F.kKeyS, F.dsh y.key] = X3 := by rw [← hX3]; unfold F.e3; rw [hk]; rfl
            rw [pre_ok X2 [F.kKeyS, F.dsh y.key] (Nat.le_of_ble_eq_true rfl) (by rw [e]; omega), e]
            cases hg : y.gap
            · have e : X3 = X4 := by rw [← hX4, hg]; rfl
              rw [e, pre_ok X4 [F.kTimS, F.tmS y.milli] (Nat.le_of_ble_eq_true rfl) (by omega), pre_ok (F.pl X4 [F.kTimS, F.tmS y.milli]) [y.uri] (Nat.le_of_ble_eq_true rfl) (by omega), next_at hlt (by omega : es.length ≤ 9223372036854775807)]
              first | rfl | (rw [hkk]; rfl)
            · have e : F.pl X3 [F.kGap] = X4 := by rw [← hX4, hg]; rfl
              rw [pre_ok X3 [F.kGap] (Nat.le_of_ble_eq_true rfl) (by rw [e]; omega), e, pre_ok X4 [F.kTimS, F.tmS y.milli] (Nat.le_of_ble_eq_true rfl) (by omega), pre_ok (F.pl X4 [F.kTimS, F.tmS y.milli]) [y.uri] (Nat.le_of_ble_eq_true rfl) (by omega), next_at hlt (by omega : es.length ≤ 9223372036854775807)]
              first | rfl | (rw [hkk]; rfl)
          · have e : X2 = X3 := by rw [← hX3]; unfold F.e3; rw [hk]; rfl
            have hkk : y.key = key := F.seq_iff.1 hk
            rw [e]
            cases hg : y.gap
            · have e : X3 = X4 := by rw [← hX4, hg]; rfl
              rw [e, pre_ok X4 [F.kTimS, F.tmS y.milli] (Nat.le_of_ble_eq_true rfl) (by omega), pre_ok (F.pl X4 [F.kTimS, F.tmS y.milli]) [y.uri] (Nat.le_of_ble_eq_true rfl) (by omega), next_at hlt (by omega : es.length ≤ 9223372036854775807)]
              first | rfl | (rw [hkk]; rfl)
            · have e : F.pl X3 [F.kGap] = X4 := by rw [← hX4, hg]; rfl
              rw [pre_ok X3 [F.kGap] (Nat.le_of_ble_eq_true rfl) (by rw [e]; omega), e, pre_ok X4 [F.kTimS, F.tmS y.milli] (Nat.le_of_ble_eq_true rfl) (by omega), pre_ok (F.pl X4 [F.kTimS, F.tmS y.milli]) [y.uri] (Nat.le_of_ble_eq_true rfl) (by omega), next_at hlt (by omega : es.length ≤ 9223372036854775807)]
              first | rfl | (rw [hkk]; rfl)
      case false =>
        have e : T0 = X1 := by rw [← hX1, hb]; rfl
        rw [e]
        by_cases hd : 0 ≤ y.date
        rotate_left
        · have e : X1 = X2 := by rw [← hX2]; unfold F.e2; rw [decide_eq_false hd]; rfl
          rw [decide_eq_false hd, e]
          cases hk : F.seq y.key key
          · have e : F.pl X2 [F.kKeyS, F.dsh y.key] = X3 := by rw [← hX3]; unfold F.e3; rw [hk]; rfl
            rw [pre_ok X2 [F.kKeyS, F.dsh y.key] (Nat.le_of_ble_eq_true rfl) (by rw [e]; omega), e]
            cases hg : y.gap
            · have e : X3 = X4 := by rw [← hX4, hg]; rfl
              rw [e, pre_ok X4 [F.kTimS, F.tmS y.milli] (Nat.le_of_ble_eq_true rfl) (by omega), pre_ok (F.pl X4 [F.kTimS, F.tmS y.milli]) [y.uri] (Nat.le_of_ble_eq_true rfl) (by omega), next_at hlt (by omega : es.length ≤ 9223372036854775807)]
              first | rfl | (rw [hkk]; rfl)
            · have e : F.pl X3 [F.kGap] = X4 := by rw [← hX4, hg]; rfl
              rw [pre_ok X3 [F.kGap] (Nat.le_of_ble_eq_true rfl) (by rw [e]; omega), e, pre_ok X4 [F.kTimS, F.tmS y.milli] (Nat.le_of_ble_eq_true rfl) (by omega), pre_ok (F.pl X4 [F.kTimS, F.tmS y.milli]) [y.uri] (Nat.le_of_ble_eq_true rfl) (by omega), next_at hlt (by omega : es.length ≤ 9223372036854775807)]
              first | rfl | (rw [hkk]; rfl)
          · have e : X2 = X3 := by rw [← hX3]; unfold F.e3; rw [hk]; rfl
            have hkk : y.key = key := F.seq_iff.1 hk
            rw [e]
            cases hg : y.gap
            · have e : X3 = X4 := by rw [← hX4, hg]; rfl
              rw [e, pre_ok X4 [F.kTimS, F.tmS y.milli] (Nat.le_of_ble_eq_true rfl) (by omega), pre_ok (F.pl X4 [F.kTimS, F.tmS y.milli]) [y.uri] (Nat.le_of_ble_eq_true rfl) (by omega), next_at hlt (by omega : es.length ≤ 9223372036854775807)]
              first | rfl | (rw [hkk]; rfl)
            · have e : F.pl X3 [F.kGap] = X4 := by rw [← hX4, hg]; rfl
              rw [pre_ok X3 [F.kGap] (Nat.le_of_ble_eq_true rfl) (by rw [e]; omega), e, pre_ok X4 [F.kTimS, F.tmS y.milli] (Nat.le_of_ble_eq_true rfl) (by omega), pre_ok (F.pl X4 [F.kTimS, F.tmS y.milli]) [y.uri] (Nat.le_of_ble_eq_true rfl) (by omega), next_at hlt (by omega : es.length ≤ 9223372036854775807)]
              first | rfl | (rw [hkk]; rfl)
        · have e : F.pl X1 [F.kDatS, F.dtS y.date] = X2 := by rw [← hX2]; unfold F.e2; rw [decide_eq_true hd]; rfl
          rw [decide_eq_true hd, pre_ok X1 [F.kDatS, F.dtS y.date] (Nat.le_of_ble_eq_true rfl) (by rw [e]; omega), e]
          cases hk : F.seq y.key key
          · have e : F.pl X2 [F.kKeyS, F.dsh y.key] = X3 := by rw [← hX3]; unfold F.e3; rw [hk]; rfl
            rw [pre_ok X2 [F.kKeyS, F.dsh y.key] (Nat.le_of_ble_eq_true rfl) (by rw [e]; omega), e]
            cases hg : y.gap
            · have e : X3 = X4 := by rw [← hX4, hg]; rfl
              rw [e, pre_ok X4 [F.kTimS, F.tmS y.milli] (Nat.le_of_ble_eq_true rfl) (by omega), pre_ok (F.pl X4 [F.kTimS, F.tmS y.milli]) [y.uri] (Nat.le_of_ble_eq_true rfl) (by omega), next_at hlt (by omega : es.length ≤ 9223372036854775807)]
              first | rfl | (rw [hkk]; rfl)
            · have e : F.pl X3 [F.kGap] = X4 := by rw [← hX4, hg]; rfl
              rw [pre_ok X3 [F.kGap] (Nat.le_of_ble_eq_true rfl) (by rw [e]; omega), e, pre_ok X4 [F.kTimS, F.tmS y.milli] (Nat.le_of_ble_eq_true rfl) (by omega), pre_ok (F.pl X4 [F.kTimS, F.tmS y.milli]) [y.uri] (Nat.le_of_ble_eq_true rfl) (by omega), next_at hlt (by omega : es.length ≤ 9223372036854775807)]
              first | rfl | (rw [hkk]; rfl)
          · have e : X2 = X3 := by rw [← hX3]; unfold F.e3; rw [hk]; rfl
            have hkk : y.key = key := F.seq_iff.1 hk
            rw [e]
            cases hg : y.gap
            · have e : X3 = X4 := by rw [← hX4, hg]; rfl
              rw [e, pre_ok X4 [F.kTimS, F.tmS y.milli] (Nat.le_of_ble_eq_true rfl) (by omega), pre_ok (F.pl X4 [F.kTimS, F.tmS y.milli]) [y.uri] (Nat.le_of_ble_eq_true rfl) (by omega), next_at hlt (by omega : es.length ≤ 9223372036854775807)]
              first | rfl | (rw [hkk]; rfl)
            · have e : F.pl X3 [F.kGap] = X4 := by rw [← hX4, hg]; rfl
              rw [pre_ok X3 [F.kGap] (Nat.le_of_ble_eq_true rfl) (by rw [e]; omega), e, pre_ok X4 [F.kTimS, F.tmS y.milli] (Nat.le_of_ble_eq_true rfl) (by omega), pre_ok (F.pl X4 [F.kTimS, F.tmS y.milli]) [y.uri] (Nat.le_of_ble_eq_true rfl) (by omega), next_at hlt (by omega : es.length ≤ 9223372036854775807)]
              first | rfl | (rw [hkk]; rfl)
    · simp only [outTx1, hdd, F.tE]
  · have : i = es.length := by omega
    subst this
    left
    refine ⟨(.exit 0, ⟨[(6, .fn 49 [.ptr 5 0 0]), (5, .ptr 5 0 0), (2, .ptr 2 0 0)], [(20000, ⟨false, 5, 1, F.eUs s⟩), (5, ⟨true, 81, 0, [[.ptr 5 0 0, .own 20000]]⟩), (2, ⟨true, 0, 0, [[vI t, vI f, vI b, .sl (es.map eEnt), vB en]]⟩)]⟩), ?_, ?_, by simp, rfl⟩
    · rw [evTx1L]
      simp
    · simp only [outTx1, List.drop_length, F.tE]
      rfl

end M

def F.xTg : ByteArray := ⟨⟨[35, 84, 65, 82, 71, 69, 84, 32]⟩⟩

def F.xFi : ByteArray := ⟨⟨[35, 70, 73, 82, 83, 84, 32]⟩⟩

def F.xBr : ByteArray := ⟨⟨[35, 66, 82, 69, 65, 75, 83, 32]⟩⟩

def F.h0 : ByteArray := F.kLst ++ ⟨⟨[10]⟩⟩

def F.hd3 (l : Lst) : ByteArray := F.pl (F.pl (F.pl F.h0 [F.xTg, F.itoa l.target]) [F.xFi, F.itoa l.first]) [F.xBr, F.itoa l.breaks]

def F.ltE (l : Lst) (x : ByteArray) : ByteArray := F.tE (F.hd3 l ++ x) ⟨⟨[]⟩⟩ l.entries

def F.ltB (l : Lst) (x : ByteArray) : ByteArray := bif l.ended then F.pl (F.ltE l x) [F.kEnd] else F.ltE l x

structure F.ESz (e : Ent) : Prop where
  uri : e.uri.size ≤ 200
  key : e.key.size ≤ 40
  num : e.extra.length ≤ 20
  ext : ∀ x ∈ e.extra, x.size ≤ 300

theorem F.esz_of {e : Ent} {t : Int} (h : F.entryFault e t = 0) : F.ESz e := by
  have hk0 := (F.eok_of h).key
  unfold F.entryFault at h
  split at h
  · rename_i hu; exact absurd h hu
  rename_i hu
  split at h
  · omega
  split at h
  · omega
  split at h
  · omega
  split at h
  · omega
  split at h
  · omega
  rename_i hx
  have hu : F.uriFault e.uri = 0 := by simpa using hu
  unfold F.uriFault at hu
  split at hu
  · omega
  rename_i hq
  unfold F.out at hq
  simp only [Bool.or_eq_true, decide_eq_true_eq, not_or] at hq
  refine ⟨by omega, ?_, by omega, fun x hxm => ?_⟩
  · rcases hk0 with h1 | h1
    · rw [h1]; decide
    · unfold F.isName at h1
      simp only [Bool.and_eq_true, decide_eq_true_eq] at h1
      exact h1.1.1.2
  · have := F.ffI_all h x hxm
    unfold F.extraFault at this
    split at this
    · omega
    · split at this
      · omega
      · omega

theorem F.entW_of {e : Ent} (h1 : F.EOk e) (h2 : F.ESz e) : F.entW e = true := by
  have a := h1.mil1
  have b := h1.mil2
  have c := h1.dat2
  have d := h2.num
  unfold F.entW
  rw [decide_eq_true (by omega), decide_eq_true (by omega), decide_eq_true c, decide_eq_true (by omega)]
  rfl

theorem F.pl_1 (s x : ByteArray) : (F.pl s [x]).size = s.size + x.size + 1 := by
  unfold F.pl
  simp only [F.cat, ByteArray.size_append]
  rfl

theorem F.pl_2 (s x y : ByteArray) : (F.pl s [x, y]).size = s.size + x.size + y.size + 1 := by
  unfold F.pl
  simp only [F.cat, ByteArray.size_append]
  rfl

theorem F.tX_sz : ∀ (l : List ByteArray) (s : ByteArray), (∀ x ∈ l, x.size ≤ 300) → (F.tX s l).size ≤ s.size + 301 * l.length
  | [], s, _ => by rw [F.tX]; exact Nat.le_add_right _ _
  | x :: l, s, h => by
    have h1 := F.tX_sz l (F.pl s [x]) (fun y hy => h y (List.mem_cons_of_mem _ hy))
    have h2 := h x (List.mem_cons_self ..)
    rw [F.pl_1] at h1
    rw [F.tX, List.length_cons]
    omega

theorem F.bE_sz {s key : ByteArray} {e : Ent} (h1 : F.EOk e) (h2 : F.ESz e) : (F.bE s key e).size ≤ s.size + 10000 := by
  have hx := F.tX_sz e.extra s h2.ext
  have hn := h2.num
  have hu := h2.uri
  have hk := h2.key
  obtain ⟨m, hm⟩ := Int.eq_ofNat_of_zero_le (show 0 ≤ e.milli by have := h1.mil1; omega)
  have hm2 := h1.mil2
  have ht : (F.tmS e.milli).size ≤ 25 := by
    have e1 : F.tmS e.milli = F.itoa ((m / 1000 : Nat) : Int) ++ F.dot ++ F.pad ((m % 1000 : Nat) : Int) 3 := by rw [hm]; rfl
    have t1 := F.itoa_size (n := ((m / 1000 : Nat) : Int)) (by omega) (by omega)
    have t2 := F.pad_size' (m % 1000) (by omega)
    have t3 : F.dot.size = 1 := rfl
    rw [e1, ByteArray.size_append, ByteArray.size_append]
    omega
  have hd : 0 ≤ e.date → (F.dtS e.date).size = 24 := fun hd => by
    obtain ⟨k, hk⟩ := Int.eq_ofNat_of_zero_le hd
    have hd2 := h1.dat2
    have := (F.dtS_ok (n := k) (by omega)).1
    rw [← hk] at this
    unfold F.dtOk at this
    rw [Bool.and_eq_true, Bool.and_eq_true, decide_eq_true_eq] at this
    exact this.1.1
  have hs : (F.dsh e.key).size ≤ 40 := by
    unfold F.dsh
    cases F.seq e.key ⟨⟨[]⟩⟩
    · exact hk
    · show F.dash.size ≤ 40
      decide
  have z1 : F.kBrk.size = 6 := rfl
  have z2 : F.kDatS.size = 6 := rfl
  have z3 : F.kKeyS.size = 5 := rfl
  have z4 : F.kGap.size = 4 := rfl
  have z5 : F.kTimS.size = 6 := rfl
  have a1 : ∀ T : ByteArray, (F.e1 T e.brk).size ≤ T.size + 7 := fun T => by
    unfold F.e1
    cases e.brk
    · rw [cond_false]; omega
    · rw [cond_true, F.pl_1]; omega
  have a2 : ∀ T : ByteArray, (F.e2 T e.date).size ≤ T.size + 31 := fun T => by
    unfold F.e2
    by_cases h : 0 ≤ e.date
    · rw [decide_eq_true h, cond_true, F.pl_2, hd h]; omega
    · rw [decide_eq_false h, cond_false]; omega
  have a3 : ∀ T : ByteArray, (F.e3 T key e.key).size ≤ T.size + 46 := fun T => by
    unfold F.e3
    cases F.seq e.key key
    · rw [cond_false, F.pl_2]; omega
    · rw [cond_true]; omega
  have a4 : ∀ T : ByteArray, (F.e4 T e.gap).size ≤ T.size + 5 := fun T => by
    unfold F.e4
    cases e.gap
    · rw [cond_false]; omega
    · rw [cond_true, F.pl_1]; omega
  unfold F.bE F.bE'
  rw [F.pl_1, F.pl_2]
  have b1 := a1 (F.tX s e.extra)
  have b2 := a2 (F.e1 (F.tX s e.extra) e.brk)
  have b3 := a3 (F.e2 (F.e1 (F.tX s e.extra) e.brk) e.date)
  have b4 := a4 (F.e3 (F.e2 (F.e1 (F.tX s e.extra) e.brk) e.date) key e.key)
  omega

theorem F.tE_sz : ∀ (l : List Ent) (s key : ByteArray), (∀ e ∈ l, F.EOk e ∧ F.ESz e) → (F.tE s key l).size ≤ s.size + 10000 * l.length
  | [], s, key, _ => by rw [F.tE]; exact Nat.le_add_right _ _
  | e :: l, s, key, h => by
    obtain ⟨e1, e2⟩ := h e (List.mem_cons_self ..)
    have h1 := F.tE_sz l (F.bE s key e) e.key (fun y hy => h y (List.mem_cons_of_mem _ hy))
    have h2 := F.bE_sz (s := s) (key := key) e1 e2
    rw [F.tE, List.length_cons]
    omega

theorem F.check_sz {l : Lst} (h : F.check l = 0) : l.entries.length ≤ 1000 ∧ ∀ e ∈ l.entries, F.EOk e ∧ F.ESz e := by
  unfold F.check at h
  split at h
  · omega
  split at h
  · omega
  exact ⟨by omega, fun e he => ⟨F.eok_of (F.ffI_all h e he), F.esz_of (F.ffI_all h e he)⟩⟩

theorem F.hd3_sz {l : Lst} (h : F.check l = 0) : (F.hd3 l).size ≤ 200 ∧ 6 ≤ (F.hd3 l).size := by
  obtain ⟨c1, c2, c3, c4, c5, c6, c7⟩ := F.checkW_ok h
  have t1 := F.itoa_size (n := l.target) (by omega) (by omega)
  have t2 := F.itoa_size (n := l.first) (by omega) (by omega)
  have t3 := F.itoa_size (n := l.breaks) (by omega) (by omega)
  have z0 : F.h0.size = 6 := by unfold F.h0; rw [ByteArray.size_append]; rfl
  have z1 : F.xTg.size = 8 := rfl
  have z2 : F.xFi.size = 7 := rfl
  have z3 : F.xBr.size = 8 := rfl
  unfold F.hd3
  rw [F.pl_2, F.pl_2, F.pl_2]
  omega

namespace M

theorem evLtx (l : Lst) (x : ByteArray) : (runF enTx false Tryz.f26 [.agg (eLst l), vS x]).val =
  (fun (q : ByteArray) => (fun (q_1 : List AV) => (fun (q_2 : Nat × Blk) => (fun (q_3 : List (Nat × Blk)) => Option.bind (unenc encPut (q_1, [(901, Blk.mk true 81 0 [[AV.v (Value.pointer none), AV.v (Value.slice none (0 : Nat) (0 : Nat))]]), (900, Blk.mk false 9 1 [[(vS (ByteArray.mk (Array.mk [(35 : UInt8), (76 : UInt8), (73 : UInt8), (83 : UInt8), (84 : UInt8)])))]])])) fun (z : Option ByteArray × List ByteArray) => bif F.putB z.fst z.snd then bif match z.fst with | some val => false | none => true then Option.bind (unenc encIta [(vI l.target)]) fun (z_1 : Int) => bif decide ((-9223372036854775808 : Int) ≤ z_1) && decide (z_1 ≤ (9223372036854775807 : Int)) then Option.bind (unenc encPut (q_1, [(902, Blk.mk false 5 1 (F.eUs ((match z.snd, ByteArray.mk (Array.mk []) with | [], fallback => fallback | a :: tail, x => a) ++ q))), q_2, (900, Blk.mk false 9 1 [[(vS (ByteArray.mk (Array.mk [(35 : UInt8), (84 : UInt8), (65 : UInt8), (82 : UInt8), (71 : UInt8), (69 : UInt8), (84 : UInt8), (32 : UInt8)])))], [(vS (F.itoa z_1))]])])) fun (z : Option ByteArray × List ByteArray) => bif F.putB z.fst z.snd then bif match z.fst with | some val => false | none => true then none else Option.bind (unenc encIta [(vI l.first)]) fun (z_2 : Int) => bif decide ((-9223372036854775808 : Int) ≤ z_2) && decide (z_2 ≤ (9223372036854775807 : Int)) then Option.bind (unenc encPut (q_1, [(902, Blk.mk false 5 1 (F.eUs (F.cat (F.bldS z.fst) z.snd ++ q))), q_2, (900, Blk.mk false 9 1 [[(vS (ByteArray.mk (Array.mk [(35 : UInt8), (70 : UInt8), (73 : UInt8), (82 : UInt8), (83 : UInt8), (84 : UInt8), (32 : UInt8)])))], [(vS (F.itoa z_2))]])])) fun (z : Option ByteArray × List ByteArray) => bif F.putB z.fst z.snd then bif match z.fst with | some val => false | none => true then none else Option.bind (unenc encIta [(vI l.breaks)]) fun (z_3 : Int) => bif decide ((-9223372036854775808 : Int) ≤ z_3) && decide (z_3 ≤ (9223372036854775807 : Int)) then Option.bind (unenc encPut (q_1, [(902, Blk.mk false 5 1 (F.eUs (F.cat (F.bldS z.fst) z.snd ++ q))), q_2, (900, Blk.mk false 9 1 [[(vS (ByteArray.mk (Array.mk [(35 : UInt8), (66 : UInt8), (82 : UInt8), (69 : UInt8), (65 : UInt8), (75 : UInt8), (83 : UInt8), (32 : UInt8)])))], [(vS (F.itoa z_3))]])])) fun (z : Option ByteArray × List ByteArray) => bif F.putB z.fst z.snd then bif match z.fst with | some val => false | none => true then none else Option.bind (unenc encWst ([.ptr 900 0 0, (vS x)], (901, Blk.mk false 5 1 (F.eUs (F.cat (F.bldS z.fst) z.snd ++ q))) :: q_3)) fun (z : Option ByteArray × ByteArray) => bif F.wstB z.fst z.snd then bif match z.fst with | some val => false | none => true then none else Option.bind (unenc stTx11 (St.mk [(43, (vI (0 : Int))), (42, (vI (↑(List.length (List.map eEnt l.entries)) : Int))), (41, AV.sl (List.map eEnt l.entries)), (7, (vS (ByteArray.mk (Array.mk [])))), (6, AV.fn (49 : Nat) [.ptr 5 0 0]), (5, .ptr 5 0 0), (2, .ptr 2 0 0)] [(20000, Blk.mk false 5 1 (F.eUs (F.bldS z.fst ++ z.snd))), (5, Blk.mk true 81 0 [[.ptr 5 0 0, .own 20000]]), (2, Blk.mk true 0 0 [[(vI l.target), (vI l.first), (vI l.breaks), AV.sl (List.map eEnt l.entries), (vB l.ended)]])])) fun (z : Int × Int × Int × List Ent × Bool × ByteArray × ByteArray × Nat) => (fun (q_4 : Nat) => (fun (q_5 : Nat) => (fun (q_6 : Blk) => bif decide (q_4 ≤ (1000 : Nat)) && decide (q_5 ≤ q_4) && List.all z.snd.snd.snd.fst F.entW && F.tEB z.snd.snd.snd.snd.snd.fst z.snd.snd.snd.snd.snd.snd.fst (List.drop q_5 z.snd.snd.snd.fst) && true then bif z.snd.snd.snd.snd.fst then Option.bind (unenc encPut (q_1, [(902, q_6), q_2, (900, Blk.mk false 9 1 [[(vS (ByteArray.mk (Array.mk [(35 : UInt8), (69 : UInt8), (78 : UInt8), (68 : UInt8)])))]])])) fun (z : Option ByteArray × List ByteArray) => bif F.putB z.fst z.snd then bif match z.fst with | some val => false | none => true then none else Option.bind (unenc encBst ([.ptr 900 0 0], (901, Blk.mk false 5 1 (F.eUs (F.cat (F.bldS z.fst) z.snd ++ q))) :: q_3)) fun (z : Option ByteArray) => bif F.bstB z then bif match z with | some val => false | none => true then none else some ((vS (F.bldS z)), []) else none else none else Option.bind (unenc encBst ([.ptr 900 0 0], (901, q_6) :: q_3)) fun (z : Option ByteArray) => bif F.bstB z then bif match z with | some val => false | none => true then none else some ((vS (F.bldS z)), []) else none else none) (Blk.mk false 5 1 (F.eUs (F.tE z.snd.snd.snd.snd.snd.fst z.snd.snd.snd.snd.snd.snd.fst (List.drop q_5 z.snd.snd.snd.fst))))) z.snd.snd.snd.snd.snd.snd.snd) (List.length z.snd.snd.snd.fst) else none else none else none else none else none else none else none else none else none) [(900, Blk.mk true 81 0 [[.ptr 900 0 0, .own 901]])]) (901, Blk.mk true 81 0 [[.ptr 901 0 0, .own 902]])) [.own 900, .ptr 901 0 0]) (ByteArray.mk (Array.mk [(10 : UInt8)])) := (runFR_val).symm.trans (by kernel_rfl)

def encLtx1 (l : Lst) (x : ByteArray) : List AV := [.agg (eLst l), vS x]

def encLtx (a : Lst × ByteArray) : List AV := encLtx1 a.1 a.2

theorem encLtx_inj (a a' : Lst × ByteArray) (h : encLtx a = encLtx a') : a = a' := by
  simp only [encLtx, encLtx1] at h
  try simp [eUs_inj, strs_inj, ints_inj, ents_inj, eEnt_iff, eLst_iff, eSnds_inj, eStrms_inj] at h
  grind

theorem unLtx (l : Lst) (x : ByteArray) : unenc encLtx ([AV.agg [(vI l.target), (vI l.first), (vI l.breaks), AV.sl (List.map eEnt l.entries), (vB l.ended)], (vS x)]) = some (l, x) := unenc_of encLtx_inj (l, x) rfl

theorem unLtxw (l_target : Int) (l_first : Int) (l_breaks : Int) (l_entries : List Ent) (l_ended : Bool) (x : ByteArray) : unenc encLtx ([AV.agg [(vI l_target), (vI l_first), (vI l_breaks), AV.sl (List.map eEnt l_entries), (vB l_ended)], (vS x)]) = some ((Lst.mk l_target l_first l_breaks l_entries l_ended), x) := unenc_of encLtx_inj ((Lst.mk l_target l_first l_breaks l_entries l_ended), x) rfl

def resLtx1 (l : Lst) (x : ByteArray) : AV × Heap := (vS (F.ltB l x), [])

def preLtx1 (l : Lst) (x : ByteArray) : Bool := decide (F.check l = 0) && decide (x.size ≤ 100)

noncomputable def oLtx : Orc := orc 26 true encLtx (fun a => preLtx1 a.1 a.2) fun a => resLtx1 a.1 a.2

theorem okLtx : OrcOK Tryz.prog noG oLtx := by
  refine mk_ok Tryz.f26 (keep := false) (by kernel_rfl) (by kernel_rfl) enTx_ok mixed (two_loops (x0 := loopN Tryz.f26 0) (x1 := loopN Tryz.f26 1) (by kernel_rfl) (lpo_ok ?_) (lpo_ok ?_)) (by first | exact fun _ _ => ⟨rfl, rfl⟩ | (intro h; cases h)) ?_
  · rintro ⟨t, f, b, es, en, s, key, i⟩ hp
    exact lpTx1_ok t f b es en s key i hp
  · rintro ⟨t, f, b, es, en, i, key, u, m, br, d, ky, g, x, s, j⟩ hp
    exact lpTx2_ok t f b es en i key u m br d ky g x s j hp
  rintro ⟨l, x⟩ hpre hok
  show (runF enTx false _ (encLtx1 _ _)).val = some (resLtx1 _ _)
  unfold encLtx1 resLtx1
  rw [evLtx]
  simp only [preLtx1, Bool.and_eq_true, decide_eq_true_eq] at hpre
  obtain ⟨hc, hx⟩ := hpre
  obtain ⟨c1, c2, c3, c4, c5, c6, c7⟩ := F.checkW_ok hc
  obtain ⟨s1, s2⟩ := F.check_sz hc
  obtain ⟨s3, s4⟩ := F.hd3_sz hc
  have qL : (⟨⟨[35, 76, 73, 83, 84]⟩⟩ : ByteArray) = F.kLst := rfl
  have q1 : (⟨⟨[35, 84, 65, 82, 71, 69, 84, 32]⟩⟩ : ByteArray) = F.xTg := rfl
  have q2 : (⟨⟨[35, 70, 73, 82, 83, 84, 32]⟩⟩ : ByteArray) = F.xFi := rfl
  have q3 : (⟨⟨[35, 66, 82, 69, 65, 75, 83, 32]⟩⟩ : ByteArray) = F.xBr := rfl
  have qE : (⟨⟨[35, 69, 78, 68]⟩⟩ : ByteArray) = F.kEnd := rfl
  simp only [unIta, unWst, unBst, preIta1, unstTx1, unstTx10, prlTx1, outTx1, etaEnt, etaLst, Option.bind_some, List.length_map, cond_true, cond_false, Bool.and_true, Bool.true_and, unWstU, unBstU, F.bldS_some, F.bldLen_some, unPut0, unPut1, unPut2, resPut, fpl, resWst, qL, q1, q2, q3, qE, List.drop_zero]
  have k0 : F.putB none [F.kLst] = true := rfl
  have f0 : F.kLst ++ (⟨⟨[10]⟩⟩ : ByteArray) = F.h0 := rfl
  have f3 : F.pl (F.pl (F.pl F.h0 [F.xTg, F.itoa l.target]) [F.xFi, F.itoa l.first]) [F.xBr, F.itoa l.breaks] = F.hd3 l := rfl
  have p1 := F.pl_le (F.pl F.h0 [F.xTg, F.itoa l.target]) [F.xFi, F.itoa l.first]
  have p2 := F.pl_le (F.pl (F.pl F.h0 [F.xTg, F.itoa l.target]) [F.xFi, F.itoa l.first]) [F.xBr, F.itoa l.breaks]
  rw [f3] at p2
  have hz : (F.hd3 l ++ x).size = (F.hd3 l).size + x.size := ByteArray.size_append
  have hT := F.tE_sz l.entries (F.hd3 l ++ x) ⟨⟨[]⟩⟩ s2
  have hL := F.tE_le l.entries (F.hd3 l ++ x) ⟨⟨[]⟩⟩
  have hw : l.entries.all F.entW = true := List.all_eq_true.2 fun e he => F.entW_of (s2 e he).1 (s2 e he).2
  have fE : F.tE (F.hd3 l ++ x) ⟨⟨[]⟩⟩ l.entries = F.ltE l x := rfl
  rw [fE] at hT hL
  have he1 := F.pl_1 (F.ltE l x) F.kEnd
  have he2 : F.kEnd.size = 4 := rfl
  have P : F.tEB (F.hd3 l ++ x) ⟨⟨[]⟩⟩ l.entries = true := F.tEB_iff.2 (by rw [fE]; omega)
  rw [k0, f0, pre_ok F.h0 [F.xTg, F.itoa l.target] (Nat.le_of_ble_eq_true rfl) (by omega), pre_ok (F.pl F.h0 [F.xTg, F.itoa l.target]) [F.xFi, F.itoa l.first] (Nat.le_of_ble_eq_true rfl) (by omega), pre_ok (F.pl (F.pl F.h0 [F.xTg, F.itoa l.target]) [F.xFi, F.itoa l.first]) [F.xBr, F.itoa l.breaks] (Nat.le_of_ble_eq_true rfl) (by rw [f3]; omega)]
  rw [f3, P, hw, decide_eq_true s1, decide_eq_true (Nat.zero_le l.entries.length), F.wstB_some (by omega : (F.hd3 l).size + x.size ≤ 140737488355328), fE, pre_ok (F.ltE l x) [F.kEnd] (Nat.le_of_ble_eq_true rfl) (by omega)]
  rw [decide_eq_true (by omega : -9223372036854775808 ≤ l.target), decide_eq_true (by omega : l.target ≤ 9223372036854775807), decide_eq_true (by omega : -9223372036854775808 ≤ l.first), decide_eq_true (by omega : l.first ≤ 9223372036854775807), decide_eq_true (by omega : -9223372036854775808 ≤ l.breaks), decide_eq_true (by omega : l.breaks ≤ 9223372036854775807)]
  rw [F.bstB_some (by omega : 0 < (F.pl (F.ltE l x) [F.kEnd]).size), F.bstB_some (by omega : 0 < (F.ltE l x).size)]
  unfold F.ltB
  cases l.ended <;> rfl

theorem evBnd (s : ByteArray) : (runF en0 false Tryz.f25 [vS s]).val =
  bif decide ((500000 : Int) < (↑(ByteArray.size s) : Int)) then some (AV.tup [(vS (ByteArray.mk (Array.mk []))), (vI (2 : Int))], []) else some (AV.tup [(vS s), (vI (0 :
  Int))], []) := (runFR_val).symm.trans (by kernel_rfl)

def encBnd1 (s : ByteArray) : List AV := [vS s]

def encBnd (a : ByteArray) : List AV := encBnd1 a

theorem encBnd_inj (a a' : ByteArray) (h : encBnd a = encBnd a') : a = a' := by
  simp only [encBnd, encBnd1] at h
  try simp [eUs_inj, strs_inj, ints_inj, ents_inj, eEnt_iff, eLst_iff, eSnds_inj, eStrms_inj] at h
  grind

theorem unBnd (s : ByteArray) : unenc encBnd ([(vS s)]) = some (s) := unenc_of encBnd_inj (s) rfl

def resBnd1 (s : ByteArray) : AV × Heap := (.tup [vS (bif decide (500000 < s.size) then ⟨⟨[]⟩⟩ else s), vI (bif decide (500000 < s.size) then 2 else 0)], [])

def preBnd1 (s : ByteArray) : Bool := true

noncomputable def oBnd : Orc := orc 25 true encBnd (fun a => preBnd1 a) fun a => resBnd1 a

theorem okBnd : OrcOK Tryz.prog noG oBnd := by
  refine mk_ok Tryz.f25 (keep := false) (by kernel_rfl) (by kernel_rfl) en0_ok mixed (no_loops (by kernel_rfl)) (by first | exact fun _ _ => ⟨rfl, rfl⟩ | (intro h; cases h)) ?_
  rintro s hpre hok
  show (runF en0 false _ (encBnd1 _)).val = some (resBnd1 _)
  unfold encBnd1 resBnd1
  rw [evBnd]
  have e1 : decide ((500000 : Int) < (s.size : Int)) = decide (500000 < s.size) := decide_eq_decide.2 (by omega)
  simp only [etaEnt, etaLst, etaSnd, etaStrm, etaMas, Option.bind_some, List.length_map, unStrs, unInts, unBools, unEnts, unItms, unTrns, cond_true, cond_false, Bool.and_true, Bool.true_and, unWstU, unBstU, F.bldS_some, F.bldLen_some, e1]
  cases decide (500000 < s.size) <;> rfl

end M

namespace M

def seqN : Nat → Code → Code
  | 0, _ => .skip
  | n + 1, .seq x y => .seq x (seqN n y)
  | _ + 1, _ => .skip

def dropN : Nat → Code → Code
  | 0, c => c
  | n + 1, .seq _ y => dropN n y
  | _ + 1, c => c

def okN : Nat → Code → Bool
  | 0, _ => true
  | n + 1, .seq _ y => okN n y
  | _ + 1, _ => false

def codeOf (f : Func) : Code := f.body.getD .skip

theorem cut_go {P : Program} {E : Env} {B : Nat → Prop} {N : Nat} {w0 : World} {S0 : Nat → Prop} {β0 : Nat → Option BI} (ok : EnvOK P E) (hm : P.follows .mixedOrders = true) {L : List Code} (hlp : ∀ x ∈ L, ∀ s e s', (E.lp (lid x) s).val = some (e, s') → LoopOK E x s e s') {Q : Exit → Act → World → Prop} {s1 : St} :
    ∀ (n : Nat) (c : Code) (s : St) (a : Act) (w : World), okN n c = true → (∀ x ∈ loopsOf c, x ∈ L) → dstsOK N c = true → (exec E (seqN n c) s).val = some (.normal, s1) → RelE E B N w0 S0 β0 s a w →
      (∀ a' w', RelE E B N w0 S0 β0 s1 a' w' → (∀ x ∈ loopsOf (dropN n c), x ∈ L) → dstsOK N (dropN n c) = true → (dropN n c).wp P Q a' w') → c.wp P Q a w
  | 0, c, s, a, w, _, hL, hd, h, rel, hR => by
    rw [seqN, exec, done, T.ret_some] at h
    cases h
    exact hR a w rel hL hd
  | n + 1, c, s, a, w, hk, hL, hd, h, rel, hR => by
    cases c with
    | seq x y =>
      rw [seqN, exec, T.bind_some] at h
      obtain ⟨⟨e1, s2⟩, h1, h⟩ := h
      simp only [dstsOK, Bool.and_eq_true] at hd
      refine wp_seq (exec_sound ok hm hlp x (fun z hz => hL z (by simp [loopsOf, hz])) hd.1 s e1 s2 a w _ rel h1 fun a1 w1 r1 => ?_)
      cases e1 with
      | exit i => rw [T.ret_some] at h; cases h
      | ret => rw [T.ret_some] at h; cases h
      | normal => exact cut_go ok hm hlp n y s2 a1 w1 hk (fun z hz => hL z (by simp [loopsOf, hz])) hd.2 h r1 hR
    | _ => exact absurd hk (by simp [okN])

theorem cut_wp {P : Program} {E : Env} {B : Nat → Prop} {N : Nat} {w0 : World} {S0 : Nat → Prop} {β0 : Nat → Option BI} (ok : EnvOK P E) (hm : P.follows .mixedOrders = true) {L : List Code} (hlp : ∀ x ∈ L, ∀ s e s', (E.lp (lid x) s).val = some (e, s') → LoopOK E x s e s') {Q : Exit → Act → World → Prop} {n : Nat} {c : Code} {s s1 : St} {a : Act} {w : World} {k e r : List Nat × List Nat}
    (hk : okN n c = true) (hL : ∀ x ∈ loopsOf c, x ∈ L) (hd : dstsOK N c = true) (h : ((exec E (seqN n c) s).bind (lessX k e r)).val = some (.normal, s1)) (hc : closedB s1 = true) (rel : RelE E B N w0 S0 β0 s a w)
    (hR : ∀ a' w', RelE E B N w0 S0 β0 s1 a' w' → (∀ x ∈ loopsOf (dropN n c), x ∈ L) → dstsOK N (dropN n c) = true → (dropN n c).wp P Q a' w') : c.wp P Q a w := by
  obtain ⟨j, hj⟩ := lessX_of h
  rw [T.bind_some] at hj
  obtain ⟨⟨e0, s0⟩, h1, h2⟩ := hj
  have h2 : (e0, less j.1 j.2 s0) = (Ex.normal, s1) := Option.some.inj h2
  cases h2
  exact cut_go ok hm hlp n c s a w hk hL hd h1 rel fun a' w' r1 => hR a' w' (less_relE r1 j.1 j.2 hc)

theorem cut_end {P : Program} {E : Env} {B : Nat → Prop} {N : Nat} {w0 : World} {S0 : Nat → Prop} {β0 : Nat → Option BI} (ok : EnvOK P E) (hm : P.follows .mixedOrders = true) {L : List Code} (hlp : ∀ x ∈ L, ∀ s e s', (E.lp (lid x) s).val = some (e, s') → LoopOK E x s e s') {Q : Exit → Act → World → Prop} {c : Code} {s s1 : St} {a : Act} {w : World} {k e r : List Nat × List Nat} {ee : Ex}
    (hL : ∀ x ∈ loopsOf c, x ∈ L) (hd : dstsOK N c = true) (h : ((exec E c s).bind (lessX k e r)).val = some (ee, s1)) (hc : closedB s1 = true) (rel : RelE E B N w0 S0 β0 s a w)
    (hR : ∀ a' w', RelE E B N w0 S0 β0 s1 a' w' → Q (exOf ee) a' w') : c.wp P Q a w := by
  obtain ⟨j, hj⟩ := lessX_of h
  rw [T.bind_some] at hj
  obtain ⟨⟨e0, s0⟩, h1, h2⟩ := hj
  have h2 : (e0, less j.1 j.2 s0) = (ee, s1) := Option.some.inj h2
  cases h2
  exact exec_sound ok hm hlp c hL hd s _ s0 a w Q rel h1 fun a' w' r1 => hR a' w' (less_relE r1 j.1 j.2 hc)

end M

theorem F.pl_app (a s : ByteArray) (l : List ByteArray) {x y : ByteArray} (hl : l = [x] ∨ l = [x, y]) : F.pl (a ++ s) l = a ++ F.pl s l := by
  unfold F.pl
  rcases hl with rfl | rfl <;> simp only [F.cat, ByteArray.append_assoc]

theorem F.tX_app (a : ByteArray) : ∀ (l : List ByteArray) (s : ByteArray), F.tX (a ++ s) l = a ++ F.tX s l
  | [], s => rfl
  | x :: l, s => by rw [F.tX, F.tX, F.pl_app (x := x) (y := x) a s [x] (.inl rfl), F.tX_app a l]

theorem F.bE_app (a key : ByteArray) (e : Ent) : ∀ s : ByteArray, F.bE (a ++ s) key e = a ++ F.bE s key e := fun s => by
  unfold F.bE F.bE'
  rw [F.tX_app]
  generalize F.tX s e.extra = T
  unfold F.e1 F.e2 F.e3 F.e4 F.pl
  cases e.brk <;> cases decide (0 ≤ e.date) <;> cases F.seq e.key key <;> cases e.gap <;> simp only [cond_true, cond_false, F.cat, ByteArray.append_assoc]

theorem F.bE_nil (a key : ByteArray) (e : Ent) : a ++ F.bE ⟨⟨[]⟩⟩ key e = F.bE a key e := by
  rw [← F.bE_app, show a ++ (⟨⟨[]⟩⟩ : ByteArray) = a from F.bsx (by rw [F.bs_app]; exact List.append_nil _)]

theorem F.tm_sz {m : Int} (h1 : 0 ≤ m) (h2 : m ≤ 3600000) : (F.tmS m).size ≤ 25 := by
  obtain ⟨m, rfl⟩ := Int.eq_ofNat_of_zero_le h1
  have e1 : F.tmS (m : Int) = F.itoa ((m / 1000 : Nat) : Int) ++ F.dot ++ F.pad ((m % 1000 : Nat) : Int) 3 := rfl
  have t1 := F.itoa_size (n := ((m / 1000 : Nat) : Int)) (by omega) (by omega)
  have t2 := F.pad_size' (m % 1000) (by omega)
  have t3 : F.dot.size = 1 := rfl
  rw [e1, ByteArray.size_append, ByteArray.size_append]
  omega

theorem F.dt_sz {d : Int} (h1 : 0 ≤ d) (h2 : d ≤ 253402300799999) : (F.dtS d).size = 24 := by
  obtain ⟨k, rfl⟩ := Int.eq_ofNat_of_zero_le h1
  have := (F.dtS_ok (n := k) (by omega)).1
  unfold F.dtOk at this
  rw [Bool.and_eq_true, Bool.and_eq_true, decide_eq_true_eq] at this
  exact this.1.1

def F.lnW (e : Ent) : Bool := F.entW e && decide (e.uri.size ≤ 200) && decide (e.key.size ≤ 40) && decide ((F.tX ⟨⟨[]⟩⟩ e.extra).size ≤ 10000)

theorem F.lnW_of {e : Ent} (h1 : F.EOk e) (h2 : F.ESz e) : F.lnW e = true := by
  have hx := F.tX_sz e.extra ⟨⟨[]⟩⟩ h2.ext
  have hn := h2.num
  have hz : (⟨⟨[]⟩⟩ : ByteArray).size = 0 := rfl
  unfold F.lnW
  rw [F.entW_of h1 h2, decide_eq_true h2.uri, decide_eq_true h2.key, decide_eq_true (by omega)]
  rfl

namespace M

def stXl (u : ByteArray) (m : Int) (br : Bool) (d : Int) (ky : ByteArray) (g : Bool) (x : List ByteArray) (key : ByteArray) (s : ByteArray) (i : Nat) : St := ⟨[(6, vI i), (5, vS s), (2, .ptr 2 0 0), (1, vS key)], [(2, ⟨true, 0, 0, [[vS u, vI m, vB br, vI d, vS ky, vB g, .sl (x.map eStr)]]⟩)]⟩

def stXl1 (a : ByteArray × Int × Bool × Int × ByteArray × Bool × (List ByteArray) × ByteArray × ByteArray × Nat) : St := stXl a.1 a.2.1 a.2.2.1 a.2.2.2.1 a.2.2.2.2.1 a.2.2.2.2.2.1 a.2.2.2.2.2.2.1 a.2.2.2.2.2.2.2.1 a.2.2.2.2.2.2.2.2.1 a.2.2.2.2.2.2.2.2.2

theorem stXl_inj (a a' : ByteArray × Int × Bool × Int × ByteArray × Bool × (List ByteArray) × ByteArray × ByteArray × Nat) (h : stXl1 a = stXl1 a') : a = a' := by
  simp only [stXl1, stXl] at h
  try simp [strs_inj, ints_inj, ents_inj, eEnt_iff, eLst_iff, eSnds_inj, eStrms_inj] at h
  grind

theorem unstXl (u : ByteArray) (m : Int) (br : Bool) (d : Int) (ky : ByteArray) (g : Bool) (x : List ByteArray) (key : ByteArray) (s : ByteArray) (i : Nat) : unenc stXl1 (St.mk [(6, (vI (↑i : Int))), (5, (vS s)), (2, .ptr 2 0 0), (1, (vS key))] [(2, Blk.mk true 0 0 [[(vS u), (vI m), (vB br), (vI d), (vS ky), (vB g), AV.sl (List.map eStr
  x)]])]) = some (u, m, br, d, ky, g, x, key, s, i) := unenc_of stXl_inj (u, m, br, d, ky, g, x, key, s, i) rfl

theorem unstXl0 (u : ByteArray) (m : Int) (br : Bool) (d : Int) (ky : ByteArray) (g : Bool) (x : List ByteArray) (key : ByteArray)  : unenc stXl1 (St.mk [(6, (vI (0 : Int))), (5, (vS (ByteArray.mk (Array.mk [])))), (2, .ptr 2 0 0), (1, (vS key))] [(2, Blk.mk true 0 0 [[(vS u), (vI m), (vB br), (vI d), (vS ky), (vB
  g), AV.sl (List.map eStr x)]])]) = some (u, m, br, d, ky, g, x, key, ⟨⟨[]⟩⟩, 0) := unenc_of stXl_inj (u, m, br, d, ky, g, x, key, ⟨⟨[]⟩⟩, 0) rfl

def outXl (u : ByteArray) (m : Int) (br : Bool) (d : Int) (ky : ByteArray) (g : Bool) (x : List ByteArray) (key : ByteArray) (s : ByteArray) (i : Nat) : T (Ex × St) := .ret (.exit 0, ⟨[(5, vS (F.tX s (x.drop i))), (2, .ptr 2 0 0), (1, vS key)], [(2, ⟨true, 0, 0, [[vS u, vI m, vB br, vI d, vS ky, vB g, .sl (x.map eStr)]]⟩)]⟩)

noncomputable def prlXl (u : ByteArray) (m : Int) (br : Bool) (d : Int) (ky : ByteArray) (g : Bool) (x : List ByteArray) (key : ByteArray) (s : ByteArray) (i : Nat) : Bool := decide (x.length ≤ 1000) && decide (i ≤ x.length) && decide ((F.tX s (x.drop i)).size ≤ 80000000)

noncomputable def lpXl : Nat × (St → T (Ex × St)) := (3, lpo [6, 5, 2, 1] [2] stXl1 (fun a => prlXl a.1 a.2.1 a.2.2.1 a.2.2.2.1 a.2.2.2.2.1 a.2.2.2.2.2.1 a.2.2.2.2.2.2.1 a.2.2.2.2.2.2.2.1 a.2.2.2.2.2.2.2.2.1 a.2.2.2.2.2.2.2.2.2) fun a => outXl a.1 a.2.1 a.2.2.1 a.2.2.2.1 a.2.2.2.2.1 a.2.2.2.2.2.1 a.2.2.2.2.2.2.1 a.2.2.2.2.2.2.2.1 a.2.2.2.2.2.2.2.2.1 a.2.2.2.2.2.2.2.2.2)

noncomputable def enXln : Env := envH ty noG lks [oXdt, oXdc] [] [] [lpXl]

theorem enXln_ok : EnvOK Tryz.prog enXln := by
  refine envH_ok lks_ok ty_ok ?_ ?_
  · simp only [List.forall_mem_cons]
    exact ⟨okXdt, okXdc, by simp⟩
  · simp

theorem evXlL (u : ByteArray) (m : Int) (br : Bool) (d : Int) (ky : ByteArray) (g : Bool) (x : List ByteArray) (key : ByteArray) (s : ByteArray) (i : Nat) : ((exec enXln (loopN Tryz.f56 0) (stXl u m br d ky g x key s i)).bind (lessX ([6, 5, 2, 1], [2]) ([5, 2, 1], [2]) ([], []))).val =
  bif decide ((↑i : Int) < (↑(List.length (List.map eStr x)) : Int)) then Option.bind (unenc (List.map eStr) (List.map eStr x)) fun (z : List ByteArray) => bif decide (i <
  List.length z) then bif Nat.ble (ByteArray.size (List.getD z i (ByteArray.mk (Array.mk []))) + ByteArray.size (ByteArray.mk (Array.mk [(10 : UInt8)])))
  (9223372036854775807 : Nat) then bif Nat.ble (ByteArray.size s + ByteArray.size (List.getD z i (ByteArray.mk (Array.mk [])) ++ ByteArray.mk (Array.mk [(10 : UInt8)])))
  (9223372036854775807 : Nat) then some (Ex.normal, St.mk [(6, (vI (IntKind.wrap IntKind.i64 ((↑i : Int) + (1 : Int))))), (5, (vS (s ++ (List.getD z i (ByteArray.mk
  (Array.mk [])) ++ ByteArray.mk (Array.mk [(10 : UInt8)]))))), (2, .ptr 2 0 0), (1, (vS key))] [(2, Blk.mk true 0 0 [[(vS u), (vI m), (vB br), (vI d), (vS ky), (vB g),
  AV.sl (List.map eStr x)]])]) else none else none else none else some (Ex.exit (0 : Nat), St.mk [(5, (vS s)), (2, .ptr 2 0 0), (1, (vS key))] [(2, Blk.mk true 0 0 [[(vS u),
  (vI m), (vB br), (vI d), (vS ky), (vB g), AV.sl (List.map eStr x)]])]) := (execR_bind _ _ _).symm.trans (by kernel_rfl)

theorem lpXl_ok (u : ByteArray) (m : Int) (br : Bool) (d : Int) (ky : ByteArray) (g : Bool) (x : List ByteArray) (key : ByteArray) (s : ByteArray) (i : Nat) (hp : prlXl u m br d ky g x key s i = true) : ∀ ex s', (outXl u m br d ky g x key s i).val = some (ex, s') → LoopOK enXln (loopN Tryz.f56 0) (stXl u m br d ky g x key s i) ex s' := by
  simp only [prlXl, Bool.and_eq_true, decide_eq_true_eq] at hp
  obtain ⟨⟨h1, h2⟩, h3⟩ := hp
  refine loop_gen (st := fun p : ByteArray × Nat => stXl u m br d ky g x key p.1 p.2) (out := fun p => outXl u m br d ky g x key p.1 p.2) (I := fun p => p.2 ≤ x.length ∧ (F.tX p.1 (x.drop p.2)).size ≤ 80000000) (n := ([6, 5, 2, 1], [2])) (e := ([5, 2, 1], [2])) (r := ([], [])) (fun p => x.length - p.2) ?_ (s, i) ⟨h2, h3⟩
  clear h2 h3
  rintro ⟨s, i⟩ ⟨h2, h3⟩
  simp only at h2 h3
  by_cases hlt : i < x.length
  · have hy : x[i]? = some x[i] := List.getElem?_eq_getElem hlt
    generalize x[i] = y at hy
    have hdd := drop_y hy
    rw [hdd, F.tX] at h3
    have hc := F.tX_le (x.drop (i + 1)) (F.pl s [y])
    have hc2 := F.pl_1 s y
    have e1 : (⟨⟨[10]⟩⟩ : ByteArray).size = 1 := rfl
    have hi : idx (i : Int) = some i := rfl
    have hc3 : s ++ (y ++ (⟨⟨[10]⟩⟩ : ByteArray)) = F.pl s [y] := by
      unfold F.pl
      simp only [F.cat, ByteArray.append_assoc]
    right
    refine ⟨(F.pl s [y], i + 1), ?_, rfl, ⟨hlt, h3⟩, by simp only; omega, ?_⟩
    · rw [evXlL]
      simp only [unXdt, unXdc, preXdt1, preXdc1, unstXl, unstXl0, prlXl, outXl, etaEnt, etaLst, etaSnd, etaStrm, etaMas, Option.bind_some, List.length_map, unStrs, unInts, unBools, unEnts, unItms, unTrns, cond_true, cond_false, Bool.and_true, Bool.true_and, cast_lt hlt, decide_eq_true hlt, hi, getD_at hy]
      rw [hc3, ble_t (by rw [e1]; omega), ble_t (by rw [ByteArray.size_append, e1]; omega), next_at hlt (by omega : x.length ≤ 9223372036854775807)]
      rfl
    · simp only [outXl, hdd, F.tX]
  · have : i = x.length := by omega
    subst this
    left
    refine ⟨(.exit 0, ⟨[(5, vS s), (2, .ptr 2 0 0), (1, vS key)], [(2, ⟨true, 0, 0, [[vS u, vI m, vB br, vI d, vS ky, vB g, .sl (x.map eStr)]]⟩)]⟩), ?_, ?_, by simp, rfl⟩
    · rw [evXlL]
      simp
    · simp only [outXl, List.drop_length, F.tX]
      rfl

theorem evX1 (u : ByteArray) (m : Int) (br : Bool) (d : Int) (ky : ByteArray) (g : Bool) (x : List ByteArray) (key : ByteArray) : ((exec enXln (seqN 5 (codeOf Tryz.f56)) ⟨numbered 0 [.agg [vS u, vI m, vB br, vI d, vS ky, vB g, .sl (x.map eStr)], vS key] [], []⟩).bind (lessX ([5, 2, 1], [2]) ([], []) ([], []))).val =
  (fun (q : ByteArray) => (fun (q_1 : Nat × AV) => (fun (q_2 : ByteArray) => (fun (q_3 : Nat) => (fun (q_4 : ByteArray) => Option.bind (unenc stXl1 (St.mk [(6, (vI (0 :
  Int))), (5, (vS (ByteArray.mk (Array.mk [])))), q_1, (1, (vS key))] [(2, Blk.mk true 0 0 [[(vS u), (vI m), (vB br), (vI d), (vS ky), (vB g), AV.sl (List.map eStr x)]])]))
  fun (z : ByteArray × Int × Bool × Int × ByteArray × Bool × List ByteArray × ByteArray × ByteArray × Nat) => (fun (q_5 : AV) => (fun (q_6 : Nat) => (fun (q_7 : ByteArray ×
  Nat) => (fun (q_8 : List (Nat × AV)) => (fun (q_9 : ByteArray) => (fun (q_10 : Nat) => (fun (q_11 : ByteArray) => (fun (q_12 : List (Nat × Blk)) => bif decide (q_6 ≤ (1000
  : Nat)) && decide (q_7.snd ≤ q_6) && decide (q_10 ≤ (80000000 : Nat)) && true then bif z.snd.snd.fst then bif Nat.ble (q_10 + ByteArray.size q_4) (9223372036854775807 :
  Nat) then bif decide ((0 : Int) ≤ z.snd.snd.snd.fst) then Option.bind (unenc encXdt [q_5]) fun (z : Int) => bif decide ((0 : Int) ≤ z) && decide (z ≤ (253402300799999 :
  Int)) then bif Nat.ble (q_3 + ByteArray.size (F.dtS z)) (9223372036854775807 : Nat) then bif Nat.ble (ByteArray.size (q_2 ++ F.dtS z) + ByteArray.size q)
  (9223372036854775807 : Nat) then bif Nat.ble (ByteArray.size q_11 + ByteArray.size (q_2 ++ F.dtS z ++ q)) (9223372036854775807 : Nat) then some (Ex.normal, St.mk ((5, (vS
  (q_11 ++ (q_2 ++ F.dtS z ++ q)))) :: q_8) q_12) else none else none else none else none else some (Ex.normal, St.mk ((5, (vS q_11)) :: q_8) q_12) else none else bif decide
  ((0 : Int) ≤ z.snd.snd.snd.fst) then Option.bind (unenc encXdt [q_5]) fun (z : Int) => bif decide ((0 : Int) ≤ z) && decide (z ≤ (253402300799999 : Int)) then bif Nat.ble
  (q_3 + ByteArray.size (F.dtS z)) (9223372036854775807 : Nat) then bif Nat.ble (ByteArray.size (q_2 ++ F.dtS z) + ByteArray.size q) (9223372036854775807 : Nat) then bif
  Nat.ble (q_10 + ByteArray.size (q_2 ++ F.dtS z ++ q)) (9223372036854775807 : Nat) then some (Ex.normal, St.mk ((5, (vS (q_9 ++ (q_2 ++ F.dtS z ++ q)))) :: q_8) q_12) else
  none else none else none else none else some (Ex.normal, St.mk ((5, (vS q_9)) :: q_8) q_12) else none) [(2, Blk.mk true 0 0 [[(vS z.fst), (vI z.snd.fst), (vB
  z.snd.snd.fst), q_5, (vS z.snd.snd.snd.snd.fst), (vB z.snd.snd.snd.snd.snd.fst), AV.sl (List.map eStr z.snd.snd.snd.snd.snd.snd.fst)]])]) (q_9 ++ q_4)) (ByteArray.size
  q_9)) (F.tX q_7.fst (List.drop q_7.snd z.snd.snd.snd.snd.snd.snd.fst))) [q_1, (1, (vS z.snd.snd.snd.snd.snd.snd.snd.fst))]) z.snd.snd.snd.snd.snd.snd.snd.snd) (List.length
  z.snd.snd.snd.snd.snd.snd.fst)) ((vI z.snd.snd.snd.fst))) (ByteArray.mk (Array.mk [(35 : UInt8), (66 : UInt8), (82 : UInt8), (69 : UInt8), (65 : UInt8), (75 : UInt8), (10
  : UInt8)]))) (ByteArray.size q_2)) (ByteArray.mk (Array.mk [(35 : UInt8), (68 : UInt8), (65 : UInt8), (84 : UInt8), (69 : UInt8), (32 : UInt8)]))) (2, .ptr 2 0 0))
  (ByteArray.mk (Array.mk [(10 : UInt8)])) := (execR_bind _ _ _).symm.trans (by kernel_rfl)

theorem evX2 (u : ByteArray) (m : Int) (br : Bool) (d : Int) (ky : ByteArray) (g : Bool) (x : List ByteArray) (key : ByteArray) (s : ByteArray) : ((exec enXln (seqN 1 (dropN 5 (codeOf Tryz.f56))) ⟨[(5, vS s), (2, .ptr 2 0 0), (1, vS key)], [(2, ⟨true, 0, 0, [[vS u, vI m, vB br, vI d, vS ky, vB g, .sl (x.map eStr)]]⟩)]⟩).bind (lessX ([5, 2, 1], [2]) ([], []) ([], []))).val =
  bif !ByteArray.toList ky == ByteArray.toList key then bif ByteArray.toList ky == ByteArray.toList (ByteArray.mk (Array.mk [])) then bif Nat.ble (ByteArray.size s +
  ByteArray.size (ByteArray.mk (Array.mk [(35 : UInt8), (75 : UInt8), (69 : UInt8), (89 : UInt8), (32 : UInt8), (45 : UInt8), (10 : UInt8)]))) (9223372036854775807 : Nat)
  then some (Ex.normal, St.mk [(5, (vS (s ++ ByteArray.mk (Array.mk [(35 : UInt8), (75 : UInt8), (69 : UInt8), (89 : UInt8), (32 : UInt8), (45 : UInt8), (10 : UInt8)])))),
  (2, .ptr 2 0 0), (1, (vS key))] [(2, Blk.mk true 0 0 [[(vS u), (vI m), (vB br), (vI d), (vS ky), (vB g), AV.sl (List.map eStr x)]])]) else none else bif Nat.ble
  (ByteArray.size (ByteArray.mk (Array.mk [(35 : UInt8), (75 : UInt8), (69 : UInt8), (89 : UInt8), (32 : UInt8)])) + ByteArray.size ky) (9223372036854775807 : Nat) then bif
  Nat.ble (ByteArray.size (ByteArray.mk (Array.mk [(35 : UInt8), (75 : UInt8), (69 : UInt8), (89 : UInt8), (32 : UInt8)]) ++ ky) + ByteArray.size (ByteArray.mk (Array.mk
  [(10 : UInt8)]))) (9223372036854775807 : Nat) then bif Nat.ble (ByteArray.size s + ByteArray.size (ByteArray.mk (Array.mk [(35 : UInt8), (75 : UInt8), (69 : UInt8), (89 :
  UInt8), (32 : UInt8)]) ++ ky ++ ByteArray.mk (Array.mk [(10 : UInt8)]))) (9223372036854775807 : Nat) then some (Ex.normal, St.mk [(5, (vS (s ++ (ByteArray.mk (Array.mk
  [(35 : UInt8), (75 : UInt8), (69 : UInt8), (89 : UInt8), (32 : UInt8)]) ++ ky ++ ByteArray.mk (Array.mk [(10 : UInt8)]))))), (2, .ptr 2 0 0), (1, (vS key))] [(2, Blk.mk
  true 0 0 [[(vS u), (vI m), (vB br), (vI d), (vS ky), (vB g), AV.sl (List.map eStr x)]])]) else none else none else none else some (Ex.normal, St.mk [(5, (vS s)), (2, .ptr
  2 0 0), (1, (vS key))] [(2, Blk.mk true 0 0 [[(vS u), (vI m), (vB br), (vI d), (vS ky), (vB g), AV.sl (List.map eStr x)]])]) := (execR_bind _ _ _).symm.trans (by kernel_rfl)

theorem evX3 (u : ByteArray) (m : Int) (br : Bool) (d : Int) (ky : ByteArray) (g : Bool) (x : List ByteArray) (key : ByteArray) (s : ByteArray) : ((exec enXln (dropN 1 (dropN 5 (codeOf Tryz.f56))) ⟨[(5, vS s), (2, .ptr 2 0 0), (1, vS key)], [(2, ⟨true, 0, 0, [[vS u, vI m, vB br, vI d, vS ky, vB g, .sl (x.map eStr)]]⟩)]⟩).bind (lessX ([], []) ([], []) ([4], []))).val =
  (fun (q : ByteArray) => (fun (q_1 : Nat) => (fun (q_2 : ByteArray) => (fun (q_3 : ByteArray) => (fun (q_4 : ByteArray) => (fun (q_5 : Nat) => (fun (q_6 : ByteArray) =>
  (fun (q_7 : Option Int) => (fun (q_8 : ByteArray) => bif g then bif Nat.ble (ByteArray.size s + ByteArray.size q_2) (9223372036854775807 : Nat) then Option.bind q_7 fun (z
  : Int) => bif decide ((0 : Int) ≤ z) && decide (z ≤ (3600000 : Int)) then bif Nat.ble (ByteArray.size q_4 + q_5) (9223372036854775807 : Nat) then bif Nat.ble
  (ByteArray.size q_8 + ByteArray.size (F.tmS z)) (9223372036854775807 : Nat) then bif Nat.ble (ByteArray.size (q_8 ++ F.tmS z) + q_1) (9223372036854775807 : Nat) then bif
  Nat.ble (ByteArray.size (q_8 ++ F.tmS z ++ q) + ByteArray.size u) (9223372036854775807 : Nat) then bif Nat.ble (ByteArray.size (q_8 ++ F.tmS z ++ q ++ u) + q_1)
  (9223372036854775807 : Nat) then some (Ex.ret, St.mk [(4, (vS (q_8 ++ F.tmS z ++ q ++ u ++ q)))] []) else none else none else none else none else none else none else none
  else Option.bind q_7 fun (z : Int) => bif decide ((0 : Int) ≤ z) && decide (z ≤ (3600000 : Int)) then bif Nat.ble (ByteArray.size s + q_5) (9223372036854775807 : Nat) then
  bif Nat.ble (ByteArray.size q_6 + ByteArray.size (F.tmS z)) (9223372036854775807 : Nat) then bif Nat.ble (ByteArray.size (q_6 ++ F.tmS z) + q_1) (9223372036854775807 :
  Nat) then bif Nat.ble (ByteArray.size (q_6 ++ F.tmS z ++ q) + ByteArray.size u) (9223372036854775807 : Nat) then bif Nat.ble (ByteArray.size (q_6 ++ F.tmS z ++ q ++ u) +
  q_1) (9223372036854775807 : Nat) then some (Ex.ret, St.mk [(4, (vS (q_6 ++ F.tmS z ++ q ++ u ++ q)))] []) else none else none else none else none else none else none) (q_4
  ++ q_3)) (unenc encXdc [(vI m), (vI (1000 : Int)), (vI (3 : Int))])) (s ++ q_3)) (ByteArray.size q_3)) (s ++ q_2)) (ByteArray.mk (Array.mk [(35 : UInt8), (84 : UInt8), (73
  : UInt8), (77 : UInt8), (69 : UInt8), (32 : UInt8)]))) (ByteArray.mk (Array.mk [(35 : UInt8), (71 : UInt8), (65 : UInt8), (80 : UInt8), (10 : UInt8)]))) (ByteArray.size
  q)) (ByteArray.mk (Array.mk [(10 : UInt8)])) := (execR_bind _ _ _).symm.trans (by kernel_rfl)

theorem F_z : F.kBrk.size = 6 ∧ F.kDatS.size = 6 ∧ F.kKeyS.size = 5 ∧ F.dash.size = 1 ∧ F.kGap.size = 4 ∧ F.kTimS.size = 6 ∧ (⟨⟨[10]⟩⟩ : ByteArray).size = 1 := ⟨rfl, rfl, rfl, rfl, rfl, rfl, rfl⟩

theorem preX1 {u : ByteArray} {m : Int} {br : Bool} {d : Int} {ky : ByteArray} {g : Bool} {x : List ByteArray} {key : ByteArray} (h1 : d ≤ 253402300799999) (h2 : x.length ≤ 1000) (h3 : (F.tX ⟨⟨[]⟩⟩ x).size ≤ 10000) :
    ((exec enXln (seqN 5 (codeOf Tryz.f56)) ⟨numbered 0 [.agg [vS u, vI m, vB br, vI d, vS ky, vB g, .sl (x.map eStr)], vS key] [], []⟩).bind (lessX ([5, 2, 1], [2]) ([], []) ([], []))).val =
      some (.normal, ⟨[(5, vS (F.e2 (F.e1 (F.tX ⟨⟨[]⟩⟩ x) br) d)), (2, .ptr 2 0 0), (1, vS key)], [(2, ⟨true, 0, 0, [[vS u, vI m, vB br, vI d, vS ky, vB g, .sl (x.map eStr)]]⟩)]⟩) := by
  have qB : (⟨⟨[35, 66, 82, 69, 65, 75, 10]⟩⟩ : ByteArray) = F.kBrk ++ ⟨⟨[10]⟩⟩ := rfl
  have qD : (⟨⟨[35, 68, 65, 84, 69, 32]⟩⟩ : ByteArray) = F.kDatS := rfl
  obtain ⟨z1, z2, z3, z4, z5, z6, z7⟩ := F_z
  rw [evX1]
  simp only [unXdt, preXdt1, unstXl, unstXl0, prlXl, outXl, Option.bind_some, List.length_map, cond_true, cond_false, Bool.and_true, Bool.true_and, List.drop_zero]
  rw [decide_eq_true h2, decide_eq_true (Nat.zero_le x.length), decide_eq_true (by omega : (F.tX ⟨⟨[]⟩⟩ x).size ≤ 80000000), qB, qD]
  generalize F.tX ⟨⟨[]⟩⟩ x = T at *
  unfold F.e2 F.e1 F.pl
  by_cases hd : 0 ≤ d
  · have z8 := F.dt_sz hd h1
    rw [decide_eq_true hd, decide_eq_true h1]
    generalize F.dtS d = D at *
    cases br
    all_goals
      simp (disch := omega) only [ByteArray.size_append, z1, z2, z7, z8, ble_t, Bool.and_self, cond_true, cond_false]
      simp only [F.cat, ByteArray.append_assoc]
  · rw [decide_eq_false hd]
    cases br
    all_goals
      simp (disch := omega) only [ByteArray.size_append, z1, z2, z7, ble_t, Bool.and_self, cond_true, cond_false]
      try simp only [F.cat, ByteArray.append_assoc]

theorem preX2 {u : ByteArray} {m : Int} {br : Bool} {d : Int} {ky : ByteArray} {g : Bool} {x : List ByteArray} {key : ByteArray} {s : ByteArray} (h1 : ky.size ≤ 40) (h2 : s.size ≤ 20000) :
    ((exec enXln (seqN 1 (dropN 5 (codeOf Tryz.f56))) ⟨[(5, vS s), (2, .ptr 2 0 0), (1, vS key)], [(2, ⟨true, 0, 0, [[vS u, vI m, vB br, vI d, vS ky, vB g, .sl (x.map eStr)]]⟩)]⟩).bind (lessX ([5, 2, 1], [2]) ([], []) ([], []))).val =
      some (.normal, ⟨[(5, vS (F.e3 s key ky)), (2, .ptr 2 0 0), (1, vS key)], [(2, ⟨true, 0, 0, [[vS u, vI m, vB br, vI d, vS ky, vB g, .sl (x.map eStr)]]⟩)]⟩) := by
  have qK : (⟨⟨[35, 75, 69, 89, 32]⟩⟩ : ByteArray) = F.kKeyS := rfl
  have qN : (⟨⟨[35, 75, 69, 89, 32, 45, 10]⟩⟩ : ByteArray) = F.kKeyS ++ F.dash ++ ⟨⟨[10]⟩⟩ := rfl
  have q1 : (ky.toList == key.toList) = F.seq ky key := rfl
  have q2 : (ky.toList == (⟨⟨[]⟩⟩ : ByteArray).toList) = F.seq ky ⟨⟨[]⟩⟩ := rfl
  obtain ⟨z1, z2, z3, z4, z5, z6, z7⟩ := F_z
  rw [evX2, qK, qN, q1, q2]
  unfold F.e3 F.dsh F.pl
  cases F.seq ky key
  · cases F.seq ky ⟨⟨[]⟩⟩
    all_goals
      simp (disch := omega) only [ByteArray.size_append, z3, z4, z7, ble_t, Bool.and_self, Bool.not_false, cond_true, cond_false]
      simp only [F.cat, ByteArray.append_assoc]
  · rfl

theorem preX3 {u : ByteArray} {m : Int} {br : Bool} {d : Int} {ky : ByteArray} {g : Bool} {x : List ByteArray} {key : ByteArray} {s : ByteArray} (h0 : 0 ≤ m) (h1 : m ≤ 3600000) (h2 : s.size ≤ 30000) (h3 : u.size ≤ 200) :
    ((exec enXln (dropN 1 (dropN 5 (codeOf Tryz.f56))) ⟨[(5, vS s), (2, .ptr 2 0 0), (1, vS key)], [(2, ⟨true, 0, 0, [[vS u, vI m, vB br, vI d, vS ky, vB g, .sl (x.map eStr)]]⟩)]⟩).bind (lessX ([], []) ([], []) ([4], []))).val =
      some (.ret, ⟨[(4, vS (F.pl (F.pl (F.e4 s g) [F.kTimS, F.tmS m]) [u]))], []⟩) := by
  have qG : (⟨⟨[35, 71, 65, 80, 10]⟩⟩ : ByteArray) = F.kGap ++ ⟨⟨[10]⟩⟩ := rfl
  have qT : (⟨⟨[35, 84, 73, 77, 69, 32]⟩⟩ : ByteArray) = F.kTimS := rfl
  have z8 := F.tm_sz h0 h1
  obtain ⟨z1, z2, z3, z4, z5, z6, z7⟩ := F_z
  rw [evX3]
  simp only [unXdc, preXdc1, Option.bind_some, cond_true, cond_false, Bool.and_true, Bool.true_and]
  rw [qG, qT, decide_eq_true h0, decide_eq_true h1]
  generalize F.tmS m = D at *
  unfold F.e4 F.pl
  cases g
  all_goals
    simp (disch := omega) only [ByteArray.size_append, z5, z6, z7, ble_t, Bool.and_self, cond_true, cond_false]
    simp only [F.cat, ByteArray.append_assoc]

theorem loopsX : ∀ x ∈ Func.loops Tryz.f56, ∀ s e s', (enXln.lp (lid x) s).val = some (e, s') → LoopOK enXln x s e s' := by
  rw [show Func.loops Tryz.f56 = [loopN Tryz.f56 0] by kernel_rfl]
  simp only [List.forall_mem_cons]
  refine ⟨lpo_ok ?_, by simp⟩
  rintro ⟨u, m, br, d, ky, g, x, key, s, i⟩ hp
  exact lpXl_ok u m br d ky g x key s i hp

theorem F.eq_1 (s : ByteArray) (b : Bool) : (F.e1 s b).size ≤ s.size + 7 := by
  obtain ⟨z1, z2, z3, z4, z5, z6, z7⟩ := F_z
  unfold F.e1
  cases b
  · rw [cond_false]; omega
  · rw [cond_true, F.pl_1]; omega

theorem F.eq_2 (s : ByteArray) {d : Int} (h : d ≤ 253402300799999) : (F.e2 s d).size ≤ s.size + 31 := by
  obtain ⟨z1, z2, z3, z4, z5, z6, z7⟩ := F_z
  unfold F.e2
  by_cases hd : 0 ≤ d
  · rw [decide_eq_true hd, cond_true, F.pl_2, F.dt_sz hd h]; omega
  · rw [decide_eq_false hd, cond_false]; omega

theorem F.eq_3 (s key : ByteArray) {ky : ByteArray} (h : ky.size ≤ 40) : (F.e3 s key ky).size ≤ s.size + 46 := by
  obtain ⟨z1, z2, z3, z4, z5, z6, z7⟩ := F_z
  have hs : (F.dsh ky).size ≤ 40 := by
    unfold F.dsh
    cases F.seq ky ⟨⟨[]⟩⟩
    · exact h
    · show F.dash.size ≤ 40
      omega
  unfold F.e3
  cases F.seq ky key
  · rw [cond_false, F.pl_2]; omega
  · rw [cond_true]; omega

def encXln1 (e : Ent) (key : ByteArray) : List AV := [.agg (eEnt e), vS key]

def encXln (a : Ent × ByteArray) : List AV := encXln1 a.1 a.2

theorem encXln_inj (a a' : Ent × ByteArray) (h : encXln a = encXln a') : a = a' := by
  simp only [encXln, encXln1] at h
  try simp [strs_inj, ints_inj, ents_inj, eEnt_iff, eLst_iff, eSnds_inj, eStrms_inj] at h
  grind

theorem unXln (e : Ent) (key : ByteArray) : unenc encXln ([AV.agg [(vS e.uri), (vI e.milli), (vB e.brk), (vI e.date), (vS e.key), (vB e.gap), AV.sl (List.map eStr e.extra)], (vS key)]) = some (e, key) := unenc_of encXln_inj (e, key) rfl

theorem unXlnw (e_uri : ByteArray) (e_milli : Int) (e_brk : Bool) (e_date : Int) (e_key : ByteArray) (e_gap : Bool) (e_extra : List ByteArray) (key : ByteArray) : unenc encXln ([AV.agg [(vS e_uri), (vI e_milli), (vB e_brk), (vI e_date), (vS e_key), (vB e_gap), AV.sl (List.map eStr e_extra)], (vS key)]) = some ((Ent.mk e_uri e_milli e_brk e_date e_key e_gap e_extra), key) := unenc_of encXln_inj ((Ent.mk e_uri e_milli e_brk e_date e_key e_gap e_extra), key) rfl

def resXln1 (e : Ent) (key : ByteArray) : AV × Heap := (vS (F.bE ⟨⟨[]⟩⟩ key e), [])

def preXln1 (e : Ent) (key : ByteArray) : Bool := F.lnW e

noncomputable def oXln : Orc := orc 56 true encXln (fun a => preXln1 a.1 a.2) fun a => resXln1 a.1 a.2

theorem okXln : OrcOK Tryz.prog noG oXln := by
  refine orc_ok ⟨Tryz.f56, by kernel_rfl, by kernel_rfl, by kernel_rfl⟩ (fun a hp hok => ?_) (fun _ _ => ⟨rfl, rfl⟩)
  obtain ⟨⟨u, m, br, d, ky, g, x⟩, key⟩ := a
  have hp : (decide (0 ≤ m) && decide (m ≤ 3600000) && decide (d ≤ 253402300799999) && decide (x.length ≤ 1000) && decide (u.size ≤ 200) && decide (ky.size ≤ 40) && decide ((F.tX ⟨⟨[]⟩⟩ x).size ≤ 10000)) = true := hp
  simp only [Bool.and_eq_true, decide_eq_true_eq] at hp
  obtain ⟨⟨⟨⟨⟨⟨m1, m2⟩, m3⟩, m4⟩, u1⟩, k1⟩, x1⟩ := hp
  refine runC_sound (E := enXln) enXln_ok (fn := Tryz.f56) (c := codeOf Tryz.f56) (by kernel_rfl) (by kernel_rfl) (by kernel_rfl) (keep := false) (args := encXln (⟨u, m, br, d, ky, g, x⟩, key)) (s2 := ⟨[(4, vS (F.bE ⟨⟨[]⟩⟩ key ⟨u, m, br, d, ky, g, x⟩))], []⟩) (xs := [vS (F.bE ⟨⟨[]⟩⟩ key ⟨u, m, br, d, ky, g, x⟩)]) (fun w S _ N a w' hdN rel Q hQ' => ?_) (by kernel_rfl) (by kernel_rfl)
  have s1 := F.eq_1 (F.tX ⟨⟨[]⟩⟩ x) br
  have s2 := F.eq_2 (F.e1 (F.tX ⟨⟨[]⟩⟩ x) br) m3
  have s3 := F.eq_3 (F.e2 (F.e1 (F.tX ⟨⟨[]⟩⟩ x) br) d) key k1
  refine cut_wp enXln_ok mixed loopsX (n := 5) (by kernel_rfl) (fun x hx => hx) hdN (preX1 (u := u) (m := m) (br := br) (ky := ky) (g := g) (key := key) m3 m4 x1) rfl rel fun a1 w1 r1 l1 d1 => ?_
  refine cut_wp enXln_ok mixed loopsX (n := 1) (by kernel_rfl) l1 d1 (preX2 (u := u) (m := m) (br := br) (d := d) (g := g) (x := x) (key := key) k1 (by omega)) rfl r1 fun a2 w2 r2 l2 d2 => ?_
  exact cut_end enXln_ok mixed loopsX l2 d2 (preX3 (br := br) (d := d) (ky := ky) (x := x) (key := key) m1 m2 (by omega) u1) rfl r2 hQ'

end M

namespace M

def stXe (t : Int) (f : Int) (b : Int) (es : List Ent) (en : Bool) (s : ByteArray) (key : ByteArray) (i : Nat) : St := ⟨[(7, vI i), (6, vS key), (5, vS s), (2, .ptr 2 0 0)], [(2, ⟨true, 0, 0, [[vI t, vI f, vI b, .sl (es.map eEnt), vB en]]⟩)]⟩

def stXe1 (a : Int × Int × Int × (List Ent) × Bool × ByteArray × ByteArray × Nat) : St := stXe a.1 a.2.1 a.2.2.1 a.2.2.2.1 a.2.2.2.2.1 a.2.2.2.2.2.1 a.2.2.2.2.2.2.1 a.2.2.2.2.2.2.2

theorem stXe_inj (a a' : Int × Int × Int × (List Ent) × Bool × ByteArray × ByteArray × Nat) (h : stXe1 a = stXe1 a') : a = a' := by
  simp only [stXe1, stXe] at h
  try simp [strs_inj, ints_inj, ents_inj, eEnt_iff, eLst_iff, eSnds_inj, eStrms_inj] at h
  grind

theorem unstXe (t : Int) (f : Int) (b : Int) (es : List Ent) (en : Bool) (s : ByteArray) (key : ByteArray) (i : Nat) : unenc stXe1 (St.mk [(7, (vI (↑i : Int))), (6, (vS key)), (5, (vS s)), (2, .ptr 2 0 0)] [(2, Blk.mk true 0 0 [[(vI t), (vI f), (vI b), AV.sl (List.map eEnt es), (vB en)]])]) = some (t, f, b, es, en, s, key, i) := unenc_of stXe_inj (t, f, b, es, en, s, key, i) rfl

theorem unstXe0 (t : Int) (f : Int) (b : Int) (es : List Ent) (en : Bool) (s : ByteArray)  : unenc stXe1 (St.mk [(7, (vI (0 : Int))), (6, (vS (ByteArray.mk (Array.mk [])))), (5, (vS s)), (2, .ptr 2 0 0)] [(2, Blk.mk true 0 0 [[(vI t), (vI f), (vI b), AV.sl (List.map eEnt es),
  (vB en)]])]) = some (t, f, b, es, en, s, ⟨⟨[]⟩⟩, 0) := unenc_of stXe_inj (t, f, b, es, en, s, ⟨⟨[]⟩⟩, 0) rfl

def outXe (t : Int) (f : Int) (b : Int) (es : List Ent) (en : Bool) (s : ByteArray) (key : ByteArray) (i : Nat) : T (Ex × St) := .ret (.exit 0, ⟨[(5, vS (F.tE s key (es.drop i))), (2, .ptr 2 0 0)], [(2, ⟨true, 0, 0, [[vI t, vI f, vI b, .sl (es.map eEnt), vB en]]⟩)]⟩)

noncomputable def prlXe (t : Int) (f : Int) (b : Int) (es : List Ent) (en : Bool) (s : ByteArray) (key : ByteArray) (i : Nat) : Bool := decide (es.length ≤ 1000) && decide (i ≤ es.length) && es.all F.lnW && F.tEB s key (es.drop i)

noncomputable def lpXe : Nat × (St → T (Ex × St)) := (4, lpo [7, 6, 5, 2] [2] stXe1 (fun a => prlXe a.1 a.2.1 a.2.2.1 a.2.2.2.1 a.2.2.2.2.1 a.2.2.2.2.2.1 a.2.2.2.2.2.2.1 a.2.2.2.2.2.2.2) fun a => outXe a.1 a.2.1 a.2.2.1 a.2.2.2.1 a.2.2.2.2.1 a.2.2.2.2.2.1 a.2.2.2.2.2.2.1 a.2.2.2.2.2.2.2)

noncomputable def enXtx : Env := envH ty noG lks [oIta, oXln] [] [] [lpXe]

theorem enXtx_ok : EnvOK Tryz.prog enXtx := by
  refine envH_ok lks_ok ty_ok ?_ ?_
  · simp only [List.forall_mem_cons]
    exact ⟨okIta, okXln, by simp⟩
  · simp

theorem evXeL (t : Int) (f : Int) (b : Int) (es : List Ent) (en : Bool) (s : ByteArray) (key : ByteArray) (i : Nat) : ((exec enXtx (loopN Tryz.f27 0) (stXe t f b es en s key i)).bind (lessX ([7, 6, 5, 2], [2]) ([5, 2], [2]) ([], []))).val =
  (fun (q : Ent) => (fun (q_1 : List (Nat × Blk)) => bif decide ((↑i : Int) < (↑(List.length (List.map eEnt es)) : Int)) then Option.bind (unenc (List.map eEnt) (List.map
  eEnt es)) fun (z : List Ent) => bif decide (i < List.length z) then Option.bind (unenc encXln [AV.agg [(vS (List.getD z i q).uri), (vI (List.getD z i q).milli), (vB
  (List.getD z i q).brk), (vI (List.getD z i q).date), (vS (List.getD z i q).key), (vB (List.getD z i q).gap), AV.sl (List.map eStr (List.getD z i q).extra)], (vS key)]) fun
  (z : Ent × ByteArray) => bif F.lnW z.fst then bif Nat.ble (ByteArray.size s + ByteArray.size (F.bE (ByteArray.mk (Array.mk [])) z.snd z.fst)) (9223372036854775807 : Nat)
  then Option.bind (unenc (List.map eEnt) (List.map eEnt es)) fun (z_1 : List Ent) => bif decide (i < List.length z_1) then some (Ex.normal, St.mk [(7, (vI (IntKind.wrap
  IntKind.i64 ((↑i : Int) + (1 : Int))))), (6, (vS (List.getD z_1 i q).key)), (5, (vS (s ++ F.bE (ByteArray.mk (Array.mk [])) z.snd z.fst))), (2, .ptr 2 0 0)] q_1) else none
  else none else none else none else some (Ex.exit (0 : Nat), St.mk [(5, (vS s)), (2, .ptr 2 0 0)] q_1)) [(2, Blk.mk true 0 0 [[(vI t), (vI f), (vI b), AV.sl (List.map eEnt
  es), (vB en)]])]) (Ent.mk (ByteArray.mk (Array.mk [])) (0 : Int) false (0 : Int) (ByteArray.mk (Array.mk [])) false []) := (execR_bind _ _ _).symm.trans (by kernel_rfl)

theorem lpXe_ok (t : Int) (f : Int) (b : Int) (es : List Ent) (en : Bool) (s : ByteArray) (key : ByteArray) (i : Nat) (hp : prlXe t f b es en s key i = true) : ∀ ex s', (outXe t f b es en s key i).val = some (ex, s') → LoopOK enXtx (loopN Tryz.f27 0) (stXe t f b es en s key i) ex s' := by
  simp only [prlXe, Bool.and_eq_true, decide_eq_true_eq] at hp
  obtain ⟨⟨⟨h1, h2⟩, h4⟩, h3⟩ := hp
  have h3 := F.tEB_iff.1 h3
  refine loop_gen (st := fun p : ByteArray × ByteArray × Nat => stXe t f b es en p.1 p.2.1 p.2.2) (out := fun p => outXe t f b es en p.1 p.2.1 p.2.2) (I := fun p => p.2.2 ≤ es.length ∧ (F.tE p.1 p.2.1 (es.drop p.2.2)).size ≤ 80000000) (n := ([7, 6, 5, 2], [2])) (e := ([5, 2], [2])) (r := ([], [])) (fun p => es.length - p.2.2) ?_ (s, key, i) ⟨h2, h3⟩
  clear h2 h3
  rintro ⟨s, key, i⟩ ⟨h2, h3⟩
  simp only at h2 h3
  by_cases hlt : i < es.length
  · have hy : es[i]? = some es[i] := List.getElem?_eq_getElem hlt
    have hmem : es[i] ∈ es := List.getElem_mem hlt
    generalize es[i] = y at hy hmem
    have hdd := drop_y hy
    rw [hdd, F.tE] at h3
    have hw : F.lnW y = true := List.all_eq_true.1 h4 y hmem
    have hE := F.tE_le (es.drop (i + 1)) (F.bE s key y) y.key
    have hn := F.bE_nil s key y
    have hz : (s ++ F.bE ⟨⟨[]⟩⟩ key y).size = s.size + (F.bE ⟨⟨[]⟩⟩ key y).size := ByteArray.size_append
    rw [hn] at hz
    have hi : idx (i : Int) = some i := rfl
    right
    refine ⟨(F.bE s key y, y.key, i + 1), ?_, rfl, ⟨hlt, h3⟩, by simp only; omega, ?_⟩
    · rw [evXeL]
      simp only [unIta, unXln, unXlnw, preIta1, preXln1, unstXe, unstXe0, prlXe, outXe, etaEnt, etaLst, etaSnd, etaStrm, etaMas, Option.bind_some, List.length_map, unStrs, unInts, unBools, unEnts, unItms, unTrns, cond_true, cond_false, Bool.and_true, Bool.true_and, cast_lt hlt, decide_eq_true hlt, hi, getD_at hy, hw]
      rw [ble_t (by omega), hn, next_at hlt (by omega : es.length ≤ 9223372036854775807)]
      rfl
    · simp only [outXe, hdd, F.tE]
  · have : i = es.length := by omega
    subst this
    left
    refine ⟨(.exit 0, ⟨[(5, vS s), (2, .ptr 2 0 0)], [(2, ⟨true, 0, 0, [[vI t, vI f, vI b, .sl (es.map eEnt), vB en]]⟩)]⟩), ?_, ?_, by simp, rfl⟩
    · rw [evXeL]
      simp
    · simp only [outXe, List.drop_length, F.tE]
      rfl

theorem evXtx (l : Lst) (x : ByteArray) : (runF enXtx false Tryz.f27 [.agg (eLst l), vS x]).val =
  (fun (q : ByteArray) => (fun (q_1 : ByteArray) => (fun (q_2 : ByteArray) => (fun (q_3 : ByteArray) => Option.bind (unenc encIta [(vI l.target)]) fun (z : Int) => (fun (q_4
  : ByteArray) => bif decide ((-9223372036854775808 : Int) ≤ z) && decide (z ≤ (9223372036854775807 : Int)) then bif Nat.ble (ByteArray.size q_3 + ByteArray.size (F.itoa z))
  (9223372036854775807 : Nat) then bif Nat.ble (ByteArray.size (q_3 ++ F.itoa z) + ByteArray.size q_1) (9223372036854775807 : Nat) then Option.bind (unenc encIta [(vI
  l.first)]) fun (z : Int) => bif decide ((-9223372036854775808 : Int) ≤ z) && decide (z ≤ (9223372036854775807 : Int)) then bif Nat.ble (ByteArray.size q_4 + ByteArray.size
  (F.itoa z)) (9223372036854775807 : Nat) then bif Nat.ble (ByteArray.size (q_4 ++ F.itoa z) + ByteArray.size q_2) (9223372036854775807 : Nat) then Option.bind (unenc encIta
  [(vI l.breaks)]) fun (z_1 : Int) => bif decide ((-9223372036854775808 : Int) ≤ z_1) && decide (z_1 ≤ (9223372036854775807 : Int)) then bif Nat.ble (ByteArray.size (q_4 ++
  F.itoa z ++ q_2) + ByteArray.size (F.itoa z_1)) (9223372036854775807 : Nat) then bif Nat.ble (ByteArray.size (q_4 ++ F.itoa z ++ q_2 ++ F.itoa z_1) + ByteArray.size
  (ByteArray.mk (Array.mk [(10 : UInt8)]))) (9223372036854775807 : Nat) then bif Nat.ble (ByteArray.size (q_4 ++ F.itoa z ++ q_2 ++ F.itoa z_1 ++ ByteArray.mk (Array.mk [(10
  : UInt8)])) + ByteArray.size x) (9223372036854775807 : Nat) then Option.bind (unenc stXe1 (St.mk [(7, (vI (0 : Int))), (6, (vS (ByteArray.mk (Array.mk [])))), (5, (vS (q_4
  ++ F.itoa z ++ q_2 ++ F.itoa z_1 ++ ByteArray.mk (Array.mk [(10 : UInt8)]) ++ x))), (2, .ptr 2 0 0)] [(2, Blk.mk true 0 0 [[(vI l.target), (vI l.first), (vI l.breaks),
  AV.sl (List.map eEnt l.entries), (vB l.ended)]])])) fun (z : Int × Int × Int × List Ent × Bool × ByteArray × ByteArray × Nat) => (fun (q_5 : Nat) => (fun (q_6 : Nat) =>
  (fun (q_7 : ByteArray) => bif decide (q_5 ≤ (1000 : Nat)) && decide (q_6 ≤ q_5) && List.all z.snd.snd.snd.fst F.lnW && F.tEB z.snd.snd.snd.snd.snd.fst
  z.snd.snd.snd.snd.snd.snd.fst (List.drop q_6 z.snd.snd.snd.fst) && true then bif z.snd.snd.snd.snd.fst then bif Nat.ble (ByteArray.size q_7 + ByteArray.size q)
  (9223372036854775807 : Nat) then some ((vS (q_7 ++ q)), []) else none else some ((vS q_7), []) else none) (F.tE z.snd.snd.snd.snd.snd.fst z.snd.snd.snd.snd.snd.snd.fst
  (List.drop q_6 z.snd.snd.snd.fst))) z.snd.snd.snd.snd.snd.snd.snd) (List.length z.snd.snd.snd.fst) else none else none else none else none else none else none else none
  else none else none else none) (q_3 ++ F.itoa z ++ q_1)) (ByteArray.mk (Array.mk [(35 : UInt8), (76 : UInt8), (73 : UInt8), (83 : UInt8), (84 : UInt8), (10 : UInt8), (35 :
  UInt8), (84 : UInt8), (65 : UInt8), (82 : UInt8), (71 : UInt8), (69 : UInt8), (84 : UInt8), (32 : UInt8)]))) (ByteArray.mk (Array.mk [(10 : UInt8), (35 : UInt8), (66 :
  UInt8), (82 : UInt8), (69 : UInt8), (65 : UInt8), (75 : UInt8), (83 : UInt8), (32 : UInt8)]))) (ByteArray.mk (Array.mk [(10 : UInt8), (35 : UInt8), (70 : UInt8), (73 :
  UInt8), (82 : UInt8), (83 : UInt8), (84 : UInt8), (32 : UInt8)]))) (ByteArray.mk (Array.mk [(35 : UInt8), (69 : UInt8), (78 : UInt8), (68 : UInt8), (10 : UInt8)])) := (runFR_val).symm.trans (by kernel_rfl)

def encXtx1 (l : Lst) (x : ByteArray) : List AV := [.agg (eLst l), vS x]

def encXtx (a : Lst × ByteArray) : List AV := encXtx1 a.1 a.2

theorem encXtx_inj (a a' : Lst × ByteArray) (h : encXtx a = encXtx a') : a = a' := by
  simp only [encXtx, encXtx1] at h
  try simp [strs_inj, ints_inj, ents_inj, eEnt_iff, eLst_iff, eSnds_inj, eStrms_inj] at h
  grind

theorem unXtx (l : Lst) (x : ByteArray) : unenc encXtx ([AV.agg [(vI l.target), (vI l.first), (vI l.breaks), AV.sl (List.map eEnt l.entries), (vB l.ended)], (vS x)]) = some (l, x) := unenc_of encXtx_inj (l, x) rfl

theorem unXtxw (l_target : Int) (l_first : Int) (l_breaks : Int) (l_entries : List Ent) (l_ended : Bool) (x : ByteArray) : unenc encXtx ([AV.agg [(vI l_target), (vI l_first), (vI l_breaks), AV.sl (List.map eEnt l_entries), (vB l_ended)], (vS x)]) = some ((Lst.mk l_target l_first l_breaks l_entries l_ended), x) := unenc_of encXtx_inj ((Lst.mk l_target l_first l_breaks l_entries l_ended), x) rfl

def resXtx1 (l : Lst) (x : ByteArray) : AV × Heap := (vS (F.ltB l x), [])

def preXtx1 (l : Lst) (x : ByteArray) : Bool := decide (F.check l = 0) && decide (x.size ≤ 100)

noncomputable def oXtx : Orc := orc 27 true encXtx (fun a => preXtx1 a.1 a.2) fun a => resXtx1 a.1 a.2

theorem okXtx : OrcOK Tryz.prog noG oXtx := by
  refine mk_ok Tryz.f27 (keep := false) (by kernel_rfl) (by kernel_rfl) enXtx_ok mixed (one_loop (x0 := loopN Tryz.f27 0) (by kernel_rfl) (lpo_ok ?_)) (by first | exact fun _ _ => ⟨rfl, rfl⟩ | (intro h; cases h)) ?_
  · rintro ⟨t, f, b, es, en, s, key, i⟩ hp
    exact lpXe_ok t f b es en s key i hp
  rintro ⟨l, x⟩ hpre hok
  show (runF enXtx false _ (encXtx1 _ _)).val = some (resXtx1 _ _)
  unfold encXtx1 resXtx1
  rw [evXtx]
  simp only [preXtx1, Bool.and_eq_true, decide_eq_true_eq] at hpre
  obtain ⟨hc, hx⟩ := hpre
  obtain ⟨c1, c2, c3, c4, c5, c6, c7⟩ := F.checkW_ok hc
  obtain ⟨s1, s2⟩ := F.check_sz hc
  obtain ⟨s3, s4⟩ := F.hd3_sz hc
  simp only [unIta, unXln, unXlnw, preIta1, preXln1, unstXe, unstXe0, prlXe, outXe, etaEnt, etaLst, etaSnd, etaStrm, etaMas, Option.bind_some, List.length_map, unStrs, unInts, unBools, unEnts, unItms, unTrns, cond_true, cond_false, Bool.and_true, Bool.true_and, List.drop_zero]
  have qA : (⟨⟨[35, 76, 73, 83, 84, 10, 35, 84, 65, 82, 71, 69, 84, 32]⟩⟩ : ByteArray) = F.h0 ++ F.xTg := rfl
  have qB : (⟨⟨[10, 35, 70, 73, 82, 83, 84, 32]⟩⟩ : ByteArray) = ⟨⟨[10]⟩⟩ ++ F.xFi := rfl
  have qC : (⟨⟨[10, 35, 66, 82, 69, 65, 75, 83, 32]⟩⟩ : ByteArray) = ⟨⟨[10]⟩⟩ ++ F.xBr := rfl
  have qE : (⟨⟨[35, 69, 78, 68, 10]⟩⟩ : ByteArray) = F.kEnd ++ ⟨⟨[10]⟩⟩ := rfl
  have zA : F.h0.size = 6 := rfl
  have z1 : F.xTg.size = 8 := rfl
  have z2 : F.xFi.size = 7 := rfl
  have z3 : F.xBr.size = 8 := rfl
  have z4 : F.kEnd.size = 4 := rfl
  have z5 : (⟨⟨[10]⟩⟩ : ByteArray).size = 1 := rfl
  have eH : F.h0 ++ F.xTg ++ F.itoa l.target ++ (⟨⟨[10]⟩⟩ ++ F.xFi) ++ F.itoa l.first ++ (⟨⟨[10]⟩⟩ ++ F.xBr) ++ F.itoa l.breaks ++ ⟨⟨[10]⟩⟩ = F.hd3 l := by
    unfold F.hd3 F.pl
    simp only [F.cat, ByteArray.append_assoc]
  have hT := F.tE_sz l.entries (F.hd3 l ++ x) ⟨⟨[]⟩⟩ s2
  have fE : F.tE (F.hd3 l ++ x) ⟨⟨[]⟩⟩ l.entries = F.ltE l x := rfl
  have hz : (F.hd3 l ++ x).size = (F.hd3 l).size + x.size := ByteArray.size_append
  rw [fE, hz] at hT
  have P : F.tEB (F.hd3 l ++ x) ⟨⟨[]⟩⟩ l.entries = true := F.tEB_iff.2 (by rw [fE]; omega)
  have hw : l.entries.all F.lnW = true := List.all_eq_true.2 fun e he => F.lnW_of (s2 e he).1 (s2 e he).2
  have t1 := F.itoa_size (n := l.target) (by omega) (by omega)
  have t2 := F.itoa_size (n := l.first) (by omega) (by omega)
  have t3 := F.itoa_size (n := l.breaks) (by omega) (by omega)
  rw [qA, qB, qC, qE, eH, P, hw, fE, decide_eq_true s1, decide_eq_true (Nat.zero_le l.entries.length)]
  rw [decide_eq_true (by omega : -9223372036854775808 ≤ l.target), decide_eq_true (by omega : l.target ≤ 9223372036854775807), decide_eq_true (by omega : -9223372036854775808 ≤ l.first), decide_eq_true (by omega : l.first ≤ 9223372036854775807), decide_eq_true (by omega : -9223372036854775808 ≤ l.breaks), decide_eq_true (by omega : l.breaks ≤ 9223372036854775807)]
  simp (disch := omega) only [ByteArray.size_append, zA, z1, z2, z3, z4, z5, ble_t, Bool.and_self, Bool.and_true, cond_true]
  unfold F.ltB F.pl
  cases l.ended
  · rfl
  · simp only [cond_true, F.cat, ByteArray.append_assoc]

end M

def F.skL (n : Int) : ByteArray := ⟨⟨[35, 83, 75, 73, 80, 32]⟩⟩ ++ F.itoa n ++ ⟨⟨[10]⟩⟩

def F.dtx (d : Dlt) : ByteArray × Int :=
  bif F.check d.list != 0 then (⟨⟨[]⟩⟩, F.check d.list) else bif decide (500000 < (F.ltB d.list (F.skL d.skipped)).size) then (⟨⟨[]⟩⟩, 2) else bif F.out d.skipped 0 1000 then (⟨⟨[]⟩⟩, 1) else (F.ltB d.list (F.skL d.skipped), 0)

theorem F.skL_sz {n : Int} (h1 : -9223372036854775808 ≤ n) (h2 : n ≤ 9223372036854775807) : (F.skL n).size ≤ 100 := by
  have := F.itoa_size h1 h2
  unfold F.skL
  rw [ByteArray.size_append, ByteArray.size_append]
  have e1 : (⟨⟨[35, 83, 75, 73, 80, 32]⟩⟩ : ByteArray).size = 6 := rfl
  have e2 : (⟨⟨[10]⟩⟩ : ByteArray).size = 1 := rfl
  omega

namespace M

noncomputable def enDtt : Env := envH ty noG lks [oChk, oIta, oLtx, oBnd, oOut] [] [] []

theorem enDtt_ok : EnvOK Tryz.prog enDtt := by
  refine envH_ok lks_ok ty_ok ?_ ?_
  · simp only [List.forall_mem_cons]
    exact ⟨okChk, okIta, okLtx, okBnd, okOut, by simp⟩
  · simp

theorem evDtt (d : Dlt) : (runF enDtt false Tryz.f19 [.agg (eDlt d)]).val =
  Option.bind (unenc encChk [AV.agg [(vI d.list.target), (vI d.list.first), (vI d.list.breaks), AV.sl (List.map eEnt d.list.entries), (vB d.list.ended)]]) fun (z : Lst) =>
  bif F.check z != (0 : Int) then some (AV.tup [(vS (ByteArray.mk (Array.mk []))), (vI (F.check z))], []) else Option.bind (unenc encIta [(vI d.skipped)]) fun (z : Int) =>
  bif decide ((-9223372036854775808 : Int) ≤ z) && decide (z ≤ (9223372036854775807 : Int)) then bif Nat.ble (ByteArray.size (ByteArray.mk (Array.mk [(35 : UInt8), (83 :
  UInt8), (75 : UInt8), (73 : UInt8), (80 : UInt8), (32 : UInt8)])) + ByteArray.size (F.itoa z)) (9223372036854775807 : Nat) then bif Nat.ble (ByteArray.size (ByteArray.mk
  (Array.mk [(35 : UInt8), (83 : UInt8), (75 : UInt8), (73 : UInt8), (80 : UInt8), (32 : UInt8)]) ++ F.itoa z) + ByteArray.size (ByteArray.mk (Array.mk [(10 : UInt8)])))
  (9223372036854775807 : Nat) then Option.bind (unenc encLtx [AV.agg [(vI d.list.target), (vI d.list.first), (vI d.list.breaks), AV.sl (List.map eEnt d.list.entries), (vB
  d.list.ended)], (vS (ByteArray.mk (Array.mk [(35 : UInt8), (83 : UInt8), (75 : UInt8), (73 : UInt8), (80 : UInt8), (32 : UInt8)]) ++ F.itoa z ++ ByteArray.mk (Array.mk
  [(10 : UInt8)])))]) fun (z : Lst × ByteArray) => bif decide (F.check z.fst = (0 : Int)) && decide (ByteArray.size z.snd ≤ (100 : Nat)) then Option.bind (unenc encBnd [(vS
  (F.ltB z.fst z.snd))]) fun (z : ByteArray) => bif (bif decide ((500000 : Nat) < ByteArray.size z) then (2 : Int) else (0 : Int)) != (0 : Int) then some (AV.tup [(vS
  (ByteArray.mk (Array.mk []))), (vI (bif decide ((500000 : Nat) < ByteArray.size z) then (2 : Int) else (0 : Int)))], []) else Option.bind (unenc encOut [(vI d.skipped),
  (vI (0 : Int)), (vI (1000 : Int))]) fun (z_1 : Int × Int × Int) => bif F.out z_1.fst z_1.snd.fst z_1.snd.snd then some (AV.tup [(vS (ByteArray.mk (Array.mk []))), (vI (1 :
  Int))], []) else some (AV.tup [(vS (bif decide ((500000 : Nat) < ByteArray.size z) then ByteArray.mk (Array.mk []) else z)), (vI (0 : Int))], []) else none else none else
  none else none := by kernel_rfl

def encDtt1 (d : Dlt) : List AV := [.agg (eDlt d)]

def encDtt (a : Dlt) : List AV := encDtt1 a

theorem encDtt_inj (a a' : Dlt) (h : encDtt a = encDtt a') : a = a' := by
  simp only [encDtt, encDtt1] at h
  try simp [strs_inj, ints_inj, ents_inj, eEnt_iff, eLst_iff, eDlt_iff] at h
  grind

theorem unDtt (d : Dlt) : unenc encDtt ([AV.agg [(vI d.skipped), (vI d.list.target), (vI d.list.first), (vI d.list.breaks), AV.sl (List.map eEnt d.list.entries), (vB d.list.ended)]]) = some (d) := unenc_of encDtt_inj (d) rfl

def resDtt1 (d : Dlt) : AV × Heap := (.tup [vS (F.dtx d).1, vI (F.dtx d).2], [])

def preDtt1 (d : Dlt) : Bool := true

noncomputable def oDtt : Orc := orc 19 true encDtt (fun a => preDtt1 a) fun a => resDtt1 a

theorem okDtt : OrcOK Tryz.prog noG oDtt := by
  refine mk_ok Tryz.f19 (keep := false) (by kernel_rfl) (by kernel_rfl) enDtt_ok mixed (no_loops (by kernel_rfl)) (by first | exact fun _ _ => ⟨rfl, rfl⟩ | (intro h; cases h)) ?_
  rintro d hpre hok
  show (runF enDtt false _ (encDtt1 _)).val = some (resDtt1 _)
  unfold encDtt1 resDtt1
  rw [evDtt]
  have hn : -9223372036854775808 ≤ d.skipped ∧ d.skipped ≤ 9223372036854775807 := okA_int (okA_agg (hok _ (List.mem_cons_self ..)) _ (List.mem_cons_self ..))
  have hz := F.skL_sz hn.1 hn.2
  simp only [unChk, unIta, unLtx, unBnd, unOut, unChkw, unLtxw, preChk1, preIta1, preLtx1, preBnd1, preOut1, etaEnt, etaLst, etaSnd, etaStrm, etaMas, Option.bind_some, List.length_map, unStrs, unInts, unBools, unEnts, unItms, unTrns, cond_true, cond_false, Bool.and_true, Bool.true_and, decide_eq_true hn.1, decide_eq_true hn.2]
  have q1 : (⟨⟨[35, 83, 75, 73, 80, 32]⟩⟩ : ByteArray) ++ F.itoa d.skipped ++ (⟨⟨[10]⟩⟩ : ByteArray) = F.skL d.skipped := rfl
  have z1 : (⟨⟨[35, 83, 75, 73, 80, 32]⟩⟩ : ByteArray).size = 6 := rfl
  have z2 : (⟨⟨[10]⟩⟩ : ByteArray).size = 1 := rfl
  have hi := F.itoa_size hn.1 hn.2
  rw [q1, decide_eq_true hz, z2, ByteArray.size_append, z1, ble_t (by omega), ble_t (by omega)]
  unfold F.dtx
  by_cases hc : F.check d.list = 0
  case neg =>
    rw [show (F.check d.list != 0) = true by simp [hc]]
    rfl
  rw [show (F.check d.list != 0) = false by simp [hc], decide_eq_true hc]
  generalize F.ltB d.list (F.skL d.skipped) = T
  cases decide (500000 < T.size) <;> cases F.out d.skipped 0 1000 <;> rfl

noncomputable def enXdl : Env := envH ty noG lks [oRChk, oIta, oXtx, oWithin] [] [] []

theorem enXdl_ok : EnvOK Tryz.prog enXdl := by
  refine envH_ok lks_ok ty_ok ?_ ?_
  · simp only [List.forall_mem_cons]
    exact ⟨okRChk, okIta, okXtx, okWithin, by simp⟩
  · simp

theorem evXdl (d : Dlt) : (runF enXdl false Tryz.f20 [.agg (eDlt d)]).val =
  Option.bind (unenc encRChk [AV.agg [(vI d.list.target), (vI d.list.first), (vI d.list.breaks), AV.sl (List.map eEnt d.list.entries), (vB d.list.ended)]]) fun (z : Lst) =>
  bif F.check z != (0 : Int) then some (AV.tup [(vS (ByteArray.mk (Array.mk []))), (vI (F.check z))], []) else Option.bind (unenc encIta [(vI d.skipped)]) fun (z : Int) =>
  bif decide ((-9223372036854775808 : Int) ≤ z) && decide (z ≤ (9223372036854775807 : Int)) then bif Nat.ble (ByteArray.size (ByteArray.mk (Array.mk [(35 : UInt8), (83 :
  UInt8), (75 : UInt8), (73 : UInt8), (80 : UInt8), (32 : UInt8)])) + ByteArray.size (F.itoa z)) (9223372036854775807 : Nat) then bif Nat.ble (ByteArray.size (ByteArray.mk
  (Array.mk [(35 : UInt8), (83 : UInt8), (75 : UInt8), (73 : UInt8), (80 : UInt8), (32 : UInt8)]) ++ F.itoa z) + ByteArray.size (ByteArray.mk (Array.mk [(10 : UInt8)])))
  (9223372036854775807 : Nat) then Option.bind (unenc encXtx [AV.agg [(vI d.list.target), (vI d.list.first), (vI d.list.breaks), AV.sl (List.map eEnt d.list.entries), (vB
  d.list.ended)], (vS (ByteArray.mk (Array.mk [(35 : UInt8), (83 : UInt8), (75 : UInt8), (73 : UInt8), (80 : UInt8), (32 : UInt8)]) ++ F.itoa z ++ ByteArray.mk (Array.mk
  [(10 : UInt8)])))]) fun (z : Lst × ByteArray) => bif decide (F.check z.fst = (0 : Int)) && decide (ByteArray.size z.snd ≤ (100 : Nat)) then bif decide ((500000 : Int) <
  (↑(ByteArray.size (F.ltB z.fst z.snd)) : Int)) then some (AV.tup [(vS (ByteArray.mk (Array.mk []))), (vI (2 : Int))], []) else Option.bind (unenc encWithin [(vI
  d.skipped), (vI (0 : Int)), (vI (1000 : Int))]) fun (z_1 : Int × Int × Int) => bif !F.within z_1.fst z_1.snd.fst z_1.snd.snd then some (AV.tup [(vS (ByteArray.mk (Array.mk
  []))), (vI (1 : Int))], []) else some (AV.tup [(vS (F.ltB z.fst z.snd)), (vI (0 : Int))], []) else none else none else none else none := by kernel_rfl

def encXdl1 (d : Dlt) : List AV := [.agg (eDlt d)]

def encXdl (a : Dlt) : List AV := encXdl1 a

theorem encXdl_inj (a a' : Dlt) (h : encXdl a = encXdl a') : a = a' := by
  simp only [encXdl, encXdl1] at h
  try simp [strs_inj, ints_inj, ents_inj, eEnt_iff, eLst_iff, eDlt_iff] at h
  grind

theorem unXdl (d : Dlt) : unenc encXdl ([AV.agg [(vI d.skipped), (vI d.list.target), (vI d.list.first), (vI d.list.breaks), AV.sl (List.map eEnt d.list.entries), (vB d.list.ended)]]) = some (d) := unenc_of encXdl_inj (d) rfl

def resXdl1 (d : Dlt) : AV × Heap := (.tup [vS (F.dtx d).1, vI (F.dtx d).2], [])

def preXdl1 (d : Dlt) : Bool := true

noncomputable def oXdl : Orc := orc 20 true encXdl (fun a => preXdl1 a) fun a => resXdl1 a

theorem okXdl : OrcOK Tryz.prog noG oXdl := by
  refine mk_ok Tryz.f20 (keep := false) (by kernel_rfl) (by kernel_rfl) enXdl_ok mixed (no_loops (by kernel_rfl)) (by first | exact fun _ _ => ⟨rfl, rfl⟩ | (intro h; cases h)) ?_
  rintro d hpre hok
  show (runF enXdl false _ (encXdl1 _)).val = some (resXdl1 _)
  unfold encXdl1 resXdl1
  rw [evXdl]
  have hn : -9223372036854775808 ≤ d.skipped ∧ d.skipped ≤ 9223372036854775807 := okA_int (okA_agg (hok _ (List.mem_cons_self ..)) _ (List.mem_cons_self ..))
  have hz := F.skL_sz hn.1 hn.2
  simp only [unRChk, unIta, unXtx, unWithin, unRChkw, unXtxw, preRChk1, preIta1, preXtx1, preWithin1, etaEnt, etaLst, etaSnd, etaStrm, etaMas, Option.bind_some, List.length_map, unStrs, unInts, unBools, unEnts, unItms, unTrns, cond_true, cond_false, Bool.and_true, Bool.true_and, decide_eq_true hn.1, decide_eq_true hn.2]
  have q1 : (⟨⟨[35, 83, 75, 73, 80, 32]⟩⟩ : ByteArray) ++ F.itoa d.skipped ++ (⟨⟨[10]⟩⟩ : ByteArray) = F.skL d.skipped := rfl
  have z1 : (⟨⟨[35, 83, 75, 73, 80, 32]⟩⟩ : ByteArray).size = 6 := rfl
  have z2 : (⟨⟨[10]⟩⟩ : ByteArray).size = 1 := rfl
  have hi := F.itoa_size hn.1 hn.2
  rw [q1, decide_eq_true hz, z2, ByteArray.size_append, z1, ble_t (by omega), ble_t (by omega)]
  unfold F.dtx
  by_cases hc : F.check d.list = 0
  case neg =>
    rw [show (F.check d.list != 0) = true by simp [hc]]
    rfl
  rw [show (F.check d.list != 0) = false by simp [hc], decide_eq_true hc]
  generalize F.ltB d.list (F.skL d.skipped) = T
  rw [F.within_eq, Bool.not_not, show decide ((500000 : Int) < (T.size : Int)) = decide (500000 < T.size) from decide_eq_decide.2 (by omega)]
  cases decide (500000 < T.size) <;> cases F.out d.skipped 0 1000 <;> rfl

noncomputable def enLDM : Env := envH ty noG lks [oSht, oRsh, oSmL, oDtt, oXdl, oPat, oRpa, oAwk] [] [] []

theorem enLDM_ok : EnvOK Tryz.prog enLDM := by
  refine envH_ok lks_ok ty_ok ?_ ?_
  · simp only [List.forall_mem_cons]
    exact ⟨okSht, okRsh, okSmL, okDtt, okXdl, okPat, okRpa, okAwk, by simp⟩
  · simp

theorem evLDM (l : Lst) (n : Int) (d : Dlt) : (runF enLDM false Tryz.f4 [.agg (eLst l), vI n, .agg (eDlt d)]).val =
  (fun (q : Option (AV × Heap)) => (fun (q_1 : AV) => (fun (q_2 : List AV) => (fun (q_3 : List AV) => (fun (q_4 : List AV) => Option.bind (unenc encSht q_2) fun (z : Lst ×
  Int) => (fun (q_5 : Lst) => Option.bind (unenc encRsh q_2) fun (z_1 : Lst × Int) => (fun (q_6 : Lst) => (fun (q_7 : Bool) => bif !q_7 then Option.bind (unenc encSmL
  [AV.agg [(vI q_5.target), (vI q_5.first), (vI q_5.breaks), AV.sl (List.map eEnt q_5.entries), (vB q_5.ended)], AV.agg [(vI q_6.target), (vI q_6.first), (vI q_6.breaks),
  AV.sl (List.map eEnt q_6.entries), (vB q_6.ended)]]) fun (z_2 : Lst × Lst) => bif bif bif q_7 then true else !F.sameL z_2.fst z_2.snd then true else (F.sht z.fst
  z.snd).snd != (F.sht z_1.fst z_1.snd).snd then q else Option.bind (unenc encDtt q_3) fun (z : Dlt) => Option.bind (unenc encXdl q_3) fun (z_3 : Dlt) => (fun (q_8 : Bool)
  => Option.bind (unenc encPat q_4) fun (z : Lst × Dlt) => (fun (q_9 : Lst) => Option.bind (unenc encRpa q_4) fun (z_4 : Lst × Dlt) => (fun (q_10 : Lst) => bif q_8 then
  Option.bind (unenc encSmL [AV.agg [(vI q_9.target), (vI q_9.first), (vI q_9.breaks), AV.sl (List.map eEnt q_9.entries), (vB q_9.ended)], AV.agg [(vI q_10.target), (vI
  q_10.first), (vI q_10.breaks), AV.sl (List.map eEnt q_10.entries), (vB q_10.ended)]]) fun (z_5 : Lst × Lst) => (fun (q_11 : Bool) => bif q_11 then Option.bind (unenc
  encAwk []) fun (z : Unit) => some ((vB (bif q_11 then true else false)), []) else q) (bif bif q_8 then F.sameL z_5.fst z_5.snd else false then (F.pat z.fst z.snd).snd ==
  (F.pat z_4.fst z_4.snd).snd else false) else q) (F.pat z_4.fst z_4.snd).fst) (F.pat z.fst z.snd).fst) (bif ByteArray.toList (F.dtx z).fst == ByteArray.toList (F.dtx
  z_3).fst then (F.dtx z).snd == (F.dtx z_3).snd else false) else bif !q_7 then none else q) ((F.sht z.fst z.snd).fst.skipped != (F.sht z_1.fst z_1.snd).fst.skipped)) (F.sht
  z_1.fst z_1.snd).fst.list) (F.sht z.fst z.snd).fst.list) (q_1 :: q_3)) [AV.agg [(vI d.skipped), (vI d.list.target), (vI d.list.first), (vI d.list.breaks), AV.sl (List.map
  eEnt d.list.entries), (vB d.list.ended)]]) [q_1, (vI n)]) (AV.agg [(vI l.target), (vI l.first), (vI l.breaks), AV.sl (List.map eEnt l.entries), (vB l.ended)])) (some ((vB
  false), [])) := by kernel_rfl

def encLDM1 (l : Lst) (n : Int) (d : Dlt) : List AV := [.agg (eLst l), vI n, .agg (eDlt d)]

def encLDM (a : Lst × Int × Dlt) : List AV := encLDM1 a.1 a.2.1 a.2.2

theorem encLDM_inj (a a' : Lst × Int × Dlt) (h : encLDM a = encLDM a') : a = a' := by
  simp only [encLDM, encLDM1] at h
  try simp [strs_inj, ints_inj, ents_inj, eEnt_iff, eLst_iff, eDlt_iff] at h
  grind

def resLDM1 (l : Lst) (n : Int) (d : Dlt) : AV × Heap := (vB true, [])

def preLDM1 (l : Lst) (n : Int) (d : Dlt) : Bool := true

noncomputable def oLDM : Orc := orc 4 true encLDM (fun a => preLDM1 a.1 a.2.1 a.2.2) fun a => resLDM1 a.1 a.2.1 a.2.2

theorem okLDM : OrcOK Tryz.prog noG oLDM := by
  refine mk_ok Tryz.f4 (keep := false) (by kernel_rfl) (by kernel_rfl) enLDM_ok mixed (no_loops (by kernel_rfl)) (by first | exact fun _ _ => ⟨rfl, rfl⟩ | (intro h; cases h)) ?_
  rintro ⟨l, n, d⟩ hpre hok
  show (runF enLDM false _ (encLDM1 _ _ _)).val = some (resLDM1 _ _ _)
  unfold encLDM1 resLDM1
  rw [evLDM]
  simp only [unSht, unRsh, unSmL, unDtt, unXdl, unPat, unRpa, unAwk, unShtw, unRshw, unSmLw, unPatw, unRpaw, preSht1, preRsh1, preSmL1, preDtt1, preXdl1, prePat1, preRpa1, preAwk1, etaEnt, etaLst, etaSnd, etaStrm, etaMas, Option.bind_some, List.length_map, unStrs, unInts, unBools, unEnts, unItms, unTrns, cond_true, cond_false, Bool.and_true, Bool.true_and]
  simp only [bne_self_eq_false, beq_self_eq_true, F.sameL_refl, Bool.not_true, Bool.not_false, cond_true, cond_false]

end M

end Go.Proofs.YtajmdlpanlbnjaaGreatDoor

namespace Go.Proofs.YtajmdlpanlbnjaaGreatDoor.M
open Go.ChangeShapes Go.WideShapes Go.ChangeAt Go.RowKit Go.Deep
set_option linter.unusedVariables false

theorem own : ownKnob Tryz.prog.godebug = none := by kernel_rfl

theorem laidOut : laidOutB Tryz.prog = true := by kernel_rfl

theorem op_string : OpnU Tryz.prog 9 (cS) (smS) := opnU_str Tryz.underlying9

theorem cells_string : Tryz.prog.cellsOf 9 = 1 := by kernel_rfl

theorem op_int : OpnU Tryz.prog 3 (cI) (fun _ => True) := (opn_int Tryz.underlying3).small

theorem cells_int : Tryz.prog.cellsOf 3 = 1 := by kernel_rfl

theorem op_bool : OpnU Tryz.prog 4 (cB) (fun _ => True) := (opn_bool Tryz.underlying4).small

theorem cells_bool : Tryz.prog.cellsOf 4 = 1 := by kernel_rfl

theorem bytes_string : Tryz.prog.bytesOf 9 = 16 := by kernel_rfl

theorem cells_sstring : Tryz.prog.cellsOf 48 = 1 := by kernel_rfl

theorem op_sstring : OpnU Tryz.prog 48 (cSl (cS)) (KU (smS)) := opnU_slice Tryz.underlying48 cells_string bytes_string (by decide) (fun _ => rfl) op_string

def kEnt (x : Ent) : Prop := (smS) x.uri ∧ (smS) x.key ∧ (KU (smS)) x.extra

theorem cells_Ent : Tryz.prog.cellsOf 50 = 7 := by kernel_rfl

set_option maxRecDepth 100000 in
theorem op_Ent : OpnU Tryz.prog 50 eEnt kEnt := by
  intro H enc w fuel cs d p h hw hbk
  obtain ⟨hl, hf⟩ := opnU_fields Tryz.underlying50 h hw hbk
  obtain ⟨x0, r0, k0⟩ : ∃ x, RL (R0 w (Inn w)) ((cS) x) ((cs.drop 0).take (Tryz.prog.cellsOf 9)) ∧ (smS) x := hf 0 _ rfl op_string
  rw [cells_string] at r0
  obtain ⟨x1, r1, k1⟩ : ∃ x, RL (R0 w (Inn w)) ((cI) x) ((cs.drop 1).take (Tryz.prog.cellsOf 3)) ∧ (fun _ => True) x := hf 1 _ rfl op_int
  rw [cells_int] at r1
  obtain ⟨x2, r2, k2⟩ : ∃ x, RL (R0 w (Inn w)) ((cB) x) ((cs.drop 2).take (Tryz.prog.cellsOf 4)) ∧ (fun _ => True) x := hf 2 _ rfl op_bool
  rw [cells_bool] at r2
  obtain ⟨x3, r3, k3⟩ : ∃ x, RL (R0 w (Inn w)) ((cI) x) ((cs.drop 3).take (Tryz.prog.cellsOf 3)) ∧ (fun _ => True) x := hf 3 _ rfl op_int
  rw [cells_int] at r3
  obtain ⟨x4, r4, k4⟩ : ∃ x, RL (R0 w (Inn w)) ((cS) x) ((cs.drop 4).take (Tryz.prog.cellsOf 9)) ∧ (smS) x := hf 4 _ rfl op_string
  rw [cells_string] at r4
  obtain ⟨x5, r5, k5⟩ : ∃ x, RL (R0 w (Inn w)) ((cB) x) ((cs.drop 5).take (Tryz.prog.cellsOf 4)) ∧ (fun _ => True) x := hf 5 _ rfl op_bool
  rw [cells_bool] at r5
  obtain ⟨x6, r6, k6⟩ : ∃ x, RL (R0 w (Inn w)) ((cSl (cS)) x) ((cs.drop 6).take (Tryz.prog.cellsOf 48)) ∧ (KU (smS)) x := hf 6 _ rfl op_sstring
  rw [cells_sstring] at r6
  rw [cells_Ent] at hl
  match cs, hl with
  | [c0, c1, c2, c3, c4, c5, c6], _ =>
    refine ⟨⟨x0, x1, x2, x3, x4, x5, x6⟩, ?_, k0, k4, k6⟩
    show RL (R0 w (Inn w)) (((cS) x0) ++ (((cI) x1) ++ (((cB) x2) ++ (((cI) x3) ++ (((cS) x4) ++ (((cB) x5) ++ (((cSl (cS)) x6)))))))) ([c0] ++ ([c1] ++ ([c2] ++ ([c3] ++ ([c4] ++ ([c5] ++ ([c6])))))))
    exact RL.append r0 (RL.append r1 (RL.append r2 (RL.append r3 (RL.append r4 (RL.append r5 (r6))))))

theorem bytes_Ent : Tryz.prog.bytesOf 50 = 88 := by kernel_rfl

theorem cells_sEnt : Tryz.prog.cellsOf 22 = 1 := by kernel_rfl

theorem op_sEnt : OpnU Tryz.prog 22 (cSl (eEnt)) (KU (kEnt)) := opnU_slice Tryz.underlying22 cells_Ent bytes_Ent (by decide) (fun _ => rfl) op_Ent

def kLst (x : Lst) : Prop := (KU (kEnt)) x.entries

theorem cells_Lst : Tryz.prog.cellsOf 24 = 5 := by kernel_rfl

set_option maxRecDepth 100000 in
theorem op_Lst : OpnU Tryz.prog 24 eLst kLst := by
  intro H enc w fuel cs d p h hw hbk
  obtain ⟨hl, hf⟩ := opnU_fields Tryz.underlying24 h hw hbk
  obtain ⟨x0, r0, k0⟩ : ∃ x, RL (R0 w (Inn w)) ((cI) x) ((cs.drop 0).take (Tryz.prog.cellsOf 3)) ∧ (fun _ => True) x := hf 0 _ rfl op_int
  rw [cells_int] at r0
  obtain ⟨x1, r1, k1⟩ : ∃ x, RL (R0 w (Inn w)) ((cI) x) ((cs.drop 1).take (Tryz.prog.cellsOf 3)) ∧ (fun _ => True) x := hf 1 _ rfl op_int
  rw [cells_int] at r1
  obtain ⟨x2, r2, k2⟩ : ∃ x, RL (R0 w (Inn w)) ((cI) x) ((cs.drop 2).take (Tryz.prog.cellsOf 3)) ∧ (fun _ => True) x := hf 2 _ rfl op_int
  rw [cells_int] at r2
  obtain ⟨x3, r3, k3⟩ : ∃ x, RL (R0 w (Inn w)) ((cSl (eEnt)) x) ((cs.drop 3).take (Tryz.prog.cellsOf 22)) ∧ (KU (kEnt)) x := hf 3 _ rfl op_sEnt
  rw [cells_sEnt] at r3
  obtain ⟨x4, r4, k4⟩ : ∃ x, RL (R0 w (Inn w)) ((cB) x) ((cs.drop 4).take (Tryz.prog.cellsOf 4)) ∧ (fun _ => True) x := hf 4 _ rfl op_bool
  rw [cells_bool] at r4
  rw [cells_Lst] at hl
  match cs, hl with
  | [c0, c1, c2, c3, c4], _ =>
    refine ⟨⟨x0, x1, x2, x3, x4⟩, ?_, k3⟩
    show RL (R0 w (Inn w)) (((cI) x0) ++ (((cI) x1) ++ (((cI) x2) ++ (((cSl (eEnt)) x3) ++ (((cB) x4)))))) ([c0] ++ ([c1] ++ ([c2] ++ ([c3] ++ ([c4])))))
    exact RL.append r0 (RL.append r1 (RL.append r2 (RL.append r3 (r4))))

def kDlt (x : Dlt) : Prop := (kLst) x.list

theorem cells_Dlt : Tryz.prog.cellsOf 38 = 6 := by kernel_rfl

set_option maxRecDepth 100000 in
theorem op_Dlt : OpnU Tryz.prog 38 eDlt kDlt := by
  intro H enc w fuel cs d p h hw hbk
  obtain ⟨hl, hf⟩ := opnU_fields Tryz.underlying38 h hw hbk
  obtain ⟨x0, r0, k0⟩ : ∃ x, RL (R0 w (Inn w)) ((cI) x) ((cs.drop 0).take (Tryz.prog.cellsOf 3)) ∧ (fun _ => True) x := hf 0 _ rfl op_int
  rw [cells_int] at r0
  obtain ⟨x1, r1, k1⟩ : ∃ x, RL (R0 w (Inn w)) ((eLst) x) ((cs.drop 1).take (Tryz.prog.cellsOf 24)) ∧ (kLst) x := hf 1 _ rfl op_Lst
  rw [cells_Lst] at r1
  rw [cells_Dlt] at hl
  match cs, hl with
  | [c0, c1, c2, c3, c4, c5], _ =>
    refine ⟨⟨x0, x1⟩, ?_, k1⟩
    show RL (R0 w (Inn w)) (((cI) x0) ++ (((eLst) x1))) ([c0] ++ ([c1, c2, c3, c4, c5]))
    exact RL.append r0 (r1)

end Go.Proofs.YtajmdlpanlbnjaaGreatDoor.M

namespace Go.Proofs.YtajmdlpanlbnjaaGreatDoor.M
open Go.ChangeShapes Go.WideShapes Go.ChangeAt Go.RowKit Go.Deep
set_option linter.unusedVariables false

theorem noG_at {W : World} {laid : List (String × DataW Unit)} (hsh : W.ShapedOpen Tryz.prog) (hL : laidMetH Tryz.prog laid W)
    (hp : (laid.all fun x => x.2.handleName?.isNone) = true := by kernel_rfl)
    (m3 : ∃ i : Nat, laid[i]? = some ("internal/strconv.uint64pow10", Rows.laid_internal_strconv_uint64pow10) := by first | exact ⟨0, rfl⟩ | exact ⟨1, rfl⟩ | exact ⟨2, rfl⟩ | exact ⟨3, rfl⟩ | exact ⟨4, rfl⟩ | exact ⟨5, rfl⟩ | exact ⟨6, rfl⟩ | exact ⟨7, rfl⟩) :
    ∀ g r, noG g = some r → GlobAt W (Inn W) g r := by
  obtain ⟨_, m3⟩ := m3
  rw [MakeChecks.laidMetH_plain _ _ _ hp] at hL
  have hr : Lib.VarReads Tryz.prog W "internal/strconv.uint64pow10" Rows.laid_internal_strconv_uint64pow10 := Lib.laidMet.reads hL (List.mem_of_getElem? m3)
  have cellAt : ∀ {g : Nat} {cs : Array Value} {ty : TypeId} {o : Nat × Nat} (_ : W.heap[g]? = some (.cells cs ty o)) (j : Nat), W.cell? ⟨g, j, none⟩ = cs[j]? := fun h j => by simp [World.cell?, h]
  intro g r hg
  unfold noG at hg
  split at hg
  · rename_i hb
    have e : g = 3 := beq_true.1 hb
    subst e
    cases hg
    have hz : ((begin Tryz.prog (fun _ _ => 0) default).world.heap[3]?).bind Obj.row? = some (#[.int .i64 0], 3) := by kernel_rfl
    obtain ⟨cs, hh, hs, hr2⟩ := hsh.1 3 _ _ (of_decide_eq_true (by kernel_rfl)) hz
    obtain ⟨m, hm⟩ := cell_of_shapedOpen_int hsh (g := 3) (of_decide_eq_true (by kernel_rfl)) hz rfl (by kernel_rfl) (by kernel_rfl) Tryz.underlying3
    exact glob_mk hh ⟨m, by rw [← cellAt hh 0]; exact hm⟩
  · split at hg
    · rename_i hb
      have e : g = 2 := beq_true.1 hb
      subst e
      cases hg
      obtain ⟨g', t, cs, fuel, p, h1, h2, h3, h4⟩ := hr
      have hn : Tryz.prog.globalNamed "internal/strconv.uint64pow10" = some 2 := by kernel_rfl
      obtain rfl := Option.some.inj (hn.symm.trans h1)
      obtain rfl := Option.some.inj ((show (Tryz.prog.globals[2]?).map (·.type) = some 154 by kernel_rfl).symm.trans h2)
      have hd : (Rows.laid_internal_strconv_uint64pow10 : DataW Unit) = Lib.tabData .u64 Lib.pow10Tab := by kernel_rfl
      rw [hd] at h4
      have hcs := Lib.cells_of_tab Tryz.underlying154 Tryz.underlying128 (by kernel_rfl) (by kernel_rfl) h4
      obtain ⟨ty, o, hh⟩ := var_cells hn h3
      exact glob_mk hh (by rw [← hcs])
    · cases hg

end Go.Proofs.YtajmdlpanlbnjaaGreatDoor.M

namespace Go.Proofs.YtajmdlpanlbnjaaGreatDoor
open Go.ChangeShapes Go.WideShapes Go.ChangeAt Go.RowKit Go.Deep M
open Go.ChangeMaps (open_string shut_string)
set_option linter.unusedVariables false

set_option maxRecDepth 100000 in
theorem listDeltasMatchSpec_contract (H : Type) (enc : TypeId × Value → H) (W : World) (base : Nat) (args : Array Value) (ds gs : List (DataW H)) (before : List MemPlace)
    (hval0 : ∀ (j : Nat) t v, Tryz.f4.params[j]? = some t → args[j]? = some v → Value.okWide Tryz.prog W .any base t v)
    (hW : DataW.Whole enc Tryz.prog Tryz.f4.params.toList Rows.listDeltasMatchSpecSpec.vars false W args.toList ds gs before) (hbulk : Rows.uptoBulkAll (ds ++ gs) ≤ 1048576)
    (hsz0 : (DataW.weightsEach Tryz.prog (Tryz.f4.params.toList ++ Rows.listDeltasMatchSpecSpec.plain.varTypes Tryz.prog) (ds ++ gs)).all (· ≤ reachBytes) = true)
    (hL : laidMetH Tryz.prog Rows.listDeltasMatchSpecUptoRow.laid W) (hsh : W.ShapedOpen Tryz.prog) :
    Calls Tryz.prog 4 args W fun e W' => ∃ v, e = .returned v ∧ Rows.listDeltasMatchSpecSpec.post enc Tryz.prog Tryz.f4 false true false false W args v W' := by
  have hval : ∀ (j : Nat) t v, Tryz.f4.params[j]? = some t → args[j]? = some v → Value.okWide Tryz.prog W .any base t v := hval0
  have hW' := hW
  obtain ⟨p, q, hA0, hV, rfl, hfz, hnd⟩ := hW
  have hA : DataW.TrodAll enc Tryz.prog W 0 (fun _ => true) true Tryz.f4.params.toList args.toList ds p := hA0
  have hsz : ∀ n ∈ DataW.weightsEach Tryz.prog (Tryz.f4.params.toList ++ Rows.listDeltasMatchSpecSpec.plain.varTypes Tryz.prog) (ds ++ gs), n ≤ reachBytes := by
    intro n hn; have := List.all_eq_true.1 hsz0 n hn; simpa using this
  rw [Tryz.params4] at hA hval hsz
  obtain ⟨v0, vs0, d0, ds0, p0, q0, hargs, rfl, rfl, h0, r0⟩ := trodAll_cons hA
  obtain ⟨v1, vs1, d1, ds1, p1, q1, rfl, rfl, rfl, h1, r1⟩ := trodAll_cons r0
  obtain ⟨v2, vs2, d2, ds2, p2, q2, rfl, rfl, rfl, h2, r2⟩ := trodAll_cons r1
  obtain ⟨rfl, rfl, rfl⟩ := trodAll_nil r2
  obtain rfl : args = #[v0, v1, v2] := by cases args; simp_all
  obtain ⟨rfl, rfl⟩ := trodVars_none hV
  have bk0 : Rows.uptoBulk d0 ≤ 1048576 := Nat.le_trans (bulks.part_le (by simp)) hbulk
  obtain ⟨cs0, rfl, _⟩ := okWide_struct Tryz.underlying24 (hval 0 24 v0 rfl rfl)
  have b0 := h0
  have lt0 : ∀ x ∈ p0, x.block < W.heap.size := by obtain ⟨m, hm⟩ := b0; exact DataW.trod_lt m _ _ _ hm
  obtain ⟨fuel0, hf0⟩ := h0
  obtain ⟨x0, e0, k0⟩ := op_Lst H enc W fuel0 (Value.cells (.agg cs0)).toList _ _ hf0 (fun n hn => hsz n (weights_each (j := 0) rfl rfl n hn)) bk0
  have bk1 : Rows.uptoBulk d1 ≤ 1048576 := Nat.le_trans (bulks.part_le (by simp)) hbulk
  obtain ⟨x1, rfl, rfl, rfl, w1⟩ := open_int Tryz.underlying3 (hval 1 3 v1 rfl rfl) h1
  have bk2 : Rows.uptoBulk d2 ≤ 1048576 := Nat.le_trans (bulks.part_le (by simp)) hbulk
  obtain ⟨cs2, rfl, _⟩ := okWide_struct Tryz.underlying38 (hval 2 38 v2 rfl rfl)
  have b2 := h2
  have lt2 : ∀ x ∈ p2, x.block < W.heap.size := by obtain ⟨m, hm⟩ := b2; exact DataW.trod_lt m _ _ _ hm
  obtain ⟨fuel2, hf2⟩ := h2
  obtain ⟨x2, e2, k2⟩ := op_Dlt H enc W fuel2 (Value.cells (.agg cs2)).toList _ _ hf2 (fun n hn => hsz n (weights_each (j := 2) rfl rfl n hn)) bk2
  clear hA0 hval0
  have hpre : preLDM1 x0 x1 x2 = true := by rfl
  have hspec := orc_at okLDM encLDM_inj (x0, x1, x2) hpre
  refine (law_calls (W := W) (cargs := [.agg cs0, .int .i64 x1, .agg cs2]) hspec (noG_at hsh hL) ⟨rv_agg_of e0, rv_int_of w1, rv_agg_of e2, trivial⟩).mono fun e W1 ⟨he, bel⟩ => ?_
  subst he
  exact ⟨_, rfl, _, _, _, [], _, [], hW', trodAll_mk1 (shut_bool Tryz.underlying4 _), (trodAll_cons_mk (Below.trod laidOut (by kernel_rfl) (of_decide_eq_true (by kernel_rfl)) b0 bel lt0) (trodAll_cons_mk (shut_int Tryz.underlying3 w1) (trodAll_cons_mk (Below.trod laidOut (by kernel_rfl) (of_decide_eq_true (by kernel_rfl)) b2 bel lt2) trodAll_mk0))), rfl, bel.frame _, fun h => by cases h⟩

theorem listDeltasMatchSpec_reads (os : Os) {H : Type} (enc : TypeId × Value → H) : ∃ places, DataW.whole enc Tryz.prog ((World.laidAll Tryz.prog os Rows.listDeltasMatchSpecUptoRow.laid).forCall (fun _ _ => 0) ⟨#[], #[.agg #[.int .i64 0, .int .i64 0, .int .i64 0, .slice none 0 0, .bool false], .int .i64 0, .agg #[.int .i64 0, .int .i64 0, .int .i64 0, .int .i64 0, .slice none 0 0, .bool false]], []⟩).memory Tryz.f4.params.toList Rows.listDeltasMatchSpecSpec.vars false (#[.agg #[.int .i64 0, .int .i64 0, .int .i64 0, .slice none 0 0, .bool false], .int .i64 0, .agg #[.int .i64 0, .int .i64 0, .int .i64 0, .int .i64 0, .slice none 0 0, .bool false]] : Array Value).toList 8 = some ([.agg [.lit (.int .i64 0), .lit (.int .i64 0), .lit (.int .i64 0), .nil, .lit (.bool false)], .lit (.int .i64 0), .agg [.lit (.int .i64 0), .agg [.lit (.int .i64 0), .lit (.int .i64 0), .lit (.int .i64 0), .nil, .lit (.bool false)]]], [], places) :=
  ⟨[], by kernel_rfl⟩

theorem listDeltasMatchSpec_met (os : Os) : laidMet Tryz.prog Rows.listDeltasMatchSpecUptoRow.laid ((World.laidAll Tryz.prog os Rows.listDeltasMatchSpecUptoRow.laid).forCall (fun _ _ => 0) ⟨#[], #[.agg #[.int .i64 0, .int .i64 0, .int .i64 0, .slice none 0 0, .bool false], .int .i64 0, .agg #[.int .i64 0, .int .i64 0, .int .i64 0, .int .i64 0, .slice none 0 0, .bool false]], []⟩).memory := laidMet_laidAll _ (by kernel_rfl) (by kernel_rfl)

set_option maxRecDepth 100000 in
theorem listDeltasMatchSpec_lifted (os : Os) (started : os.Started) (H : Type) (enc : TypeId × Value → H) (F : Stop.Interp) :
    ReturnsInHanded {} Tryz.checked os 4 .any ((Rows.OpenSpec.upto Rows.listDeltasMatchSpecSpec).preRow enc Tryz.prog Tryz.f4 Rows.listDeltasMatchSpecUptoRow.domain false Rows.listDeltasMatchSpecUptoRow.laid) (((Rows.OpenSpec.upto Rows.listDeltasMatchSpecSpec).at F).post enc Tryz.prog Tryz.f4 false true false false) := by
  obtain ⟨places, hx⟩ := listDeltasMatchSpec_reads os enc
  refine returnsInHanded_of_row (C := Tryz.checked) (s := Rows.OpenSpec.upto Rows.listDeltasMatchSpecSpec) own started (by kernel_rfl) Tryz.func4
    (witness_row_at (enc := enc) (C := Tryz.checked) false (World.laidAll Tryz.prog os Rows.listDeltasMatchSpecUptoRow.laid) #[.agg #[.int .i64 0, .int .i64 0, .int .i64 0, .slice none 0 0, .bool false], .int .i64 0, .agg #[.int .i64 0, .int .i64 0, .int .i64 0, .int .i64 0, .slice none 0 0, .bool false]] (World.laidAll_os _ _ _) (by kernel_rfl) (by kernel_rfl) (by kernel_rfl)
      (OpenSpec.preRow_of_cond 8 hx (by kernel_rfl) (fun k hk => by cases hk; kernel_rfl) (by kernel_rfl) (listDeltasMatchSpec_met os))) ?_
  intro W base args ds gs before hval hW _ hcond hsz hL hsh _
  exact listDeltasMatchSpec_contract H enc W base args ds gs before hval hW (bulks.bound (hcond _ rfl)) hsz hL hsh

theorem listDeltasMatchSpec_upto : Rows.ListDeltasMatchSpecUptoSaid :=
  OpenClaim.holds_of_cond 4 Tryz.f4 rfl rfl rfl rfl rfl rfl rfl ⟨rfl, rfl, rfl, rfl, rfl⟩ rfl rfl rfl rfl rfl (by kernel_rfl) Tryz.func4 (by kernel_rfl)
    (of_decide_eq_true (by kernel_rfl)) (by unfold Func.isWrapper; first | (rw [if_pos (by decide +kernel)]; kernel_rfl) | (rw [if_neg (by decide +kernel)]; exact ⟨rfl, rfl⟩))
    (fun os started H enc _ F => by rw [OpenClaim.pre_eq_preRow]; exact listDeltasMatchSpec_lifted os started H enc F)
#print axioms listDeltasMatchSpec_upto

theorem listDeltasMatchSpec_plain (f : FuncId) (fn : Func) (hf : Tryz.pinned.checked.prog.funcNamed "headend/headendlaw6.ListDeltasMatchSpec" = some f) (hfn : Tryz.pinned.checked.prog.funcs[f]? = some fn) :
    true = Tryz.pinned.checked.prog.looks [] ∧ ∀ (j : Nat) t, fn.params[j]? = some t → Tryz.pinned.checked.prog.wantsStandIn t = false := by
  obtain rfl : f = 4 := Option.some.inj ((show Tryz.prog.funcNamed "headend/headendlaw6.ListDeltasMatchSpec" = some 4 by kernel_rfl).symm.trans hf) |>.symm
  obtain rfl : fn = Tryz.f4 := (Option.some.inj (Tryz.func4.symm.trans hfn)).symm
  refine ⟨by kernel_rfl, fun j t ht => ?_⟩
  rw [Tryz.params4] at ht
  have hm : t ∈ [24, 3, 38] := by simpa using Array.mem_of_getElem? ht
  have hall : ([24, 3, 38].all fun u => !Tryz.prog.wantsStandIn u) = true := by kernel_rfl
  exact (show Tryz.prog.wantsStandIn t = false by simpa using List.all_eq_true.1 hall t hm)

theorem listDeltasMatchSpec_card : Rows.ListDeltasMatchSpecUptoCardSaid :=
  Claim7.holds_tied_plain_at .later [] _ _ _ _ listDeltasMatchSpec_upto (fun _ h => by cases h) (by kernel_rfl) (fun _ h => by cases h) listDeltasMatchSpecUpto_row_tie rfl ⟨rfl, rfl⟩ (by kernel_rfl) rfl listDeltasMatchSpec_plain (by kernel_rfl)
#print axioms listDeltasMatchSpec_card
end Go.Proofs.YtajmdlpanlbnjaaGreatDoor
