/- What is proved here: what headendref1.compare returns on limbs (no statement of the seat). -/
import Derived.Shelf.Strings.Builder1
import Derived.Shelf.Strings.Builder2
import Derived.Shelf.Strings.BuilderF
import Derived.Shelf.Strconv.Atoi
import Derived.Shelf.Strconv.Itoa0
import Derived.Shelf.Strconv.Itoa1
import Derived.Shelf.LaysM
import Derived.Shelf.Strconv.Itoa2
import Derived.Shelf.Strconv.Itoa3
import Derived.Shelf.Strconv.AtoiErrFast
import Derived.Shelf.Strconv.ParseIntEmpty
import Derived.Shelf.Strconv.AtoiFail
import Derived.Shelf.Strconv.Clone
import Derived.Shelf.Strconv.SyntaxError
import Derived.Shelf.LaysC
import Derived.Shelf.Strconv.ToError
import Derived.Shelf.Strconv.Lower
import Derived.Shelf.Strconv.ParseUint10
import Derived.Shelf.Strconv.ParseUint10Empty
import Derived.Shelf.Strconv.ParseUint10Any
import Derived.Shelf.Strconv.ParseInt10
import Derived.Shelf.Strconv.AtoiLong
import Derived.Shelf.Strconv.AtoiInnerAll
import Derived.Shelf.Strconv.RangeError
import Derived.Shelf.Strconv.ToErrorRange
import Derived.Shelf.Strconv.AtoiAll
import Derived.Shelf.Strings.Search1
import Derived.Shelf.Strings.Search2
import Derived.Shelf.Strings.Cut
import Derived.Shelf.Strings.Shaped
import Derived.Shelf.Strings.Prefix
import Derived.Shelf.Bits.Mul64
import Derived.Shelf.Strings.Repeat
import Derived.Shelf.Slices.Equal
import Derived.Ground.Names2Prog
import Derived.Shelf.Slices.Clone
import Derived.Test.YtajmdlpanlbnjaaGreatDoorProg
import Derived.ProofKit
import Derived.Deep.Slices
import Derived.SizedLaws
import Derived.OpenShut
import Derived.ShutString
import Derived.ChangeOld
import Derived.JoinedTies
import Derived.Test.YtajmdlpanlbnjaaGreatDoorRows
import Derived.Deep.DeepHandedRow
import Derived.Shelf.Vars
import Derived.Lib.SplitLaws
import Derived.Lib.AtoiAll
import Derived.Lib.AtoiAllCases
import Derived.Lib.ItoaLen
import Derived.Lib.ItoaNum
import Derived.Lib.AtoiErrMem
import Derived.Test.YtajmdlpanlbnjaaGreatDoorB3

namespace Go.Proofs.YtajmdlpanlbnjaaGreatDoor
open Go Go.RowKit
set_option linter.unusedVariables false
set_option linter.unusedSimpArgs false
set_option maxHeartbeats 1000000

def F.brk (b : Int) (l : List Ent) : Int := l.foldl (fun b e => bif e.brk then IntKind.i64.wrap (b + 1) else b) b

def F.brkAt (l : Lst) (i : Int) : Int := F.brk l.breaks (l.entries.take (i + 1).toNat)

theorem F.brk_eq : ∀ (l : List Ent) (b : Int), 0 ≤ b → b + l.length ≤ 4611686018427387904 → F.brk b l = b + F.cnt l
  | [], b, _, _ => by simp [F.brk, F.cnt]
  | e :: l, b, h1, h2 => by
    simp only [List.length_cons] at h2
    have hw : IntKind.i64.wrap (b + 1) = b + 1 := M.wrap_id (by omega) (by omega)
    show F.brk (bif e.brk then IntKind.i64.wrap (b + 1) else b) l = _
    rw [hw, F.brk_eq l _ (by cases e.brk <;> simp <;> omega) (by cases e.brk <;> simp <;> omega)]
    simp only [F.cnt]
    cases e.brk <;> simp <;> omega

theorem F.brkAt_eq {l : Lst} (hc : F.check l = 0) (i : Int) : F.brkAt l i = l.breaks + F.cnt (l.entries.take (i + 1).toNat) := by
  obtain ⟨h1, _, _, h2, h3⟩ := F.check_ok hc
  have : (l.entries.take (i + 1).toNat).length ≤ l.entries.length := by simp; omega
  exact F.brk_eq _ _ (by omega) (by omega)

def F.rfK (old now : Lst) (i : Nat) : Int := IntKind.i64.wrap (IntKind.i64.wrap (old.first + i) - now.first)

def F.rfO (old now : Lst) (i : Nat) : Bool := F.lt (F.rfK old now i) 0 || F.le now.entries.length (F.rfK old now i)

def F.rfG (old now : Lst) (i : Nat) : Int :=
  bif F.rfO old now i then 0 else bif !F.sameE (old.entries.getD i default) (now.entries.getD (F.rfK old now i).toNat default) then 12 else
  bif F.brkAt old i != F.brkAt now (F.rfK old now i) then 3 else 0

def F.rfC (old now : Lst) (k : Nat) : Int := M.ffI (F.rfG old now) ((List.range old.entries.length).drop k)

def F.rfA (old now : Lst) (a : Bool) (k : Nat) : Bool := a || ((List.range old.entries.length).drop k).any fun i => !F.rfO old now i

def F.rfol (old now : Lst) : Int :=
  bif old.target != now.target then 6 else bif old.ended && !F.sameL old now then 11 else bif F.lt now.first old.first || F.lt (F.endN now) (F.endN old) then 8 else
  bif F.rfC old now 0 != 0 then F.rfC old now 0 else bif !F.rfA old now false 0 && F.lt now.breaks (F.brkAt old (old.entries.length - 1)) then 8 else 0

theorem F.range_drop {n k : Nat} (h : k < n) : (List.range n).drop k = k :: (List.range n).drop (k + 1) := by
  rw [List.drop_eq_getElem_cons (by simpa using h)]
  simp

namespace M

def stBrk (l : Lst) (i : Int) (b : Int) (k : Nat) : St := ⟨[(6, vI k), (5, vI b), (2, .ptr 2 0 0), (1, vI i)], [(2, ⟨true, 0, 0, [eLst l]⟩)]⟩

def stBrk1 (a : Lst × Int × Int × Nat) : St := stBrk a.1 a.2.1 a.2.2.1 a.2.2.2

theorem stBrk_inj (a a' : Lst × Int × Int × Nat) (h : stBrk1 a = stBrk1 a') : a = a' := by
  simp only [stBrk1, stBrk] at h
  try simp [strs_inj, ents_inj, eEnt_iff, eLst_iff, ints_inj, eTrn_iff, itms_inj, eCli_iff] at h
  grind

theorem unstBrk (l : Lst) (i : Int) (b : Int) (k : Nat) : unenc stBrk1 (St.mk [(6, (vI (↑k : Int))), (5, (vI b)), (2, .ptr 2 0 0), (1, (vI i))] [(2, Blk.mk true 0 0 [[(vI l.target), (vI l.first), (vI l.breaks), AV.sl (List.map eEnt l.entries),
  (vB l.ended)]])]) = some (l, i, b, k) := unenc_of stBrk_inj (l, i, b, k) rfl

theorem unstBrk0 (l : Lst) (i : Int) (b : Int)  : unenc stBrk1 (St.mk [(6, (vI (0 : Int))), (5, (vI b)), (2, .ptr 2 0 0), (1, (vI i))] [(2, Blk.mk true 0 0 [[(vI l.target), (vI l.first), (vI l.breaks), AV.sl (List.map eEnt l.entries),
  (vB l.ended)]])]) = some (l, i, b, 0) := unenc_of stBrk_inj (l, i, b, 0) rfl

def outBrk (l : Lst) (i : Int) (b : Int) (k : Nat) : T (Ex × St) := .ret (.exit 0, ⟨[(5, vI (F.brk b ((l.entries.take (i + 1).toNat).drop k)))], []⟩)

noncomputable def prlBrk (l : Lst) (i : Int) (b : Int) (k : Nat) : Bool := decide (l.entries.length ≤ 100000) && F.lt i l.entries.length && F.le (-1) i && F.le k (i + 1)

noncomputable def lpBrk : Nat × (St → T (Ex × St)) := (3, lpo [6, 5, 2, 1] [2] stBrk1 (fun a => prlBrk a.1 a.2.1 a.2.2.1 a.2.2.2) fun a => outBrk a.1 a.2.1 a.2.2.1 a.2.2.2)

noncomputable def enBrk : Env := envH ty noG lks [] [] [] [lpBrk]

theorem enBrk_ok : EnvOK Tryz.prog enBrk := by
  refine envH_ok lks_ok ty_ok ?_ ?_
  · simp
  · simp

theorem evBrkL (l : Lst) (i : Int) (b : Int) (k : Nat) : ((exec enBrk (loopN Tryz.f69 0) (stBrk l i b k)).bind (lessX ([6, 5, 2, 1], [2]) ([5], []) ([], []))).val =
  bif decide ((↑k : Int) ≤ i) then Option.bind (unenc (List.map eEnt) (List.map eEnt l.entries)) fun (z : List Ent) => bif decide (k < List.length z) then bif (List.getD z k
  (Ent.mk (ByteArray.mk (Array.mk [])) (0 : Int) false (0 : Int) (ByteArray.mk (Array.mk [])) false [])).brk then some (Ex.normal, St.mk [(6, (vI (IntKind.wrap IntKind.i64
  ((↑k : Int) + (1 : Int))))), (5, (vI (IntKind.wrap IntKind.i64 (b + (1 : Int))))), (2, .ptr 2 0 0), (1, (vI i))] [(2, Blk.mk true 0 0 [[(vI l.target), (vI l.first), (vI
  l.breaks), AV.sl (List.map eEnt l.entries), (vB l.ended)]])]) else some (Ex.normal, St.mk [(6, (vI (IntKind.wrap IntKind.i64 ((↑k : Int) + (1 : Int))))), (5, (vI b)), (2,
  .ptr 2 0 0), (1, (vI i))] [(2, Blk.mk true 0 0 [[(vI l.target), (vI l.first), (vI l.breaks), AV.sl (List.map eEnt l.entries), (vB l.ended)]])]) else none else some
  (Ex.exit (0 : Nat), St.mk [(5, (vI b))] []) := by kernel_rfl

theorem lpBrk_ok (l : Lst) (i : Int) (b : Int) (k : Nat) (hp : prlBrk l i b k = true) : ∀ ex s', (outBrk l i b k).val = some (ex, s') → LoopOK enBrk (loopN Tryz.f69 0) (stBrk l i b k) ex s' := by
  simp only [prlBrk, Bool.and_eq_true, decide_eq_true_eq] at hp
  obtain ⟨⟨⟨h1, h2⟩, h3⟩, h4⟩ := hp
  simp only [F.lt, F.le, decide_eq_true_eq] at h2 h3 h4
  have hl : (l.entries.take (i + 1).toNat).length = (i + 1).toNat := by rw [List.length_take]; omega
  refine loop_fold (xs := l.entries.take (i + 1).toNat) (st := fun b k => stBrk l i b k) (f := fun b e => bif e.brk then IntKind.i64.wrap (b + 1) else b) (fin := fun b => (.exit 0, ⟨[(5, vI b)], []⟩)) (I := fun _ _ => True) (n := ([6, 5, 2, 1], [2])) (e := ([5], [])) (r := ([], [])) ?_ (fun _ => ⟨by simp, rfl⟩) (fun _ _ => rfl) ?_ b k (by omega) trivial
  · intro b _
    have hno : decide (((i + 1).toNat : Int) ≤ i) = false := decide_eq_false (by omega)
    rw [hl]
    rw [evBrkL]
    simp only [unstBrk, unstBrk0, prlBrk, outBrk, etaEnt, etaLst, Option.bind_some, List.length_map, unStrs, unInts, unBools, unEnts, unItms, unTrns, cond_true, cond_false, Bool.and_true, Bool.true_and, hno]
  · intro b k y hy _
    have hlt := lt_at hy
    rw [hl] at hlt
    have hy' : l.entries[k]? = some y := by
      rw [List.getElem?_take] at hy
      simpa [hlt] using hy
    have hyes : decide ((k : Int) ≤ i) = true := decide_eq_true (by omega)
    have hlt' := lt_at hy'
    refine ⟨?_, trivial⟩
    rw [evBrkL]
    simp only [unstBrk, unstBrk0, prlBrk, outBrk, etaEnt, etaLst, Option.bind_some, List.length_map, unStrs, unInts, unBools, unEnts, unItms, unTrns, cond_true, cond_false, Bool.and_true, Bool.true_and, hyes, decide_eq_true hlt', next_at hlt' (by omega : l.entries.length ≤ 9223372036854775807), getD_at hy', stBrk, eEnt, eLst, idx]
    cases y.brk <;> rfl

theorem evBrk (l : Lst) (i : Int) : (runF enBrk false Tryz.f69 [.agg (eLst l), vI i]).val =
  Option.bind (unenc stBrk1 (St.mk [(6, (vI (0 : Int))), (5, (vI l.breaks)), (2, .ptr 2 0 0), (1, (vI i))] [(2, Blk.mk true 0 0 [[(vI l.target), (vI l.first), (vI l.breaks),
  AV.sl (List.map eEnt l.entries), (vB l.ended)]])])) fun (z : Lst × Int × Int × Nat) => bif decide (List.length z.fst.entries ≤ (100000 : Nat)) && F.lt z.snd.fst
  (↑(List.length z.fst.entries) : Int) && F.le (-1 : Int) z.snd.fst && F.le (↑z.snd.snd.snd : Int) (z.snd.fst + (1 : Int)) && true then some ((vI (F.brk z.snd.snd.fst
  (List.drop z.snd.snd.snd (List.take (Int.toNat (z.snd.fst + (1 : Int))) z.fst.entries)))), []) else none := by kernel_rfl

def encBrk1 (l : Lst) (i : Int) : List AV := [.agg (eLst l), vI i]

def encBrk (a : Lst × Int) : List AV := encBrk1 a.1 a.2

theorem encBrk_inj (a a' : Lst × Int) (h : encBrk a = encBrk a') : a = a' := by
  simp only [encBrk, encBrk1] at h
  try simp [strs_inj, ents_inj, eEnt_iff, eLst_iff, ints_inj, eTrn_iff, itms_inj, eCli_iff] at h
  grind

theorem unBrk (l : Lst) (i : Int) : unenc encBrk ([AV.agg [(vI l.target), (vI l.first), (vI l.breaks), AV.sl (List.map eEnt l.entries), (vB l.ended)], (vI i)]) = some (l, i) := unenc_of encBrk_inj (l, i) rfl

theorem unBrkw (l_target : Int) (l_first : Int) (l_breaks : Int) (l_entries : List Ent) (l_ended : Bool) (i : Int) : unenc encBrk ([AV.agg [(vI l_target), (vI l_first), (vI l_breaks), AV.sl (List.map eEnt l_entries), (vB l_ended)], (vI i)]) = some ((Lst.mk l_target l_first l_breaks l_entries l_ended), i) := unenc_of encBrk_inj ((Lst.mk l_target l_first l_breaks l_entries l_ended), i) rfl

def resBrk1 (l : Lst) (i : Int) : AV × Heap := (vI (F.brkAt l i), [])

def preBrk1 (l : Lst) (i : Int) : Bool := decide (l.entries.length ≤ 100000) && F.lt i l.entries.length && F.le (-1) i

noncomputable def oBrk : Orc := orc 69 true encBrk (fun a => preBrk1 a.1 a.2) fun a => resBrk1 a.1 a.2

theorem okBrk : OrcOK Tryz.prog noG oBrk := by
  refine mk_ok Tryz.f69 (keep := false) (by kernel_rfl) (by kernel_rfl) enBrk_ok mixed (one_loop (x0 := loopN Tryz.f69 0) (by kernel_rfl) (lpo_ok ?_)) (by first | exact fun _ _ => ⟨rfl, rfl⟩ | (intro h; cases h)) ?_
  · rintro ⟨l, i, b, k⟩ hp
    exact lpBrk_ok l i b k hp
  rintro ⟨l, i⟩ hpre hok
  show (runF enBrk false _ (encBrk1 _ _)).val = some (resBrk1 _ _)
  unfold encBrk1 resBrk1
  rw [evBrk]
  simp only [preBrk1, Bool.and_eq_true] at hpre
  have h0 : F.le ((0 : Nat) : Int) (i + 1) = true := by have := hpre.2; simp only [F.le, decide_eq_true_eq] at this ⊢; omega
  simp only [unstBrk, unstBrk0, prlBrk, outBrk, etaEnt, etaLst, Option.bind_some, List.length_map, unStrs, unInts, unBools, unEnts, unItms, unTrns, cond_true, cond_false, Bool.and_true, Bool.true_and, hpre.1.1, hpre.1.2, hpre.2, h0, List.drop_zero, F.brkAt]

def stRFl (old : Lst) (now : Lst) (a : Bool) (k : Nat) : St := ⟨[(6, vI k), (5, vB a), (3, .ptr 3 0 0), (2, .ptr 2 0 0)], [(3, ⟨true, 0, 0, [eLst now]⟩), (2, ⟨true, 0, 0, [eLst old]⟩)]⟩

def stRFl1 (a : Lst × Lst × Bool × Nat) : St := stRFl a.1 a.2.1 a.2.2.1 a.2.2.2

theorem stRFl_inj (a a' : Lst × Lst × Bool × Nat) (h : stRFl1 a = stRFl1 a') : a = a' := by
  simp only [stRFl1, stRFl] at h
  try simp [strs_inj, ents_inj, eEnt_iff, eLst_iff, ints_inj, eTrn_iff, itms_inj, eCli_iff] at h
  grind

theorem unstRFl (old : Lst) (now : Lst) (a : Bool) (k : Nat) : unenc stRFl1 (St.mk [(6, (vI (↑k : Int))), (5, (vB a)), (3, .ptr 3 0 0), (2, .ptr 2 0 0)] [(3, Blk.mk true 0 0 [[(vI now.target), (vI now.first), (vI now.breaks), AV.sl (List.map eEnt
  now.entries), (vB now.ended)]]), (2, Blk.mk true 0 0 [[(vI old.target), (vI old.first), (vI old.breaks), AV.sl (List.map eEnt old.entries), (vB old.ended)]])]) = some (old, now, a, k) := unenc_of stRFl_inj (old, now, a, k) rfl

theorem unstRFl0 (old : Lst) (now : Lst)  : unenc stRFl1 (St.mk [(6, (vI (0 : Int))), (5, (vB false)), (3, .ptr 3 0 0), (2, .ptr 2 0 0)] [(3, Blk.mk true 0 0 [[(vI now.target), (vI now.first), (vI now.breaks), AV.sl (List.map
  eEnt now.entries), (vB now.ended)]]), (2, Blk.mk true 0 0 [[(vI old.target), (vI old.first), (vI old.breaks), AV.sl (List.map eEnt old.entries), (vB old.ended)]])]) = some (old, now, false, 0) := unenc_of stRFl_inj (old, now, false, 0) rfl

def outRFl (old : Lst) (now : Lst) (a : Bool) (k : Nat) : T (Ex × St) := .ifB (decide (F.rfC old now k = 0)) (.ret (.exit 0, ⟨[(5, vB (F.rfA old now a k)), (3, .ptr 3 0 0), (2, .ptr 2 0 0)], [(3, ⟨true, 0, 0, [eLst now]⟩), (2, ⟨true, 0, 0, [eLst old]⟩)]⟩)) (.ret (.ret, ⟨[(4, vI (F.rfC old now k))], []⟩))

noncomputable def prlRFl (old : Lst) (now : Lst) (a : Bool) (k : Nat) : Bool := decide (F.check old = 0) && decide (F.check now = 0) && decide (k ≤ old.entries.length)

noncomputable def lpRFl : Nat × (St → T (Ex × St)) := (9, lpo [6, 5, 3, 2] [3, 2] stRFl1 (fun a => prlRFl a.1 a.2.1 a.2.2.1 a.2.2.2) fun a => outRFl a.1 a.2.1 a.2.2.1 a.2.2.2)

noncomputable def enRFl : Env := envH ty noG lks [oSmL, oSmE, oBrk] [] [] [lpRFl]

theorem enRFl_ok : EnvOK Tryz.prog enRFl := by
  refine envH_ok lks_ok ty_ok ?_ ?_
  · simp only [List.forall_mem_cons]
    exact ⟨okSmL, okSmE, okBrk, by simp⟩
  · simp

theorem evRFlL (old : Lst) (now : Lst) (a : Bool) (k : Nat) : ((exec enRFl (loopN Tryz.f42 0) (stRFl old now a k)).bind (lessX ([6, 5, 3, 2], [3, 2]) ([5, 3, 2], [3, 2]) ([4], []))).val =
  (fun (q : Nat × AV) => (fun (q_1 : Ent) => (fun (q_2 : Int) => (fun (q_3 : List (Nat × AV)) => (fun (q_4 : List (Nat × AV)) => (fun (q_5 : List AV) => (fun (q_6 : List AV)
  => (fun (q_7 : List (Nat × Blk)) => bif decide ((↑k : Int) < (↑(List.length (List.map eEnt old.entries)) : Int)) then bif bif decide (q_2 < (0 : Int)) then true else
  decide ((↑(List.length (List.map eEnt now.entries)) : Int) ≤ q_2) then some (Ex.normal, St.mk (q :: q_4) q_7) else Option.bind (unenc (List.map eEnt) (List.map eEnt
  old.entries)) fun (z : List Ent) => bif decide (k < List.length z) then Option.bind (idx q_2) fun (z_1 : Nat) => Option.bind (unenc (List.map eEnt) (List.map eEnt
  now.entries)) fun (z_2 : List Ent) => bif decide (z_1 < List.length z_2) then Option.bind (unenc encSmE [AV.agg [(vS (List.getD z k q_1).uri), (vI (List.getD z k
  q_1).milli), (vB (List.getD z k q_1).brk), (vI (List.getD z k q_1).date), (vS (List.getD z k q_1).key), (vB (List.getD z k q_1).gap), AV.sl (List.map eStr (List.getD z k
  q_1).extra)], AV.agg [(vS (List.getD z_2 z_1 q_1).uri), (vI (List.getD z_2 z_1 q_1).milli), (vB (List.getD z_2 z_1 q_1).brk), (vI (List.getD z_2 z_1 q_1).date), (vS
  (List.getD z_2 z_1 q_1).key), (vB (List.getD z_2 z_1 q_1).gap), AV.sl (List.map eStr (List.getD z_2 z_1 q_1).extra)]]) fun (z : Ent × Ent) => bif !F.sameE z.fst z.snd then
  some (Ex.ret, St.mk [(4, (vI (12 : Int)))] []) else Option.bind (unenc encBrk [AV.agg q_5, (vI (↑k : Int))]) fun (z : Lst × Int) => bif decide (List.length z.fst.entries ≤
  (100000 : Nat)) && F.lt z.snd (↑(List.length z.fst.entries) : Int) && F.le (-1 : Int) z.snd then Option.bind (unenc encBrk [AV.agg q_6, (vI q_2)]) fun (z_3 : Lst × Int) =>
  bif decide (List.length z_3.fst.entries ≤ (100000 : Nat)) && F.lt z_3.snd (↑(List.length z_3.fst.entries) : Int) && F.le (-1 : Int) z_3.snd then bif F.brkAt z.fst z.snd !=
  F.brkAt z_3.fst z_3.snd then some (Ex.ret, St.mk [(4, (vI (3 : Int)))] []) else some (Ex.normal, St.mk (q :: (5, (vB true)) :: q_3) q_7) else none else none else none else
  none else some (Ex.exit (0 : Nat), St.mk q_4 q_7)) [(3, Blk.mk true 0 0 [q_6]), (2, Blk.mk true 0 0 [q_5])]) [(vI now.target), (vI now.first), (vI now.breaks), AV.sl
  (List.map eEnt now.entries), (vB now.ended)]) [(vI old.target), (vI old.first), (vI old.breaks), AV.sl (List.map eEnt old.entries), (vB old.ended)]) ((5, (vB a)) :: q_3))
  [(3, .ptr 3 0 0), (2, .ptr 2 0 0)]) (IntKind.wrap IntKind.i64 (IntKind.wrap IntKind.i64 (old.first + (↑k : Int)) - now.first))) (Ent.mk (ByteArray.mk (Array.mk [])) (0 :
  Int) false (0 : Int) (ByteArray.mk (Array.mk [])) false [])) (6, (vI (IntKind.wrap IntKind.i64 ((↑k : Int) + (1 : Int))))) := by kernel_rfl

theorem lpRFl_ok (old : Lst) (now : Lst) (a : Bool) (k : Nat) (hp : prlRFl old now a k = true) : ∀ ex s', (outRFl old now a k).val = some (ex, s') → LoopOK enRFl (loopN Tryz.f42 0) (stRFl old now a k) ex s' := by
  simp only [prlRFl, Bool.and_eq_true, decide_eq_true_eq] at hp
  obtain ⟨⟨c1, c2⟩, h3⟩ := hp
  obtain ⟨o1, _, _, o2, o3⟩ := F.check_ok c1
  obtain ⟨n1, _, _, n2, n3⟩ := F.check_ok c2
  refine loop_gen (st := fun a : Bool × Nat => stRFl old now a.1 a.2) (out := fun a => outRFl old now a.1 a.2) (I := fun a => a.2 ≤ old.entries.length) (n := ([6, 5, 3, 2], [3, 2])) (e := ([5, 3, 2], [3, 2])) (r := ([4], [])) (fun a => old.entries.length - a.2) ?_ (a, k) h3
  rintro ⟨a, k⟩ hk
  simp only at hk
  by_cases hlt : k < old.entries.length
  · have hy : old.entries[k]? = some old.entries[k] := List.getElem?_eq_getElem hlt
    generalize old.entries[k] = y at hy
    have hd := F.range_drop hlt
    have hC : F.rfC old now k = if F.rfG old now k = 0 then F.rfC old now (k + 1) else F.rfG old now k := by simp only [F.rfC, hd, M.ffI]
    have hA : F.rfA old now a k = F.rfA old now (a || !F.rfO old now k) (k + 1) := by simp only [F.rfA, hd, List.any_cons, Bool.or_assoc]
    have hn := next_at hlt (by omega : old.entries.length ≤ 9223372036854775807)
    by_cases hO1 : F.rfK old now k < 0
    · have hO : F.rfO old now k = true := by simp [F.rfO, F.lt, hO1]
      have hK : decide (IntKind.i64.wrap (IntKind.i64.wrap (old.first + (k : Int)) - now.first) < 0) = true := decide_eq_true hO1
      right
      refine ⟨(a, k + 1), ?_, rfl, by simp only; omega, by simp only; omega, ?_⟩
      · rw [evRFlL]
        simp only [unSmL, unSmE, unBrk, unSmLw, unSmEw, unBrkw, preSmL1, preSmE1, preBrk1, unstRFl, unstRFl0, prlRFl, outRFl, etaEnt, etaLst, Option.bind_some, List.length_map, unStrs, unInts, unBools, unEnts, unItms, unTrns, cond_true, cond_false, Bool.and_true, Bool.true_and, cast_lt hlt, decide_eq_true hlt, hn, hK, stRFl, eLst]
      · simp only [outRFl, hC, hA, F.rfG, hO, cond_true, if_true, Bool.not_true, Bool.or_false]
    · have hK1 : decide (IntKind.i64.wrap (IntKind.i64.wrap (old.first + (k : Int)) - now.first) < 0) = false := decide_eq_false hO1
      by_cases hO2 : (now.entries.length : Int) ≤ F.rfK old now k
      · have hO : F.rfO old now k = true := by simp [F.rfO, F.le, hO2]
        have hK2 : decide ((now.entries.length : Int) ≤ IntKind.i64.wrap (IntKind.i64.wrap (old.first + (k : Int)) - now.first)) = true := decide_eq_true hO2
        right
        refine ⟨(a, k + 1), ?_, rfl, by simp only; omega, by simp only; omega, ?_⟩
        · rw [evRFlL]
          simp only [unSmL, unSmE, unBrk, unSmLw, unSmEw, unBrkw, preSmL1, preSmE1, preBrk1, unstRFl, unstRFl0, prlRFl, outRFl, etaEnt, etaLst, Option.bind_some, List.length_map, unStrs, unInts, unBools, unEnts, unItms, unTrns, cond_true, cond_false, Bool.and_true, Bool.true_and, cast_lt hlt, decide_eq_true hlt, hn, hK1, hK2, stRFl, eLst]
        · simp only [outRFl, hC, hA, F.rfG, hO, cond_true, if_true, Bool.not_true, Bool.or_false]
      · obtain ⟨j, hj⟩ : ∃ j : Nat, F.rfK old now k = j := ⟨(F.rfK old now k).toNat, by omega⟩
        have hjl : j < now.entries.length := by omega
        have hz : now.entries[j]? = some now.entries[j] := List.getElem?_eq_getElem hjl
        generalize now.entries[j] = z at hz
        have hO : F.rfO old now k = false := by simp only [F.rfO, F.lt, F.le, Bool.or_eq_false_iff, decide_eq_false_iff_not]; exact ⟨hO1, hO2⟩
        have hK : IntKind.i64.wrap (IntKind.i64.wrap (old.first + (k : Int)) - now.first) = (j : Int) := hj
        have d1 : decide ((j : Int) < 0) = false := decide_eq_false (by omega)
        have d2 : decide ((now.entries.length : Int) ≤ (j : Int)) = false := decide_eq_false (by omega)
        have d3 : decide (old.entries.length ≤ 100000) = true := decide_eq_true (by omega)
        have d4 : decide (now.entries.length ≤ 100000) = true := decide_eq_true (by omega)
        have d5 : F.lt (k : Int) (old.entries.length : Int) = true := decide_eq_true (by omega)
        have d6 : F.lt (j : Int) (now.entries.length : Int) = true := decide_eq_true (by omega)
        have d7 : F.le (-1) (k : Int) = true := decide_eq_true (by omega)
        have d8 : F.le (-1) (j : Int) = true := decide_eq_true (by omega)
        have hG : F.rfG old now k = bif !F.sameE y z then 12 else bif F.brkAt old k != F.brkAt now j then 3 else 0 := by
          simp only [F.rfG, hO, cond_false, hj, Int.toNat_natCast, getD_at hy, getD_at hz]
        rcases Bool.eq_false_or_eq_true (F.sameE y z) with hs | hs
        · by_cases hb : F.brkAt old k = F.brkAt now j
          · right
            refine ⟨(true, k + 1), ?_, rfl, by simp only; omega, by simp only; omega, ?_⟩
            · rw [evRFlL]
              simp only [unSmL, unSmE, unBrk, unSmLw, unSmEw, unBrkw, preSmL1, preSmE1, preBrk1, unstRFl, unstRFl0, prlRFl, outRFl, etaEnt, etaLst, Option.bind_some, List.length_map, unStrs, unInts, unBools, unEnts, unItms, unTrns, cond_true, cond_false, Bool.and_true, Bool.true_and, cast_lt hlt, decide_eq_true hlt, decide_eq_true hjl, hn, hK, d1, d2, d3, d4, d5, d6, d7, d8, idx, getD_at hy, getD_at hz, hs, hb, bne_self_eq_false, stRFl, eLst]
              rfl
            · have hG0 : F.rfG old now k = 0 := by rw [hG, hs, hb]; simp
              simp only [outRFl, hC, hA, hG0, hO, if_true, Bool.not_false, Bool.or_true]
          · left
            have hbb : (F.brkAt old k != F.brkAt now j) = true := by simp [hb]
            have hG0 : F.rfG old now k = 3 := by rw [hG, hs, hbb]; rfl
            refine ⟨(.ret, ⟨[(4, vI 3)], []⟩), ?_, ?_, by simp, rfl⟩
            · rw [evRFlL]
              simp only [unSmL, unSmE, unBrk, unSmLw, unSmEw, unBrkw, preSmL1, preSmE1, preBrk1, unstRFl, unstRFl0, prlRFl, outRFl, etaEnt, etaLst, Option.bind_some, List.length_map, unStrs, unInts, unBools, unEnts, unItms, unTrns, cond_true, cond_false, Bool.and_true, Bool.true_and, cast_lt hlt, decide_eq_true hlt, decide_eq_true hjl, hn, hK, d1, d2, d3, d4, d5, d6, d7, d8, idx, getD_at hy, getD_at hz, hs, hbb, stRFl, eLst]
              rfl
            · simp only [outRFl, hC, hG0]
              rfl
        · left
          have hG0 : F.rfG old now k = 12 := by rw [hG, hs]; rfl
          refine ⟨(.ret, ⟨[(4, vI 12)], []⟩), ?_, ?_, by simp, rfl⟩
          · rw [evRFlL]
            simp only [unSmL, unSmE, unBrk, unSmLw, unSmEw, unBrkw, preSmL1, preSmE1, preBrk1, unstRFl, unstRFl0, prlRFl, outRFl, etaEnt, etaLst, Option.bind_some, List.length_map, unStrs, unInts, unBools, unEnts, unItms, unTrns, cond_true, cond_false, Bool.and_true, Bool.true_and, cast_lt hlt, decide_eq_true hlt, decide_eq_true hjl, hn, hK, d1, d2, d3, d4, d5, d6, d7, d8, idx, getD_at hy, getD_at hz, hs, stRFl, eLst]
            rfl
          · simp only [outRFl, hC, hG0]
            rfl
  · have : k = old.entries.length := by omega
    subst this
    left
    refine ⟨(.exit 0, ⟨[(5, vB a), (3, .ptr 3 0 0), (2, .ptr 2 0 0)], [(3, ⟨true, 0, 0, [eLst now]⟩), (2, ⟨true, 0, 0, [eLst old]⟩)]⟩), ?_, ?_, by simp, rfl⟩
    · rw [evRFlL]; simp [eLst]
    · have : (List.range old.entries.length).drop old.entries.length = [] := List.drop_eq_nil_of_le (by simp)
      simp [outRFl, F.rfC, F.rfA, this, M.ffI, T.val]

theorem evRFl (old : Lst) (now : Lst) : (runF enRFl false Tryz.f42 [.agg (eLst old), .agg (eLst now)]).val =
  (fun (q : Bool) => (fun (q_1 : Option (AV × Heap)) => (fun (q_2 : Option (AV × Heap)) => (fun (q_3 : List AV) => (fun (q_4 : List AV) => (fun (q : Option (AV × Heap)) =>
  bif old.target != now.target then some ((vI (6 : Int)), []) else bif old.ended then Option.bind (unenc encSmL [AV.agg q_4, AV.agg q_3]) fun (z : Lst × Lst) => bif bif
  old.ended then !F.sameL z.fst z.snd else false then some ((vI (11 : Int)), []) else q else bif old.ended then none else q) (bif q then bif q then bif bif decide (now.first
  < old.first) then true else decide (IntKind.wrap IntKind.i64 (now.first + (↑(List.length (List.map eEnt now.entries)) : Int)) < IntKind.wrap IntKind.i64 (old.first +
  (↑(List.length (List.map eEnt old.entries)) : Int))) then q_1 else Option.bind (unenc stRFl1 (St.mk [(6, (vI (0 : Int))), (5, (vB false)), (3, .ptr 3 0 0), (2, .ptr 2 0
  0)] [(3, Blk.mk true 0 0 [q_3]), (2, Blk.mk true 0 0 [q_4])])) fun (z : Lst × Lst × Bool × Nat) => bif decide (F.check z.fst = (0 : Int)) && decide (F.check z.snd.fst = (0
  : Int)) && decide (z.snd.snd.snd ≤ List.length z.fst.entries) && true then bif decide (F.rfC z.fst z.snd.fst z.snd.snd.snd = (0 : Int)) then bif !F.rfA z.fst z.snd.fst
  z.snd.snd.fst z.snd.snd.snd then Option.bind (unenc encBrk [AV.agg [(vI z.fst.target), (vI z.fst.first), (vI z.fst.breaks), AV.sl (List.map eEnt z.fst.entries), (vB
  z.fst.ended)], (vI (IntKind.wrap IntKind.i64 ((↑(List.length (List.map eEnt z.fst.entries)) : Int) - (1 : Int))))]) fun (z_1 : Lst × Int) => bif decide (List.length
  z_1.fst.entries ≤ (100000 : Nat)) && F.lt z_1.snd (↑(List.length z_1.fst.entries) : Int) && F.le (-1 : Int) z_1.snd then bif bif !F.rfA z.fst z.snd.fst z.snd.snd.fst
  z.snd.snd.snd then decide (z.snd.fst.breaks < F.brkAt z_1.fst z_1.snd) else false then q_1 else some ((vI (0 : Int)), []) else none else bif !F.rfA z.fst z.snd.fst
  z.snd.snd.fst z.snd.snd.snd then none else some ((vI (0 : Int)), []) else some ((vI (F.rfC z.fst z.snd.fst z.snd.snd.snd)), []) else none else q_2 else bif q then q_2 else
  q_2)) [(vI old.target), (vI old.first), (vI old.breaks), AV.sl (List.map eEnt old.entries), (vB old.ended)]) [(vI now.target), (vI now.first), (vI now.breaks), AV.sl
  (List.map eEnt now.entries), (vB now.ended)]) (bif q then none else q_1)) (some ((vI (8 : Int)), []))) !decide (now.first < old.first) := by kernel_rfl

def encRFl1 (old : Lst) (now : Lst) : List AV := [.agg (eLst old), .agg (eLst now)]

def encRFl (a : Lst × Lst) : List AV := encRFl1 a.1 a.2

theorem encRFl_inj (a a' : Lst × Lst) (h : encRFl a = encRFl a') : a = a' := by
  simp only [encRFl, encRFl1] at h
  try simp [strs_inj, ents_inj, eEnt_iff, eLst_iff, ints_inj, eTrn_iff, itms_inj, eCli_iff] at h
  grind

theorem unRFl (old : Lst) (now : Lst) : unenc encRFl ([AV.agg [(vI old.target), (vI old.first), (vI old.breaks), AV.sl (List.map eEnt old.entries), (vB old.ended)], AV.agg [(vI now.target), (vI now.first), (vI now.breaks),
  AV.sl (List.map eEnt now.entries), (vB now.ended)]]) = some (old, now) := unenc_of encRFl_inj (old, now) rfl

theorem unRFlw (old_target : Int) (old_first : Int) (old_breaks : Int) (old_entries : List Ent) (old_ended : Bool) (now_target : Int) (now_first : Int) (now_breaks : Int) (now_entries : List Ent) (now_ended : Bool) : unenc encRFl ([AV.agg [(vI old_target), (vI old_first), (vI old_breaks), AV.sl (List.map eEnt old_entries), (vB old_ended)], AV.agg [(vI now_target), (vI now_first), (vI now_breaks),
  AV.sl (List.map eEnt now_entries), (vB now_ended)]]) = some ((Lst.mk old_target old_first old_breaks old_entries old_ended), (Lst.mk now_target now_first now_breaks now_entries now_ended)) := unenc_of encRFl_inj ((Lst.mk old_target old_first old_breaks old_entries old_ended), (Lst.mk now_target now_first now_breaks now_entries now_ended)) rfl

def resRFl1 (old : Lst) (now : Lst) : AV × Heap := (vI (F.rfol old now), [])

def preRFl1 (old : Lst) (now : Lst) : Bool := decide (F.check old = 0) && decide (F.check now = 0)

noncomputable def oRFl : Orc := orc 42 true encRFl (fun a => preRFl1 a.1 a.2) fun a => resRFl1 a.1 a.2

theorem okRFl : OrcOK Tryz.prog noG oRFl := by
  refine mk_ok Tryz.f42 (keep := false) (by kernel_rfl) (by kernel_rfl) enRFl_ok mixed (one_loop (x0 := loopN Tryz.f42 0) (by kernel_rfl) (lpo_ok ?_)) (by first | exact fun _ _ => ⟨rfl, rfl⟩ | (intro h; cases h)) ?_
  · rintro ⟨old, now, a, k⟩ hp
    exact lpRFl_ok old now a k hp
  rintro ⟨old, now⟩ hpre hok
  show (runF enRFl false _ (encRFl1 _ _)).val = some (resRFl1 _ _)
  unfold encRFl1 resRFl1
  rw [evRFl]
  simp only [preRFl1, Bool.and_eq_true, decide_eq_true_eq] at hpre
  obtain ⟨c1, c2⟩ := hpre
  obtain ⟨o1, _, _, o2, o3⟩ := F.check_ok c1
  simp only [unSmL, unSmE, unBrk, unSmLw, unSmEw, unBrkw, preSmL1, preSmE1, preBrk1, unstRFl, unstRFl0, prlRFl, outRFl, etaEnt, etaLst, Option.bind_some, List.length_map, unStrs, unInts, unBools, unEnts, unItms, unTrns, cond_true, cond_false, Bool.and_true, Bool.true_and, c1, c2, F.rfol, F.endN_def, Nat.zero_le, decide_true]
  have hw : IntKind.i64.wrap ((old.entries.length : Int) - 1) = (old.entries.length : Int) - 1 := wrap_id (by omega) (by omega)
  have p0 : decide (old.entries.length ≤ 100000) = true := decide_eq_true (by omega)
  have p1 : F.lt ((old.entries.length : Int) - 1) (old.entries.length : Int) = true := decide_eq_true (by omega)
  have p2 : F.le (-1) ((old.entries.length : Int) - 1) = true := decide_eq_true (by omega)
  simp only [hw, p0, p1, p2, Bool.and_self, cond_true]
  cases (old.target != now.target)
  · by_cases hf : now.first < old.first
    · simp only [hf, F.lt, decide_true, Bool.not_true, cond_true, cond_false, Bool.true_or]
      cases old.ended <;> cases F.sameL old now <;> rfl
    · by_cases hg : F.endN now < F.endN old
      · simp only [hf, hg, F.lt, decide_true, decide_false, Bool.not_false, cond_true, cond_false, Bool.or_true]
        cases old.ended <;> cases F.sameL old now <;> rfl
      · by_cases hz : F.rfC old now 0 = 0
        · rcases Bool.eq_false_or_eq_true (F.rfA old now false 0) with ha | ha
          · simp only [hf, hg, hz, ha, F.lt, decide_true, decide_false, Bool.not_true, Bool.not_false, cond_true, cond_false, Bool.or_false, bne_self_eq_false, Bool.false_and]
            cases old.ended <;> cases F.sameL old now <;> rfl
          · by_cases hb : now.breaks < F.brkAt old ((old.entries.length : Int) - 1) <;>
              simp only [hf, hg, hz, ha, hb, F.lt, decide_true, decide_false, Bool.not_true, Bool.not_false, cond_true, cond_false, Bool.or_false, bne_self_eq_false, Bool.true_and] <;>
              cases old.ended <;> cases F.sameL old now <;> rfl
        · have hzb : (F.rfC old now 0 != 0) = true := by simp [hz]
          simp only [hf, hg, hz, hzb, F.lt, decide_false, Bool.not_false, cond_true, cond_false, Bool.or_false]
          cases old.ended <;> cases F.sameL old now <;> rfl
  · rfl

end M

theorem F.ffI_app {α : Type} {g : α → Int} : ∀ (a b : List α), M.ffI g a = 0 → M.ffI g (a ++ b) = M.ffI g b
  | [], b, _ => rfl
  | y :: a, b, h => by
    simp only [M.ffI] at h
    simp only [List.cons_append, M.ffI]
    split at h
    · rename_i h0
      rw [if_pos h0]
      exact F.ffI_app a b h
    · exact absurd h ‹_›

theorem F.ffI_congr {α β : Type} {g : α → Int} {h : β → Int} : ∀ (xs : List α) (ys : List β), xs.length = ys.length → (∀ (k : Nat) x y, xs[k]? = some x → ys[k]? = some y → g x = h y) → M.ffI g xs = M.ffI h ys
  | [], [], _, _ => rfl
  | [], _ :: _, hl, _ => by simp at hl
  | _ :: _, [], hl, _ => by simp at hl
  | x :: xs, y :: ys, hl, hh => by
    simp only [M.ffI]
    rw [hh 0 x y rfl rfl, F.ffI_congr xs ys (by simpa using hl) fun k a b ha hb => hh (k + 1) a b (by simpa using ha) (by simpa using hb)]

theorem F.last_eq {l : Lst} (hc : F.check l = 0) : F.brkAt l ((l.entries.length : Int) - 1) = F.last l := by
  rw [F.brkAt_eq hc]
  have hb := F.bn_len l
  unfold F.last
  cases h0 : F.lt 0 (F.bn l).length
  · simp only [F.lt, decide_eq_false_iff_not] at h0
    have : ((l.entries.length : Int) - 1 + 1).toNat = 0 := by omega
    rw [this]
    simp [F.cnt]
  · simp only [F.lt, decide_eq_true_eq] at h0
    simp only [cond_true]
    have hg : (F.bn l)[(F.bn l).length - 1]? = some ((F.bn l).getD ((F.bn l).length - 1) 0) := by
      rw [List.getD_eq_getElem?_getD, List.getElem?_eq_getElem (by omega)]; rfl
    rw [F.bn_at hc hg]
    rw [show ((l.entries.length : Int) - 1 + 1).toNat = (F.bn l).length - 1 + 1 by omega]

theorem F.rfol_eq {old now : Lst} (c1 : F.check old = 0) (c2 : F.check now = 0) : F.rfol old now = F.fol old now := by
  obtain ⟨o1, _, _, o2, o3⟩ := F.check_ok c1
  obtain ⟨n1, _, _, n2, n3⟩ := F.check_ok c2
  have eo := F.endN_eq c1
  have en := F.endN_eq c2
  unfold F.rfol F.fol
  rw [F.last_eq c1]
  by_cases hF : now.first < old.first ∨ F.endN now < F.endN old
  · have : (F.lt now.first old.first || F.lt (F.endN now) (F.endN old)) = true := by simp [F.lt]; exact hF
    rw [this]; rfl
  · have hK : ∀ i : Nat, i < old.entries.length → F.rfK old now i = old.first + i - now.first := by
      intro i hi
      unfold F.rfK
      rw [M.wrap_id (n := old.first + (i : Int)) (by omega) (by omega), M.wrap_id (by omega) (by omega)]
    have hC : F.rfC old now 0 = F.folL old now now.first := by
      unfold F.rfC F.folL
      rw [List.drop_zero, show (now.first - now.first).toNat = 0 by omega, List.drop_zero]
      have hsp : List.range old.entries.length = (List.range old.entries.length).take (now.first - old.first).toNat ++ (List.range old.entries.length).drop (now.first - old.first).toNat := (List.take_append_drop _ _).symm
      rw [hsp, F.ffI_app]
      · refine F.ffI_congr _ _ ?_ ?_
        · rw [F.folX_len, List.length_drop, List.length_range]
          omega
        · intro k x y hx hy
          rw [List.getElem?_drop] at hx
          have hlt := M.lt_at hx
          rw [List.length_range] at hlt
          rw [List.getElem?_range hlt] at hx
          obtain rfl := Option.some.inj hx
          obtain ⟨a1, a2, a3, a4⟩ := F.folX_at hy
          have hk : F.rfK old now ((now.first - old.first).toNat + k) = (k : Int) := by rw [hK _ hlt]; omega
          have hkl := M.lt_at a2
          have hO : F.rfO old now ((now.first - old.first).toNat + k) = false := by
            simp only [F.rfO, hk, F.lt, F.le, Bool.or_eq_false_iff, decide_eq_false_iff_not]
            omega
          have b1 : F.brkAt old (((now.first - old.first).toNat + k : Nat) : Int) = y.2.1 := by
            rw [F.brkAt_eq c1, F.bn_at c1 a3, show ((((now.first - old.first).toNat + k : Nat) : Int) + 1).toNat = (now.first - old.first).toNat + k + 1 by omega]
          have b2 : F.brkAt now (k : Int) = y.2.2 := by
            rw [F.brkAt_eq c2, F.bn_at c2 a4, show ((k : Int) + 1).toNat = k + 1 by omega]
          simp only [F.rfG, hO, cond_false, hk, Int.toNat_natCast, M.getD_at a1, M.getD_at a2, b1, b2, F.folG]
          cases F.sameE y.1.1 y.1.2
          · rfl
          · by_cases hb : y.2.1 = y.2.2
            · simp [hb]
            · have : (y.2.1 != y.2.2) = true := by simp [hb]
              simp [hb, this]
      · refine F.ffI_zr fun i hi => ?_
        obtain ⟨k, hk, e⟩ := List.getElem_of_mem hi
        simp only [List.length_take, List.length_range] at hk
        simp only [List.getElem_take, List.getElem_range] at e
        subst e
        have : F.rfO old now k = true := by
          simp only [F.rfO, hK k (by omega), F.lt, Bool.or_eq_true, decide_eq_true_eq]
          omega
        simp only [F.rfG, this, cond_true]
    have hA : (!F.rfA old now false 0) = F.le (F.endN old) now.first := by
      unfold F.rfA
      rw [List.drop_zero, Bool.false_or]
      by_cases h : F.endN old ≤ now.first
      · have : ((List.range old.entries.length).any fun i => !F.rfO old now i) = false := by
          rw [List.any_eq_false]
          intro i hi
          rw [List.mem_range] at hi
          have : F.rfO old now i = true := by
            simp only [F.rfO, hK i hi, F.lt, Bool.or_eq_true, decide_eq_true_eq]
            omega
          simp [this]
        rw [this]
        simp [F.le, h]
      · have : ((List.range old.entries.length).any fun i => !F.rfO old now i) = true := by
          rw [List.any_eq_true]
          refine ⟨(now.first - old.first).toNat, by rw [List.mem_range]; omega, ?_⟩
          have : F.rfO old now (now.first - old.first).toNat = false := by
            simp only [F.rfO, hK _ (by omega : (now.first - old.first).toNat < old.entries.length), F.lt, F.le, Bool.or_eq_false_iff, decide_eq_false_iff_not]
            omega
          simp [this]
        rw [this]
        simp [F.le, h]
    rw [hC, hA]

end Go.Proofs.YtajmdlpanlbnjaaGreatDoor

namespace Go.Proofs.YtajmdlpanlbnjaaGreatDoor.M
open Go Go.RowKit
set_option linter.unusedVariables false
set_option linter.unusedSimpArgs false

theorem T.valb {α β : Type} : ∀ (x : T α) (g : α → T β), (x.bind g).val = x.val.bind fun a => (g a).val
  | .ret _, _ => rfl
  | .fail, _ => rfl
  | .ifB b x y, g => by
    cases b
    · exact T.valb y g
    · exact T.valb x g
  | .opt o f, g => by
    cases o with
    | none => rfl
    | some z => exact T.valb (f z) g

theorem T.bind_val {α β : Type} {x y : T α} {g h : α → T β} (h1 : x.val = y.val) (h2 : ∀ a, (g a).val = (h a).val) : (x.bind g).val = (y.bind h).val := by
  rw [T.valb, T.valb, h1]
  cases y.val with
  | none => rfl
  | some a => exact h2 a

theorem T.ifB_val {α : Type} {b : Bool} {x y x' y' : T α} (h1 : b = true → x.val = x'.val) (h2 : b = false → y.val = y'.val) : (T.ifB b x y).val = (T.ifB b x' y').val := by
  cases b
  · exact h2 rfl
  · exact h1 rfl

def setF : Tmps → Nat → AV → Tmps
  | [], _, _ => []
  | (k, x) :: r, n, v => match Nat.beq n k with
    | true => (k, v) :: r
    | false => (k, x) :: setF r n v

theorem setF_same : ∀ {t : Tmps} {d : Nat} {v : AV}, mget t d = some v → setF t d v = t
  | [], _, _, h => by cases h
  | (k, x) :: r, d, v, h => by
    unfold mget at h
    unfold setF
    split
    · rename_i hb
      rw [hb] at h
      simp only [Option.some.injEq] at h
      rw [h]
    · rename_i hb
      rw [hb] at h
      rw [setF_same h]

theorem setF_getT {t : Tmps} {d : Nat} {v : AV} (h : getT t d = v) (hv : v ≠ .unk) : setF t d v = t := by
  unfold getT at h
  split at h
  · rename_i a ha
    rw [h] at ha
    exact setF_same ha
  · exact absurd h.symm hv

def guardedR (E : Env) (s : St) (o : Oper) (d : Nat) (f want : Bool) (v1 v0 : AV) : T (St × Option (List Nat × List Nat)) :=
  match safeAt E s o d want with
  | true => match (eff E (ρOf E (some (d, want)) s.t) (mget s.h) o).val with
    | some p => match isFlat p.1 with
      | true => .ret (⟨setD s.t o.dst (.gd d f want p.1), s.h⟩, some ([], []))
      | false => .fail
    | none => .ifB f .fail (skipO ⟨setF s.t d v0, s.h⟩ o d want)
  | false => .ifB f (step1 E (some (d, want)) ⟨setF s.t d v1, s.h⟩ o) (skipO ⟨setF s.t d v0, s.h⟩ o d want)

theorem guardedR_val {E : Env} {s : St} {o : Oper} {d : Nat} {f want : Bool} {v1 v0 : AV} (h1 : f = true → setF s.t d v1 = s.t) (h0 : f = false → setF s.t d v0 = s.t) :
    (guardedR E s o d f want v1 v0).val = (guarded E s o d f want).val := by
  unfold guardedR guarded
  cases safeAt E s o d want with
  | true =>
    simp only
    cases (eff E (ρOf E (some (d, want)) s.t) (mget s.h) o).val with
    | some p => rfl
    | none => exact T.ifB_val (fun _ => rfl) (fun h => by rw [h0 h])
  | false => exact T.ifB_val (fun h => by rw [h1 h]) (fun h => by rw [h0 h])

def stepGR (E : Env) (ops : List Oper) (s : St) (o : Oper) : T (St × Option (List Nat × List Nat)) := match o.guard with
  | none => step1 E none s o
  | some (j, want) => match dstOf ops j with
    | some d => match getT s.t d with
      | .v (.bool b) => guardedR E s o d (asked b want) want (.v (.bool want)) (.v (.bool (!want)))
      | .gd j' f w (.v (.bool b)) => guardedR E s o d (f && asked b want) want (.gd j' true w (.v (.bool want))) (.gd j' f w (.v (.bool b)))
      | .gd _ f _ _ => .ifB f .fail (skipO s o d want)
      | _ => .fail
    | none => .fail

theorem stepGR_val {E : Env} {ops : List Oper} {s : St} {o : Oper} : (stepGR E ops s o).val = (stepG E ops s o).val := by
  unfold stepGR stepG
  cases o.guard with
  | none => rfl
  | some jw =>
    obtain ⟨j, want⟩ := jw
    simp only
    cases dstOf ops j with
    | none => rfl
    | some d =>
      simp only
      generalize hb : getT s.t d = x
      split
      · rename_i b
        refine guardedR_val (fun h => ?_) (fun h => ?_)
        · have : b = want := by cases b <;> cases want <;> simp [asked] at h <;> rfl
          subst this
          exact setF_getT hb (by simp)
        · have : b = !want := by cases b <;> cases want <;> simp [asked] at h <;> rfl
          subst this
          exact setF_getT hb (by simp)
      · rename_i j' f w b
        refine guardedR_val (fun h => ?_) (fun _ => setF_getT hb (by simp))
        rw [Bool.and_eq_true] at h
        obtain ⟨hf, h⟩ := h
        have : b = want := by cases b <;> cases want <;> simp [asked] at h <;> rfl
        subst this
        subst hf
        exact setF_getT hb (by simp)
      · split <;> first | rfl | (rename_i hq; cases hq; rfl) | (exfalso; grind)
      · split <;> first | rfl | (rename_i hq; cases hq; rfl) | (exfalso; grind)

def stepNR (E : Env) (ops : List Oper) (s : St) (o : Oper) : T (St × Option (List Nat × List Nat)) := match renewOf E s.t (mget s.h) o with
  | some p => kfin E s o.dst p
  | none => stepGR E ops (s.freezes (storeFrz E s.t (mget s.h) o)) o

theorem stepNR_val {E : Env} {ops : List Oper} {s : St} {o : Oper} : (stepNR E ops s o).val = (stepN E ops s o).val := by
  unfold stepNR stepN
  cases renewOf E s.t (mget s.h) o with
  | some p => rfl
  | none => exact stepGR_val

def stepsR (E : Env) (ops : List Oper) : List Oper → St → T St
  | [], s => .ret s
  | o :: r, s => (stepNR E ops s o).bind fun p => stepsR E ops r p.1

theorem stepsR_val {E : Env} {ops : List Oper} : ∀ {l : List Oper} {s : St}, (stepsR E ops l s).val = (steps E ops l s).val
  | [], _ => rfl
  | o :: r, s => T.bind_val stepNR_val fun _ => stepsR_val

def stepsDR (E : Env) (ops : List Oper) : List Oper → St → List FP → T St
  | [], s, tr => match chkAll ops tr && backOK 0 ops with
    | true => .ret s
    | false => .fail
  | o :: r, s, tr => (stepGR E ops s o).bind fun p => stepsDR E ops r p.1 (fpOf ops s o p.2 p.1 :: tr)

theorem stepsDR_val {E : Env} {ops : List Oper} : ∀ {l : List Oper} {s : St} {tr : List FP}, (stepsDR E ops l s tr).val = (stepsD E ops l s tr).val
  | [], _, _ => rfl
  | o :: r, s, tr => T.bind_val stepGR_val fun _ => stepsDR_val

def execR (E : Env) : Code → St → T (Ex × St)
  | .skip, s => done s
  | .region _ ops dr, s => match dr with
    | false => (stepsR E ops.toList ops.toList s).bind done
    | true => (stepsDR E ops.toList ops.toList s []).bind done
  | .seq x y, s => (execR E x s).bind fun p => match p.1 with
    | .normal => execR E y p.2
    | _ => .ret p
  | .cond c x y, s => match boolOf (ev E s.t c) with
    | some b => .ifB b (execR E x s) (execR E y s)
    | none => .fail
  | .block id x, s => (execR E x s).bind fun p => match p.1 with
    | .exit i => match Nat.beq i id with
      | true => .ret (.normal, p.2)
      | false => .ret p
    | _ => .ret p
  | .loop x, s => E.lp (lid x) s
  | .exit id, s => .ret (.exit id, s)
  | .ret, s => .ret (.ret, s)
  | _, _ => .fail

theorem execR_val {E : Env} (c : Code) : ∀ s, (execR E c s).val = (exec E c s).val := by
  induction c with
  | skip => intro s; rfl
  | region id ops dr =>
    intro s
    cases dr
    · exact T.bind_val stepsR_val fun _ => rfl
    · exact T.bind_val stepsDR_val fun _ => rfl
  | seq x y ihx ihy =>
    intro s
    refine T.bind_val (ihx s) fun p => ?_
    cases p.1
    · exact ihy p.2
    · rfl
    · rfl
  | cond c x y ihx ihy =>
    intro s
    show (match boolOf (ev E s.t c) with | some b => T.ifB b (execR E x s) (execR E y s) | none => .fail).val = (match boolOf (ev E s.t c) with | some b => T.ifB b (exec E x s) (exec E y s) | none => .fail).val
    cases boolOf (ev E s.t c) with
    | none => rfl
    | some b => exact T.ifB_val (fun _ => ihx s) (fun _ => ihy s)
  | block id x ih => intro s; exact T.bind_val (ih s) fun _ => rfl
  | loop x ih => intro s; rfl
  | _ => intros; rfl

theorem execR_bind {α : Type} {E : Env} (c : Code) (s : St) (g : Ex × St → T α) : ((execR E c s).bind g).val = ((exec E c s).bind g).val := T.bind_val (execR_val c s) fun _ => rfl

def runFR (E : Env) (keep : Bool) (fn : Func) (args : List AV) : T (AV × Heap) :=
  match fn.body with
  | none => .fail
  | some c => match dstsOK fn.ntmps c with
    | true => (execR E c ⟨numbered 0 (args.map noGd) [], []⟩).bind fun p => match p.1 with
      | .ret => (ress E p.2 fn.results.toList).bind fun us => finish keep p.2 (resAV us)
      | _ => .fail
    | false => .fail

theorem runFR_val {E : Env} {keep : Bool} {fn : Func} {args : List AV} : (runFR E keep fn args).val = (runF E keep fn args).val := by
  unfold runFR runF
  cases fn.body with
  | none => rfl
  | some c =>
    simp only
    cases dstsOK fn.ntmps c with
    | false => rfl
    | true => exact T.bind_val (execR_val _ _) fun _ => rfl

def runHR (E : Env) (mv : List Nat) (fn : Func) (args : List AV) (hin : Heap) : T (AV × Heap × List Nat) :=
  match fn.body with
  | none => .fail
  | some c => match dstsOK fn.ntmps c && (hin.map (·.1)).all (fun k => isIn k && (mv.elem k || !(E.mv k))) with
    | true => (execR E c ⟨numbered 0 (args.map noGd) [], hin⟩).bind fun p => match p.1 with
      | .exit _ => .fail
      | _ => (ress E p.2 fn.results.toList).bind fun us => finishH (hin.map (·.1)) mv p.2 (resAV us)
    | false => .fail

theorem runHR_val {E : Env} {mv : List Nat} {fn : Func} {args : List AV} {hin : Heap} : (runHR E mv fn args hin).val = (runH E mv fn args hin).val := by
  unfold runHR runH
  cases fn.body with
  | none => rfl
  | some c =>
    simp only
    cases dstsOK fn.ntmps c && (hin.map (·.1)).all (fun k => isIn k && (mv.elem k || !(E.mv k))) with
    | false => rfl
    | true => exact T.bind_val (execR_val _ _) fun _ => rfl

end Go.Proofs.YtajmdlpanlbnjaaGreatDoor.M

namespace Go.Proofs.YtajmdlpanlbnjaaGreatDoor
open Go Go.RowKit
set_option linter.unusedVariables false
set_option linter.unusedSimpArgs false
set_option maxHeartbeats 1000000

def F.shN (l : Lst) (have' : Int) : Nat := bif F.lt l.first have' then (max 0 (min (have' - 1 - l.first) ((l.entries.length : Int) - 1))).toNat else 0

def F.cutE (l : Lst) (n : Nat) : Lst := ⟨l.target, l.first, l.breaks, l.entries.drop n, l.ended⟩

def F.sht (l : Lst) (have' : Int) : Dlt × Int := bif F.check l != 0 then (default, F.check l) else (⟨(F.shN l have' : Nat), F.cutE l (F.shN l have')⟩, 0)

def F.patL (l : Lst) (d : Dlt) : Lst := ⟨d.list.target, d.list.first, d.list.breaks, (l.entries.drop (d.list.first - l.first).toNat).take d.skipped.toNat ++ d.list.entries, d.list.ended⟩

def F.patB (l : Lst) (d : Dlt) : Bool := F.lt 0 d.skipped && (F.lt (d.list.first - l.first) 0 || F.lt l.entries.length (d.list.first - l.first + d.skipped))

def F.patT (l : Lst) (d : Dlt) : Lst := bif F.lt 0 d.skipped then F.patL l d else d.list

def F.pat (l : Lst) (d : Dlt) : Lst × Int :=
  bif F.check l != 0 then (default, F.check l) else bif F.check d.list != 0 then (default, F.check d.list) else bif F.out d.skipped 0 1000 then (default, 1) else bif F.patB l d then (default, 9) else
  bif F.check (F.patT l d) != 0 then (default, F.check (F.patT l d)) else bif F.fol l (F.patT l d) != 0 then (default, F.fol l (F.patT l d)) else (F.patT l d, 0)

namespace M

theorem idx_nn (n : Nat) : idx ((n : Nat) : Int) = some n := rfl

noncomputable def enSht : Env := envH ty noG lks [oChk, oCpL] [] [] []

theorem enSht_ok : EnvOK Tryz.prog enSht := by
  refine envH_ok lks_ok ty_ok ?_ ?_
  · simp only [List.forall_mem_cons]
    exact ⟨okChk, okCpL, by simp⟩
  · simp

theorem evSht (l : Lst) (n : Int) : (runF enSht false Tryz.f16 [.agg (eLst l), vI n]).val =
  Option.bind (unenc encChk [AV.agg [(vI l.target), (vI l.first), (vI l.breaks), AV.sl (List.map eEnt l.entries), (vB l.ended)]]) fun (z : Lst) => bif F.check z != (0 : Int)
  then some (AV.tup [AV.agg [(vI (0 : Int)), (vI (0 : Int)), (vI (0 : Int)), (vI (0 : Int)), AV.sl [], (vB false)], (vI (F.check z))], []) else Option.bind (unenc encCpL
  [AV.agg [(vI l.target), (vI l.first), (vI l.breaks), AV.sl (List.map eEnt l.entries), (vB l.ended)]]) fun (z : Lst) => bif decide (List.length z.entries * (88 : Nat) ≤
  (140737488355328 : Nat)) && List.all z.entries fun (e : Ent) => decide (List.length e.extra * (16 : Nat) ≤ (140737488355328 : Nat)) then bif decide (l.first < n) then
  Option.bind (idx (max (0 : Int) (min (IntKind.wrap IntKind.i64 (IntKind.wrap IntKind.i64 (n - (1 : Int)) - l.first)) (IntKind.wrap IntKind.i64 ((↑(List.length (List.map
  eEnt l.entries)) : Int) - (1 : Int)))))) fun (z_1 : Nat) => bif Nat.ble z_1 (List.length (List.map eEnt z.entries)) && Nat.ble (List.length (List.map eEnt z.entries))
  (List.length (List.map eEnt z.entries)) && List.all (List.map eEnt z.entries) fun (r : Row) => Nat.beq (List.length r) (7 : Nat) then some (AV.tup [AV.agg [(vI (max (0 :
  Int) (min (IntKind.wrap IntKind.i64 (IntKind.wrap IntKind.i64 (n - (1 : Int)) - l.first)) (IntKind.wrap IntKind.i64 ((↑(List.length (List.map eEnt l.entries)) : Int) - (1
  : Int)))))), (vI z.target), (vI z.first), (vI z.breaks), AV.sl (List.drop z_1 (List.map eEnt z.entries)), (vB z.ended)], (vI (0 : Int))], []) else none else bif Nat.ble (0
  : Nat) (List.length (List.map eEnt z.entries)) && Nat.ble (List.length (List.map eEnt z.entries)) (List.length (List.map eEnt z.entries)) && List.all (List.map eEnt
  z.entries) fun (r : Row) => Nat.beq (List.length r) (7 : Nat) then some (AV.tup [AV.agg [(vI (0 : Int)), (vI z.target), (vI z.first), (vI z.breaks), AV.sl (List.map eEnt
  z.entries), (vB z.ended)], (vI (0 : Int))], []) else none else none := (runFR_val).symm.trans (by kernel_rfl)

def encSht1 (l : Lst) (n : Int) : List AV := [.agg (eLst l), vI n]

def encSht (a : Lst × Int) : List AV := encSht1 a.1 a.2

theorem encSht_inj (a a' : Lst × Int) (h : encSht a = encSht a') : a = a' := by
  simp only [encSht, encSht1] at h
  try simp [strs_inj, ints_inj, ents_inj, eEnt_iff, eLst_iff, eDlt_iff] at h
  grind

theorem unSht (l : Lst) (n : Int) : unenc encSht ([AV.agg [(vI l.target), (vI l.first), (vI l.breaks), AV.sl (List.map eEnt l.entries), (vB l.ended)], (vI n)]) = some (l, n) := unenc_of encSht_inj (l, n) rfl

theorem unShtw (l_target : Int) (l_first : Int) (l_breaks : Int) (l_entries : List Ent) (l_ended : Bool) (n : Int) : unenc encSht ([AV.agg [(vI l_target), (vI l_first), (vI l_breaks), AV.sl (List.map eEnt l_entries), (vB l_ended)], (vI n)]) = some ((Lst.mk l_target l_first l_breaks l_entries l_ended), n) := unenc_of encSht_inj ((Lst.mk l_target l_first l_breaks l_entries l_ended), n) rfl

def resSht1 (l : Lst) (n : Int) : AV × Heap := (.tup [.agg (eDlt (F.sht l n).1), vI (F.sht l n).2], [])

def preSht1 (l : Lst) (n : Int) : Bool := true

noncomputable def oSht : Orc := orc 16 false encSht (fun a => preSht1 a.1 a.2) fun a => resSht1 a.1 a.2

theorem okSht : OrcOK Tryz.prog noG oSht := by
  refine mk_ok Tryz.f16 (keep := false) (by kernel_rfl) (by kernel_rfl) enSht_ok mixed (no_loops (by kernel_rfl)) (by first | exact fun _ _ => ⟨rfl, rfl⟩ | (intro h; cases h)) ?_
  rintro ⟨l, n⟩ hpre hok
  show (runF enSht false _ (encSht1 _ _)).val = some (resSht1 _ _)
  unfold encSht1 resSht1
  rw [evSht]
  have hn := okA_int (hok _ (List.mem_cons_of_mem _ (List.mem_cons_self ..)))
  simp only [unChk, unCpL, unChkw, unCpLw, preChk1, preCpL1, etaEnt, etaLst, etaSnd, etaStrm, etaMas, Option.bind_some, List.length_map, unStrs, unInts, unBools, unEnts, unItms, unTrns, cond_true, cond_false, Bool.and_true, Bool.true_and, all_ents]
  unfold F.sht
  by_cases h0 : F.check l = 0
  · obtain ⟨c1, c2, c3, c4, c5⟩ := F.check_ok h0
    rw [bne0 h0, cond_false, cond_false, F.check_room h0, cond_true]
    have w1 : IntKind.i64.wrap ((l.entries.length : Int) - 1) = (l.entries.length : Int) - 1 := wrap_id (by omega) (by omega)
    by_cases hl : l.first < n
    · have w2 : IntKind.i64.wrap (n - 1) = n - 1 := wrap_id (by omega) (by omega)
      have w3 : IntKind.i64.wrap (n - 1 - l.first) = n - 1 - l.first := wrap_id (by omega) (by omega)
      have hN : F.shN l n = (max 0 (min (n - 1 - l.first) ((l.entries.length : Int) - 1))).toNat := by
        unfold F.shN F.lt; rw [decide_eq_true hl, cond_true]
      have hi : max 0 (min (n - 1 - l.first) ((l.entries.length : Int) - 1)) = ((F.shN l n : Nat) : Int) := by rw [hN]; omega
      have hle : F.shN l n ≤ l.entries.length := by rw [hN]; omega
      rw [w1, w2, w3, hi, decide_eq_true hl, cond_true]
      simp only [idx_nn, Option.bind_some, ble_t hle, ble_t (Nat.le_refl _), Bool.and_self, cond_true, eDlt, F.cutE, List.map_drop]
    · have hN : F.shN l n = 0 := by unfold F.shN F.lt; rw [decide_eq_false hl, cond_false]
      rw [decide_eq_false hl, cond_false, hN]
      simp only [ble_t (Nat.zero_le _), ble_t (Nat.le_refl _), Bool.and_self, cond_true, eDlt, F.cutE, List.drop_zero]
      rfl
  · rw [bne1 h0]
    rfl

noncomputable def enRsh : Env := envH ty noG lks [oRChk, oWith] [] [] []

theorem enRsh_ok : EnvOK Tryz.prog enRsh := by
  refine envH_ok lks_ok ty_ok ?_ ?_
  · simp only [List.forall_mem_cons]
    exact ⟨okRChk, okWith, by simp⟩
  · simp

theorem evRsh (l : Lst) (n : Int) : (runF enRsh false Tryz.f17 [.agg (eLst l), vI n]).val =
  (fun (q : Nat) => (fun (q_1 : Int) => (fun (q_2 : Bool) => (fun (q_3 : Bool) => (fun (q_4 : Int) => (fun (q_5 : AV) => Option.bind (unenc encRChk [q_5]) fun (z : Lst) =>
  bif F.check z != (0 : Int) then some (AV.tup [AV.agg [(vI (0 : Int)), (vI (0 : Int)), (vI (0 : Int)), (vI (0 : Int)), AV.sl [], (vB false)], (vI (F.check z))], []) else
  bif bif decide (IntKind.wrap IntKind.i64 (l.first + (1 : Int)) < n) then decide ((0 : Int) < q_1) else false then Option.bind (idx q_4) fun (z : Nat) => bif Nat.ble z q &&
  q_3 && q_2 then Option.bind (unenc encWith [q_5, AV.sl (List.drop z (List.map eEnt l.entries))]) fun (z : Lst × List Ent) => bif decide (List.length z.snd ≤ (100000 :
  Nat)) then some (AV.tup [AV.agg [(vI q_4), (vI z.fst.target), (vI z.fst.first), (vI z.fst.breaks), AV.sl (List.map eEnt z.snd), (vB z.fst.ended)], (vI (0 : Int))], [])
  else none else none else bif Nat.ble (0 : Nat) q && q_3 && q_2 then Option.bind (unenc encWith [q_5, AV.sl (List.map eEnt l.entries)]) fun (z : Lst × List Ent) => bif
  decide (List.length z.snd ≤ (100000 : Nat)) then some (AV.tup [AV.agg [(vI (0 : Int)), (vI z.fst.target), (vI z.fst.first), (vI z.fst.breaks), AV.sl (List.map eEnt z.snd),
  (vB z.fst.ended)], (vI (0 : Int))], []) else none else none) (AV.agg [(vI l.target), (vI l.first), (vI l.breaks), AV.sl (List.map eEnt l.entries), (vB l.ended)])) (min
  (IntKind.wrap IntKind.i64 (IntKind.wrap IntKind.i64 (n - (1 : Int)) - l.first)) (IntKind.wrap IntKind.i64 (q_1 - (1 : Int))))) (Nat.ble q q)) (List.all (List.map eEnt
  l.entries) fun (r : Row) => Nat.beq (List.length r) (7 : Nat))) (↑(List.length (List.map eEnt l.entries)) : Int)) (List.length (List.map eEnt l.entries)) := (runFR_val).symm.trans (by kernel_rfl)

def encRsh1 (l : Lst) (n : Int) : List AV := [.agg (eLst l), vI n]

def encRsh (a : Lst × Int) : List AV := encRsh1 a.1 a.2

theorem encRsh_inj (a a' : Lst × Int) (h : encRsh a = encRsh a') : a = a' := by
  simp only [encRsh, encRsh1] at h
  try simp [strs_inj, ints_inj, ents_inj, eEnt_iff, eLst_iff, eDlt_iff] at h
  grind

theorem unRsh (l : Lst) (n : Int) : unenc encRsh ([AV.agg [(vI l.target), (vI l.first), (vI l.breaks), AV.sl (List.map eEnt l.entries), (vB l.ended)], (vI n)]) = some (l, n) := unenc_of encRsh_inj (l, n) rfl

theorem unRshw (l_target : Int) (l_first : Int) (l_breaks : Int) (l_entries : List Ent) (l_ended : Bool) (n : Int) : unenc encRsh ([AV.agg [(vI l_target), (vI l_first), (vI l_breaks), AV.sl (List.map eEnt l_entries), (vB l_ended)], (vI n)]) = some ((Lst.mk l_target l_first l_breaks l_entries l_ended), n) := unenc_of encRsh_inj ((Lst.mk l_target l_first l_breaks l_entries l_ended), n) rfl

def resRsh1 (l : Lst) (n : Int) : AV × Heap := (.tup [.agg (eDlt (F.sht l n).1), vI (F.sht l n).2], [])

def preRsh1 (l : Lst) (n : Int) : Bool := true

noncomputable def oRsh : Orc := orc 17 false encRsh (fun a => preRsh1 a.1 a.2) fun a => resRsh1 a.1 a.2

theorem okRsh : OrcOK Tryz.prog noG oRsh := by
  refine mk_ok Tryz.f17 (keep := false) (by kernel_rfl) (by kernel_rfl) enRsh_ok mixed (no_loops (by kernel_rfl)) (by first | exact fun _ _ => ⟨rfl, rfl⟩ | (intro h; cases h)) ?_
  rintro ⟨l, n⟩ hpre hok
  show (runF enRsh false _ (encRsh1 _ _)).val = some (resRsh1 _ _)
  unfold encRsh1 resRsh1
  rw [evRsh]
  have hn := okA_int (hok _ (List.mem_cons_of_mem _ (List.mem_cons_self ..)))
  simp only [unRChk, unWith, unRChkw, unWithw, preRChk1, preWith1, etaEnt, etaLst, etaSnd, etaStrm, etaMas, Option.bind_some, List.length_map, unStrs, unInts, unBools, unEnts, unItms, unTrns, cond_true, cond_false, Bool.and_true, Bool.true_and, all_ents, ← List.map_drop]
  unfold F.sht
  by_cases h0 : F.check l = 0
  · obtain ⟨c1, c2, c3, c4, c5⟩ := F.check_ok h0
    rw [bne0 h0, cond_false, cond_false]
    have w0 : IntKind.i64.wrap (l.first + 1) = l.first + 1 := wrap_id (by omega) (by omega)
    have w1 : IntKind.i64.wrap ((l.entries.length : Int) - 1) = (l.entries.length : Int) - 1 := wrap_id (by omega) (by omega)
    have b1 : decide (l.entries.length ≤ 100000) = true := decide_eq_true (by omega)
    by_cases hl : l.first + 1 < n ∧ 0 < (l.entries.length : Int)
    · have w2 : IntKind.i64.wrap (n - 1) = n - 1 := wrap_id (by omega) (by omega)
      have w3 : IntKind.i64.wrap (n - 1 - l.first) = n - 1 - l.first := wrap_id (by omega) (by omega)
      have hN : F.shN l n = (max 0 (min (n - 1 - l.first) ((l.entries.length : Int) - 1))).toNat := by
        unfold F.shN F.lt; rw [decide_eq_true (by omega), cond_true]
      have hi : min (n - 1 - l.first) ((l.entries.length : Int) - 1) = ((F.shN l n : Nat) : Int) := by rw [hN]; omega
      have hle : F.shN l n ≤ l.entries.length := by rw [hN]; omega
      have b2 : decide ((l.entries.drop (F.shN l n)).length ≤ 100000) = true := decide_eq_true (by rw [List.length_drop]; omega)
      rw [w0, w1, w2, w3, hi, decide_eq_true hl.1, decide_eq_true hl.2]
      simp only [idx_nn, Option.bind_some, ble_t hle, ble_t (Nat.le_refl _), Bool.and_self, cond_true, eDlt, F.cutE, unWith, preWith1, b2]
    · have hN : F.shN l n = 0 := by
        unfold F.shN F.lt
        by_cases h : l.first < n
        · rw [decide_eq_true h, cond_true]; omega
        · rw [decide_eq_false h, cond_false]
      have hc : (bif decide (l.first + 1 < n) then decide (0 < (l.entries.length : Int)) else false) = false := by
        by_cases h : l.first + 1 < n
        · rw [decide_eq_true h, cond_true]; exact decide_eq_false (by omega)
        · rw [decide_eq_false h, cond_false]
      rw [w0, hc, hN]
      simp only [ble_t (Nat.zero_le _), ble_t (Nat.le_refl _), Bool.and_self, cond_true, cond_false, eDlt, F.cutE, List.drop_zero, b1]
      rfl
  · rw [bne1 h0]
    rfl

noncomputable def enPat : Env := envH ty noG lks [oChk, oFst, oOut, oCpL, oFol] [] [69] []

theorem enPat_ok : EnvOK Tryz.prog enPat := by
  refine envH_ok lks_ok ty_ok ?_ ?_
  · simp only [List.forall_mem_cons]
    exact ⟨okChk, okFst, okOut, okCpL, okFol, by simp⟩
  · simp

theorem evPat (l : Lst) (d : Dlt) : (runF enPat false Tryz.f21 [.agg (eLst l), .agg (eDlt d)]).val =
  (fun (q : Bool) => (fun (q_1 : List AV) => (fun (q_2 : Int) => (fun (q_3 : Bool) => (fun (q_4 : Int) => (fun (q_5 : Option Nat) => (fun (q_6 : Bool) => (fun (q_7 : AV) =>
  (fun (q_8 : AV) => (fun (q_9 : Option (AV × Heap)) => (fun (q_10 : List AV) => (fun (q_11 : Nat) => Option.bind (unenc encChk [q_8]) fun (z : Lst) => Option.bind (unenc
  encChk q_10) fun (z_1 : Lst) => Option.bind (unenc encFst [AV.sl [[(vI (F.check z))], [(vI (F.check z_1))]]]) fun (z : List Int) => bif ffI id z != (0 : Int) then some
  (AV.tup [q_7, (vI (ffI id z))], []) else Option.bind (unenc encOut [(vI d.skipped), (vI (0 : Int)), (vI (1000 : Int))]) fun (z : Int × Int × Int) => bif F.out z.fst
  z.snd.fst z.snd.snd then some (AV.tup [q_7, (vI (1 : Int))], []) else Option.bind (unenc encCpL q_10) fun (z : Lst) => (fun (q_12 : AV) => (fun (q_13 : AV) => (fun (q_14 :
  AV) => (fun (q_15 : AV) => (fun (q_16 : List AV) => (fun (q_17 : Option (AV × Heap)) => bif decide (List.length z.entries * (88 : Nat) ≤ (140737488355328 : Nat)) &&
  List.all z.entries fun (e : Ent) => decide (List.length e.extra * (16 : Nat) ≤ (140737488355328 : Nat)) then bif q_6 then bif bif q then decide ((↑(List.length (List.map
  eEnt l.entries)) : Int) < q_4) else false then q_9 else q_17 else bif q_6 then none else bif bif q then true else false then q_9 else q_17 else none) (bif q then
  Option.bind (idx q_2) fun (z_2 : Nat) => Option.bind q_5 fun (z_3 : Nat) => bif Nat.ble z_2 z_3 && Nat.ble z_3 (List.length (List.map eEnt l.entries)) && q_3 then
  Option.bind (unenc encCpL [AV.agg [(vI (0 : Int)), (vI (0 : Int)), (vI (0 : Int)), AV.sl (List.drop z_2 (List.take z_3 (List.map eEnt l.entries))), (vB false)]]) fun (z_4
  : Lst) => bif decide (List.length z_4.entries * (88 : Nat) ≤ (140737488355328 : Nat)) && List.all z_4.entries fun (e : Ent) => decide (List.length e.extra * (16 : Nat) ≤
  (140737488355328 : Nat)) then bif Nat.ble ((List.length (List.map eEnt z_4.entries) + List.length (List.map eEnt z.entries)) * (88 : Nat)) (140737488355328 : Nat) &&
  List.all (List.map eEnt z.entries) fun (r : Row) => Nat.beq (List.length r) q_11 then Option.bind (unenc encChk [AV.agg [q_14, q_12, q_13, AV.sl (List.map eEnt z_4.entries
  ++ List.map eEnt z.entries), (vB z.ended)]]) fun (z_5 : Lst) => bif F.check z_5 != (0 : Int) then some (AV.tup [q_7, (vI (F.check z_5))], []) else Option.bind (unenc
  encFol [q_8, AV.agg [q_14, q_12, q_13, AV.sl (List.map eEnt z_4.entries ++ List.map eEnt z.entries), (vB z.ended)]]) fun (z_6 : Lst × Lst) => bif decide (F.check z_6.fst =
  (0 : Int)) && decide (F.check z_6.snd = (0 : Int)) then bif F.fol z_6.fst z_6.snd != (0 : Int) then some (AV.tup [q_7, (vI (F.fol z_6.fst z_6.snd))], []) else some (AV.tup
  (AV.agg [q_14, q_12, q_13, AV.sl (List.map eEnt z_4.entries ++ List.map eEnt z.entries), (vB z.ended)] :: q_1), []) else none else none else none else none else
  Option.bind (unenc encChk q_16) fun (z : Lst) => bif F.check z != (0 : Int) then some (AV.tup [q_7, (vI (F.check z))], []) else Option.bind (unenc encFol (q_8 :: q_16))
  fun (z : Lst × Lst) => bif decide (F.check z.fst = (0 : Int)) && decide (F.check z.snd = (0 : Int)) then bif F.fol z.fst z.snd != (0 : Int) then some (AV.tup [q_7, (vI
  (F.fol z.fst z.snd))], []) else some (AV.tup (q_15 :: q_1), []) else none)) [q_15]) (AV.agg [q_14, q_12, q_13, AV.sl (List.map eEnt z.entries), (vB z.ended)])) ((vI
  z.target))) ((vI z.breaks))) ((vI z.first))) (TI.mk false (1 : Nat) [] [AV.e0] (50 : Nat) (7 : Nat) (88 : Nat) [(vS (ByteArray.mk (Array.mk []))), (vI (0 : Int)), (vB
  false), (vI (0 : Int)), (vS (ByteArray.mk (Array.mk []))), (vB false), AV.e0] none (4 : Nat) []).esize) [AV.agg [(vI d.list.target), (vI d.list.first), (vI d.list.breaks),
  AV.sl (List.map eEnt d.list.entries), (vB d.list.ended)]]) (some (AV.tup [q_7, (vI (9 : Int))], []))) (AV.agg [(vI l.target), (vI l.first), (vI l.breaks), AV.sl (List.map
  eEnt l.entries), (vB l.ended)])) (AV.agg [(vI (0 : Int)), (vI (0 : Int)), (vI (0 : Int)), AV.sl [], (vB false)])) (q && !decide (q_2 < (0 : Int)))) (idx q_4))
  (IntKind.wrap IntKind.i64 (q_2 + d.skipped))) (List.all (List.map eEnt l.entries) fun (r : Row) => Nat.beq (List.length r) (7 : Nat))) (IntKind.wrap IntKind.i64
  (d.list.first - l.first))) [(vI (0 : Int))]) (decide ((0 : Int) < d.skipped)) := (runFR_val).symm.trans (by kernel_rfl)

def encPat1 (l : Lst) (d : Dlt) : List AV := [.agg (eLst l), .agg (eDlt d)]

def encPat (a : Lst × Dlt) : List AV := encPat1 a.1 a.2

theorem encPat_inj (a a' : Lst × Dlt) (h : encPat a = encPat a') : a = a' := by
  simp only [encPat, encPat1] at h
  try simp [strs_inj, ints_inj, ents_inj, eEnt_iff, eLst_iff, eDlt_iff] at h
  grind

theorem unPat (l : Lst) (d : Dlt) : unenc encPat ([AV.agg [(vI l.target), (vI l.first), (vI l.breaks), AV.sl (List.map eEnt l.entries), (vB l.ended)], AV.agg [(vI d.skipped), (vI d.list.target), (vI d.list.first), (vI
  d.list.breaks), AV.sl (List.map eEnt d.list.entries), (vB d.list.ended)]]) = some (l, d) := unenc_of encPat_inj (l, d) rfl

theorem unPatw (l_target : Int) (l_first : Int) (l_breaks : Int) (l_entries : List Ent) (l_ended : Bool) (d : Dlt) : unenc encPat ([AV.agg [(vI l_target), (vI l_first), (vI l_breaks), AV.sl (List.map eEnt l_entries), (vB l_ended)], AV.agg [(vI d.skipped), (vI d.list.target), (vI d.list.first), (vI
  d.list.breaks), AV.sl (List.map eEnt d.list.entries), (vB d.list.ended)]]) = some ((Lst.mk l_target l_first l_breaks l_entries l_ended), d) := unenc_of encPat_inj ((Lst.mk l_target l_first l_breaks l_entries l_ended), d) rfl

def resPat1 (l : Lst) (d : Dlt) : AV × Heap := (.tup [.agg (eLst (F.pat l d).1), vI (F.pat l d).2], [])

def prePat1 (l : Lst) (d : Dlt) : Bool := true

noncomputable def oPat : Orc := orc 21 false encPat (fun a => prePat1 a.1 a.2) fun a => resPat1 a.1 a.2

theorem okPat : OrcOK Tryz.prog noG oPat := by
  refine mk_ok Tryz.f21 (keep := false) (by kernel_rfl) (by kernel_rfl) enPat_ok mixed (no_loops (by kernel_rfl)) (by first | exact fun _ _ => ⟨rfl, rfl⟩ | (intro h; cases h)) ?_
  rintro ⟨l, d⟩ hpre hok
  show (runF enPat false _ (encPat1 _ _)).val = some (resPat1 _ _)
  unfold encPat1 resPat1
  rw [evPat]
  have hu : unenc encFst [.sl [[.v (.int .i64 (F.check l))], [.v (.int .i64 (F.check d.list))]]] = some [F.check l, F.check d.list] := unenc_of encFst_inj [F.check l, F.check d.list] rfl
  simp only [unChk, unFst, unOut, unCpL, unFol, unChkw, unCpLw, unFolw, preChk1, preFst1, preOut1, preCpL1, preFol1, etaEnt, etaLst, etaSnd, etaStrm, etaMas, Option.bind_some, List.length_map, unStrs, unInts, unBools, unEnts, unItms, unTrns, cond_true, cond_false, Bool.and_true, Bool.true_and, all_ents, hu]
  unfold F.pat
  by_cases h1 : F.check l = 0
  case neg =>
    have e : M.ffI id [F.check l, F.check d.list] = F.check l := by simp [M.ffI, h1]
    rw [e, bne1 h1]
    rfl
  by_cases h2 : F.check d.list = 0
  case neg =>
    have e : M.ffI id [F.check l, F.check d.list] = F.check d.list := by simp [M.ffI, h1, h2]
    rw [e, bne1 h2, bne0 h1]
    rfl
  have e : M.ffI id [F.check l, F.check d.list] = 0 := by simp [M.ffI, h1, h2]
  rw [e, bne0 h1, bne0 h2, bne0 rfl]
  simp only [cond_false]
  cases ho : F.out d.skipped 0 1000
  case true => rfl
  have ho : 0 ≤ d.skipped ∧ d.skipped ≤ 1000 := by
    unfold F.out at ho
    simp only [Bool.or_eq_false_iff, decide_eq_false_iff_not] at ho
    omega
  obtain ⟨a1, a2, a3, a4, a5⟩ := F.check_ok h1
  obtain ⟨b1, b2, b3, b4, b5⟩ := F.check_ok h2
  have w1 : IntKind.i64.wrap (d.list.first - l.first) = d.list.first - l.first := wrap_id (by omega) (by omega)
  have w2 : IntKind.i64.wrap (d.list.first - l.first + d.skipped) = d.list.first - l.first + d.skipped := wrap_id (by omega) (by omega)
  rw [F.check_room h2, w1, w2]
  simp only [cond_false, cond_true]
  by_cases hs : 0 < d.skipped
  · rw [decide_eq_true hs]
    by_cases hf : d.list.first - l.first < 0
    · have hB : F.patB l d = true := by unfold F.patB F.lt; rw [decide_eq_true hs, decide_eq_true hf]; rfl
      rw [hB, decide_eq_true hf]
      rfl
    · rw [decide_eq_false hf]
      by_cases hg : (l.entries.length : Int) < d.list.first - l.first + d.skipped
      · have hB : F.patB l d = true := by unfold F.patB F.lt; rw [decide_eq_true hs, decide_eq_false hf, decide_eq_true hg]; rfl
        rw [hB, decide_eq_true hg]
        rfl
      · have hB : F.patB l d = false := by unfold F.patB F.lt; rw [decide_eq_true hs, decide_eq_false hf, decide_eq_false hg]; rfl
        obtain ⟨k, hk⟩ : ∃ k : Nat, d.list.first - l.first = (k : Int) := ⟨(d.list.first - l.first).toNat, by omega⟩
        obtain ⟨s, hsk⟩ : ∃ s : Nat, d.skipped = (s : Int) := ⟨d.skipped.toNat, by omega⟩
        have hT : F.patT l d = ⟨d.list.target, d.list.first, d.list.breaks, (l.entries.drop k).take s ++ d.list.entries, d.list.ended⟩ := by
          unfold F.patT F.patL F.lt
          rw [decide_eq_true hs, hk, hsk]
          rfl
        have hks : (k : Int) + (s : Int) = ((k + s : Nat) : Int) := by omega
        have hlen : k + s ≤ l.entries.length := by omega
        have hdt : List.drop k (List.take (k + s) l.entries) = (l.entries.drop k).take s := by rw [List.drop_take]; congr 1; omega
        have hln : ((l.entries.drop k).take s).length ≤ 1000 := by rw [List.length_take, List.length_drop]; omega
        have hall : (((l.entries.drop k).take s).all fun e => decide (e.extra.length * 16 ≤ 140737488355328)) = true := List.all_eq_true.2 fun e he => by
          have := (F.entry_ok (a2 e (List.mem_of_mem_drop (List.mem_of_mem_take he)))).2.1
          exact decide_eq_true (by omega)
        rw [hB, hk, hsk, hks, decide_eq_false (by omega : ¬ (l.entries.length : Int) < ((k + s : Nat) : Int))]
        simp only [idx_nn, Option.bind_some, cond_true, cond_false, ble_t (show k ≤ k + s by omega), ble_t hlen, Bool.and_self, Bool.not_false, ← List.map_take, ← List.map_drop, hdt, unCpLw, decide_eq_true (show ((l.entries.drop k).take s).length * 88 ≤ 140737488355328 by omega), hall, ble_t (show (((l.entries.drop k).take s).length + d.list.entries.length) * 88 ≤ 140737488355328 by omega), ← List.map_append, unChkw, unFolw, hT]
        by_cases hx : F.check (Lst.mk d.list.target d.list.first d.list.breaks ((l.entries.drop k).take s ++ d.list.entries) d.list.ended) = 0
        · rw [bne0 hx, decide_eq_true h1, decide_eq_true hx]
          simp only [Bool.and_self, cond_true, cond_false]
          cases F.fol l (Lst.mk d.list.target d.list.first d.list.breaks ((l.entries.drop k).take s ++ d.list.entries) d.list.ended) != 0 <;> rfl
        · rw [bne1 hx]
          rfl
  · have hB : F.patB l d = false := by unfold F.patB F.lt; rw [decide_eq_false hs]; rfl
    have hT : F.patT l d = d.list := by unfold F.patT F.lt; rw [decide_eq_false hs]; rfl
    rw [hB, hT, decide_eq_false hs, bne0 h2, decide_eq_true h1, decide_eq_true h2]
    simp only [Bool.false_and, Bool.and_self, cond_true, cond_false]
    cases F.fol l d.list != 0 <;> rfl

end M

namespace M

theorem unWith0 (l : Lst) : unenc encWith [.agg [vI l.target, vI l.first, vI l.breaks, .sl (l.entries.map eEnt), vB l.ended], .sl []] = some (l, []) := unenc_of encWith_inj (l, []) rfl

end M

def F.patR (l : Lst) (d : Dlt) : Bool := decide (F.check l = 0) && decide (F.check d.list = 0) && decide (0 ≤ d.skipped) && decide (d.skipped ≤ 1000)

def F.patK (l : Lst) (d : Dlt) (k : Nat) : Bool := decide (d.skipped ≤ k) || (decide (0 ≤ d.list.first - l.first + k) && decide (d.list.first - l.first + d.skipped ≤ l.entries.length))

def F.patE (l : Lst) (d : Dlt) (k : Nat) : List Ent := (l.entries.drop (d.list.first - l.first + k).toNat).take (d.skipped - k).toNat

namespace M

def outRow (l : Lst) (d : Dlt) (xs : List Ent) : Heap := [(34000, ⟨false, 50, 7, xs.map eEnt⟩), (8, ⟨true, 0, 0, [[vI d.list.target, vI d.list.first, vI d.list.breaks, .own 34000, vB d.list.ended]]⟩), (4, ⟨true, 0, 0, [[vI 0, vI 0, vI 0, .e0, vB false]]⟩), (3, ⟨true, 0, 0, [eDlt d]⟩), (2, ⟨true, 0, 0, [eLst l]⟩)]

def stRpa (l : Lst) (d : Dlt) (xs : List Ent) (k : Nat) : St := ⟨[(9, vI k), (8, .ptr 8 0 0), (4, .ptr 4 0 0), (3, .ptr 3 0 0), (2, .ptr 2 0 0)], [(34000, ⟨false, 50, 7, xs.map eEnt⟩), (8, ⟨true, 0, 0, [[vI d.list.target, vI d.list.first, vI d.list.breaks, .own 34000, vB d.list.ended]]⟩), (4, ⟨true, 0, 0, [[vI 0, vI 0, vI 0, .e0, vB false]]⟩), (3, ⟨true, 0, 0, [eDlt d]⟩), (2, ⟨true, 0, 0, [eLst l]⟩)]⟩

def stRpa1 (a : Lst × Dlt × (List Ent) × Nat) : St := stRpa a.1 a.2.1 a.2.2.1 a.2.2.2

theorem stRpa_inj (a a' : Lst × Dlt × (List Ent) × Nat) (h : stRpa1 a = stRpa1 a') : a = a' := by
  simp only [stRpa1, stRpa] at h
  try simp [strs_inj, ints_inj, ents_inj, eEnt_iff, eLst_iff, eDlt_iff] at h
  grind

theorem unstRpa (l : Lst) (d : Dlt) (xs : List Ent) (k : Nat) : unenc stRpa1 (St.mk [(9, (vI (↑k : Int))), (8, .ptr 8 0 0), (4, .ptr 4 0 0), (3, .ptr 3 0 0), (2, .ptr 2 0 0)] [(34000, Blk.mk false 50 7 (List.map eEnt xs)), (8, Blk.mk true 0 0 [[(vI
  d.list.target), (vI d.list.first), (vI d.list.breaks), .own 34000, (vB d.list.ended)]]), (4, Blk.mk true 0 0 [[(vI (0 : Int)), (vI (0 : Int)), (vI (0 : Int)), AV.e0, (vB
  false)]]), (3, Blk.mk true 0 0 [[(vI d.skipped), (vI d.list.target), (vI d.list.first), (vI d.list.breaks), AV.sl (List.map eEnt d.list.entries), (vB d.list.ended)]]), (2,
  Blk.mk true 0 0 [[(vI l.target), (vI l.first), (vI l.breaks), AV.sl (List.map eEnt l.entries), (vB l.ended)]])]) = some (l, d, xs, k) := unenc_of stRpa_inj (l, d, xs, k) rfl

theorem unstRpa0 (l : Lst) (d : Dlt)  : unenc stRpa1 (St.mk [(9, (vI (0 : Int))), (8, .ptr 8 0 0), (4, .ptr 4 0 0), (3, .ptr 3 0 0), (2, .ptr 2 0 0)] [(34000, Blk.mk false 50 7 []), (8, Blk.mk true 0 0 [[(vI d.list.target),
  (vI d.list.first), (vI d.list.breaks), .own 34000, (vB d.list.ended)]]), (4, Blk.mk true 0 0 [[(vI (0 : Int)), (vI (0 : Int)), (vI (0 : Int)), AV.e0, (vB false)]]), (3,
  Blk.mk true 0 0 [[(vI d.skipped), (vI d.list.target), (vI d.list.first), (vI d.list.breaks), AV.sl (List.map eEnt d.list.entries), (vB d.list.ended)]]), (2, Blk.mk true 0
  0 [[(vI l.target), (vI l.first), (vI l.breaks), AV.sl (List.map eEnt l.entries), (vB l.ended)]])]) = some (l, d, [], 0) := unenc_of stRpa_inj (l, d, [], 0) rfl

def outRpa (l : Lst) (d : Dlt) (xs : List Ent) (k : Nat) : T (Ex × St) := .ifB (F.patK l d k) (.ret (.exit 0, ⟨[(8, .ptr 8 0 0), (4, .ptr 4 0 0), (3, .ptr 3 0 0), (2, .ptr 2 0 0)], outRow l d (xs ++ F.patE l d k)⟩)) (.ret (.ret, ⟨[(5, vI 9), (4, .ptr 4 0 0)], [(4, ⟨true, 0, 0, [[vI 0, vI 0, vI 0, .e0, vB false]]⟩)]⟩))

noncomputable def prlRpa (l : Lst) (d : Dlt) (xs : List Ent) (k : Nat) : Bool := F.patR l d && decide (xs.length ≤ k) && decide (k ≤ d.skipped.toNat)

noncomputable def lpRpa : Nat × (St → T (Ex × St)) := (11, lpo [9, 8, 4, 3, 2] [34000, 8, 4, 3, 2] stRpa1 (fun a => prlRpa a.1 a.2.1 a.2.2.1 a.2.2.2) fun a => outRpa a.1 a.2.1 a.2.2.1 a.2.2.2)

noncomputable def enRpa : Env := envH ty noG lks [oRChk, oWithin, oWith, oRFl] [] [] [lpRpa]

theorem enRpa_ok : EnvOK Tryz.prog enRpa := by
  refine envH_ok lks_ok ty_ok ?_ ?_
  · simp only [List.forall_mem_cons]
    exact ⟨okRChk, okWithin, okWith, okRFl, by simp⟩
  · simp

theorem evRpaL (l : Lst) (d : Dlt) (xs : List Ent) (k : Nat) : ((exec enRpa (loopN Tryz.f22 0) (stRpa l d xs k)).bind (lessX ([9, 8, 4, 3, 2], [34000, 8, 4, 3, 2]) ([8, 4, 3, 2], [34000, 8, 4, 3, 2]) ([5, 4], [4]))).val =
  (fun (q : Ent) => (fun (q_1 : Int) => (fun (q_2 : List (Nat × AV)) => (fun (q_3 : Nat × Blk) => (fun (q_4 : List (Nat × Blk)) => bif decide ((↑k : Int) < d.skipped) then
  bif bif decide (q_1 < (0 : Int)) then true else decide ((↑(List.length (List.map eEnt l.entries)) : Int) ≤ q_1) then some (Ex.ret, St.mk [(5, (vI (9 : Int))), (4, .ptr 4 0
  0)] [q_3]) else Option.bind (idx q_1) fun (z : Nat) => Option.bind (unenc (List.map eEnt) (List.map eEnt l.entries)) fun (z_1 : List Ent) => bif decide (z < List.length
  z_1) then bif Nat.ble ((List.length (List.map eEnt xs) + (1 : Nat)) * (88 : Nat)) (140737488355328 : Nat) && true then some (Ex.normal, St.mk ((9, (vI (IntKind.wrap
  IntKind.i64 ((↑k : Int) + (1 : Int))))) :: q_2) ((34000, Blk.mk false 50 7 (List.map eEnt xs ++ [[(vS (List.getD z_1 z q).uri), (vI (List.getD z_1 z q).milli), (vB
  (List.getD z_1 z q).brk), (vI (List.getD z_1 z q).date), (vS (List.getD z_1 z q).key), (vB (List.getD z_1 z q).gap), AV.sl (List.map eStr (List.getD z_1 z q).extra)]])) ::
  q_4)) else none else none else some (Ex.exit (0 : Nat), St.mk q_2 ((34000, Blk.mk false 50 7 (List.map eEnt xs)) :: q_4))) [(8, Blk.mk true 0 0 [[(vI d.list.target), (vI
  d.list.first), (vI d.list.breaks), .own 34000, (vB d.list.ended)]]), q_3, (3, Blk.mk true 0 0 [[(vI d.skipped), (vI d.list.target), (vI d.list.first), (vI d.list.breaks),
  AV.sl (List.map eEnt d.list.entries), (vB d.list.ended)]]), (2, Blk.mk true 0 0 [[(vI l.target), (vI l.first), (vI l.breaks), AV.sl (List.map eEnt l.entries), (vB
  l.ended)]])]) (4, Blk.mk true 0 0 [[(vI (0 : Int)), (vI (0 : Int)), (vI (0 : Int)), AV.e0, (vB false)]])) [(8, .ptr 8 0 0), (4, .ptr 4 0 0), (3, .ptr 3 0 0), (2, .ptr 2 0
  0)]) (IntKind.wrap IntKind.i64 (IntKind.wrap IntKind.i64 (d.list.first + (↑k : Int)) - l.first))) (Ent.mk (ByteArray.mk (Array.mk [])) (0 : Int) false (0 : Int)
  (ByteArray.mk (Array.mk [])) false []) := (execR_bind _ _ _).symm.trans (by kernel_rfl)

theorem lpRpa_ok (l : Lst) (d : Dlt) (xs : List Ent) (k : Nat) (hp : prlRpa l d xs k = true) : ∀ ex s', (outRpa l d xs k).val = some (ex, s') → LoopOK enRpa (loopN Tryz.f22 0) (stRpa l d xs k) ex s' := by
  simp only [prlRpa, Bool.and_eq_true, decide_eq_true_eq] at hp
  obtain ⟨⟨h1, h2⟩, h3⟩ := hp
  unfold F.patR at h1
  simp only [Bool.and_eq_true, decide_eq_true_eq] at h1
  obtain ⟨⟨⟨c1, c2⟩, s1⟩, s2⟩ := h1
  obtain ⟨a1, a2, a3, a4, a5⟩ := F.check_ok c1
  obtain ⟨b1, b2, b3, b4, b5⟩ := F.check_ok c2
  refine loop_gen (st := fun a : List Ent × Nat => stRpa l d a.1 a.2) (out := fun a => outRpa l d a.1 a.2) (I := fun a => a.1.length ≤ a.2 ∧ a.2 ≤ d.skipped.toNat) (n := ([9, 8, 4, 3, 2], [34000, 8, 4, 3, 2])) (e := ([8, 4, 3, 2], [34000, 8, 4, 3, 2])) (r := ([5, 4], [4])) (fun a => d.skipped.toNat - a.2) ?_ (xs, k) ⟨h2, h3⟩
  clear h2 h3 xs k
  rintro ⟨xs, k⟩ ⟨h2, h3⟩
  simp only at h2 h3
  by_cases hk : (k : Int) < d.skipped
  · have w1 : IntKind.i64.wrap (d.list.first + (k : Int)) = d.list.first + (k : Int) := wrap_id (by omega) (by omega)
    have w2 : IntKind.i64.wrap (d.list.first + (k : Int) - l.first) = d.list.first + (k : Int) - l.first := wrap_id (by omega) (by omega)
    have w3 : IntKind.i64.wrap ((k : Int) + 1) = ((k + 1 : Nat) : Int) := by rw [wrap_id (by omega) (by omega)]; rfl
    have hb : Nat.ble ((xs.length + 1) * 88) 140737488355328 = true := ble_t (by omega)
    by_cases i1 : d.list.first + (k : Int) - l.first < 0
    · left
      have hK : F.patK l d k = false := by unfold F.patK; rw [decide_eq_false (by omega : ¬ d.skipped ≤ (k : Int)), decide_eq_false (by omega : ¬ 0 ≤ d.list.first - l.first + (k : Int))]; rfl
      refine ⟨(.ret, ⟨[(5, vI 9), (4, .ptr 4 0 0)], [(4, ⟨true, 0, 0, [[vI 0, vI 0, vI 0, .e0, vB false]]⟩)]⟩), ?_, ?_, by simp, rfl⟩
      · rw [evRpaL]
        simp only [unRChk, unWithin, unWith, unRFl, unRChkw, unWithw, unRFlw, preRChk1, preWithin1, preWith1, preRFl1, unstRpa, unstRpa0, prlRpa, outRpa, etaEnt, etaLst, etaSnd, etaStrm, etaMas, Option.bind_some, List.length_map, unStrs, unInts, unBools, unEnts, unItms, unTrns, cond_true, cond_false, Bool.and_true, Bool.true_and, w1, w2, decide_eq_true hk, decide_eq_true i1]
        try rfl
      · unfold outRpa
        rw [hK]
        rfl
    · by_cases i2 : (l.entries.length : Int) ≤ d.list.first + (k : Int) - l.first
      · left
        have hK : F.patK l d k = false := by unfold F.patK; rw [decide_eq_false (by omega : ¬ d.skipped ≤ (k : Int)), decide_eq_false (by omega : ¬ d.list.first - l.first + d.skipped ≤ (l.entries.length : Int)), Bool.and_false]; rfl
        refine ⟨(.ret, ⟨[(5, vI 9), (4, .ptr 4 0 0)], [(4, ⟨true, 0, 0, [[vI 0, vI 0, vI 0, .e0, vB false]]⟩)]⟩), ?_, ?_, by simp, rfl⟩
        · rw [evRpaL]
          simp only [unRChk, unWithin, unWith, unRFl, unRChkw, unWithw, unRFlw, preRChk1, preWithin1, preWith1, preRFl1, unstRpa, unstRpa0, prlRpa, outRpa, etaEnt, etaLst, etaSnd, etaStrm, etaMas, Option.bind_some, List.length_map, unStrs, unInts, unBools, unEnts, unItms, unTrns, cond_true, cond_false, Bool.and_true, Bool.true_and, w1, w2, decide_eq_true hk, decide_eq_false i1, decide_eq_true i2]
          try rfl
        · unfold outRpa
          rw [hK]
          rfl
      · right
        obtain ⟨i, hi⟩ : ∃ i : Nat, d.list.first + (k : Int) - l.first = (i : Int) := ⟨(d.list.first + (k : Int) - l.first).toNat, by omega⟩
        have hil : i < l.entries.length := by omega
        have hy : l.entries[i]? = some l.entries[i] := List.getElem?_eq_getElem hil
        have hdr : l.entries.drop i = l.entries[i] :: l.entries.drop (i + 1) := List.drop_eq_getElem_cons hil
        generalize l.entries[i] = y at hy hdr
        refine ⟨(xs ++ [y], k + 1), ?_, rfl, ⟨by simp only [List.length_append, List.length_singleton]; omega, by simp only; omega⟩, by simp only; omega, ?_⟩
        · rw [evRpaL]
          rw [hi] at i1 i2
          have w4 : IntKind.i64.wrap (i : Int) = (i : Int) := wrap_id (by omega) (by omega)
          simp only [unRChk, unWithin, unWith, unRFl, unRChkw, unWithw, unRFlw, preRChk1, preWithin1, preWith1, preRFl1, unstRpa, unstRpa0, prlRpa, outRpa, etaEnt, etaLst, etaSnd, etaStrm, etaMas, Option.bind_some, List.length_map, unStrs, unInts, unBools, unEnts, unItms, unTrns, cond_true, cond_false, Bool.and_true, Bool.true_and, w1, w2, w3, hi, w4, decide_eq_true hk, decide_eq_false i1, decide_eq_false i2, idx_nn, decide_eq_true hil, getD_at hy, hb, appEnts']
          try rfl
        · have hK : F.patK l d k = F.patK l d (k + 1) := by
            unfold F.patK
            rw [decide_eq_false (by omega : ¬ d.skipped ≤ (k : Int)), decide_eq_true (by omega : 0 ≤ d.list.first - l.first + (k : Int)), decide_eq_true (by omega : 0 ≤ d.list.first - l.first + ((k + 1 : Nat) : Int)), Bool.true_and, Bool.false_or]
            by_cases hs : d.skipped ≤ ((k + 1 : Nat) : Int)
            · rw [decide_eq_true hs, decide_eq_true (by omega)]; rfl
            · rw [decide_eq_false hs, Bool.false_or]
          have hE : F.patE l d k = y :: F.patE l d (k + 1) := by
            unfold F.patE
            rw [show (d.list.first - l.first + (k : Int)).toNat = i by omega, show (d.list.first - l.first + ((k + 1 : Nat) : Int)).toNat = i + 1 by omega, show (d.skipped - (k : Int)).toNat = (d.skipped - ((k + 1 : Nat) : Int)).toNat + 1 by omega, hdr, List.take_succ_cons]
          simp only [outRpa, hK, hE, List.append_assoc, List.singleton_append]
  · left
    have hK : F.patK l d k = true := by unfold F.patK; rw [decide_eq_true (by omega : d.skipped ≤ (k : Int))]; rfl
    have hE : F.patE l d k = [] := by unfold F.patE; rw [show (d.skipped - (k : Int)).toNat = 0 by omega, List.take_zero]
    refine ⟨(.exit 0, ⟨[(8, .ptr 8 0 0), (4, .ptr 4 0 0), (3, .ptr 3 0 0), (2, .ptr 2 0 0)], outRow l d xs⟩), ?_, ?_, by simp [outRow], rfl⟩
    · rw [evRpaL]
      simp only [unRChk, unWithin, unWith, unRFl, unRChkw, unWithw, unRFlw, preRChk1, preWithin1, preWith1, preRFl1, unstRpa, unstRpa0, prlRpa, outRpa, etaEnt, etaLst, etaSnd, etaStrm, etaMas, Option.bind_some, List.length_map, unStrs, unInts, unBools, unEnts, unItms, unTrns, cond_true, cond_false, Bool.and_true, Bool.true_and, decide_eq_false hk]
      rfl
    · unfold outRpa
      rw [hK, hE, List.append_nil]
      rfl

theorem evRpa (l : Lst) (d : Dlt) : (runF enRpa false Tryz.f22 [.agg (eLst l), .agg (eDlt d)]).val =
  (fun (q : AV) => (fun (q_1 : List AV) => (fun (q_2 : List AV) => (fun (q_3 : AV) => Option.bind (unenc encRChk [AV.agg q_1]) fun (z : Lst) => bif F.check z != (0 : Int)
  then some (AV.tup [q, (vI (F.check z))], []) else Option.bind (unenc encRChk [q_3]) fun (z : Lst) => bif F.check z != (0 : Int) then some (AV.tup [q, (vI (F.check z))],
  []) else Option.bind (unenc encWithin [(vI d.skipped), (vI (0 : Int)), (vI (1000 : Int))]) fun (z : Int × Int × Int) => bif !F.within z.fst z.snd.fst z.snd.snd then some
  (AV.tup [q, (vI (1 : Int))], []) else Option.bind (unenc encWith [q_3, AV.sl []]) fun (z : Lst × List Ent) => bif decide (List.length z.snd ≤ (100000 : Nat)) then
  Option.bind (unenc stRpa1 (St.mk [(9, (vI (0 : Int))), (8, .ptr 8 0 0), (4, .ptr 4 0 0), (3, .ptr 3 0 0), (2, .ptr 2 0 0)] [(34000, Blk.mk false 50 7 (List.map eEnt
  z.snd)), (8, Blk.mk true 0 0 [[(vI z.fst.target), (vI z.fst.first), (vI z.fst.breaks), .own 34000, (vB z.fst.ended)]]), (4, Blk.mk true 0 0 [[(vI (0 : Int)), (vI (0 :
  Int)), (vI (0 : Int)), AV.e0, (vB false)]]), (3, Blk.mk true 0 0 [(vI d.skipped) :: q_2]), (2, Blk.mk true 0 0 [q_1])])) fun (z : Lst × Dlt × List Ent × Nat) => (fun (q_4
  : AV) => (fun (q_5 : List AV) => bif F.patR z.fst z.snd.fst && decide (List.length z.snd.snd.fst ≤ z.snd.snd.snd) && decide (z.snd.snd.snd ≤ Int.toNat z.snd.fst.skipped)
  && true then bif F.patK z.fst z.snd.fst z.snd.snd.snd then bif Nat.ble ((List.length (List.map eEnt (z.snd.snd.fst ++ F.patE z.fst z.snd.fst z.snd.snd.snd)) + List.length
  (List.map eEnt z.snd.fst.list.entries)) * (88 : Nat)) (140737488355328 : Nat) && List.all (List.map eEnt z.snd.fst.list.entries) fun (r : Row) => Nat.beq (List.length r)
  (TI.mk false (1 : Nat) [] [AV.e0] (50 : Nat) (7 : Nat) (88 : Nat) [(vS (ByteArray.mk (Array.mk []))), (vI (0 : Int)), (vB false), (vI (0 : Int)), (vS (ByteArray.mk
  (Array.mk []))), (vB false), AV.e0] none (4 : Nat) []).esize then Option.bind (unenc encRChk q_5) fun (z_1 : Lst) => bif F.check z_1 != (0 : Int) then some (AV.tup [q, (vI
  (F.check z_1))], []) else Option.bind (unenc encRFl (AV.agg [(vI z.fst.target), (vI z.fst.first), (vI z.fst.breaks), AV.sl (List.map eEnt z.fst.entries), (vB z.fst.ended)]
  :: q_5)) fun (z : Lst × Lst) => bif decide (F.check z.fst = (0 : Int)) && decide (F.check z.snd = (0 : Int)) then bif F.rfol z.fst z.snd != (0 : Int) then some (AV.tup [q,
  (vI (F.rfol z.fst z.snd))], []) else some (AV.tup [q_4, (vI (0 : Int))], []) else none else none else some (AV.tup [q, (vI (9 : Int))], []) else none) [q_4]) (AV.agg [(vI
  z.snd.fst.list.target), (vI z.snd.fst.list.first), (vI z.snd.fst.list.breaks), AV.sl (List.map eEnt (z.snd.snd.fst ++ F.patE z.fst z.snd.fst z.snd.snd.snd) ++ List.map
  eEnt z.snd.fst.list.entries), (vB z.snd.fst.list.ended)]) else none) (AV.agg q_2)) [(vI d.list.target), (vI d.list.first), (vI d.list.breaks), AV.sl (List.map eEnt
  d.list.entries), (vB d.list.ended)]) [(vI l.target), (vI l.first), (vI l.breaks), AV.sl (List.map eEnt l.entries), (vB l.ended)]) (AV.agg [(vI (0 : Int)), (vI (0 : Int)),
  (vI (0 : Int)), AV.sl [], (vB false)]) := (runFR_val).symm.trans (by kernel_rfl)

def encRpa1 (l : Lst) (d : Dlt) : List AV := [.agg (eLst l), .agg (eDlt d)]

def encRpa (a : Lst × Dlt) : List AV := encRpa1 a.1 a.2

theorem encRpa_inj (a a' : Lst × Dlt) (h : encRpa a = encRpa a') : a = a' := by
  simp only [encRpa, encRpa1] at h
  try simp [strs_inj, ints_inj, ents_inj, eEnt_iff, eLst_iff, eDlt_iff] at h
  grind

theorem unRpa (l : Lst) (d : Dlt) : unenc encRpa ([AV.agg [(vI l.target), (vI l.first), (vI l.breaks), AV.sl (List.map eEnt l.entries), (vB l.ended)], AV.agg [(vI d.skipped), (vI d.list.target), (vI d.list.first), (vI
  d.list.breaks), AV.sl (List.map eEnt d.list.entries), (vB d.list.ended)]]) = some (l, d) := unenc_of encRpa_inj (l, d) rfl

theorem unRpaw (l_target : Int) (l_first : Int) (l_breaks : Int) (l_entries : List Ent) (l_ended : Bool) (d : Dlt) : unenc encRpa ([AV.agg [(vI l_target), (vI l_first), (vI l_breaks), AV.sl (List.map eEnt l_entries), (vB l_ended)], AV.agg [(vI d.skipped), (vI d.list.target), (vI d.list.first), (vI
  d.list.breaks), AV.sl (List.map eEnt d.list.entries), (vB d.list.ended)]]) = some ((Lst.mk l_target l_first l_breaks l_entries l_ended), d) := unenc_of encRpa_inj ((Lst.mk l_target l_first l_breaks l_entries l_ended), d) rfl

def resRpa1 (l : Lst) (d : Dlt) : AV × Heap := (.tup [.agg (eLst (F.pat l d).1), vI (F.pat l d).2], [])

def preRpa1 (l : Lst) (d : Dlt) : Bool := true

noncomputable def oRpa : Orc := orc 22 false encRpa (fun a => preRpa1 a.1 a.2) fun a => resRpa1 a.1 a.2

theorem okRpa : OrcOK Tryz.prog noG oRpa := by
  refine mk_ok Tryz.f22 (keep := false) (by kernel_rfl) (by kernel_rfl) enRpa_ok mixed (one_loop (x0 := loopN Tryz.f22 0) (by kernel_rfl) (lpo_ok ?_)) (by first | exact fun _ _ => ⟨rfl, rfl⟩ | (intro h; cases h)) ?_
  · rintro ⟨l, d, xs, k⟩ hp
    exact lpRpa_ok l d xs k hp
  rintro ⟨l, d⟩ hpre hok
  show (runF enRpa false _ (encRpa1 _ _)).val = some (resRpa1 _ _)
  unfold encRpa1 resRpa1
  rw [evRpa]
  simp only [unRChk, unWithin, unWith, unRFl, unRChkw, unWithw, unRFlw, preRChk1, preWithin1, preWith1, preRFl1, unstRpa, unstRpa0, prlRpa, outRpa, etaEnt, etaLst, etaSnd, etaStrm, etaMas, Option.bind_some, List.length_map, unStrs, unInts, unBools, unEnts, unItms, unTrns, cond_true, cond_false, Bool.and_true, Bool.true_and, unWith0, List.map_nil, F.within_eq, Bool.not_not, all_ents, List.nil_append, ← List.map_append, unRChkw, unRFlw]
  unfold F.pat
  by_cases h1 : F.check l = 0
  case neg =>
    rw [bne1 h1]
    rfl
  by_cases h2 : F.check d.list = 0
  case neg =>
    rw [bne1 h2, bne0 h1]
    rfl
  rw [bne0 h1, bne0 h2]
  simp only [cond_false]
  cases ho : F.out d.skipped 0 1000
  case true => rfl
  have ho : 0 ≤ d.skipped ∧ d.skipped ≤ 1000 := by
    unfold F.out at ho
    simp only [Bool.or_eq_false_iff, decide_eq_false_iff_not] at ho
    omega
  obtain ⟨a1, a2, a3, a4, a5⟩ := F.check_ok h1
  obtain ⟨b1, b2, b3, b4, b5⟩ := F.check_ok h2
  have hR : F.patR l d = true := by
    unfold F.patR
    rw [decide_eq_true h1, decide_eq_true h2, decide_eq_true ho.1, decide_eq_true ho.2]
    rfl
  have hE : (F.patE l d 0).length ≤ 1000 := by unfold F.patE; rw [List.length_take]; omega
  have hK : F.patK l d 0 = !F.patB l d := by
    unfold F.patK F.patB F.lt
    by_cases hs : 0 < d.skipped
    · rw [decide_eq_true hs, decide_eq_false (by omega : ¬ d.skipped ≤ ((0 : Nat) : Int))]
      by_cases hf : d.list.first - l.first < 0
      · rw [decide_eq_true hf, decide_eq_false (by omega : ¬ 0 ≤ d.list.first - l.first + ((0 : Nat) : Int))]; rfl
      · rw [decide_eq_false hf, decide_eq_true (by omega : 0 ≤ d.list.first - l.first + ((0 : Nat) : Int))]
        by_cases hg : (l.entries.length : Int) < d.list.first - l.first + d.skipped
        · rw [decide_eq_true hg, decide_eq_false (by omega)]; rfl
        · rw [decide_eq_false hg, decide_eq_true (by omega)]; rfl
    · rw [decide_eq_false hs, decide_eq_true (by omega : d.skipped ≤ ((0 : Nat) : Int))]; rfl
  have hT : F.patT l d = ⟨d.list.target, d.list.first, d.list.breaks, F.patE l d 0 ++ d.list.entries, d.list.ended⟩ := by
    unfold F.patT F.patL F.patE F.lt
    by_cases hs : 0 < d.skipped
    · rw [decide_eq_true hs, cond_true, show d.list.first - l.first + ((0 : Nat) : Int) = d.list.first - l.first by omega, show d.skipped - ((0 : Nat) : Int) = d.skipped by omega]
    · rw [decide_eq_false hs, cond_false, show (d.skipped - ((0 : Nat) : Int)).toNat = 0 by omega, List.take_zero, List.nil_append]
  rw [hR, hK, hT, decide_eq_true (show ([] : List Ent).length ≤ 100000 by simp), decide_eq_true (show ([] : List Ent).length ≤ 0 by simp), decide_eq_true (Nat.zero_le d.skipped.toNat), ble_t (show ((F.patE l d 0).length + d.list.entries.length) * 88 ≤ 140737488355328 by omega)]
  simp only [Bool.and_self, cond_true]
  cases F.patB l d
  case true => rfl
  simp only [Bool.not_false, cond_true, cond_false]
  by_cases hx : F.check (Lst.mk d.list.target d.list.first d.list.breaks (F.patE l d 0 ++ d.list.entries) d.list.ended) = 0
  · rw [bne0 hx, decide_eq_true h1, decide_eq_true hx, F.rfol_eq h1 hx]
    simp only [Bool.and_self, cond_true, cond_false]
    cases F.fol l (Lst.mk d.list.target d.list.first d.list.breaks (F.patE l d 0 ++ d.list.entries) d.list.ended) != 0 <;> rfl
  · rw [bne1 hx]
    rfl

end M

end Go.Proofs.YtajmdlpanlbnjaaGreatDoor

namespace Go.Proofs.YtajmdlpanlbnjaaGreatDoor
open Go.Shelf
def Tryz.lays283_ren : Go.Shelf.Ren := ⟨fun | 283 => 109 | n => n, fun | 3 => 3 | 9 => 9 | 4 => 4 | n => n, fun | n => n⟩
theorem Tryz.lays283 : Go.Proofs.Lays.n283 Tryz.prog Tryz.lays283_ren := {
  mixed := by kernel_rfl
  f283 := Tryz.func109.trans (congrArg some (by kernel_rfl))
  t3 := Tryz.underlying3
  a3 := Tryz.isAgg3
  z3 := Tryz.sizeOf3
  v3 := Tryz.zeroValue3
  t4 := Tryz.underlying4
  a4 := Tryz.isAgg4
  z4 := Tryz.sizeOf4
  v4 := Tryz.zeroValue4
  t9 := Tryz.underlying9
  a9 := Tryz.isAgg9
  z9 := Tryz.sizeOf9
  v9 := Tryz.zeroValue9 }
open Go.Lib in
theorem Tryz.internal_strconv_small (i : Nat) (h : i < 100) (w : World) :
    Calls Tryz.prog 109 #[.int .i64 i] w fun e w' => e = .returned (.string ⟨(Lib.decDigits i).toArray⟩) ∧ w' = w := Any.internal_strconv_small Tryz.lays283 i h w
def Tryz.laysM284_ren : Go.Shelf.Ren := ⟨fun | 284 => 110 | 129 => 126 | 317 => 125 | 318 => 127 | n => n, fun | 53 => 128 | 3 => 3 | 212 => 154 | 0 => 0 | 4 => 4 | 46 => 145 | 5 => 5 | 9 => 9 | n => n, fun | 17 => 2 | n => n⟩
theorem Tryz.laysM284 : Go.Proofs.LaysM.n284 Tryz.prog Tryz.laysM284_ren := {
  mixed := by kernel_rfl
  f129 := Tryz.func126.trans (congrArg some (by kernel_rfl))
  f284 := Tryz.func110.trans (congrArg some (by kernel_rfl))
  f317 := Tryz.func125.trans (congrArg some (by kernel_rfl))
  f318 := Tryz.func127.trans (congrArg some (by kernel_rfl))
  t0 := Tryz.underlying0
  a0 := Tryz.isAgg0
  z0 := Tryz.sizeOf0
  v0 := Tryz.zeroValue0
  t3 := Tryz.underlying3
  a3 := Tryz.isAgg3
  z3 := Tryz.sizeOf3
  v3 := Tryz.zeroValue3
  t4 := Tryz.underlying4
  a4 := Tryz.isAgg4
  z4 := Tryz.sizeOf4
  v4 := Tryz.zeroValue4
  t5 := Tryz.underlying5
  a5 := Tryz.isAgg5
  z5 := Tryz.sizeOf5
  v5 := Tryz.zeroValue5
  t9 := Tryz.underlying9
  a9 := Tryz.isAgg9
  z9 := Tryz.sizeOf9
  v9 := Tryz.zeroValue9
  t46 := Tryz.underlying145
  a46 := Tryz.isAgg145
  z46 := Tryz.sizeOf145
  v46 := Tryz.zeroValue145
  t53 := Tryz.underlying128
  a53 := Tryz.isAgg128
  z53 := Tryz.sizeOf128
  v53 := Tryz.zeroValue128
  t212 := Tryz.underlying154
  a212 := Tryz.isAgg154
  z212 := Tryz.sizeOf154
  v212 := Tryz.zeroValue154
  g17 := by kernel_rfl
  i0 := by kernel_rfl
  i3 := by kernel_rfl
  i4 := by kernel_rfl
  i5 := by kernel_rfl
  i9 := by kernel_rfl
  i46 := by kernel_rfl
  i53 := by kernel_rfl
  i212 := by kernel_rfl
  m17 := by kernel_rfl }
open Go.Lib in
theorem Tryz.internal_strconv_numDigits (u : Nat) (h1 : 1 ≤ u) (h2 : u < 18446744073709551616) (w : World) (htab : Lib.TabIs Tryz.prog w "internal/strconv.uint64pow10" .u64 Lib.pow10Tab) :
    Calls Tryz.prog 110 #[.int .u64 u] w fun e w' => e = .returned (.int .i64 (Lib.nDigits u)) ∧ w' = w := Any.internal_strconv_numDigits Tryz.laysM284 u h1 h2 w htab
def Tryz.lays285_ren : Go.Shelf.Ren := ⟨fun | 285 => 111 | n => n, fun | 37 => 79 | 53 => 128 | 3 => 3 | 4 => 4 | 51 => 155 | 9 => 9 | 5 => 5 | 0 => 0 | n => n, fun | n => n⟩
theorem Tryz.lays285 : Go.Proofs.Lays.n285 Tryz.prog Tryz.lays285_ren := {
  mixed := by kernel_rfl
  f285 := Tryz.func111.trans (congrArg some (by kernel_rfl))
  t0 := Tryz.underlying0
  a0 := Tryz.isAgg0
  z0 := Tryz.sizeOf0
  v0 := Tryz.zeroValue0
  t3 := Tryz.underlying3
  a3 := Tryz.isAgg3
  z3 := Tryz.sizeOf3
  v3 := Tryz.zeroValue3
  t4 := Tryz.underlying4
  a4 := Tryz.isAgg4
  z4 := Tryz.sizeOf4
  v4 := Tryz.zeroValue4
  t5 := Tryz.underlying5
  a5 := Tryz.isAgg5
  z5 := Tryz.sizeOf5
  v5 := Tryz.zeroValue5
  t9 := Tryz.underlying9
  a9 := Tryz.isAgg9
  z9 := Tryz.sizeOf9
  v9 := Tryz.zeroValue9
  t37 := Tryz.underlying79
  a37 := Tryz.isAgg79
  z37 := Tryz.sizeOf79
  v37 := Tryz.zeroValue79
  t51 := Tryz.underlying155
  a51 := Tryz.isAgg155
  z51 := Tryz.sizeOf155
  v51 := Tryz.zeroValue155
  t53 := Tryz.underlying128
  a53 := Tryz.isAgg128
  z53 := Tryz.sizeOf128
  v53 := Tryz.zeroValue128 }
open Go.RowKit Go.Sort Go.Lib in
theorem Tryz.internal_strconv_formatBase10 (blk off cap : Nat) (u : Nat) (d : Array UInt8) (w : World) (hH : Holds (fun (b : UInt8) => Value.int .u8 (b.toNat : Int)) w blk off d) (hu : u < 10 ^ d.size) (hu64 : u < 18446744073709551616) (hsz : d.size < 4611686018427387904) :
    Calls Tryz.prog 111 #[.slice (some ⟨blk, off, none⟩) d.size cap, .int .u64 u] w fun e w' =>
      e = .returned (.tuple #[]) ∧ ∃ (n v' : Nat) (dk : Array UInt8), w' = (putRow (fun (b : UInt8) => Value.int .u8 (b.toNat : Int)) w blk off dk).drewN n ∧ FmtInv d.size u 0 v' dk := Any.internal_strconv_formatBase10 Tryz.lays285 blk off cap u d w hH hu hu64 hsz
def Tryz.laysM171_ren : Go.Shelf.Ren := ⟨fun | 171 => 39 | 243 => 65 | 246 => 89 | 283 => 109 | 284 => 110 | 285 => 111 | 286 => 112 | 129 => 126 | 317 => 125 | 318 => 127 | 319 => 128 | 320 => 129 | 337 => 143 | 338 => 144 | n => n, fun | 3 => 3 | 9 => 9 | 2 => 2 | 4 => 4 | 171 => 139 | 0 => 0 | 53 => 128 | 37 => 79 | 5 => 5 | 173 => 142 | 212 => 154 | 51 => 155 | 20 => 20 | 213 => 156 | 46 => 145 | 232 => 174 | 233 => 175 | n => n, fun | 17 => 2 | 18 => 4 | 19 => 5 | n => n⟩
theorem Tryz.laysM171 : Go.Proofs.LaysM.n171 Tryz.prog Tryz.laysM171_ren := {
  mixed := by kernel_rfl
  f129 := Tryz.func126.trans (congrArg some (by kernel_rfl))
  f171 := Tryz.func39.trans (congrArg some (by kernel_rfl))
  f243 := Tryz.func65.trans (congrArg some (by kernel_rfl))
  f246 := Tryz.func89.trans (congrArg some (by kernel_rfl))
  f283 := Tryz.func109.trans (congrArg some (by kernel_rfl))
  f284 := Tryz.func110.trans (congrArg some (by kernel_rfl))
  f285 := Tryz.func111.trans (congrArg some (by kernel_rfl))
  f286 := Tryz.func112.trans (congrArg some (by kernel_rfl))
  f317 := Tryz.func125.trans (congrArg some (by kernel_rfl))
  f318 := Tryz.func127.trans (congrArg some (by kernel_rfl))
  f319 := Tryz.func128.trans (congrArg some (by kernel_rfl))
  f320 := Tryz.func129.trans (congrArg some (by kernel_rfl))
  f337 := Tryz.func143.trans (congrArg some (by kernel_rfl))
  f338 := Tryz.func144.trans (congrArg some (by kernel_rfl))
  t0 := Tryz.underlying0
  a0 := Tryz.isAgg0
  z0 := Tryz.sizeOf0
  v0 := Tryz.zeroValue0
  t2 := Tryz.underlying2
  a2 := Tryz.isAgg2
  z2 := Tryz.sizeOf2
  v2 := Tryz.zeroValue2
  t3 := Tryz.underlying3
  a3 := Tryz.isAgg3
  z3 := Tryz.sizeOf3
  v3 := Tryz.zeroValue3
  t4 := Tryz.underlying4
  a4 := Tryz.isAgg4
  z4 := Tryz.sizeOf4
  v4 := Tryz.zeroValue4
  t5 := Tryz.underlying5
  a5 := Tryz.isAgg5
  z5 := Tryz.sizeOf5
  v5 := Tryz.zeroValue5
  t9 := Tryz.underlying9
  a9 := Tryz.isAgg9
  z9 := Tryz.sizeOf9
  v9 := Tryz.zeroValue9
  t20 := Tryz.underlying20
  a20 := Tryz.isAgg20
  z20 := Tryz.sizeOf20
  v20 := Tryz.zeroValue20
  t37 := Tryz.underlying79
  a37 := Tryz.isAgg79
  z37 := Tryz.sizeOf79
  v37 := Tryz.zeroValue79
  t46 := Tryz.underlying145
  a46 := Tryz.isAgg145
  z46 := Tryz.sizeOf145
  v46 := Tryz.zeroValue145
  t51 := Tryz.underlying155
  a51 := Tryz.isAgg155
  z51 := Tryz.sizeOf155
  v51 := Tryz.zeroValue155
  t53 := Tryz.underlying128
  a53 := Tryz.isAgg128
  z53 := Tryz.sizeOf128
  v53 := Tryz.zeroValue128
  t171 := Tryz.underlying139
  a171 := Tryz.isAgg139
  z171 := Tryz.sizeOf139
  v171 := Tryz.zeroValue139
  t173 := Tryz.underlying142
  a173 := Tryz.isAgg142
  z173 := Tryz.sizeOf142
  v173 := Tryz.zeroValue142
  t212 := Tryz.underlying154
  a212 := Tryz.isAgg154
  z212 := Tryz.sizeOf154
  v212 := Tryz.zeroValue154
  t213 := Tryz.underlying156
  a213 := Tryz.isAgg156
  z213 := Tryz.sizeOf156
  t232 := Tryz.underlying174
  a232 := Tryz.isAgg174
  z232 := Tryz.sizeOf174
  v232 := Tryz.zeroValue174
  t233 := Tryz.underlying175
  a233 := Tryz.isAgg175
  z233 := Tryz.sizeOf175
  v233 := Tryz.zeroValue175
  g17 := by kernel_rfl
  g18 := by kernel_rfl
  g19 := by kernel_rfl
  i0 := by kernel_rfl
  i2 := by kernel_rfl
  i3 := by kernel_rfl
  i4 := by kernel_rfl
  i5 := by kernel_rfl
  i9 := by kernel_rfl
  i20 := by kernel_rfl
  i37 := by kernel_rfl
  i46 := by kernel_rfl
  i51 := by kernel_rfl
  i53 := by kernel_rfl
  i171 := by kernel_rfl
  i173 := by kernel_rfl
  i212 := by kernel_rfl
  i232 := by kernel_rfl
  i233 := by kernel_rfl
  m17 := by kernel_rfl
  m18 := by kernel_rfl
  m19 := by kernel_rfl }
open Go.RowKit Go.Sort Go.Lib in
theorem Tryz.strconv_Itoa (n : Int) (h0 : -9223372036854775808 ≤ n) (h1 : n ≤ 9223372036854775807) (w : World) (htab : Lib.TabIs Tryz.prog w "internal/strconv.uint64pow10" .u64 Lib.pow10Tab) :
    Calls Tryz.prog 39 #[.int .i64 n] w fun e w' => e = .returned (.string ⟨(Lib.itoa n).toArray⟩) ∧ ∃ k os, w' = grow (w.drewN k) os := Any.strconv_Itoa Tryz.laysM171 n h0 h1 w htab
def Tryz.laysC172_ren : Go.Shelf.Ren := ⟨fun | 172 => 132 | 244 => 149 | 245 => 150 | 247 => 157 | 279 => 158 | 280 => 159 | 281 => 160 | 282 => 161 | 287 => 163 | 316 => 164 | 171 => 39 | 205 => 165 | 321 => 166 | 322 => 167 | 243 => 65 | 246 => 89 | 283 => 109 | 284 => 110 | 285 => 111 | 286 => 112 | 129 => 126 | 317 => 125 | 318 => 127 | 319 => 128 | 320 => 129 | 337 => 143 | 338 => 144 | n => n, fun | 9 => 9 | 3 => 3 | 75 => 83 | 76 => 84 | 4 => 4 | 5 => 5 | 167 => 177 | 37 => 79 | 0 => 0 | 85 => 178 | 2 => 2 | 168 => 180 | 53 => 128 | 175 => 184 | 46 => 145 | 210 => 187 | 127 => 116 | 145 => 192 | 143 => 190 | 21 => 21 | 171 => 139 | 173 => 142 | 212 => 154 | 51 => 155 | 20 => 20 | 213 => 156 | 232 => 174 | 233 => 175 | 80 => 91 | n => n, fun | 15 => 6 | 16 => 7 | 17 => 2 | 18 => 4 | 19 => 5 | n => n⟩
theorem Tryz.laysC172 : Go.Proofs.LaysC.n172 Tryz.prog Tryz.laysC172_ren := {
  mixed := by kernel_rfl
  f129 := Tryz.func126.trans (congrArg some (by kernel_rfl))
  f171 := Tryz.func39.trans (congrArg some (by kernel_rfl))
  f172 := Tryz.func132.trans (congrArg some (by kernel_rfl))
  f205 := Tryz.func165.trans (congrArg some (by kernel_rfl))
  f243 := Tryz.func65.trans (congrArg some (by kernel_rfl))
  f244 := Tryz.func149.trans (congrArg some (by kernel_rfl))
  f245 := Tryz.func150.trans (congrArg some (by kernel_rfl))
  f246 := Tryz.func89.trans (congrArg some (by kernel_rfl))
  f247 := Tryz.func157.trans (congrArg some (by kernel_rfl))
  f279 := Tryz.func158.trans (congrArg some (by kernel_rfl))
  f280 := Tryz.func159.trans (congrArg some (by kernel_rfl))
  f281 := Tryz.func160.trans (congrArg some (by kernel_rfl))
  f282 := Tryz.func161.trans (congrArg some (by kernel_rfl))
  f283 := Tryz.func109.trans (congrArg some (by kernel_rfl))
  f284 := Tryz.func110.trans (congrArg some (by kernel_rfl))
  f285 := Tryz.func111.trans (congrArg some (by kernel_rfl))
  f286 := Tryz.func112.trans (congrArg some (by kernel_rfl))
  f287 := Tryz.func163.trans (congrArg some (by kernel_rfl))
  f316 := Tryz.func164.trans (congrArg some (by kernel_rfl))
  f317 := Tryz.func125.trans (congrArg some (by kernel_rfl))
  f318 := Tryz.func127.trans (congrArg some (by kernel_rfl))
  f319 := Tryz.func128.trans (congrArg some (by kernel_rfl))
  f320 := Tryz.func129.trans (congrArg some (by kernel_rfl))
  f321 := Tryz.func166.trans (congrArg some (by kernel_rfl))
  f322 := Tryz.func167.trans (congrArg some (by kernel_rfl))
  f337 := Tryz.func143.trans (congrArg some (by kernel_rfl))
  f338 := Tryz.func144.trans (congrArg some (by kernel_rfl))
  t0 := Tryz.underlying0
  a0 := Tryz.isAgg0
  z0 := Tryz.sizeOf0
  v0 := Tryz.zeroValue0
  t2 := Tryz.underlying2
  a2 := Tryz.isAgg2
  z2 := Tryz.sizeOf2
  v2 := Tryz.zeroValue2
  t3 := Tryz.underlying3
  a3 := Tryz.isAgg3
  z3 := Tryz.sizeOf3
  v3 := Tryz.zeroValue3
  t4 := Tryz.underlying4
  a4 := Tryz.isAgg4
  z4 := Tryz.sizeOf4
  v4 := Tryz.zeroValue4
  t5 := Tryz.underlying5
  a5 := Tryz.isAgg5
  z5 := Tryz.sizeOf5
  v5 := Tryz.zeroValue5
  t9 := Tryz.underlying9
  a9 := Tryz.isAgg9
  z9 := Tryz.sizeOf9
  v9 := Tryz.zeroValue9
  t20 := Tryz.underlying20
  a20 := Tryz.isAgg20
  z20 := Tryz.sizeOf20
  v20 := Tryz.zeroValue20
  t21 := Tryz.underlying21
  a21 := Tryz.isAgg21
  z21 := Tryz.sizeOf21
  v21 := Tryz.zeroValue21
  t37 := Tryz.underlying79
  a37 := Tryz.isAgg79
  z37 := Tryz.sizeOf79
  v37 := Tryz.zeroValue79
  t46 := Tryz.underlying145
  a46 := Tryz.isAgg145
  z46 := Tryz.sizeOf145
  v46 := Tryz.zeroValue145
  t51 := Tryz.underlying155
  a51 := Tryz.isAgg155
  z51 := Tryz.sizeOf155
  v51 := Tryz.zeroValue155
  t53 := Tryz.underlying128
  a53 := Tryz.isAgg128
  z53 := Tryz.sizeOf128
  v53 := Tryz.zeroValue128
  t75 := Tryz.underlying83
  a75 := Tryz.isAgg83
  z75 := Tryz.sizeOf83
  v75 := Tryz.zeroValue83
  t76 := Tryz.underlying84
  a76 := Tryz.isAgg84
  z76 := Tryz.sizeOf84
  v76 := Tryz.zeroValue84
  t85 := Tryz.underlying178
  a85 := Tryz.isAgg178
  z85 := Tryz.sizeOf178
  v85 := Tryz.zeroValue178
  t127 := Tryz.underlying116
  a127 := Tryz.isAgg116
  z127 := Tryz.sizeOf116
  v127 := Tryz.zeroValue116
  t143 := Tryz.underlying190
  a143 := Tryz.isAgg190
  z143 := Tryz.sizeOf190
  v143 := Tryz.zeroValue190
  t145 := Tryz.underlying192
  a145 := Tryz.isAgg192
  z145 := Tryz.sizeOf192
  v145 := Tryz.zeroValue192
  t167 := Tryz.underlying177
  a167 := Tryz.isAgg177
  z167 := Tryz.sizeOf177
  v167 := Tryz.zeroValue177
  t168 := Tryz.underlying180
  a168 := Tryz.isAgg180
  z168 := Tryz.sizeOf180
  v168 := Tryz.zeroValue180
  t171 := Tryz.underlying139
  a171 := Tryz.isAgg139
  z171 := Tryz.sizeOf139
  v171 := Tryz.zeroValue139
  t173 := Tryz.underlying142
  a173 := Tryz.isAgg142
  z173 := Tryz.sizeOf142
  v173 := Tryz.zeroValue142
  t175 := Tryz.underlying184
  a175 := Tryz.isAgg184
  z175 := Tryz.sizeOf184
  v175 := Tryz.zeroValue184
  t210 := Tryz.underlying187
  a210 := Tryz.isAgg187
  z210 := Tryz.sizeOf187
  v210 := Tryz.zeroValue187
  t212 := Tryz.underlying154
  a212 := Tryz.isAgg154
  z212 := Tryz.sizeOf154
  v212 := Tryz.zeroValue154
  t213 := Tryz.underlying156
  a213 := Tryz.isAgg156
  z213 := Tryz.sizeOf156
  t232 := Tryz.underlying174
  a232 := Tryz.isAgg174
  z232 := Tryz.sizeOf174
  v232 := Tryz.zeroValue174
  t233 := Tryz.underlying175
  a233 := Tryz.isAgg175
  z233 := Tryz.sizeOf175
  v233 := Tryz.zeroValue175
  g15 := by kernel_rfl
  g16 := by kernel_rfl
  g17 := by kernel_rfl
  g18 := by kernel_rfl
  g19 := by kernel_rfl
  t80 := Tryz.underlying91
  a80 := Tryz.isAgg91
  z80 := Tryz.sizeOf91
  v80 := Tryz.zeroValue91
  i0 := by kernel_rfl
  i2 := by kernel_rfl
  i3 := by kernel_rfl
  i4 := by kernel_rfl
  i5 := by kernel_rfl
  i9 := by kernel_rfl
  i20 := by kernel_rfl
  i21 := by kernel_rfl
  i37 := by kernel_rfl
  i46 := by kernel_rfl
  i51 := by kernel_rfl
  i53 := by kernel_rfl
  i75 := by kernel_rfl
  i76 := by kernel_rfl
  i80 := by kernel_rfl
  i85 := by kernel_rfl
  i127 := by kernel_rfl
  i143 := by kernel_rfl
  i145 := by kernel_rfl
  i167 := by kernel_rfl
  i168 := by kernel_rfl
  i171 := by kernel_rfl
  i173 := by kernel_rfl
  i175 := by kernel_rfl
  i210 := by kernel_rfl
  i212 := by kernel_rfl
  i232 := by kernel_rfl
  i233 := by kernel_rfl
  m15 := by kernel_rfl
  m16 := by kernel_rfl
  m17 := by kernel_rfl
  m18 := by kernel_rfl
  m19 := by kernel_rfl
  c0 := by kernel_rfl
  c2 := by kernel_rfl
  c3 := by kernel_rfl
  c4 := by kernel_rfl
  c5 := by kernel_rfl
  c9 := by kernel_rfl
  c20 := by kernel_rfl
  c21 := by kernel_rfl
  c37 := by kernel_rfl
  c46 := by kernel_rfl
  c51 := by kernel_rfl
  c53 := by kernel_rfl
  c75 := by kernel_rfl
  c76 := by kernel_rfl
  c80 := by kernel_rfl
  c85 := by kernel_rfl
  c127 := by kernel_rfl
  c143 := by kernel_rfl
  c145 := by kernel_rfl
  c167 := by kernel_rfl
  c168 := by kernel_rfl
  c171 := by kernel_rfl
  c173 := by kernel_rfl
  c175 := by kernel_rfl
  c210 := by kernel_rfl
  c212 := by kernel_rfl
  c213 := by kernel_rfl
  c232 := by kernel_rfl
  c233 := by kernel_rfl }
open Go.RowKit in
theorem Tryz.strconv_Atoi_ok (s : ByteArray) (hmax : s.size ≤ 9223372036854775806) (v : Int) (h : Lib.atoiAll s.data.toList = .ok v) (w : World) :
    Calls Tryz.prog 132 #[.string s] w fun e w' => e = .returned (.tuple #[.int .i64 v, .nilIface]) ∧ (w' = w ∨ ∃ t, w' = Lib.bytesWorld w 5 t) := Any.strconv_Atoi_ok Tryz.laysC172 s hmax v h w
def Tryz.lays264_ren : Go.Shelf.Ren := ⟨fun | 264 => 97 | n => n, fun | 53 => 128 | 46 => 145 | n => n, fun | n => n⟩
theorem Tryz.lays264 : Go.Proofs.Lays.n264 Tryz.prog Tryz.lays264_ren := {
  mixed := by kernel_rfl
  f264 := Tryz.func97.trans (congrArg some (by kernel_rfl))
  t46 := Tryz.underlying145
  a46 := Tryz.isAgg145
  z46 := Tryz.sizeOf145
  v46 := Tryz.zeroValue145
  t53 := Tryz.underlying128
  a53 := Tryz.isAgg128
  z53 := Tryz.sizeOf128
  v53 := Tryz.zeroValue128 }
open Go.RowKit Go.Lib in
theorem Tryz.bits_Mul64 (x y : Nat) (hx : x < 18446744073709551616) (hy : y < 18446744073709551616) (w : World) :
    Calls Tryz.prog 97 #[.int .u64 x, .int .u64 y] w fun e w' => e = .returned (.tuple #[.int .u64 ((x * y / 18446744073709551616 : Nat) : Int), .int .u64 ((x * y % 18446744073709551616 : Nat) : Int)]) ∧ w' = w := Any.bits_Mul64 Tryz.lays264 x y hx hy w
def Tryz.lays105_ren : Go.Shelf.Ren := ⟨fun | 105 => 124 | 212 => 140 | 99 => 59 | 165 => 141 | 166 => 50 | 170 => 142 | 169 => 55 | 263 => 153 | 264 => 97 | 206 => 87 | 240 => 75 | 241 => 154 | 276 => 95 | 277 => 162 | n => n, fun | 9 => 9 | 3 => 3 | 4 => 4 | 20 => 20 | 0 => 0 | 46 => 145 | 109 => 165 | 5 => 5 | 72 => 81 | 76 => 84 | 51 => 155 | 146 => 172 | 53 => 128 | 148 => 129 | 70 => 78 | 37 => 79 | 75 => 83 | 127 => 116 | 164 => 126 | 80 => 91 | n => n, fun | n => n⟩
theorem Tryz.lays105 : Go.Proofs.Lays.n105 Tryz.prog Tryz.lays105_ren := {
  mixed := by kernel_rfl
  f99 := Tryz.func59.trans (congrArg some (by kernel_rfl))
  f105 := Tryz.func124.trans (congrArg some (by kernel_rfl))
  f165 := Tryz.func141.trans (congrArg some (by kernel_rfl))
  f166 := Tryz.func50.trans (congrArg some (by kernel_rfl))
  f169 := Tryz.func55.trans (congrArg some (by kernel_rfl))
  f170 := Tryz.func142.trans (congrArg some (by kernel_rfl))
  f206 := Tryz.func87.trans (congrArg some (by kernel_rfl))
  f212 := Tryz.func140.trans (congrArg some (by kernel_rfl))
  f240 := Tryz.func75.trans (congrArg some (by kernel_rfl))
  f241 := Tryz.func154.trans (congrArg some (by kernel_rfl))
  f263 := Tryz.func153.trans (congrArg some (by kernel_rfl))
  f264 := Tryz.func97.trans (congrArg some (by kernel_rfl))
  f276 := Tryz.func95.trans (congrArg some (by kernel_rfl))
  f277 := Tryz.func162.trans (congrArg some (by kernel_rfl))
  t0 := Tryz.underlying0
  a0 := Tryz.isAgg0
  z0 := Tryz.sizeOf0
  v0 := Tryz.zeroValue0
  t3 := Tryz.underlying3
  a3 := Tryz.isAgg3
  z3 := Tryz.sizeOf3
  v3 := Tryz.zeroValue3
  t4 := Tryz.underlying4
  a4 := Tryz.isAgg4
  z4 := Tryz.sizeOf4
  v4 := Tryz.zeroValue4
  t5 := Tryz.underlying5
  a5 := Tryz.isAgg5
  z5 := Tryz.sizeOf5
  v5 := Tryz.zeroValue5
  t9 := Tryz.underlying9
  a9 := Tryz.isAgg9
  z9 := Tryz.sizeOf9
  v9 := Tryz.zeroValue9
  t20 := Tryz.underlying20
  a20 := Tryz.isAgg20
  z20 := Tryz.sizeOf20
  v20 := Tryz.zeroValue20
  t37 := Tryz.underlying79
  a37 := Tryz.isAgg79
  z37 := Tryz.sizeOf79
  v37 := Tryz.zeroValue79
  t46 := Tryz.underlying145
  a46 := Tryz.isAgg145
  z46 := Tryz.sizeOf145
  v46 := Tryz.zeroValue145
  t51 := Tryz.underlying155
  a51 := Tryz.isAgg155
  z51 := Tryz.sizeOf155
  v51 := Tryz.zeroValue155
  t53 := Tryz.underlying128
  a53 := Tryz.isAgg128
  z53 := Tryz.sizeOf128
  v53 := Tryz.zeroValue128
  t70 := Tryz.underlying78
  a70 := Tryz.isAgg78
  z70 := Tryz.sizeOf78
  v70 := Tryz.zeroValue78
  t72 := Tryz.underlying81
  a72 := Tryz.isAgg81
  z72 := Tryz.sizeOf81
  v72 := Tryz.zeroValue81
  t75 := Tryz.underlying83
  a75 := Tryz.isAgg83
  z75 := Tryz.sizeOf83
  v75 := Tryz.zeroValue83
  t76 := Tryz.underlying84
  a76 := Tryz.isAgg84
  z76 := Tryz.sizeOf84
  v76 := Tryz.zeroValue84
  t109 := Tryz.underlying165
  a109 := Tryz.isAgg165
  z109 := Tryz.sizeOf165
  v109 := Tryz.zeroValue165
  t127 := Tryz.underlying116
  a127 := Tryz.isAgg116
  z127 := Tryz.sizeOf116
  v127 := Tryz.zeroValue116
  t146 := Tryz.underlying172
  a146 := Tryz.isAgg172
  z146 := Tryz.sizeOf172
  v146 := Tryz.zeroValue172
  t148 := Tryz.underlying129
  a148 := Tryz.isAgg129
  z148 := Tryz.sizeOf129
  v148 := Tryz.zeroValue129
  t164 := Tryz.underlying126
  a164 := Tryz.isAgg126
  z164 := Tryz.sizeOf126
  v164 := Tryz.zeroValue126 }
theorem Tryz.Builder_Extra_105 : Builder.Extra Tryz.prog Tryz.lays105_ren := {
  sizeBuilder := by kernel_rfl
  liesBuilder := by kernel_rfl
  t5 := Tryz.underlying5
  a5 := Tryz.isAgg5
  z5 := Tryz.sizeOf5
  v5 := Tryz.zeroValue5
  infoByte := by kernel_rfl
  cellsByte := by kernel_rfl
  sizeByte := by kernel_rfl
  neB5 := by decide }
open Go.RowKit Go.Lib in
theorem Tryz.strings_Repeat (s : ByteArray) (c : Nat) (w : World) (hc : c ≤ 9223372036854775807) (hlen : s.size * c ≤ 140737488355328) :
    Calls Tryz.prog 124 #[.string s, .int .i64 c] w fun e w' => e = .returned (.string ⟨(Lib.repeatL s.data.toList c).toArray⟩) ∧ Below w.heap.size w w' := Any.strings_Repeat Tryz.lays105 Tryz.Builder_Extra_105 s c w hc hlen
end Go.Proofs.YtajmdlpanlbnjaaGreatDoor

namespace Go.Proofs.YtajmdlpanlbnjaaGreatDoor.M
open Go.ChangeShapes Go.WideShapes Go.ChangeAt Go.RowKit Go.Deep
set_option linter.unusedVariables false
set_option linter.unusedSimpArgs false

def Inn (w : World) : Nat → Prop := fun b => b < w.heap.size

def Opn {α : Type} (P : Program) (t : TypeId) (E : α → List AV) (K : α → Prop) : Prop :=
  ∀ (H : Type) (enc : TypeId × Value → H) (w : World) (fuel : Nat) (cs : List Value) (d : DataW H) (p : List MemPlace),
    DataW.trod enc P w 0 (fun _ => true) true fuel t cs = some (d, p) → (∀ n ∈ d.weights P t, n ≤ reachBytes) → ∃ x, RL (R0 w (Inn w)) (E x) cs ∧ K x

def cI (n : Int) : List AV := [.v (.int .i64 n)]
def cB (b : Bool) : List AV := [.v (.bool b)]
def cS (s : ByteArray) : List AV := [.v (.string s)]
def cSl {α : Type} (E : α → List AV) (xs : List α) : List AV := [.sl (xs.map E)]

theorem opn_int {P : Program} {t : TypeId} (ht : P.underlying t = some (.int .i64)) : Opn P t cI (fun _ => True) := by
  intro H enc w fuel cs d p h hw
  obtain ⟨n, rfl, _, hn⟩ := DataW.trod_int ht h
  refine ⟨n, ⟨.v ?_, trivial⟩, trivial⟩
  have := bounds_i64 hn
  simp only [okAtom, IntKind.min, IntKind.max, IntKind.signed, IntKind.bits]
  simp
  omega
theorem opn_bool {P : Program} {t : TypeId} (ht : P.underlying t = some .bool) : Opn P t cB (fun _ => True) := by
  intro H enc w fuel cs d p h hw
  obtain ⟨n, rfl, _⟩ := DataW.trod_bool ht h
  exact ⟨n, ⟨.v trivial, trivial⟩, trivial⟩
theorem weights_all {H : Type} {P : Program} {e : TypeId} {d : DataW H} : ∀ {l : List (DataW H)}, d ∈ l → ∀ n ∈ d.weights P e, n ∈ DataW.weightsAll P e l
  | x :: r, h, n, hn => by
    simp only [DataW.weightsAll, List.mem_append]
    rcases List.mem_cons.1 h with rfl | h
    · exact .inl hn
    · exact .inr (weights_all h n hn)

theorem list_of {α : Type} {Q : Nat → α → Prop} : ∀ (n : Nat), (∀ i, i < n → ∃ x, Q i x) → ∃ xs : List α, xs.length = n ∧ ∀ i x, xs[i]? = some x → Q i x
  | 0, _ => ⟨[], rfl, fun i x h => by simp at h⟩
  | n + 1, h => by
    obtain ⟨xs, hl, hx⟩ := list_of n fun i hi => h i (by omega)
    obtain ⟨y, hy⟩ := h n (by omega)
    refine ⟨xs ++ [y], by simp [hl], fun i x hi => ?_⟩
    rw [List.getElem?_append] at hi
    split at hi
    · exact hx i x hi
    · have hlt := (List.getElem?_eq_some_iff.1 hi).1
      have : i = n := by simp at hlt; omega
      subst this
      rw [hl] at hi
      simp at hi
      subst hi
      exact hy

theorem cell_in {w : World} {b o : Nat} {v : Value} (h : w.cell? ⟨b, o, none⟩ = some v) : b < w.heap.size := by
  simp only [World.cell?] at h
  cases hb : w.heap[b]? with
  | none => rw [hb] at h; cases h
  | some x => exact (Array.getElem?_eq_some_iff.1 hb).1

theorem weights_each {H : Type} {P : Program} : ∀ {ts : List TypeId} {ds : List (DataW H)} {j : Nat} {t : TypeId} {d : DataW H}, ts[j]? = some t → ds[j]? = some d → ∀ n ∈ d.weights P t, n ∈ DataW.weightsEach P ts ds :=
  DataW.weights_mem_each

theorem orc_at {α : Type} {P : Program} {G : Nat → Option GR} {f : FuncId} {flat : Bool} {enc : α → List AV} {pre : α → Bool} {res : α → AV × Heap} (h : OrcOK P G (orc f flat enc pre res)) (hi : ∀ a a', enc a = enc a' → a = a') (a : α) (hp : pre a = true) :
    SpecP P G f (enc a) (res a).1 (res a).2 := by
  refine h.spec (enc a) _ _ ?_
  simp only [orc, unenc_of hi a rfl, T.val, hp]
theorem law_calls {P : Program} {G : Nat → Option GR} {f : FuncId} {args : List AV} {W : World} (h : SpecP P G f args (.v (.bool true)) []) (hG : ∀ g r, G g = some r → GlobAt W (Inn W) g r) {cargs : List Value} (hargs : RL (RV W (Inn W) noKeys) args cargs) :
    Calls P f cargs.toArray W fun e W1 => e = .returned (.bool true) ∧ Below W.heap.size W W1 := by
  refine (h W (Inn W) cargs (fun _ h => h) hG hargs).mono ?_
  rintro e W1 ⟨v, S', β', rfl, hb, _, _, _, _, _, _, _, hr⟩
  rw [(rv_v hr).1]
  exact ⟨rfl, hb⟩
theorem rv_agg_of {w : World} {S : Nat → Prop} {cs : List AV} {vs : Array Value} (h : RL (R0 w S) cs vs.toList) : RV w S noKeys (.agg cs) (.agg vs) := ⟨vs.toList, by simp, h.imp fun _ _ _ h => h.rc⟩
theorem rv_int_of {w : World} {S : Nat → Prop} {n : Int} (h : (Lit.int .i64 n).wf = true) : RV w S noKeys (.v (.int .i64 n)) (.int .i64 n) := by
  refine rv_mk ?_
  have := bounds_i64 h
  simp only [okAtom, IntKind.min, IntKind.max, IntKind.signed, IntKind.bits]
  simp
  omega
end Go.Proofs.YtajmdlpanlbnjaaGreatDoor.M

namespace Go.Proofs.YtajmdlpanlbnjaaGreatDoor.M
open Go.ChangeShapes Go.WideShapes Go.ChangeAt Go.RowKit Go.Deep
set_option linter.unusedVariables false
set_option linter.unusedSimpArgs false

theorem bulks.one_le {H : Type} (d : DataW H) : 1 ≤ Rows.uptoBulk d := by
  cases d with
  | lit l => cases l <;> simp [Rows.uptoBulk]
  | nil => simp [Rows.uptoBulk]
  | ptr d => simp [Rows.uptoBulk]
  | slice elems spare => simp [Rows.uptoBulk]
  | agg parts => simp [Rows.uptoBulk]
  | iface t d => simp [Rows.uptoBulk]
  | map entries => simp [Rows.uptoBulk]
  | held h => simp [Rows.uptoBulk]

theorem bulks.part_le {H : Type} {d : DataW H} {l : List (DataW H)} (h : d ∈ l) : Rows.uptoBulk d ≤ Rows.uptoBulkAll l := by
  induction l with
  | nil => cases h
  | cons x r ih =>
    simp only [Rows.uptoBulkAll]
    cases List.mem_cons.1 h with
    | inl e => subst e; omega
    | inr e => have := ih e; omega

theorem bulks.length_le {H : Type} (l : List (DataW H)) : l.length ≤ Rows.uptoBulkAll l := by
  induction l with
  | nil => simp [Rows.uptoBulkAll]
  | cons x r ih => have := bulks.one_le x; simp only [Rows.uptoBulkAll, List.length_cons]; omega

theorem bulks.bound {H : Type} {l : List (DataW H)} (hk : Rows.uptoSmall H l = true) : Rows.uptoBulkAll l ≤ 1048576 := by
  simpa [Rows.uptoSmall] using hk

def OpnU {α : Type} (P : Program) (t : TypeId) (E : α → List AV) (K : α → Prop) : Prop :=
  ∀ (H : Type) (enc : TypeId × Value → H) (w : World) (fuel : Nat) (cs : List Value) (d : DataW H) (p : List MemPlace),
    DataW.trod enc P w 0 (fun _ => true) true fuel t cs = some (d, p) → (∀ n ∈ d.weights P t, n ≤ reachBytes) → Rows.uptoBulk d ≤ 1048576 → ∃ x, RL (R0 w (Inn w)) (E x) cs ∧ K x

theorem Opn.small {α : Type} {P : Program} {t : TypeId} {E : α → List AV} {K : α → Prop} (h : Opn P t E K) : OpnU P t E K :=
  fun H enc w fuel cs d p h1 h2 _ => h H enc w fuel cs d p h1 h2

def smS (s : ByteArray) : Prop := s.size ≤ 1048576

theorem opnU_str {P : Program} {t : TypeId} (ht : P.underlying t = some .string) : OpnU P t cS smS := by
  intro H enc w fuel cs d p h hw hb
  obtain ⟨n, rfl, hd, hn⟩ := DataW.trod_string ht h
  refine ⟨n, ⟨.v hn, trivial⟩, ?_⟩
  unfold smS
  first | (obtain ⟨rfl, _⟩ := Prod.mk.inj hd) | (obtain rfl := hd) | (have hd := congrArg Prod.fst hd; simp only at hd; subst hd)
  simp only [Rows.uptoBulk] at hb
  have : n.data.toList.length = n.size := by simp
  omega

def KU {α : Type} (K : α → Prop) (xs : List α) : Prop := xs.length ≤ 1048576 ∧ ∀ x ∈ xs, K x

theorem opnU_slice {α : Type} {P : Program} {t e : TypeId} {size bytes : Nat} {E : α → List AV} {K : α → Prop} (ht : P.underlying t = some (.slice e)) (hs : P.cellsOf e = size) (hb : P.bytesOf e = bytes) (h0 : 0 < size) (hE : ∀ x, (E x).length = size)
    (he : OpnU P e E K) : OpnU P t (cSl E) (KU K) := by
  intro H enc w fuel cs d p h hw hbk
  rcases open_slice ht h with ⟨rfl, hx⟩ | ⟨a, len, cap, m, n, D, Pl, rfl, _, hl, hm, hmm, hx, hi⟩
  · refine ⟨[], ⟨?_, trivial⟩, by simp [KU], by simp⟩
    exact R0.sl (rows := []) (size := 0) (b := 0) (off := 0) (vals := fun _ _ => .nilFunc) (by simp) (by simp) (by simp) (by simp) (by simp) (by simp)
  · simp only [if_true] at hmm
    subst hmm
    simp only [Prod.mk.injEq] at hx
    obtain ⟨rfl, _⟩ := hx
    have hwt : ∀ i, i < m → ∀ k ∈ (D i).weights P e, k ≤ reachBytes := by
      intro i him k hk
      refine hw k ?_
      simp only [DataW.weights, ht, List.mem_cons, List.mem_append]
      rcases Nat.lt_or_ge i len with hlt | hge
      · exact .inr (.inl (weights_all (by simp; exact ⟨i, hlt, rfl⟩) k hk))
      · exact .inr (.inr (weights_all (by simp; exact ⟨i - len, by omega, by congr 1; omega⟩) k hk))
    have hbl : ∀ i, i < m → Rows.uptoBulk (D i) ≤ 1048576 := by
      intro i him
      rcases Nat.lt_or_ge i len with hlt | hge
      · refine Nat.le_trans (bulks.part_le (l := (List.range len).map D) (by simp; exact ⟨i, hlt, rfl⟩)) ?_
        simp only [Rows.uptoBulk] at hbk; omega
      · refine Nat.le_trans (bulks.part_le (l := (List.range (m - len)).map fun i => D (len + i)) (by simp; exact ⟨i - len, by omega, by congr 1; omega⟩)) ?_
        simp only [Rows.uptoBulk] at hbk; omega
    have hlen : len ≤ 1048576 := by
      have := bulks.length_le ((List.range len).map D)
      simp only [Rows.uptoBulk] at hbk
      rw [List.length_map, List.length_range] at this
      omega
    have hown : (len + (m - len)) * bytes ≤ reachBytes := by
      refine hw _ ?_
      simp only [DataW.weights, ht, List.length_map, List.length_range, hb]
      exact List.mem_cons_self
    obtain ⟨xs, hxl, hxs⟩ := list_of (Q := fun i x => ∃ b off cs', a = ⟨b, off, none⟩ ∧ b < w.heap.size ∧ RL (R0 w (Inn w)) (E x) cs' ∧ K x ∧ cs'.length = size ∧ ∀ j v, cs'[j]? = some v → w.cell? ⟨b, off + i * size + j, none⟩ = some v) len (by
      intro i hi'
      obtain ⟨cs', hc, ht'⟩ := hi i (by omega)
      obtain ⟨_, hcl, hat⟩ := World.cells?_some hc
      rw [hs] at hcl hat
      obtain ⟨x, hx, hk⟩ := he H enc w n cs' _ _ ht' (hwt i (by omega)) (hbl i (by omega))
      obtain ⟨b, off, spot⟩ := a
      obtain ⟨cs0, hc0, _⟩ := hi 0 (by omega)
      obtain ⟨_, hcl0, hat0⟩ := World.cells?_some hc0
      rw [hs] at hcl0 hat0
      have hz0 := hat0 0 h0
      rw [List.getElem?_eq_getElem (by omega)] at hz0
      have hspot := World.cell?_spot hz0
      have hspot' : spot = none := by simpa [Addr.add] using hspot
      subst hspot'
      have hcell : ∀ j v, cs'[j]? = some v → w.cell? ⟨b, off + i * size + j, none⟩ = some v := by
        intro j v hv
        have hj : j < size := by rw [← hcl]; exact (List.getElem?_eq_some_iff.1 hv).1
        have := hat j hj
        rw [hv] at this
        rw [← this]
        congr 1
        simp only [Addr.add]
        by_cases h1 : i * size = 0 <;> by_cases h2 : j = 0 <;> simp [h1, h2] <;> omega
      have hin := cell_in (hcell 0 _ (List.getElem?_eq_getElem (by omega)))
      exact ⟨x, b, off, cs', rfl, hin, hx, hk, hcl, hcell⟩)
    have hr : reachBytes = 140737488351232 := rfl
    have hlm : len ≤ len + (m - len) := by omega
    have h47 : len * bytes ≤ 140737488351232 := by
      have := Nat.mul_le_mul_right bytes hlm
      omega
    have hm' : m ≤ 9223372036854775807 := by have : m ≤ maxLen := hm; simpa [maxLen] using this
    refine ⟨xs, ⟨?_, trivial⟩, by rw [hxl]; exact hlen, fun x hx => ?_⟩
    · obtain ⟨b, off, spot⟩ := a
      have hval : ∀ (i : Nat), ∃ cs' : List Value, ∀ x, xs[i]? = some x → spot = none ∧ b < w.heap.size ∧ RL (R0 w (Inn w)) (E x) cs' ∧ ∀ j v, cs'[j]? = some v → w.cell? ⟨b, off + i * size + j, none⟩ = some v := by
        intro i
        cases hx : xs[i]? with
        | none => exact ⟨[], fun x h => by cases h⟩
        | some x =>
          obtain ⟨b', off', cs', e1, h1, h2, h3, h4, h5⟩ := hxs i x hx
          cases e1
          exact ⟨cs', fun y hy => by cases hy; exact ⟨rfl, h1, h2, h5⟩⟩
      let vals : Nat → Nat → Value := fun i j => ((Classical.choose (hval i))[j]?).getD .nilFunc
      have hv := fun i => Classical.choose_spec (hval i)
      have hne : xs.map E ≠ [] → spot = none ∧ b < w.heap.size := by
        intro hn
        cases xs with
        | nil => exact absurd rfl hn
        | cons x xs =>
          obtain ⟨q1, q2, _⟩ := hv 0 x rfl
          exact ⟨q1, q2⟩
      have key : ∀ (i j : Nat) (row : Row) (c : AV), (xs.map E)[i]? = some row → row[j]? = some c → w.cell? ⟨b, off + i * size + j, none⟩ = some (vals i j) ∧ R0 w (Inn w) c (vals i j) := by
        intro i j row c hi hj
        simp only [List.getElem?_map, Option.map_eq_some_iff] at hi
        obtain ⟨x, hx, rfl⟩ := hi
        obtain ⟨_, _, h2, h5⟩ := hv i x hx
        obtain ⟨v, hv1, hv2⟩ := h2.get hj
        have e : vals i j = v := by show ((Classical.choose (hval i))[j]?).getD .nilFunc = v; rw [hv1]; rfl
        rw [e]
        exact ⟨h5 j v hv1, hv2⟩
      have hlen : (xs.map E).length = len := by simp [hxl]
      have := R0.sl (w := w) (S := Inn w) (rows := xs.map E) (A := some ⟨b, off, spot⟩) (cap := m) (size := size) (b := b) (off := off) (vals := vals) (by rw [hlen]; omega) hm'
        (fun hn => by obtain ⟨q1, q2⟩ := hne hn; subst q1; exact ⟨rfl, q2⟩)
        (fun i row hi => by
          simp only [List.getElem?_map, Option.map_eq_some_iff] at hi
          obtain ⟨x, _, rfl⟩ := hi
          exact hE x)
        (fun i j row c hi hj => (key i j row c hi hj).1) (fun i j row c hi hj => (key i j row c hi hj).2)
      rw [hlen] at this
      exact this
    · obtain ⟨i, hi⟩ := List.getElem?_of_mem hx
      obtain ⟨_, _, _, _, _, _, hk, _⟩ := hxs i x hi
      exact hk

theorem opnU_fields {H : Type} {enc : TypeId × Value → H} {P : Program} {w : World} {fuel : Nat} {t : TypeId} {cs : List Value} {d : DataW H} {p : List MemPlace} {fs : Array Field}
    (ht : P.underlying t = some (.struct fs)) (h : DataW.trod enc P w 0 (fun _ => true) true fuel t cs = some (d, p)) (hw : ∀ n ∈ d.weights P t, n ≤ reachBytes) (hbk : Rows.uptoBulk d ≤ 1048576) :
    cs.length = P.cellsOf t ∧ ∀ (i : Nat) (f : Field), fs[i]? = some f → ∀ {α : Type} {E : α → List AV} {K : α → Prop}, OpnU P f.type E K → ∃ x, RL (R0 w (Inn w)) (E x) ((cs.drop f.offset).take (P.cellsOf f.type)) ∧ K x := by
  obtain ⟨xs, n, _, hx, hl, hxl, hf⟩ := DataW.trod_struct ht h
  simp only [Prod.mk.injEq] at hx
  obtain ⟨rfl, _⟩ := hx
  refine ⟨hl, fun i f hi α E K hR => ?_⟩
  have h1 := hf i f hi
  have hlt : i < xs.length := by rw [hxl]; exact (Array.getElem?_eq_some_iff.1 hi).1
  rw [List.getElem?_eq_getElem hlt] at h1
  refine hR H enc w n _ _ _ h1 (fun k hk => hw k ?_) ?_
  · simp only [DataW.weights, ht]
    refine weights_each (j := i) ?_ ?_ k hk
    · simp [hi]
    · simp [List.getElem?_eq_getElem hlt]
  · refine Nat.le_trans (bulks.part_le (l := xs.map (·.1)) (List.mem_map.2 ⟨xs[i], List.getElem_mem hlt, rfl⟩)) ?_
    simp only [Rows.uptoBulk] at hbk
    omega

theorem SpecP.below1 {P : Program} {G : Nat → Option GR} {f : FuncId} {x : Value} {r : AV} {rv : Value} (hr : ∀ w S, RV w S noKeys r rv)
    (h : okAtom x → ∀ w (S : Nat → Prop), (∀ g r, G g = some r → GlobAt w S g r) → Calls P f #[x] w fun e w' => e = .returned rv ∧ Below w.heap.size w w') : SpecP P G f [.v x] r [] := by
  intro w S cargs hlt hg hargs
  match cargs, hargs with
  | [u], ⟨h1, _⟩ =>
    obtain ⟨rfl, k1⟩ := rv_v h1
    refine (h k1 w S hg).mono ?_
    rintro e w' ⟨rfl, hb⟩
    exact ⟨rv, S, noKeys, rfl, hb, fun _ h => h, fun _ h => .inl h, fun b h => Nat.lt_of_lt_of_le (hlt b h) hb.size, (fun _ _ _ _ h => by cases h), (fun _ _ h => by cases h), (fun _ _ h => by cases h), (fun _ _ h => by cases h), hr _ _⟩
theorem SpecP.below2 {P : Program} {G : Nat → Option GR} {f : FuncId} {x y : Value} {r : AV} {rv : Value} (hr : ∀ w S, RV w S noKeys r rv)
    (h : okAtom x → okAtom y → ∀ w (S : Nat → Prop), (∀ g r, G g = some r → GlobAt w S g r) → Calls P f #[x, y] w fun e w' => e = .returned rv ∧ Below w.heap.size w w') : SpecP P G f [.v x, .v y] r [] := by
  intro w S cargs hlt hg hargs
  match cargs, hargs with
  | [u, v], ⟨h1, h2, _⟩ =>
    obtain ⟨rfl, k1⟩ := rv_v h1
    obtain ⟨rfl, k2⟩ := rv_v h2
    refine (h k1 k2 w S hg).mono ?_
    rintro e w' ⟨rfl, hb⟩
    exact ⟨rv, S, noKeys, rfl, hb, fun _ h => h, fun _ h => .inl h, fun b h => Nat.lt_of_lt_of_le (hlt b h) hb.size, (fun _ _ _ _ h => by cases h), (fun _ _ h => by cases h), (fun _ _ h => by cases h), (fun _ _ h => by cases h), hr _ _⟩

theorem var_cells {P : Program} {w : World} {n : String} {cs : Array Value} {g : Nat} (hn : P.globalNamed n = some g) (h : w.var? P n = some cs) : ∃ ty o, w.heap[g]? = some (.cells cs ty o) := by
  simp only [World.var?, hn, Option.bind_some] at h
  split at h
  · rename_i hh
    cases h
    exact ⟨_, _, hh⟩
  · cases h
theorem glob_mk {w : World} {g : Nat} {cs : Array Value} {ty : TypeId} {o : Nat × Nat} {c : Array Value → Prop} (h : w.heap[g]? = some (.cells cs ty o)) (hc : c cs) : GlobAt w (Inn w) g ⟨[], c⟩ :=
  ⟨(Array.getElem?_eq_some_iff.1 h).1, cs, ty, o, h, fun j a ha => by simp at ha, hc⟩

theorem GlobAt.cell {w : World} {S : Nat → Prop} {g : Nat} {r : GR} (h : GlobAt w S g r) : ∃ cs, r.cond cs ∧ ∀ j, w.cell? ⟨g, j, none⟩ = cs[j]? := by
  obtain ⟨cs, ty, o, h1, h2⟩ := h.cells
  exact ⟨cs, h2, fun j => by simp [World.cell?, h1]⟩

end Go.Proofs.YtajmdlpanlbnjaaGreatDoor.M

namespace Go.Proofs.YtajmdlpanlbnjaaGreatDoor.M
open Go Go.RowKit
set_option linter.unusedVariables false
set_option linter.unusedSimpArgs false
noncomputable def orcT {α : Type} (f : FuncId) (enc : α → List AV × Heap) (pre : α → Bool) (res : α → T (AV × Heap × List Nat)) : OrcH :=
  ⟨f, fun args h => .opt (unenc enc (args, h)) fun a => .ifB (pre a) (res a) .fail⟩
theorem orcT_ok {α : Type} {P : Program} {G : Nat → Option GR} {f : FuncId} {enc : α → List AV × Heap} {pre : α → Bool} {res : α → T (AV × Heap × List Nat)} (hh : Here P f)
    (h : ∀ a r, pre a = true → (∀ x ∈ (enc a).1, OkA x) → (∀ k bl, mget (enc a).2 k = some bl → OkK bl) → (res a).val = some r → SpecH P G f (enc a).1 (enc a).2 r.1 r.2.1 r.2.2) : OrcHOK P G (orcT f enc pre res) := by
  refine ⟨fun args hin r H mv hr => ?_, hh⟩
  simp only [orcT, T.opt_some] at hr
  obtain ⟨a, h1, h2⟩ := hr
  rw [T.ifB_some] at h2
  rcases h2 with ⟨h2, h3⟩ | ⟨h2, h3⟩
  · have e := unenc_some h1
    have := SpecH.ok (fun hok hokk => h a _ h2 hok hokk h3)
    rw [← e] at this
    exact this
  · rw [T.fail_some] at h3; exact h3.elim
def unE0 : AV → AV
  | .e0 => .sl []
  | a => a
def Blk.unE0 (b : Blk) : Blk := match b.box with
  | true => ⟨true, b.ty, b.sz, b.rows.map (·.map M.unE0)⟩
  | false => b
def weakH (x : AV × Heap × List Nat) : AV × Heap × List Nat := (x.1, x.2.1.map fun p => (p.1, p.2.unE0), x.2.2)
theorem rc_unE0 {w : World} {S : Nat → Prop} {β : Nat → Option BI} {a : AV} {v : Value} (h : RC w S β a v) : RC w S β (unE0 a) v := by
  cases a
  case e0 =>
    obtain ⟨A, rfl⟩ := h
    exact R0.sl (rows := []) (A := A) (cap := 0) (size := 0) (b := 0) (off := 0) (vals := fun _ _ => undef) (Nat.le_refl _) (Nat.zero_le _) (fun h => absurd rfl h) (fun i row hi => by simp at hi) (fun i j row a hi => by simp at hi) (fun i j row a hi => by simp at hi)
  all_goals exact h
theorem SpecH.weak {P : Program} {G : Nat → Option GR} {f : FuncId} {args : List AV} {hin : Heap} {r : AV × Heap × List Nat} (h : SpecH P G f args hin r.1 r.2.1 r.2.2) : SpecH P G f args hin (weakH r).1 (weakH r).2.1 (weakH r).2.2 := by
  intro w S β cargs inv hargs
  refine (h w S β cargs inv hargs).mono ?_
  rintro e w' ⟨v, S', β', he, h1, h2, h3, inv', h4, h5⟩
  refine ⟨v, S', β', he, h1, h2, h3, ⟨inv'.base, inv'.lt, inv'.inj, inv'.new, fun k x hx => ?_, fun k bl hk => ?_, inv'.glob⟩, h4, h5⟩
  · obtain ⟨bl, a1, a2, a3⟩ := inv'.dom k x hx
    refine ⟨bl.unE0, by show mget (r.2.1.map fun p => (p.1, p.2.unE0)) k = _; rw [mget_map, a1]; rfl, fun hr => ?_, fun hr => ?_⟩
    · obtain ⟨cs, ty, c1, c2, c3, c4, c5, c6, c7, c8⟩ := a2 hr
      unfold Blk.unE0
      split
      · rename_i hb
        refine ⟨cs, ty, c1, c2, by simpa using c3, c4, c5, (fun hh => absurd hh (by simp)), (fun _ => c7 hb), (fun i row hi => ?_)⟩
        simp only [List.getElem?_map, Option.map_eq_some_iff] at hi
        obtain ⟨row0, hi0, rfl⟩ := hi
        obtain ⟨c9, c10⟩ := c8 i row0 hi0
        refine ⟨by simpa using c9, fun q y0 hq => ?_⟩
        simp only [List.getElem?_map, Option.map_eq_some_iff] at hq
        obtain ⟨y1, hq1, rfl⟩ := hq
        obtain ⟨v1, hv1, hr1⟩ := c10 q y1 hq1
        rw [hb] at hr1
        exact ⟨v1, hv1, rc_unE0 (by simpa using hr1)⟩
      · exact ⟨cs, ty, c1, c2, c3, c4, c5, c6, c7, c8⟩
    · obtain ⟨b1, b2⟩ := a3 hr
      unfold Blk.unE0
      rw [b2]
      exact ⟨b1, b2⟩
  · have hk : mget (r.2.1.map fun p => (p.1, p.2.unE0)) k = some bl := hk
    rw [mget_map, Option.map_eq_some_iff] at hk
    obtain ⟨b0, hb0, _⟩ := hk
    exact inv'.cov k b0 hb0
end Go.Proofs.YtajmdlpanlbnjaaGreatDoor.M

namespace Go.Proofs.YtajmdlpanlbnjaaGreatDoor
open Go Go.RowKit
set_option linter.unusedVariables false
set_option linter.unusedSimpArgs false
set_option maxHeartbeats 1000000

def F.split (s sep : ByteArray) : List ByteArray := Lib.splitB sep 0 (Lib.countB s sep) s

namespace M

end M

def F.dvA (acc : Nat) (l : List UInt8) : Nat := l.foldl (fun a c => a * 10 + (c.toNat - 48)) acc

theorem F.dvA_nil (acc : Nat) : F.dvA acc [] = acc := by unfold F.dvA; exact List.foldl_nil

theorem F.dvA_cons (acc : Nat) (c : UInt8) (r : List UInt8) : F.dvA acc (c :: r) = F.dvA (acc * 10 + (c.toNat - 48)) r := by unfold F.dvA; exact List.foldl_cons ..

def F.dgB (c : UInt8) : Bool := decide (48 ≤ c.toNat) && decide (c.toNat ≤ 57)

def F.dv (s : ByteArray) : Nat := F.dvA 0 (F.bs s)

theorem F.dvA_le : ∀ (l : List UInt8) (acc : Nat), acc ≤ F.dvA acc l
  | [], acc => by rw [F.dvA_nil]; exact Nat.le_refl _
  | c :: r, acc => by
    have := F.dvA_le r (acc * 10 + (c.toNat - 48))
    rw [F.dvA_cons]; omega

theorem F.dvA_app : ∀ (a b : List UInt8) (acc : Nat), F.dvA acc (a ++ b) = F.dvA (F.dvA acc a) b
  | [], b, acc => by rw [F.dvA_nil]; rfl
  | c :: a, b, acc => by rw [List.cons_append, F.dvA_cons, F.dvA_cons, F.dvA_app a b]

theorem F.dvA_acc : ∀ (l : List UInt8) (acc : Nat), F.dvA acc l = acc * 10 ^ l.length + F.dvA 0 l
  | [], acc => by rw [F.dvA_nil, F.dvA_nil, List.length_nil, Nat.pow_zero]; omega
  | c :: r, acc => by
    rw [F.dvA_cons, F.dvA_cons, F.dvA_acc r, F.dvA_acc r (0 * 10 + (c.toNat - 48)), Nat.zero_mul, Nat.zero_add, List.length_cons, Nat.pow_succ, Nat.add_mul, Nat.mul_assoc, Nat.mul_comm 10, Nat.add_assoc]

theorem F.dvA_lt : ∀ (l : List UInt8), l.all F.dgB = true → F.dvA 0 l < 10 ^ l.length
  | [], _ => by rw [F.dvA_nil]; decide
  | c :: r, h => by
    rw [List.all_cons, Bool.and_eq_true] at h
    have hc := h.1
    unfold F.dgB at hc
    simp only [Bool.and_eq_true, decide_eq_true_eq] at hc
    have ih := F.dvA_lt r h.2
    rw [F.dvA_cons, F.dvA_acc, List.length_cons, Nat.pow_succ]
    have : (0 * 10 + (c.toNat - 48)) * 10 ^ r.length ≤ 9 * 10 ^ r.length := Nat.mul_le_mul_right _ (by omega)
    omega

theorem F.pu_dvA : ∀ (l : List UInt8) (acc : Nat), l.all F.dgB = true → F.dvA acc l < 18446744073709551616 → Lib.parseUint10 acc l = .ok (F.dvA acc l)
  | [], acc, _, _ => by rw [F.dvA_nil]; rfl
  | c :: r, acc, h, hb => by
    rw [List.all_cons, Bool.and_eq_true] at h
    have hc := h.1
    unfold F.dgB at hc
    simp only [Bool.and_eq_true, decide_eq_true_eq] at hc
    rw [F.dvA_cons] at hb ⊢
    have := F.dvA_le r (acc * 10 + (c.toNat - 48))
    rw [Lib.parseUint10, if_pos ⟨by omega, by omega⟩, if_neg (by omega), if_neg (by omega), F.pu_dvA r _ h.2 hb]

def F.isD (s : ByteArray) : Bool := (F.bs s).all F.dgB && decide (0 < s.size) && decide (F.dv s ≤ 9223372036854775807)

theorem F.isD_ato {s : ByteArray} (h : F.isD s = true) : Lib.atoiAll s.data.toList = .ok ((F.dv s : Nat) : Int) := by
  unfold F.isD at h
  simp only [Bool.and_eq_true, decide_eq_true_eq] at h
  obtain ⟨⟨h1, h2⟩, h3⟩ := h
  have hl := F.bs_len s
  show Lib.atoiAll (F.bs s) = _
  unfold F.dv at h3 ⊢
  cases hs : F.bs s with
  | nil => rw [hs] at hl; simp at hl; omega
  | cons c r =>
    rw [hs] at h1 h3
    have hc := h1
    rw [List.all_cons, Bool.and_eq_true] at hc
    have hc := hc.1
    unfold F.dgB at hc
    simp only [Bool.and_eq_true, decide_eq_true_eq] at hc
    have hp : Lib.parseMag (c :: r) = .ok (F.dvA 0 (c :: r)) := by
      unfold Lib.parseMag
      rw [if_neg (by simp)]
      exact F.pu_dvA _ 0 h1 (by omega)
    rw [Lib.atoiAll_plain c r (by omega) (by omega), hp]
    unfold Lib.signless
    simp only []
    rw [if_neg (by omega)]

def F.sp : ByteArray := ⟨⟨[32]⟩⟩

def F.kStr : ByteArray := ⟨⟨[35, 83, 84, 82, 69, 65, 77]⟩⟩

def F.wAt (w : List ByteArray) (i : Nat) : ByteArray := w.getD i ⟨#[]⟩

def F.isStr (w : List ByteArray) : Bool := F.seq (F.wAt w 0) F.kStr && decide (w.length = 7)

theorem F.bsx {a b : ByteArray} (h : F.bs a = F.bs b) : a = b := ByteArray.ext (Array.ext' h)

theorem F.bs_app (a b : ByteArray) : F.bs (a ++ b) = F.bs a ++ F.bs b := by simp [F.bs]

theorem F.seq_iff {a b : ByteArray} : F.seq a b = true ↔ a = b := by
  unfold F.seq
  rw [beq_iff_eq, ByteArray.toList_eq, ByteArray.toList_eq]
  exact ⟨fun h => F.bsx h, fun h => by rw [h]⟩

end Go.Proofs.YtajmdlpanlbnjaaGreatDoor

namespace Go.Proofs.YtajmdlpanlbnjaaGreatDoor
open Go Go.RowKit Go.Sort
set_option linter.unusedVariables false
set_option linter.unusedSimpArgs false

def F.itoa (n : Int) : ByteArray := ⟨(Lib.itoa n).toArray⟩

theorem F.itoa_size {n : Int} (h0 : -9223372036854775808 ≤ n) (h1 : n ≤ 9223372036854775807) : (F.itoa n).size ≤ 21 := by
  have := Lib.itoa_length_le n h0 h1
  show (Lib.itoa n).toArray.size ≤ 21
  simpa using this

namespace M

theorem below_grow (w : World) (k : Nat) (os : Array Obj) : Below w.heap.size w (grow (w.drewN k) os) :=
  ⟨rfl, rfl, rfl, by first | (simp [grow]; done) | (simp [grow]; omega), fun i hi => by
    show ((w.drewN k).heap ++ os)[i]? = _
    rw [Array.getElem?_append_left (by show i < w.heap.size; omega)]
    rfl⟩

def encIta1 (n : Int) : List AV := [vI n]

def encIta (a : Int) : List AV := encIta1 a

theorem encIta_inj (a a' : Int) (h : encIta a = encIta a') : a = a' := by
  simp only [encIta, encIta1] at h
  try simp [strs_inj, ents_inj, eEnt_iff, eLst_iff] at h
  grind

theorem unIta (n : Int) : unenc encIta ([(vI n)]) = some (n) := unenc_of encIta_inj (n) rfl

def resIta1 (n : Int) : AV × Heap := (vS (F.itoa n), [])

def preIta1 (n : Int) : Bool := decide (-9223372036854775808 ≤ n) && decide (n ≤ 9223372036854775807)

noncomputable def oIta : Orc := orc 39 true encIta (fun a => preIta1 a) fun a => resIta1 a

theorem okIta : OrcOK Tryz.prog noG oIta := by
  refine orc_ok ⟨Tryz.f39, by kernel_rfl, by kernel_rfl, by kernel_rfl⟩ (fun n hp _ => ?_) (fun _ _ => ⟨rfl, rfl⟩)
  simp only [preIta1, Bool.and_eq_true, decide_eq_true_eq] at hp
  have hz := F.itoa_size hp.1 hp.2
  refine SpecP.below1 (fun w S => rv_mk (by show (F.itoa n).size ≤ 9223372036854775807; omega)) fun _ w S hG => ?_
  have hg := hG 2 ⟨[], fun cs => cs = (Lib.pow10Tab.map fun z => Value.int .u64 z).toArray⟩ rfl
  obtain ⟨cs, ty, o, h1, h2⟩ := hg.cells
  have htab : Lib.TabIs Tryz.prog w "internal/strconv.uint64pow10" .u64 Lib.pow10Tab := by
    have hn : Tryz.prog.globalNamed "internal/strconv.uint64pow10" = some 2 := by kernel_rfl
    simp only [Lib.TabIs, World.var?, hn, Option.bind_some, h1]
    rw [h2]
  refine (Tryz.strconv_Itoa n hp.1 hp.2 w htab).mono ?_
  rintro e w' ⟨he, k, os, rfl⟩
  exact ⟨he, below_grow w k os⟩

end M
end Go.Proofs.YtajmdlpanlbnjaaGreatDoor

namespace Go.Proofs.YtajmdlpanlbnjaaGreatDoor
open Go Go.RowKit
set_option linter.unusedVariables false
set_option linter.unusedSimpArgs false
set_option maxHeartbeats 1000000

theorem F.dd_lt {n : Nat} (h : n < 10) : Lib.decDigits n = [UInt8.ofNat (48 + n)] := by rw [Lib.decDigits, dif_pos h]

theorem F.dd_ge {n : Nat} (h : ¬ n < 10) : Lib.decDigits n = Lib.decDigits (n / 10) ++ [UInt8.ofNat (48 + n % 10)] := by rw [Lib.decDigits, dif_neg h]

theorem F.u8_dg {n : Nat} (h : n < 10) : (UInt8.ofNat (48 + n)).toNat = 48 + n := by rw [UInt8.toNat_ofNat']; omega

theorem F.dd_ok (n : Nat) : (Lib.decDigits n).all F.dgB = true ∧ F.dvA 0 (Lib.decDigits n) = n ∧ Lib.decDigits n ≠ [] := by
  induction n using Nat.strongRecOn with
  | ind n ih =>
    by_cases h : n < 10
    · have hn := F.u8_dg h
      rw [F.dd_lt h]
      refine ⟨?_, ?_, by simp⟩
      · simp only [List.all_cons, List.all_nil, Bool.and_true, F.dgB, hn, Bool.and_eq_true, decide_eq_true_eq]; omega
      · rw [F.dvA_cons, F.dvA_nil, hn]; omega
    · obtain ⟨i1, i2, i3⟩ := ih (n / 10) (by omega)
      have hn := F.u8_dg (n := n % 10) (by omega)
      rw [F.dd_ge h]
      refine ⟨?_, ?_, by simp⟩
      · rw [List.all_append, i1]
        simp only [List.all_cons, List.all_nil, Bool.and_true, F.dgB, hn, Bool.and_eq_true, decide_eq_true_eq, Bool.true_and]; omega
      · rw [F.dvA_app, i2, F.dvA_cons, F.dvA_nil, hn]; omega

theorem F.dd_len : ∀ (k n : Nat), n < 10 ^ (k + 1) → (Lib.decDigits n).length ≤ k + 1
  | 0, n, h => by rw [F.dd_lt (by simpa using h)]; exact Nat.le_refl _
  | k + 1, n, h => by
    by_cases h1 : n < 10
    · rw [F.dd_lt h1, List.length_singleton]; omega
    · have := F.dd_len k (n / 10) (by rw [Nat.pow_succ] at h; omega)
      rw [F.dd_ge h1, List.length_append, List.length_singleton]; omega

theorem F.itoa_n (n : Nat) : F.bs (F.itoa (n : Int)) = Lib.decDigits n := by
  unfold F.bs F.itoa
  rw [Lib.itoa_nonneg]

namespace M

theorem drop_y {α : Type} {l : List α} {k : Nat} {y : α} (h : l[k]? = some y) : l.drop k = y :: l.drop (k + 1) := by
  obtain ⟨h1, rfl⟩ := List.getElem?_eq_some_iff.1 h
  exact List.drop_eq_getElem_cons h1

end M

theorem F.isD_le {s : ByteArray} (h : F.isD s = true) : F.dv s ≤ 9223372036854775807 := by
  unfold F.isD at h
  simp only [Bool.and_eq_true, decide_eq_true_eq] at h
  exact h.2

def F.dot : ByteArray := ⟨⟨[46]⟩⟩

namespace M

def encAto1 (s : ByteArray) : List AV := [vS s]

def encAto (a : ByteArray) : List AV := encAto1 a

theorem encAto_inj (a a' : ByteArray) (h : encAto a = encAto a') : a = a' := by
  simp only [encAto, encAto1] at h
  try simp [strs_inj, ints_inj, ents_inj, eEnt_iff, eLst_iff, eSnds_inj, eStrms_inj] at h
  grind

theorem unAto (s : ByteArray) : unenc encAto ([(vS s)]) = some (s) := unenc_of encAto_inj (s) rfl

def resAto1 (s : ByteArray) : AV × Heap := (.tup [vI (F.dv s : Nat), .v .nilIface], [])

def preAto1 (s : ByteArray) : Bool := F.isD s && decide (s.size ≤ 1000)

noncomputable def oAto : Orc := orc 132 true encAto (fun a => preAto1 a) fun a => resAto1 a

theorem okAto : OrcOK Tryz.prog noG oAto := by
  refine orc_ok ⟨Tryz.f132, by kernel_rfl, by kernel_rfl, by kernel_rfl⟩ (fun s hp _ => ?_) (fun _ _ => ⟨rfl, rfl⟩)
  simp only [preAto1, Bool.and_eq_true, decide_eq_true_eq] at hp
  have h1 := F.isD_ato hp.1
  have h2 := F.isD_le hp.1
  refine SpecP.below1 (rv := .tuple #[.int .i64 (F.dv s : Nat), .nilIface]) (fun w S => ⟨[_, _], rfl, R0.v (by simp only [okAtom, IntKind.min, IntKind.max, IntKind.signed, IntKind.bits]; simp; omega), R0.v trivial, trivial⟩) fun hk w S hG => ?_
  refine (Tryz.strconv_Atoi_ok s (by omega) (F.dv s : Nat) h1 w).mono ?_
  rintro e w' ⟨he, h | ⟨t, h⟩⟩
  · subst h; exact ⟨he, Below.refl _ _⟩
  · subst h; exact ⟨he, Lib.bytesWorld_below w _ _⟩

end M

def F.leap (y : Int) : Bool := bif (bif (y.tmod 4 == 0) then !(y.tmod 100 == 0) else false) then true else y.tmod 400 == 0

def F.mdays (y m : Int) : Int := bif m == 2 then (bif F.leap y then 29 else 28) else bif m == 4 || m == 6 || m == 9 || m == 11 then 30 else 31

def F.ydays (y : Int) : Int := 365 * (y - 1970) + ((y - 1).tdiv 4 - 492) - ((y - 1).tdiv 100 - 19) + ((y - 1).tdiv 400 - 4)

namespace M

theorem evLep (y : Int) : (runF en0 false Tryz.f96 [vI y]).val =
  bif Int.tmod y (4 : Int) == (0 : Int) then bif !Int.tmod y (100 : Int) != (0 : Int) then some ((vB (Int.tmod y (400 : Int) == (0 : Int))), []) else some ((vB true), [])
  else some ((vB (Int.tmod y (400 : Int) == (0 : Int))), []) := (runFR_val).symm.trans (by kernel_rfl)

def encLep1 (y : Int) : List AV := [vI y]

def encLep (a : Int) : List AV := encLep1 a

theorem encLep_inj (a a' : Int) (h : encLep a = encLep a') : a = a' := by
  simp only [encLep, encLep1] at h
  try simp [strs_inj, ints_inj, ents_inj, eEnt_iff, eLst_iff, eSnds_inj, eStrms_inj] at h
  grind

theorem unLep (y : Int) : unenc encLep ([(vI y)]) = some (y) := unenc_of encLep_inj (y) rfl

def resLep1 (y : Int) : AV × Heap := (vB (F.leap y), [])

def preLep1 (y : Int) : Bool := decide (0 ≤ y) && decide (y ≤ 100000)

noncomputable def oLep : Orc := orc 96 true encLep (fun a => preLep1 a) fun a => resLep1 a

theorem okLep : OrcOK Tryz.prog noG oLep := by
  refine mk_ok Tryz.f96 (keep := false) (by kernel_rfl) (by kernel_rfl) en0_ok mixed (no_loops (by kernel_rfl)) (by first | exact fun _ _ => ⟨rfl, rfl⟩ | (intro h; cases h)) ?_
  rintro y hpre hok
  show (runF en0 false _ (encLep1 _)).val = some (resLep1 _)
  unfold encLep1 resLep1
  rw [evLep]
  have hpre : (decide (0 ≤ y) && decide (y ≤ 100000)) = true := hpre
  simp only [Bool.and_eq_true, decide_eq_true_eq] at hpre
  simp only [etaEnt, etaLst, etaSnd, etaStrm, etaMas, Option.bind_some, List.length_map, unStrs, unInts, unBools, unEnts, unItms, unTrns, cond_true, cond_false, Bool.and_true, Bool.true_and, F.leap, bne]
  cases y.tmod 4 == 0 <;> cases y.tmod 100 == 0 <;> rfl

theorem evRLep (y : Int) : (runF en0 false Tryz.f101 [vI y]).val =
  bif Int.tmod y (4 : Int) == (0 : Int) then bif !Int.tmod y (100 : Int) != (0 : Int) then some ((vB (Int.tmod y (400 : Int) == (0 : Int))), []) else some ((vB true), [])
  else some ((vB (Int.tmod y (400 : Int) == (0 : Int))), []) := (runFR_val).symm.trans (by kernel_rfl)

def encRLep1 (y : Int) : List AV := [vI y]

def encRLep (a : Int) : List AV := encRLep1 a

theorem encRLep_inj (a a' : Int) (h : encRLep a = encRLep a') : a = a' := by
  simp only [encRLep, encRLep1] at h
  try simp [strs_inj, ints_inj, ents_inj, eEnt_iff, eLst_iff, eSnds_inj, eStrms_inj] at h
  grind

theorem unRLep (y : Int) : unenc encRLep ([(vI y)]) = some (y) := unenc_of encRLep_inj (y) rfl

def resRLep1 (y : Int) : AV × Heap := (vB (F.leap y), [])

def preRLep1 (y : Int) : Bool := decide (0 ≤ y) && decide (y ≤ 100000)

noncomputable def oRLep : Orc := orc 101 true encRLep (fun a => preRLep1 a) fun a => resRLep1 a

theorem okRLep : OrcOK Tryz.prog noG oRLep := by
  refine mk_ok Tryz.f101 (keep := false) (by kernel_rfl) (by kernel_rfl) en0_ok mixed (no_loops (by kernel_rfl)) (by first | exact fun _ _ => ⟨rfl, rfl⟩ | (intro h; cases h)) ?_
  rintro y hpre hok
  show (runF en0 false _ (encRLep1 _)).val = some (resRLep1 _)
  unfold encRLep1 resRLep1
  rw [evRLep]
  have hpre : (decide (0 ≤ y) && decide (y ≤ 100000)) = true := hpre
  simp only [Bool.and_eq_true, decide_eq_true_eq] at hpre
  simp only [etaEnt, etaLst, etaSnd, etaStrm, etaMas, Option.bind_some, List.length_map, unStrs, unInts, unBools, unEnts, unItms, unTrns, cond_true, cond_false, Bool.and_true, Bool.true_and, F.leap, bne]
  cases y.tmod 4 == 0 <;> cases y.tmod 100 == 0 <;> rfl

noncomputable def enMdy : Env := envH ty noG lks [oLep] [] [] []

theorem enMdy_ok : EnvOK Tryz.prog enMdy := by
  refine envH_ok lks_ok ty_ok ?_ ?_
  · simp only [List.forall_mem_cons]
    exact ⟨okLep, by simp⟩
  · simp

theorem evMdy (y : Int) (m : Int) : (runF enMdy false Tryz.f77 [vI y, vI m]).val =
  bif m == (2 : Int) then Option.bind (unenc encLep [(vI y)]) fun (z : Int) => bif decide ((0 : Int) ≤ z) && decide (z ≤ (100000 : Int)) then bif F.leap z then some ((vI (29
  : Int)), []) else some ((vI (28 : Int)), []) else none else bif m == (4 : Int) then bif m == (4 : Int) then some ((vI (30 : Int)), []) else some ((vI (31 : Int)), []) else
  bif m == (6 : Int) then bif m == (6 : Int) then some ((vI (30 : Int)), []) else some ((vI (31 : Int)), []) else bif m == (9 : Int) then bif m == (9 : Int) then some ((vI
  (30 : Int)), []) else some ((vI (31 : Int)), []) else bif m == (11 : Int) then some ((vI (30 : Int)), []) else some ((vI (31 : Int)), []) := (runFR_val).symm.trans (by kernel_rfl)

def encMdy1 (y : Int) (m : Int) : List AV := [vI y, vI m]

def encMdy (a : Int × Int) : List AV := encMdy1 a.1 a.2

theorem encMdy_inj (a a' : Int × Int) (h : encMdy a = encMdy a') : a = a' := by
  simp only [encMdy, encMdy1] at h
  try simp [strs_inj, ints_inj, ents_inj, eEnt_iff, eLst_iff, eSnds_inj, eStrms_inj] at h
  grind

theorem unMdy (y : Int) (m : Int) : unenc encMdy ([(vI y), (vI m)]) = some (y, m) := unenc_of encMdy_inj (y, m) rfl

def resMdy1 (y : Int) (m : Int) : AV × Heap := (vI (F.mdays y m), [])

def preMdy1 (y : Int) (m : Int) : Bool := decide (0 ≤ y) && decide (y ≤ 100000)

noncomputable def oMdy : Orc := orc 77 true encMdy (fun a => preMdy1 a.1 a.2) fun a => resMdy1 a.1 a.2

theorem okMdy : OrcOK Tryz.prog noG oMdy := by
  refine mk_ok Tryz.f77 (keep := false) (by kernel_rfl) (by kernel_rfl) enMdy_ok mixed (no_loops (by kernel_rfl)) (by first | exact fun _ _ => ⟨rfl, rfl⟩ | (intro h; cases h)) ?_
  rintro ⟨y, m⟩ hpre hok
  show (runF enMdy false _ (encMdy1 _ _)).val = some (resMdy1 _ _)
  unfold encMdy1 resMdy1
  rw [evMdy]
  have hpre : (decide (0 ≤ y) && decide (y ≤ 100000)) = true := hpre
  rw [Bool.and_eq_true] at hpre
  simp only [unLep, preLep1, etaEnt, etaLst, etaSnd, etaStrm, etaMas, Option.bind_some, List.length_map, unStrs, unInts, unBools, unEnts, unItms, unTrns, cond_true, cond_false, Bool.and_true, Bool.true_and, F.mdays, hpre.1, hpre.2]
  cases m == 2 <;> cases m == 4 <;> cases m == 6 <;> cases m == 9 <;> cases m == 11 <;> cases F.leap y <;> rfl

noncomputable def enRDy : Env := envH ty noG lks [oRLep] [] [] []

theorem enRDy_ok : EnvOK Tryz.prog enRDy := by
  refine envH_ok lks_ok ty_ok ?_ ?_
  · simp only [List.forall_mem_cons]
    exact ⟨okRLep, by simp⟩
  · simp

theorem evRDy (y : Int) (m : Int) : (runF enRDy false Tryz.f102 [vI y, vI m]).val =
  bif m == (2 : Int) then Option.bind (unenc encRLep [(vI y)]) fun (z : Int) => bif decide ((0 : Int) ≤ z) && decide (z ≤ (100000 : Int)) then bif F.leap z then some ((vI
  (29 : Int)), []) else some ((vI (28 : Int)), []) else none else bif m == (4 : Int) then bif m == (4 : Int) then some ((vI (30 : Int)), []) else some ((vI (31 : Int)), [])
  else bif m == (6 : Int) then bif m == (6 : Int) then some ((vI (30 : Int)), []) else some ((vI (31 : Int)), []) else bif m == (9 : Int) then bif m == (9 : Int) then some
  ((vI (30 : Int)), []) else some ((vI (31 : Int)), []) else bif m == (11 : Int) then some ((vI (30 : Int)), []) else some ((vI (31 : Int)), []) := (runFR_val).symm.trans (by kernel_rfl)

def encRDy1 (y : Int) (m : Int) : List AV := [vI y, vI m]

def encRDy (a : Int × Int) : List AV := encRDy1 a.1 a.2

theorem encRDy_inj (a a' : Int × Int) (h : encRDy a = encRDy a') : a = a' := by
  simp only [encRDy, encRDy1] at h
  try simp [strs_inj, ints_inj, ents_inj, eEnt_iff, eLst_iff, eSnds_inj, eStrms_inj] at h
  grind

theorem unRDy (y : Int) (m : Int) : unenc encRDy ([(vI y), (vI m)]) = some (y, m) := unenc_of encRDy_inj (y, m) rfl

def resRDy1 (y : Int) (m : Int) : AV × Heap := (vI (F.mdays y m), [])

def preRDy1 (y : Int) (m : Int) : Bool := decide (0 ≤ y) && decide (y ≤ 100000)

noncomputable def oRDy : Orc := orc 102 true encRDy (fun a => preRDy1 a.1 a.2) fun a => resRDy1 a.1 a.2

theorem okRDy : OrcOK Tryz.prog noG oRDy := by
  refine mk_ok Tryz.f102 (keep := false) (by kernel_rfl) (by kernel_rfl) enRDy_ok mixed (no_loops (by kernel_rfl)) (by first | exact fun _ _ => ⟨rfl, rfl⟩ | (intro h; cases h)) ?_
  rintro ⟨y, m⟩ hpre hok
  show (runF enRDy false _ (encRDy1 _ _)).val = some (resRDy1 _ _)
  unfold encRDy1 resRDy1
  rw [evRDy]
  have hpre : (decide (0 ≤ y) && decide (y ≤ 100000)) = true := hpre
  rw [Bool.and_eq_true] at hpre
  simp only [unRLep, preRLep1, etaEnt, etaLst, etaSnd, etaStrm, etaMas, Option.bind_some, List.length_map, unStrs, unInts, unBools, unEnts, unItms, unTrns, cond_true, cond_false, Bool.and_true, Bool.true_and, F.mdays, hpre.1, hpre.2]
  cases m == 2 <;> cases m == 4 <;> cases m == 6 <;> cases m == 9 <;> cases m == 11 <;> cases F.leap y <;> rfl

end M

namespace M

end M

namespace M

end M

def F.dForm : ByteArray := ⟨⟨[48, 48, 48, 48, 45, 48, 48, 45, 48, 48, 84, 48, 48, 58, 48, 48, 58, 48, 48, 46, 48, 48, 48, 90]⟩⟩

def F.dfB (c f : UInt8) : Bool := bif decide (f = 48) then F.dgB c else decide (c = f)

def F.dfP (s : ByteArray) : List (UInt8 × UInt8) := (F.bs s).zip (F.bs F.dForm)

def F.dfA (s : ByteArray) : Bool := (F.dfP s).all fun p => F.dfB p.1 p.2

def F.msum (y : Int) : Nat → Nat → Int
  | 0, _ => 0
  | n + 1, j => F.mdays y j + F.msum y n (j + 1)

theorem F.mdays_b (y m : Int) : 28 ≤ F.mdays y m ∧ F.mdays y m ≤ 31 := by
  unfold F.mdays
  cases m == 2 <;> cases F.leap y <;> cases m == 4 <;> cases m == 6 <;> cases m == 9 <;> cases m == 11 <;> decide

namespace M

end M

def F.dN (s : ByteArray) (a b : Nat) : Nat := F.dv (s.extract a b)

def F.dtB (y m d h i e : Int) : Bool := !(decide (y < 1970) || F.out m 1 12 || F.out d 1 (F.mdays y m) || decide (23 < h) || decide (59 < i) || decide (59 < e))

def F.dtOk (s : ByteArray) : Bool := decide (s.size = 24) && F.dfA s && F.dtB (F.dN s 0 4) (F.dN s 5 7) (F.dN s 8 10) (F.dN s 11 13) (F.dN s 14 16) (F.dN s 17 19)

def F.dtV (s : ByteArray) : Int := bif F.dtOk s then (F.ydays (F.dN s 0 4) + (F.dN s 8 10 : Nat) - 1 + F.msum (F.dN s 0 4) (F.dN s 5 7 - 1) 1) * 86400000 + (F.dN s 11 13 : Nat) * 3600000 + (F.dN s 14 16 : Nat) * 60000 + (F.dN s 17 19 : Nat) * 1000 + (F.dN s 20 23 : Nat) else 0

theorem F.sub_bs (s : ByteArray) (a b : Nat) : F.bs (s.extract a b) = ((F.bs s).drop a).take (b - a) := Lib.extract_data s a b

theorem F.msum_b (y : Int) : ∀ (n j : Nat), 0 ≤ F.msum y n j ∧ F.msum y n j ≤ 31 * n
  | 0, j => by simp [F.msum]
  | n + 1, j => by
    have h1 := F.mdays_b y j
    have h2 := F.msum_b y n (j + 1)
    rw [F.msum]
    omega

set_option maxHeartbeats 1000000

namespace M

end M

theorem F.ydays_one {y : Int} (h : 1 ≤ y) : F.ydays (y + 1) = F.ydays y + 365 + (bif F.leap y then 1 else 0) := by
  unfold F.ydays F.leap
  rw [show y + 1 - 1 = y by omega]
  simp only [Int.tdiv_eq_ediv_of_nonneg (show 0 ≤ y by omega), Int.tdiv_eq_ediv_of_nonneg (show 0 ≤ y - 1 by omega), Int.tmod_eq_emod_of_nonneg (show 0 ≤ y by omega)]
  have e : ∀ a : Int, (a == 0) = decide (a = 0) := fun a => by by_cases h : a = 0 <;> simp [h]
  simp only [e]
  by_cases h1 : y % 4 = 0 <;> by_cases h2 : y % 100 = 0 <;> by_cases h3 : y % 400 = 0 <;> simp only [h1, h2, h3, decide_true, decide_false, cond_true, cond_false, Bool.not_true, Bool.not_false] <;> omega

def F.ysum : Nat → Int → Int
  | 0, _ => 0
  | n + 1, y => 365 + (bif F.leap y then 1 else 0) + F.ysum n (y + 1)

theorem F.ysum_eq : ∀ (n : Nat) (y : Int), 1 ≤ y → F.ydays (y + n) = F.ydays y + F.ysum n y
  | 0, y, _ => by simp [F.ysum]
  | n + 1, y, h => by
    have h1 := F.ysum_eq n (y + 1) (by omega)
    have h2 := F.ydays_one h
    rw [F.ysum]
    rw [show y + ((n + 1 : Nat) : Int) = y + 1 + (n : Int) by omega, h1, h2]
    omega

theorem F.ydays_0 : F.ydays 1970 = 0 := by decide

theorem F.ysum_b : ∀ (n : Nat) (y : Int), 0 ≤ F.ysum n y ∧ F.ysum n y ≤ 366 * n
  | 0, y => by simp [F.ysum]
  | n + 1, y => by
    have h2 := F.ysum_b n (y + 1)
    rw [F.ysum]
    cases F.leap y
    · rw [cond_false]; omega
    · rw [cond_true]; omega

def F.zrs (k : Nat) : ByteArray := ⟨⟨List.replicate k 48⟩⟩

def F.pad (n : Int) (many : Nat) : ByteArray := F.zrs (many - (F.itoa n).size) ++ F.itoa n

theorem F.bs_zrs (k : Nat) : F.bs (F.zrs k) = List.replicate k 48 := rfl

theorem F.zrs_size (k : Nat) : (F.zrs k).size = k := by rw [← F.bs_len, F.bs_zrs, List.length_replicate]

theorem F.zrs_zero : F.zrs 0 = ⟨⟨[]⟩⟩ := rfl

theorem F.zrs_succ (k : Nat) (s : ByteArray) : F.zrs (k + 1) ++ s = F.zrs k ++ ((⟨⟨[48]⟩⟩ : ByteArray) ++ s) := by
  apply F.bsx
  rw [F.bs_app, F.bs_app, F.bs_app, F.bs_zrs, F.bs_zrs, List.replicate_succ', List.append_assoc]
  rfl

theorem F.bs_pad (k many : Nat) : F.bs (F.pad (k : Int) many) = List.replicate (many - (Lib.decDigits k).length) 48 ++ Lib.decDigits k := by
  unfold F.pad
  rw [F.bs_app, F.bs_zrs, F.itoa_n, ← F.bs_len, F.itoa_n]

theorem F.dvA_rep (k : Nat) (l : List UInt8) : F.dvA 0 (List.replicate k 48 ++ l) = F.dvA 0 l := by
  induction k with
  | zero => rfl
  | succ k ih =>
    rw [List.replicate_succ, List.cons_append, F.dvA_cons]
    exact ih

theorem F.pad_ok {k many : Nat} (h : k < 10 ^ many) (hm : 1 ≤ many) : (F.bs (F.pad (k : Int) many)).length = many ∧ (F.bs (F.pad (k : Int) many)).all F.dgB = true ∧ F.dvA 0 (F.bs (F.pad (k : Int) many)) = k := by
  obtain ⟨j, rfl⟩ : ∃ j, many = j + 1 := ⟨many - 1, by omega⟩
  obtain ⟨d1, d2, d3⟩ := F.dd_ok k
  have d4 := F.dd_len j k h
  rw [F.bs_pad]
  refine ⟨?_, ?_, ?_⟩
  · rw [List.length_append, List.length_replicate]; omega
  · rw [List.all_append, d1, Bool.and_true, List.all_eq_true]
    intro x hx
    rw [(List.mem_replicate.1 hx).2]
    rfl
  · rw [F.dvA_rep, d2]

theorem F.dv_inj : ∀ (k : Nat) (l l' : List UInt8), l.length = k → l'.length = k → l.all F.dgB = true → l'.all F.dgB = true → F.dvA 0 l = F.dvA 0 l' → l = l'
  | 0, l, l', h, h', _, _, _ => by rw [List.length_eq_zero_iff.1 h, List.length_eq_zero_iff.1 h']
  | k + 1, l, l', h, h', h1, h2, hv => by
    have n0 : l ≠ [] := fun e => by rw [e] at h; simp at h
    have n1 : l' ≠ [] := fun e => by rw [e] at h'; simp at h'
    obtain ⟨q, c, rfl⟩ : ∃ q c, l = q ++ [c] := ⟨l.dropLast, l.getLast n0, (List.dropLast_concat_getLast n0).symm⟩
    obtain ⟨m, d, rfl⟩ : ∃ m d, l' = m ++ [d] := ⟨l'.dropLast, l'.getLast n1, (List.dropLast_concat_getLast n1).symm⟩
    rw [List.all_append, Bool.and_eq_true] at h1 h2
    have hc := h1.2
    have hd := h2.2
    simp only [List.all_cons, List.all_nil, Bool.and_true, F.dgB, Bool.and_eq_true, decide_eq_true_eq] at hc hd
    rw [F.dvA_app, F.dvA_app, F.dvA_cons, F.dvA_cons, F.dvA_nil, F.dvA_nil] at hv
    rw [F.dv_inj k q m (by simpa using h) (by simpa using h') h1.1 h2.1 (by omega)]
    have : c = d := UInt8.toNat_inj.1 (by omega)
    rw [this]

def F.yrL : Nat → Int → Int → Int
  | 0, _, y => y
  | k + 1, d, y => bif decide (F.ydays (y + 1) ≤ d) then F.yrL k d (y + 1) else y

def F.moL : Nat → Int → Int → Int → Int × Int
  | 0, _, d, m => (m, d)
  | k + 1, y, d, m => bif decide (F.mdays y m ≤ d) then F.moL k y (d - F.mdays y m) (m + 1) else (m, d)

def F.dash1 : ByteArray := ⟨⟨[45]⟩⟩

def F.tee : ByteArray := ⟨⟨[84]⟩⟩

def F.colon : ByteArray := ⟨⟨[58]⟩⟩

def F.zed : ByteArray := ⟨⟨[90]⟩⟩

def F.dtP (y m d r : Int) : ByteArray :=
  F.pad y 4 ++ F.dash1 ++ F.pad m 2 ++ F.dash1 ++ F.pad d 2 ++ F.tee ++ F.pad (r.tdiv 3600000) 2 ++ F.colon ++ F.pad ((r.tdiv 60000).tmod 60) 2 ++ F.colon ++ F.pad ((r.tdiv 1000).tmod 60) 2 ++ F.dot ++ F.pad (r.tmod 1000) 3 ++ F.zed

def F.dtY (days : Int) : Int := F.yrL 10000 days (1970 + days.tdiv 366)

def F.dtM (days : Int) : Int × Int := F.moL 20 (F.dtY days) (days - F.ydays (F.dtY days)) 1

def F.dtS (n : Int) : ByteArray := F.dtP (F.dtY (n.tdiv 86400000)) (F.dtM (n.tdiv 86400000)).1 ((F.dtM (n.tdiv 86400000)).2 + 1) (n.tmod 86400000)

theorem F.ydays_mono {a b : Int} (h1 : 1 ≤ a) (h : a ≤ b) : F.ydays a ≤ F.ydays b := by
  have h2 := F.ysum_eq (b - a).toNat a h1
  have h3 := F.ysum_b (b - a).toNat a
  rw [show a + ((b - a).toNat : Nat) = b by omega] at h2
  omega

theorem F.ydays_up {a : Int} (h1 : 1 ≤ a) : F.ydays (a + 1) = F.ydays a + 365 + (bif F.leap a then 1 else 0) := by
  have h2 := F.ysum_eq 1 a h1
  rw [show a + ((1 : Nat) : Int) = a + 1 from rfl] at h2
  rw [h2]
  simp only [F.ysum]
  omega

theorem F.yrL_eq {Y d : Int} (hd1 : F.ydays Y ≤ d) (hd2 : d < F.ydays (Y + 1)) : ∀ (k : Nat) (y : Int), 1 ≤ y → y ≤ Y → Y - y ≤ k → F.yrL k d y = Y
  | 0, y, _, h2, h3 => by
    show y = Y
    omega
  | k + 1, y, h1, h2, h3 => by
    rw [F.yrL]
    by_cases hc : F.ydays (y + 1) ≤ d
    · rw [decide_eq_true hc, cond_true]
      have hne : y ≠ Y := fun e => by rw [e] at hc; omega
      exact F.yrL_eq hd1 hd2 k (y + 1) (by omega) (by omega) (by omega)
    · rw [decide_eq_false hc, cond_false]
      by_cases hy : y = Y
      · exact hy
      · have := F.ydays_mono (a := y + 1) (b := Y) (by omega) (by omega)
        omega

theorem F.yrL_ok {d : Int} : ∀ (k : Nat) (y : Int), 1 ≤ y → F.ydays y ≤ d → d < F.ydays (y + k + 1) → F.ydays (F.yrL k d y) ≤ d ∧ d < F.ydays (F.yrL k d y + 1) ∧ y ≤ F.yrL k d y
  | 0, y, h1, h2, h3 => ⟨h2, (by show d < F.ydays (y + 1); rw [show y + ((0 : Nat) : Int) + 1 = y + 1 by omega] at h3; exact h3), Int.le_refl _⟩
  | k + 1, y, h1, h2, h3 => by
    rw [F.yrL]
    by_cases hc : F.ydays (y + 1) ≤ d
    · rw [decide_eq_true hc, cond_true]
      obtain ⟨i1, i2, i3⟩ := F.yrL_ok k (y + 1) (by omega) hc (by rw [show y + 1 + (k : Int) + 1 = y + ((k + 1 : Nat) : Int) + 1 by omega]; exact h3)
      exact ⟨i1, i2, by omega⟩
    · rw [decide_eq_false hc, cond_false]
      exact ⟨h2, by omega, Int.le_refl _⟩

theorem F.moL_eq (y : Int) : ∀ (j k m : Nat) (D : Int), j ≤ k → 0 ≤ D → D < F.mdays y ((m + j : Nat) : Int) → F.moL k y (F.msum y j m + D) m = (((m + j : Nat) : Int), D)
  | 0, 0, m, D, _, _, _ => by
    show ((m : Int), F.msum y 0 m + D) = _
    rw [F.msum, Int.zero_add, Nat.add_zero]
  | 0, k + 1, m, D, _, h1, h2 => by
    rw [F.moL, F.msum, Int.zero_add]
    rw [Nat.add_zero] at h2 ⊢
    rw [decide_eq_false (by omega), cond_false]
  | j + 1, 0, m, D, h, _, _ => by omega
  | j + 1, k + 1, m, D, h, h1, h2 => by
    have hb := F.msum_b y j (m + 1)
    rw [F.moL, F.msum, decide_eq_true (by omega), cond_true, show F.mdays y m + F.msum y j (m + 1) + D - F.mdays y m = F.msum y j (m + 1) + D by omega, show ((m : Nat) : Int) + 1 = ((m + 1 : Nat) : Int) from rfl]
    rw [F.moL_eq y j k (m + 1) D (by omega) h1 (by rw [show m + 1 + j = m + (j + 1) by omega]; exact h2), show m + 1 + j = m + (j + 1) by omega]

theorem F.moL_ok (y : Int) : ∀ (j k m : Nat) (d : Int), j ≤ k → 0 ≤ d → d < F.msum y j m → ∃ i : Nat, i < j ∧ ∃ D : Int, 0 ≤ D ∧ D < F.mdays y ((m + i : Nat) : Int) ∧ d = F.msum y i m + D ∧ F.moL k y d m = (((m + i : Nat) : Int), D)
  | 0, k, m, d, _, h1, h2 => by
    rw [F.msum] at h2; omega
  | j + 1, 0, m, d, h, _, _ => by omega
  | j + 1, k + 1, m, d, h, h1, h2 => by
    rw [F.msum] at h2
    by_cases hc : F.mdays y m ≤ d
    · obtain ⟨i, i1, D, i2, i3, i4, i5⟩ := F.moL_ok y j k (m + 1) (d - F.mdays y m) (by omega) (by omega) (by omega)
      refine ⟨i + 1, by omega, D, i2, by rw [show m + (i + 1) = m + 1 + i by omega]; exact i3, by rw [F.msum]; omega, ?_⟩
      rw [F.moL, decide_eq_true hc, cond_true, show ((m : Nat) : Int) + 1 = ((m + 1 : Nat) : Int) from rfl, i5, show m + (i + 1) = m + 1 + i by omega]
    · refine ⟨0, by omega, d, h1, by rw [Nat.add_zero]; omega, by rw [F.msum]; omega, ?_⟩
      rw [F.moL, decide_eq_false hc, cond_false, Nat.add_zero]

theorem F.msum_12 (y : Int) : F.msum y 12 1 = 365 + (bif F.leap y then 1 else 0) := by
  simp only [F.msum, F.mdays]
  cases F.leap y <;> rfl

theorem F.sub_of' (y : Int) (h : 1970 ≤ y) : F.ydays y = F.ysum (y - 1970).toNat 1970 := by
  have := F.ysum_eq (y - 1970).toNat 1970 (by omega)
  rw [F.ydays_0, show (1970 : Int) + ((y - 1970).toNat : Nat) = y by omega] at this
  omega

theorem F.ydays_366 {y : Int} (h : 1970 ≤ y) : F.ydays y ≤ 366 * (y - 1970) := by
  have h1 := F.sub_of' y h
  have h2 := F.ysum_b (y - 1970).toNat 1970
  omega

def F.dayN (Y : Int) (M D : Nat) : Int := F.ydays Y + (D : Int) - 1 + F.msum Y (M - 1) 1

theorem F.dt_find {Y : Int} {M D : Nat} (h1 : 1970 ≤ Y) (h2 : Y ≤ 9999) (h3 : 1 ≤ M) (h4 : M ≤ 12) (h5 : 1 ≤ D) (h6 : (D : Int) ≤ F.mdays Y M) :
    F.dtY (F.dayN Y M D) = Y ∧ F.dtM (F.dayN Y M D) = ((M : Int), (D : Int) - 1) ∧ 0 ≤ F.dayN Y M D := by
  have hb := F.msum_b Y (M - 1) 1
  have hy := F.ydays_mono (a := 1970) (b := Y) (by omega) h1
  rw [F.ydays_0] at hy
  have hlt : F.msum Y (M - 1) 1 + (D : Int) ≤ F.msum Y 12 1 := by
    have hs : ∀ (a b j : Nat), F.msum Y (a + b) j = F.msum Y a j + F.msum Y b (j + a) := by
      intro a
      induction a with
      | zero => intro b j; rw [Nat.zero_add, F.msum]; simp
      | succ a ih => intro b j; rw [show a + 1 + b = a + b + 1 by omega, F.msum, F.msum, ih, show j + 1 + a = j + (a + 1) by omega]; omega
    have h7 := hs (M - 1) (12 - (M - 1)) 1
    have h9 : F.msum Y ((12 - M) + 1) M = F.mdays Y M + F.msum Y (12 - M) (M + 1) := rfl
    rw [show M - 1 + (12 - (M - 1)) = 12 by omega, show 12 - (M - 1) = (12 - M) + 1 by omega, show 1 + (M - 1) = M by omega, h9] at h7
    have h8 := F.msum_b Y (12 - M) (M + 1)
    omega
  rw [F.msum_12] at hlt
  have hup := F.ydays_up (a := Y) (by omega)
  have e0 : 0 ≤ F.dayN Y M D := by unfold F.dayN; omega
  have e1 : F.ydays Y ≤ F.dayN Y M D := by unfold F.dayN; omega
  have e2 : F.dayN Y M D < F.ydays (Y + 1) := by unfold F.dayN; omega
  have e3 : 1970 + (F.dayN Y M D).tdiv 366 ≤ Y := by
    have := F.ydays_366 (y := Y + 1) (by omega)
    rw [Int.tdiv_eq_ediv_of_nonneg e0]
    omega
  have hY : F.dtY (F.dayN Y M D) = Y := by
    unfold F.dtY
    refine F.yrL_eq e1 e2 10000 _ ?_ e3 ?_
    · rw [Int.tdiv_eq_ediv_of_nonneg e0]; omega
    · rw [Int.tdiv_eq_ediv_of_nonneg e0]; omega
  refine ⟨hY, ?_, e0⟩
  unfold F.dtM
  rw [hY, show F.dayN Y M D - F.ydays Y = F.msum Y (M - 1) 1 + ((D : Int) - 1) by unfold F.dayN; omega]
  have := F.moL_eq Y (M - 1) 20 1 ((D : Int) - 1) (by omega) (by omega) (by rw [show 1 + (M - 1) = M by omega]; omega)
  rw [show ((1 : Nat) : Int) = 1 from rfl, show 1 + (M - 1) = M by omega] at this
  exact this

theorem F.dt_has {d : Int} (h1 : 0 ≤ d) (h2 : d ≤ 2932896) : ∃ (Y : Int) (M D : Nat), 1970 ≤ Y ∧ Y ≤ 9999 ∧ 1 ≤ M ∧ M ≤ 12 ∧ 1 ≤ D ∧ (D : Int) ≤ F.mdays Y M ∧ d = F.dayN Y M D := by
  have y4 : F.ydays 10000 = 2932897 := by decide
  have hq : 0 ≤ d / 366 := by omega
  obtain ⟨i1, i2, i3⟩ := F.yrL_ok (d := d) 10000 (1970 + d / 366) (by omega) (by have := F.ydays_366 (y := 1970 + d / 366) (by omega); omega) (by
    have := F.ydays_mono (a := 10000) (b := 1970 + d / 366 + ((10000 : Nat) : Int) + 1) (by omega) (by omega)
    omega)
  generalize F.yrL 10000 d (1970 + d / 366) = Y at i1 i2 i3
  have hY : Y ≤ 9999 := by
    by_cases h : Y ≤ 9999
    · exact h
    · have := F.ydays_mono (a := 10000) (b := Y) (by omega) (by omega)
      omega
  have hup := F.ydays_up (a := Y) (by omega)
  obtain ⟨i, j1, D, j2, j3, j4, _⟩ := F.moL_ok Y 12 20 1 (d - F.ydays Y) (by omega) (by omega) (by rw [F.msum_12]; omega)
  refine ⟨Y, 1 + i, D.toNat + 1, by omega, hY, by omega, by omega, by omega, by omega, ?_⟩
  unfold F.dayN
  rw [show 1 + i - 1 = i by omega]
  omega

end Go.Proofs.YtajmdlpanlbnjaaGreatDoor

namespace Go.Proofs.YtajmdlpanlbnjaaGreatDoor
open Go Go.RowKit
set_option linter.unusedVariables false
set_option linter.unusedSimpArgs false
set_option maxHeartbeats 2000000
set_option maxRecDepth 100000

theorem F.l2 {α : Type} {l : List α} (h : l.length = 2) : ∃ x y, l = [x, y] := by
  obtain ⟨x, l0, h0⟩ := List.exists_cons_of_length_eq_add_one (l := l) (n := 1) h
  rw [h0] at h
  obtain ⟨y, l1, h1⟩ := List.exists_cons_of_length_eq_add_one (l := l0) (n := 0) (by simpa using h)
  rw [h1] at h
  have h2 : l1 = [] := List.length_eq_zero_iff.1 (by simpa using h)
  exact ⟨x, y, by rw [h0, h1, h2]⟩

theorem F.l3 {α : Type} {l : List α} (h : l.length = 3) : ∃ x y z, l = [x, y, z] := by
  obtain ⟨x, l0, h0⟩ := List.exists_cons_of_length_eq_add_one (l := l) (n := 2) h
  rw [h0] at h
  obtain ⟨y, z, h1⟩ := F.l2 (l := l0) (by simpa using h)
  exact ⟨x, y, z, by rw [h0, h1]⟩

theorem F.l4 {α : Type} {l : List α} (h : l.length = 4) : ∃ x y z w, l = [x, y, z, w] := by
  obtain ⟨x, l0, h0⟩ := List.exists_cons_of_length_eq_add_one (l := l) (n := 3) h
  rw [h0] at h
  obtain ⟨y, z, w, h1⟩ := F.l3 (l := l0) (by simpa using h)
  exact ⟨x, y, z, w, by rw [h0, h1]⟩

def F.dtQ (a b c d e f g : ByteArray) : ByteArray := a ++ F.dash1 ++ b ++ F.dash1 ++ c ++ F.tee ++ d ++ F.colon ++ e ++ F.colon ++ f ++ F.dot ++ g ++ F.zed

theorem F.bs_dtQ (a b c d e f g : ByteArray) : F.bs (F.dtQ a b c d e f g) = F.bs a ++ 45 :: (F.bs b ++ 45 :: (F.bs c ++ 84 :: (F.bs d ++ 58 :: (F.bs e ++ 58 :: (F.bs f ++ 46 :: (F.bs g ++ [90])))))) := by
  unfold F.dtQ
  simp only [F.bs_app, List.append_assoc, show F.bs F.dash1 = [45] from rfl, show F.bs F.tee = [84] from rfl, show F.bs F.colon = [58] from rfl, show F.bs F.dot = [46] from rfl, show F.bs F.zed = [90] from rfl, List.singleton_append, List.cons_append, List.nil_append]

theorem F.cut_at' {s : ByteArray} {l : List UInt8} (h : F.bs s = l) (a b : Nat) {x : ByteArray} (hx : F.bs x = (l.drop a).take (b - a)) : s.extract a b = x := by
  apply F.bsx
  rw [F.sub_bs, h, hx]

theorem F.dtQ_of {a b c d e f g : ByteArray} (ha : (F.bs a).length = 4) (hb : (F.bs b).length = 2) (hc : (F.bs c).length = 2) (hd : (F.bs d).length = 2) (he : (F.bs e).length = 2) (hf : (F.bs f).length = 2) (hg : (F.bs g).length = 3)
    (da : (F.bs a).all F.dgB = true) (db : (F.bs b).all F.dgB = true) (dc : (F.bs c).all F.dgB = true) (dd : (F.bs d).all F.dgB = true) (de : (F.bs e).all F.dgB = true) (df : (F.bs f).all F.dgB = true) (dg : (F.bs g).all F.dgB = true) :
    (F.dtQ a b c d e f g).size = 24 ∧ F.dfA (F.dtQ a b c d e f g) = true ∧ (F.dtQ a b c d e f g).extract 0 4 = a ∧ (F.dtQ a b c d e f g).extract 5 7 = b ∧ (F.dtQ a b c d e f g).extract 8 10 = c ∧ (F.dtQ a b c d e f g).extract 11 13 = d ∧ (F.dtQ a b c d e f g).extract 14 16 = e ∧ (F.dtQ a b c d e f g).extract 17 19 = f ∧ (F.dtQ a b c d e f g).extract 20 23 = g := by
  have hv := F.bs_dtQ a b c d e f g
  obtain ⟨a0, a1, a2, a3, ea⟩ := F.l4 ha
  obtain ⟨b0, b1, eb⟩ := F.l2 hb
  obtain ⟨c0, c1, ec⟩ := F.l2 hc
  obtain ⟨d0, d1, ed⟩ := F.l2 hd
  obtain ⟨e0, e1, ee⟩ := F.l2 he
  obtain ⟨f0, f1, ef⟩ := F.l2 hf
  obtain ⟨g0, g1, g2, eg⟩ := F.l3 hg
  rw [ea, eb, ec, ed, ee, ef, eg] at hv
  rw [ea] at da
  rw [eb] at db
  rw [ec] at dc
  rw [ed] at dd
  rw [ee] at de
  rw [ef] at df
  rw [eg] at dg
  simp only [List.all_cons, List.all_nil, Bool.and_true, Bool.and_eq_true] at da db dc dd de df dg
  refine ⟨?_, ?_, F.cut_at' hv _ _ (by rw [ea]; rfl), F.cut_at' hv _ _ (by rw [eb]; rfl), F.cut_at' hv _ _ (by rw [ec]; rfl), F.cut_at' hv _ _ (by rw [ed]; rfl), F.cut_at' hv _ _ (by rw [ee]; rfl), F.cut_at' hv _ _ (by rw [ef]; rfl), F.cut_at' hv _ _ (by rw [eg]; rfl)⟩
  · rw [← F.bs_len, hv]; rfl
  · unfold F.dfA F.dfP
    rw [hv]
    have hfm : F.bs F.dForm = [48, 48, 48, 48, 45, 48, 48, 45, 48, 48, 84, 48, 48, 58, 48, 48, 58, 48, 48, 46, 48, 48, 48, 90] := rfl
    rw [hfm]
    simp only [List.cons_append, List.nil_append, List.zip_cons_cons, List.zip_nil_left, List.all_cons, List.all_nil, F.dfB, (by decide : decide ((48 : UInt8) = 48) = true), (by decide : decide ((45 : UInt8) = 48) = false), (by decide : decide ((84 : UInt8) = 48) = false), (by decide : decide ((58 : UInt8) = 48) = false), (by decide : decide ((46 : UInt8) = 48) = false), (by decide : decide ((90 : UInt8) = 48) = false), cond_true, cond_false,
      da, db, dc, dd, de, df, dg, decide_true, Bool.and_self]

theorem F.dtS_q (n : Nat) : F.dtS (n : Int) = F.dtQ (F.pad (F.dtY ((n / 86400000 : Nat) : Int)) 4) (F.pad (F.dtM ((n / 86400000 : Nat) : Int)).1 2) (F.pad ((F.dtM ((n / 86400000 : Nat) : Int)).2 + 1) 2) (F.pad ((n % 86400000 / 3600000 : Nat) : Int) 2) (F.pad ((n % 86400000 / 60000 % 60 : Nat) : Int) 2) (F.pad ((n % 86400000 / 1000 % 60 : Nat) : Int) 2) (F.pad ((n % 86400000 % 1000 : Nat) : Int) 3) := rfl

theorem F.dtS_ok {n : Nat} (h : n ≤ 253402300799999) : F.dtOk (F.dtS (n : Int)) = true ∧ F.dtV (F.dtS (n : Int)) = (n : Int) := by
  obtain ⟨Y, M, D, h1, h2, h3, h4, h5, h6, hd⟩ := F.dt_has (d := ((n / 86400000 : Nat) : Int)) (by omega) (by omega)
  obtain ⟨k1, k2, k3⟩ := F.dt_find h1 h2 h3 h4 h5 h6
  rw [← hd] at k1 k2
  have hb := F.mdays_b Y M
  obtain ⟨y, rfl⟩ := Int.eq_ofNat_of_zero_le (show 0 ≤ Y by omega)
  rw [F.dtS_q, k1, k2, show (D : Int) - 1 + 1 = (D : Int) by omega]
  obtain ⟨a1, a2, a3⟩ := F.pad_ok (k := y) (many := 4) (by show y < 10000; omega) (by decide)
  obtain ⟨b1, b2, b3⟩ := F.pad_ok (k := M) (many := 2) (by show M < 100; omega) (by decide)
  obtain ⟨c1, c2, c3⟩ := F.pad_ok (k := D) (many := 2) (by show D < 100; omega) (by decide)
  obtain ⟨d1, d2, d3⟩ := F.pad_ok (k := n % 86400000 / 3600000) (many := 2) (by show _ < 100; omega) (by decide)
  obtain ⟨e1, e2, e3⟩ := F.pad_ok (k := n % 86400000 / 60000 % 60) (many := 2) (by show _ < 100; omega) (by decide)
  obtain ⟨f1, f2, f3⟩ := F.pad_ok (k := n % 86400000 / 1000 % 60) (many := 2) (by show _ < 100; omega) (by decide)
  obtain ⟨g1, g2, g3⟩ := F.pad_ok (k := n % 86400000 % 1000) (many := 3) (by show _ < 1000; omega) (by decide)
  obtain ⟨q1, q2, q3, q4, q5, q6, q7, q8, q9⟩ := F.dtQ_of a1 b1 c1 d1 e1 f1 g1 a2 b2 c2 d2 e2 f2 g2
  generalize hv : F.dtQ (F.pad (y : Int) 4) (F.pad (M : Int) 2) (F.pad (D : Int) 2) (F.pad ((n % 86400000 / 3600000 : Nat) : Int) 2) (F.pad ((n % 86400000 / 60000 % 60 : Nat) : Int) 2) (F.pad ((n % 86400000 / 1000 % 60 : Nat) : Int) 2) (F.pad ((n % 86400000 % 1000 : Nat) : Int) 3) = v at *
  have w1 : F.dN v 0 4 = y := by unfold F.dN; rw [q3]; exact a3
  have w2 : F.dN v 5 7 = M := by unfold F.dN; rw [q4]; exact b3
  have w3 : F.dN v 8 10 = D := by unfold F.dN; rw [q5]; exact c3
  have w4 : F.dN v 11 13 = n % 86400000 / 3600000 := by unfold F.dN; rw [q6]; exact d3
  have w5 : F.dN v 14 16 = n % 86400000 / 60000 % 60 := by unfold F.dN; rw [q7]; exact e3
  have w6 : F.dN v 17 19 = n % 86400000 / 1000 % 60 := by unfold F.dN; rw [q8]; exact f3
  have w7 : F.dN v 20 23 = n % 86400000 % 1000 := by unfold F.dN; rw [q9]; exact g3
  have hok : F.dtOk v = true := by
    unfold F.dtOk F.dtB F.out
    rw [q1, q2, w1, w2, w3, w4, w5, w6, decide_eq_false (by omega : ¬ (y : Int) < 1970), decide_eq_false (by omega : ¬ (M : Int) < 1), decide_eq_false (by omega : ¬ (12 : Int) < (M : Int)), decide_eq_false (by omega : ¬ (D : Int) < 1), decide_eq_false (by omega : ¬ F.mdays (y : Int) (M : Int) < (D : Int)), decide_eq_false (by omega : ¬ (23 : Int) < ((n % 86400000 / 3600000 : Nat) : Int)), decide_eq_false (by omega : ¬ (59 : Int) < ((n % 86400000 / 60000 % 60 : Nat) : Int)), decide_eq_false (by omega : ¬ (59 : Int) < ((n % 86400000 / 1000 % 60 : Nat) : Int))]
    rfl
  refine ⟨hok, ?_⟩
  unfold F.dtV
  rw [hok, cond_true, w1, w2, w3, w4, w5, w6, w7]
  unfold F.dayN at hd
  rw [← hd]
  omega

end Go.Proofs.YtajmdlpanlbnjaaGreatDoor

namespace Go.Proofs.YtajmdlpanlbnjaaGreatDoor
open Go Go.RowKit
set_option linter.unusedVariables false
set_option linter.unusedSimpArgs false
set_option maxHeartbeats 1000000

theorem F.yr_uniq {a b d : Int} (h1 : 1 ≤ a) (h2 : 1 ≤ b) (a1 : F.ydays a ≤ d) (a2 : d < F.ydays (a + 1)) (b1 : F.ydays b ≤ d) (b2 : d < F.ydays (b + 1)) : a = b := by
  rcases Int.lt_trichotomy a b with h | h | h
  · have := F.ydays_mono (a := a + 1) (b := b) (by omega) (by omega); omega
  · exact h
  · have := F.ydays_mono (a := b + 1) (b := a) (by omega) (by omega); omega

theorem F.yr_max {y d : Int} (h0 : 1970 ≤ y) (h2 : d ≤ 2932896) (h1 : F.ydays y ≤ d) : y ≤ 9999 := by
  have y4 : F.ydays 10000 = 2932897 := by decide
  by_cases h : y ≤ 9999
  · exact h
  · have := F.ydays_mono (a := 10000) (b := y) (by omega) (by omega)
    omega

theorem F.yr_end {y d : Int} (h0 : 1970 ≤ y) (h2 : d ≤ 2932896) : d < F.ydays (y + ((10000 : Nat) : Int) + 1) := by
  have y4 : F.ydays 10000 = 2932897 := by decide
  have := F.ydays_mono (a := 10000) (b := y + ((10000 : Nat) : Int) + 1) (by omega) (by omega)
  omega

theorem F.yr_step {y d : Int} (h0 : 1970 ≤ y) (h2 : d ≤ 2932896) (h1 : F.ydays y ≤ d) (h3 : F.ydays (y + 1) ≤ d) : F.yrL 10000 d y = F.yrL 10000 d (y + 1) := by
  obtain ⟨a1, a2, a3⟩ := F.yrL_ok (d := d) 10000 y (by omega) h1 (F.yr_end h0 h2)
  obtain ⟨b1, b2, b3⟩ := F.yrL_ok (d := d) 10000 (y + 1) (by omega) h3 (F.yr_end (by omega) h2)
  exact F.yr_uniq (by omega) (by omega) a1 a2 b1 b2

theorem F.yr_stop {y d : Int} (h3 : ¬ F.ydays (y + 1) ≤ d) : F.yrL 10000 d y = y := by
  show (bif decide (F.ydays (y + 1) ≤ d) then F.yrL 9999 d (y + 1) else y) = y
  rw [decide_eq_false h3]
  rfl

theorem F.mo_fuel {y d : Int} {j k k' m : Nat} (h1 : j ≤ k) (h2 : j ≤ k') (h3 : 0 ≤ d) (h4 : d < F.msum y j m) : F.moL k y d m = F.moL k' y d m := by
  obtain ⟨i, i1, D, i2, i3, i4, i5⟩ := F.moL_ok y j k m d h1 h3 h4
  rw [i5, i4, F.moL_eq y i k' m D (by omega) i2 i3]

theorem F.mo_step {y d : Int} {m : Nat} (h1 : 1 ≤ m) (h2 : m ≤ 12) (h3 : 0 ≤ d) (h4 : d < F.msum y (13 - m) m) (h5 : F.mdays y m ≤ d) : m + 1 ≤ 12 ∧ d - F.mdays y m < F.msum y (13 - (m + 1)) (m + 1) ∧ F.moL 20 y d m = F.moL 20 y (d - F.mdays y m) ((m + 1 : Nat) : Int) := by
  rw [show 13 - m = (13 - (m + 1)) + 1 by omega, F.msum] at h4
  have hm : m + 1 ≤ 12 := by
    by_cases h : m = 12
    · subst h
      have : F.msum y (13 - (12 + 1)) (12 + 1) = 0 := rfl
      omega
    · omega
  refine ⟨hm, by omega, ?_⟩
  have e : F.moL 20 y d m = F.moL 19 y (d - F.mdays y m) ((m + 1 : Nat) : Int) := by
    show (bif decide (F.mdays y m ≤ d) then F.moL 19 y (d - F.mdays y m) ((m : Int) + 1) else ((m : Int), d)) = _
    rw [decide_eq_true h5]
    rfl
  rw [e]
  exact F.mo_fuel (j := 13 - (m + 1)) (by omega) (by omega) (by omega) (by omega)

theorem F.mo_stop {y d : Int} {m : Nat} (h5 : ¬ F.mdays y m ≤ d) : F.moL 20 y d m = ((m : Int), d) := by
  show (bif decide (F.mdays y m ≤ d) then F.moL 19 y (d - F.mdays y m) ((m : Int) + 1) else ((m : Int), d)) = _
  rw [decide_eq_false h5]
  rfl

theorem F.pad_size {n : Int} (h0 : -9223372036854775808 ≤ n) (h1 : n ≤ 9223372036854775807) {m : Nat} (hm : m ≤ 10) : (F.pad n m).size ≤ 31 := by
  have := F.itoa_size h0 h1
  unfold F.pad
  rw [ByteArray.size_append, F.zrs_size]
  omega

namespace M

def stPad (many : Nat) (s : ByteArray) : St := ⟨[(5, vS s), (1, vI many)], []⟩

def stPad1 (a : Nat × ByteArray) : St := stPad a.1 a.2

theorem stPad_inj (a a' : Nat × ByteArray) (h : stPad1 a = stPad1 a') : a = a' := by
  simp only [stPad1, stPad] at h
  try simp [strs_inj, ints_inj, ents_inj, eEnt_iff, eLst_iff, eSnds_inj, eStrms_inj] at h
  grind

theorem unstPad (many : Nat) (s : ByteArray) : unenc stPad1 (St.mk [(5, (vS s)), (1, (vI (↑many : Int)))] []) = some (many, s) := unenc_of stPad_inj (many, s) rfl

def outPad (many : Nat) (s : ByteArray) : T (Ex × St) := .ret (.exit 0, ⟨[(5, vS (F.zrs (many - s.size) ++ s))], []⟩)

noncomputable def prlPad (many : Nat) (s : ByteArray) : Bool := decide (many ≤ 1000)

noncomputable def lpPad : Nat × (St → T (Ex × St)) := (2, lpo [5, 1] [] stPad1 (fun a => prlPad a.1 a.2) fun a => outPad a.1 a.2)

noncomputable def enPad : Env := envH ty noG lks [oIta] [] [] [lpPad]

theorem enPad_ok : EnvOK Tryz.prog enPad := by
  refine envH_ok lks_ok ty_ok ?_ ?_
  · simp only [List.forall_mem_cons]
    exact ⟨okIta, by simp⟩
  · simp

theorem evPadL (many : Nat) (s : ByteArray) : ((exec enPad (loopN Tryz.f78 0) (stPad many s)).bind (lessX ([5, 1], []) ([5], []) ([], []))).val =
  bif decide ((↑(ByteArray.size s) : Int) < (↑many : Int)) then bif Nat.ble (ByteArray.size (ByteArray.mk (Array.mk [(48 : UInt8)])) + ByteArray.size s) (9223372036854775807
  : Nat) then some (Ex.normal, St.mk [(5, (vS (ByteArray.mk (Array.mk [(48 : UInt8)]) ++ s))), (1, (vI (↑many : Int)))] []) else none else some (Ex.exit (0 : Nat), St.mk
  [(5, (vS s))] []) := (execR_bind _ _ _).symm.trans (by kernel_rfl)

theorem lpPad_ok (many : Nat) (s : ByteArray) (hp : prlPad many s = true) : ∀ ex s', (outPad many s).val = some (ex, s') → LoopOK enPad (loopN Tryz.f78 0) (stPad many s) ex s' := by
  simp only [prlPad, Bool.and_eq_true, decide_eq_true_eq] at hp
  refine loop_gen (st := fun s : ByteArray => stPad many s) (out := fun s => outPad many s) (I := fun _ => True) (n := ([5, 1], [])) (e := ([5], [])) (r := ([], [])) (fun s => many - s.size) ?_ s trivial
  intro s _
  by_cases h : s.size < many
  · right
    have e1 : ((⟨⟨[48]⟩⟩ : ByteArray) ++ s).size = s.size + 1 := by rw [ByteArray.size_append]; show 1 + s.size = _; omega
    refine ⟨⟨⟨[48]⟩⟩ ++ s, ?_, rfl, trivial, by omega, ?_⟩
    · rw [evPadL]
      simp only [unIta, preIta1, unstPad, prlPad, outPad, etaEnt, etaLst, etaSnd, etaStrm, etaMas, Option.bind_some, List.length_map, unStrs, unInts, unBools, unEnts, unItms, unTrns, cond_true, cond_false, Bool.and_true, Bool.true_and, decide_eq_true (show (s.size : Int) < (many : Int) by omega)]
      rw [ble_t (show (ByteArray.mk (Array.mk [48])).size + s.size ≤ 9223372036854775807 by show 1 + s.size ≤ _; omega)]
      rfl
    · have e2 : many - s.size = (many - (s.size + 1)) + 1 := by omega
      simp only [outPad, e1]
      rw [e2, F.zrs_succ]
  · left
    refine ⟨(.exit 0, ⟨[(5, vS s)], []⟩), ?_, ?_, by simp, rfl⟩
    · rw [evPadL]
      simp only [unIta, preIta1, unstPad, prlPad, outPad, etaEnt, etaLst, etaSnd, etaStrm, etaMas, Option.bind_some, List.length_map, unStrs, unInts, unBools, unEnts, unItms, unTrns, cond_true, cond_false, Bool.and_true, Bool.true_and, decide_eq_false (show ¬ (s.size : Int) < (many : Int) by omega)]
    · simp only [outPad]
      rw [show many - s.size = 0 by omega, F.zrs_zero]
      rfl

theorem evPad (n : Int) (many : Nat) : (runF enPad false Tryz.f78 [vI n, vI many]).val =
  Option.bind (unenc encIta [(vI n)]) fun (z : Int) => bif decide ((-9223372036854775808 : Int) ≤ z) && decide (z ≤ (9223372036854775807 : Int)) then Option.bind (unenc
  stPad1 (St.mk [(5, (vS (F.itoa z))), (1, (vI (↑many : Int)))] [])) fun (z : Nat × ByteArray) => bif decide (z.fst ≤ (1000 : Nat)) && true then some ((vS (F.zrs (z.fst -
  ByteArray.size z.snd) ++ z.snd)), []) else none else none := (runFR_val).symm.trans (by kernel_rfl)

def encPad1 (n : Int) (many : Nat) : List AV := [vI n, vI many]

def encPad (a : Int × Nat) : List AV := encPad1 a.1 a.2

theorem encPad_inj (a a' : Int × Nat) (h : encPad a = encPad a') : a = a' := by
  simp only [encPad, encPad1] at h
  try simp [strs_inj, ints_inj, ents_inj, eEnt_iff, eLst_iff, eSnds_inj, eStrms_inj] at h
  grind

theorem unPad (n : Int) (many : Nat) : unenc encPad ([(vI n), (vI (↑many : Int))]) = some (n, many) := unenc_of encPad_inj (n, many) rfl

def resPad1 (n : Int) (many : Nat) : AV × Heap := (vS (F.pad n many), [])

def prePad1 (n : Int) (many : Nat) : Bool := decide (-9223372036854775808 ≤ n) && decide (n ≤ 9223372036854775807) && decide (many ≤ 1000)

noncomputable def oPad : Orc := orc 78 true encPad (fun a => prePad1 a.1 a.2) fun a => resPad1 a.1 a.2

theorem okPad : OrcOK Tryz.prog noG oPad := by
  refine mk_ok Tryz.f78 (keep := false) (by kernel_rfl) (by kernel_rfl) enPad_ok mixed (one_loop (x0 := loopN Tryz.f78 0) (by kernel_rfl) (lpo_ok ?_)) (by first | exact fun _ _ => ⟨rfl, rfl⟩ | (intro h; cases h)) ?_
  · rintro ⟨many, s⟩ hp
    exact lpPad_ok many s hp
  rintro ⟨n, many⟩ hpre hok
  show (runF enPad false _ (encPad1 _ _)).val = some (resPad1 _ _)
  unfold encPad1 resPad1
  rw [evPad]
  simp only [prePad1, Bool.and_eq_true] at hpre
  simp only [unIta, preIta1, unstPad, prlPad, outPad, etaEnt, etaLst, etaSnd, etaStrm, etaMas, Option.bind_some, List.length_map, unStrs, unInts, unBools, unEnts, unItms, unTrns, cond_true, cond_false, Bool.and_true, Bool.true_and, hpre.1.1, hpre.1.2, hpre.2, F.pad]
  try rfl

theorem evYd2 (y : Int) : (runF en0 false Tryz.f76 [vI y]).val =
  some ((vI (IntKind.wrap IntKind.i64 (IntKind.wrap IntKind.i64 (IntKind.wrap IntKind.i64 (IntKind.wrap IntKind.i64 ((365 : Int) * IntKind.wrap IntKind.i64 (y - (1970 :
  Int))) + IntKind.wrap IntKind.i64 (IntKind.wrap IntKind.i64 (Int.tdiv (IntKind.wrap IntKind.i64 (y - (1 : Int))) (4 : Int)) - (492 : Int))) - IntKind.wrap IntKind.i64
  (IntKind.wrap IntKind.i64 (Int.tdiv (IntKind.wrap IntKind.i64 (y - (1 : Int))) (100 : Int)) - (19 : Int))) + IntKind.wrap IntKind.i64 (IntKind.wrap IntKind.i64 (Int.tdiv
  (IntKind.wrap IntKind.i64 (y - (1 : Int))) (400 : Int)) - (4 : Int))))), []) := (runFR_val).symm.trans (by kernel_rfl)

def encYd21 (y : Int) : List AV := [vI y]

def encYd2 (a : Int) : List AV := encYd21 a

theorem encYd2_inj (a a' : Int) (h : encYd2 a = encYd2 a') : a = a' := by
  simp only [encYd2, encYd21] at h
  try simp [strs_inj, ints_inj, ents_inj, eEnt_iff, eLst_iff, eSnds_inj, eStrms_inj] at h
  grind

theorem unYd2 (y : Int) : unenc encYd2 ([(vI y)]) = some (y) := unenc_of encYd2_inj (y) rfl

def resYd21 (y : Int) : AV × Heap := (vI (F.ydays y), [])

def preYd21 (y : Int) : Bool := decide (1970 ≤ y) && decide (y ≤ 20000)

noncomputable def oYd2 : Orc := orc 76 true encYd2 (fun a => preYd21 a) fun a => resYd21 a

theorem okYd2 : OrcOK Tryz.prog noG oYd2 := by
  refine mk_ok Tryz.f76 (keep := false) (by kernel_rfl) (by kernel_rfl) en0_ok mixed (no_loops (by kernel_rfl)) (by first | exact fun _ _ => ⟨rfl, rfl⟩ | (intro h; cases h)) ?_
  rintro y hpre hok
  show (runF en0 false _ (encYd21 _)).val = some (resYd21 _)
  unfold encYd21 resYd21
  rw [evYd2]
  have hpre : (decide (1970 ≤ y) && decide (y ≤ 20000)) = true := hpre
  simp only [Bool.and_eq_true, decide_eq_true_eq] at hpre
  have h1 : 0 ≤ (y - 1).tdiv 4 ∧ (y - 1).tdiv 4 ≤ 10000 := by rw [Int.tdiv_eq_ediv_of_nonneg (by omega)]; omega
  have h2 : 0 ≤ (y - 1).tdiv 100 ∧ (y - 1).tdiv 100 ≤ 10000 := by rw [Int.tdiv_eq_ediv_of_nonneg (by omega)]; omega
  have h3 : 0 ≤ (y - 1).tdiv 400 ∧ (y - 1).tdiv 400 ≤ 10000 := by rw [Int.tdiv_eq_ediv_of_nonneg (by omega)]; omega
  have w0 : IntKind.i64.wrap (y - 1) = y - 1 := wrap_id (by omega) (by omega)
  have w1 : IntKind.i64.wrap (y - 1970) = y - 1970 := wrap_id (by omega) (by omega)
  have w2 : IntKind.i64.wrap (365 * (y - 1970)) = 365 * (y - 1970) := wrap_id (by omega) (by omega)
  simp only [etaEnt, etaLst, etaSnd, etaStrm, etaMas, Option.bind_some, List.length_map, unStrs, unInts, unBools, unEnts, unItms, unTrns, cond_true, cond_false, Bool.and_true, Bool.true_and, w0, w1, w2, F.ydays]
  generalize (y - 1).tdiv 4 = a at *
  generalize (y - 1).tdiv 100 = b at *
  generalize (y - 1).tdiv 400 = c at *
  simp (disch := omega) only [wrap_id]

def stDt1 (y : Int) (r : Int) (d : Int) : St := ⟨[(6, vI y), (5, vI r), (4, vI d)], []⟩

def stDt11 (a : Int × Int × Int) : St := stDt1 a.1 a.2.1 a.2.2

theorem stDt1_inj (a a' : Int × Int × Int) (h : stDt11 a = stDt11 a') : a = a' := by
  simp only [stDt11, stDt1] at h
  try simp [strs_inj, ints_inj, ents_inj, eEnt_iff, eLst_iff, eSnds_inj, eStrms_inj] at h
  grind

theorem unstDt1 (y : Int) (r : Int) (d : Int) : unenc stDt11 (St.mk [(6, (vI y)), (5, (vI r)), (4, (vI d))] []) = some (y, r, d) := unenc_of stDt1_inj (y, r, d) rfl

def outDt1 (y : Int) (r : Int) (d : Int) : T (Ex × St) := .ret (.exit 0, ⟨[(6, vI (F.yrL 10000 d y)), (5, vI r), (4, vI d)], []⟩)

noncomputable def prlDt1 (y : Int) (r : Int) (d : Int) : Bool := decide (1970 ≤ y) && decide (0 ≤ d) && decide (d ≤ 2932896) && decide (F.ydays y ≤ d)

noncomputable def lpDt1 : Nat × (St → T (Ex × St)) := (5, lpo [6, 5, 4] [] stDt11 (fun a => prlDt1 a.1 a.2.1 a.2.2) fun a => outDt1 a.1 a.2.1 a.2.2)

def stDt2 (m : Nat) (y : Int) (r : Int) (d : Int) : St := ⟨[(7, vI m), (6, vI y), (5, vI r), (4, vI d)], []⟩

def stDt21 (a : Nat × Int × Int × Int) : St := stDt2 a.1 a.2.1 a.2.2.1 a.2.2.2

theorem stDt2_inj (a a' : Nat × Int × Int × Int) (h : stDt21 a = stDt21 a') : a = a' := by
  simp only [stDt21, stDt2] at h
  try simp [strs_inj, ints_inj, ents_inj, eEnt_iff, eLst_iff, eSnds_inj, eStrms_inj] at h
  grind

theorem unstDt2 (m : Nat) (y : Int) (r : Int) (d : Int) : unenc stDt21 (St.mk [(7, (vI (↑m : Int))), (6, (vI y)), (5, (vI r)), (4, (vI d))] []) = some (m, y, r, d) := unenc_of stDt2_inj (m, y, r, d) rfl

theorem unstDt20 (y : Int) (r : Int) (d : Int)  : unenc stDt21 (St.mk [(7, (vI (1 : Int))), (6, (vI y)), (5, (vI r)), (4, (vI d))] []) = some (1, y, r, d) := unenc_of stDt2_inj (1, y, r, d) rfl

def outDt2 (m : Nat) (y : Int) (r : Int) (d : Int) : T (Ex × St) := .ret (.exit 2, ⟨[(7, vI (F.moL 20 y d m).1), (6, vI y), (5, vI r), (4, vI (F.moL 20 y d m).2)], []⟩)

noncomputable def prlDt2 (m : Nat) (y : Int) (r : Int) (d : Int) : Bool := decide (0 ≤ y) && decide (y ≤ 100000) && decide (1 ≤ m) && decide (m ≤ 12) && decide (0 ≤ d) && decide (d < F.msum y (13 - m) m)

noncomputable def lpDt2 : Nat × (St → T (Ex × St)) := (9, lpo [7, 6, 5, 4] [] stDt21 (fun a => prlDt2 a.1 a.2.1 a.2.2.1 a.2.2.2) fun a => outDt2 a.1 a.2.1 a.2.2.1 a.2.2.2)

noncomputable def enDt : Env := envH ty noG lks [oOut, oYd2, oMdy, oPad] [] [] [lpDt1, lpDt2]

theorem enDt_ok : EnvOK Tryz.prog enDt := by
  refine envH_ok lks_ok ty_ok ?_ ?_
  · simp only [List.forall_mem_cons]
    exact ⟨okOut, okYd2, okMdy, okPad, by simp⟩
  · simp

theorem evDt1L (y : Int) (r : Int) (d : Int) : ((exec enDt (loopN Tryz.f52 0) (stDt1 y r d)).bind (lessX ([6, 5, 4], []) ([6, 5, 4], []) ([], []))).val =
  Option.bind (unenc encYd2 [(vI (IntKind.wrap IntKind.i64 (y + (1 : Int))))]) fun (z : Int) => bif decide ((1970 : Int) ≤ z) && decide (z ≤ (20000 : Int)) then bif decide
  (F.ydays z ≤ d) then some (Ex.normal, St.mk [(6, (vI (IntKind.wrap IntKind.i64 (y + (1 : Int))))), (5, (vI r)), (4, (vI d))] []) else some (Ex.exit (0 : Nat), St.mk [(6,
  (vI y)), (5, (vI r)), (4, (vI d))] []) else none := (execR_bind _ _ _).symm.trans (by kernel_rfl)

theorem lpDt1_ok (y : Int) (r : Int) (d : Int) (hp : prlDt1 y r d = true) : ∀ ex s', (outDt1 y r d).val = some (ex, s') → LoopOK enDt (loopN Tryz.f52 0) (stDt1 y r d) ex s' := by
  simp only [prlDt1, Bool.and_eq_true, decide_eq_true_eq] at hp
  obtain ⟨⟨⟨h1, h2⟩, h3⟩, h4⟩ := hp
  refine loop_gen (st := fun y : Int => stDt1 y r d) (out := fun y => outDt1 y r d) (I := fun y => 1970 ≤ y ∧ F.ydays y ≤ d) (n := ([6, 5, 4], [])) (e := ([6, 5, 4], [])) (r := ([], [])) (fun y => (10000 - y).toNat) ?_ y ⟨h1, h4⟩
  clear h1 h4
  intro y ⟨h1, h4⟩
  have hmx := F.yr_max h1 h3 h4
  have w1 : IntKind.i64.wrap (y + 1) = y + 1 := wrap_id (by omega) (by omega)
  have p1 : decide (1970 ≤ y + 1) = true := decide_eq_true (by omega)
  have p2 : decide (y + 1 ≤ 20000) = true := decide_eq_true (by omega)
  by_cases hc : F.ydays (y + 1) ≤ d
  · right
    refine ⟨y + 1, ?_, rfl, ⟨by omega, hc⟩, by omega, ?_⟩
    · rw [evDt1L]
      simp only [unOut, unYd2, unMdy, unPad, preOut1, preYd21, preMdy1, prePad1, unstDt1, unstDt2, unstDt20, prlDt1, prlDt2, outDt1, outDt2, etaEnt, etaLst, etaSnd, etaStrm, etaMas, Option.bind_some, List.length_map, unStrs, unInts, unBools, unEnts, unItms, unTrns, cond_true, cond_false, Bool.and_true, Bool.true_and, w1, p1, p2, decide_eq_true hc, stDt1]
      try rfl
    · simp only [outDt1, F.yr_step h1 h3 h4 hc]
  · left
    refine ⟨(.exit 0, ⟨[(6, vI y), (5, vI r), (4, vI d)], []⟩), ?_, ?_, by simp, rfl⟩
    · rw [evDt1L]
      simp only [unOut, unYd2, unMdy, unPad, preOut1, preYd21, preMdy1, prePad1, unstDt1, unstDt2, unstDt20, prlDt1, prlDt2, outDt1, outDt2, etaEnt, etaLst, etaSnd, etaStrm, etaMas, Option.bind_some, List.length_map, unStrs, unInts, unBools, unEnts, unItms, unTrns, cond_true, cond_false, Bool.and_true, Bool.true_and, w1, p1, p2, decide_eq_false hc]
      try rfl
    · simp only [outDt1, F.yr_stop hc]
      rfl

theorem evDt2L (m : Nat) (y : Int) (r : Int) (d : Int) : ((exec enDt (loopN Tryz.f52 1) (stDt2 m y r d)).bind (lessX ([7, 6, 5, 4], []) ([7, 6, 5, 4], []) ([], []))).val =
  Option.bind (unenc encMdy [(vI y), (vI (↑m : Int))]) fun (z : Int × Int) => bif decide ((0 : Int) ≤ z.fst) && decide (z.fst ≤ (100000 : Int)) then bif decide (F.mdays
  z.fst z.snd ≤ d) then Option.bind (unenc encMdy [(vI y), (vI (↑m : Int))]) fun (z : Int × Int) => bif decide ((0 : Int) ≤ z.fst) && decide (z.fst ≤ (100000 : Int)) then
  some (Ex.normal, St.mk [(7, (vI (IntKind.wrap IntKind.i64 ((↑m : Int) + (1 : Int))))), (6, (vI y)), (5, (vI r)), (4, (vI (IntKind.wrap IntKind.i64 (d - F.mdays z.fst
  z.snd))))] []) else none else some (Ex.exit (2 : Nat), St.mk [(7, (vI (↑m : Int))), (6, (vI y)), (5, (vI r)), (4, (vI d))] []) else none := (execR_bind _ _ _).symm.trans (by kernel_rfl)

theorem lpDt2_ok (m : Nat) (y : Int) (r : Int) (d : Int) (hp : prlDt2 m y r d = true) : ∀ ex s', (outDt2 m y r d).val = some (ex, s') → LoopOK enDt (loopN Tryz.f52 1) (stDt2 m y r d) ex s' := by
  simp only [prlDt2, Bool.and_eq_true, decide_eq_true_eq] at hp
  obtain ⟨⟨⟨⟨⟨h1, h2⟩, h3⟩, h4⟩, h5⟩, h6⟩ := hp
  have p1 : decide (0 ≤ y) = true := decide_eq_true h1
  have p2 : decide (y ≤ 100000) = true := decide_eq_true h2
  refine loop_gen (st := fun p : Nat × Int => stDt2 p.1 y r p.2) (out := fun p => outDt2 p.1 y r p.2) (I := fun p => 1 ≤ p.1 ∧ p.1 ≤ 12 ∧ 0 ≤ p.2 ∧ p.2 < F.msum y (13 - p.1) p.1) (n := ([7, 6, 5, 4], [])) (e := ([7, 6, 5, 4], [])) (r := ([], [])) (fun p => 13 - p.1) ?_ (m, d) ⟨h3, h4, h5, h6⟩
  clear h3 h4 h5 h6
  rintro ⟨m, d⟩ ⟨h3, h4, h5, h6⟩
  simp only at h3 h4 h5 h6
  have hb := F.mdays_b y m
  have hs := F.msum_b y (13 - m) m
  by_cases hc : F.mdays y m ≤ d
  · obtain ⟨k1, k2, k3⟩ := F.mo_step h3 h4 h5 h6 hc
    have w1 : IntKind.i64.wrap (d - F.mdays y m) = d - F.mdays y m := wrap_id (by omega) (by omega)
    have w2 : IntKind.i64.wrap ((m : Int) + 1) = ((m + 1 : Nat) : Int) := by rw [wrap_id (by omega) (by omega)]; rfl
    right
    refine ⟨(m + 1, d - F.mdays y m), ?_, rfl, ⟨by simp only; omega, k1, by simp only; omega, k2⟩, by simp only; omega, ?_⟩
    · rw [evDt2L]
      simp only [unOut, unYd2, unMdy, unPad, preOut1, preYd21, preMdy1, prePad1, unstDt1, unstDt2, unstDt20, prlDt1, prlDt2, outDt1, outDt2, etaEnt, etaLst, etaSnd, etaStrm, etaMas, Option.bind_some, List.length_map, unStrs, unInts, unBools, unEnts, unItms, unTrns, cond_true, cond_false, Bool.and_true, Bool.true_and, p1, p2, w1, w2, decide_eq_true hc, stDt2]
      try rfl
    · simp only [outDt2, k3]
  · left
    refine ⟨(.exit 2, ⟨[(7, vI m), (6, vI y), (5, vI r), (4, vI d)], []⟩), ?_, ?_, by simp, rfl⟩
    · rw [evDt2L]
      simp only [unOut, unYd2, unMdy, unPad, preOut1, preYd21, preMdy1, prePad1, unstDt1, unstDt2, unstDt20, prlDt1, prlDt2, outDt1, outDt2, etaEnt, etaLst, etaSnd, etaStrm, etaMas, Option.bind_some, List.length_map, unStrs, unInts, unBools, unEnts, unItms, unTrns, cond_true, cond_false, Bool.and_true, Bool.true_and, p1, p2, decide_eq_false hc]
      try rfl
    · simp only [outDt2, F.mo_stop hc]
      rfl

theorem evDte (n : Int) : (runF enDt false Tryz.f52 [vI n]).val =
  (fun (q : ByteArray) => (fun (q_1 : ByteArray) => (fun (q_2 : ByteArray) => (fun (q_3 : ByteArray) => (fun (q_4 : List AV) => Option.bind (unenc encOut [(vI n), (vI (0 :
  Int)), (vI (253402300799999 : Int))]) fun (z : Int × Int × Int) => bif F.out z.fst z.snd.fst z.snd.snd then some (AV.tup [(vS (ByteArray.mk (Array.mk []))), (vI (1 :
  Int))], []) else Option.bind (unenc stDt11 (St.mk [(6, (vI (IntKind.wrap IntKind.i64 ((1970 : Int) + IntKind.wrap IntKind.i64 (Int.tdiv (IntKind.wrap IntKind.i64 (Int.tdiv
  n (86400000 : Int))) (366 : Int)))))), (5, (vI (Int.tmod n (86400000 : Int)))), (4, (vI (IntKind.wrap IntKind.i64 (Int.tdiv n (86400000 : Int)))))] [])) fun (z : Int × Int
  × Int) => bif decide ((1970 : Int) ≤ z.fst) && decide ((0 : Int) ≤ z.snd.snd) && decide (z.snd.snd ≤ (2932896 : Int)) && decide (F.ydays z.fst ≤ z.snd.snd) && true then
  Option.bind (unenc encYd2 [(vI (F.yrL (10000 : Nat) z.snd.snd z.fst))]) fun (z_1 : Int) => bif decide ((1970 : Int) ≤ z_1) && decide (z_1 ≤ (20000 : Int)) then Option.bind
  (unenc stDt21 (St.mk [(7, (vI (1 : Int))), (6, (vI (F.yrL (10000 : Nat) z.snd.snd z.fst))), (5, (vI z.snd.fst)), (4, (vI (IntKind.wrap IntKind.i64 (z.snd.snd - F.ydays
  z_1))))] [])) fun (z : Nat × Int × Int × Int) => bif decide ((0 : Int) ≤ z.snd.fst) && decide (z.snd.fst ≤ (100000 : Int)) && decide ((1 : Nat) ≤ z.fst) && decide (z.fst ≤
  (12 : Nat)) && decide ((0 : Int) ≤ z.snd.snd.snd) && decide (z.snd.snd.snd < F.msum z.snd.fst ((13 : Nat) - z.fst) z.fst) && true then Option.bind (unenc encPad [(vI
  z.snd.fst), (vI (4 : Int))]) fun (z_2 : Int × Nat) => (fun (q_5 : ByteArray) => bif decide ((-9223372036854775808 : Int) ≤ z_2.fst) && decide (z_2.fst ≤
  (9223372036854775807 : Int)) && decide (z_2.snd ≤ (1000 : Nat)) then bif Nat.ble (ByteArray.size (F.pad z_2.fst z_2.snd) + ByteArray.size q_3) (9223372036854775807 : Nat)
  then Option.bind (unenc encPad ((vI (F.moL (20 : Nat) z.snd.fst z.snd.snd.snd (↑z.fst : Int)).fst) :: q_4)) fun (z_3 : Int × Nat) => (fun (q_6 : ByteArray) => bif decide
  ((-9223372036854775808 : Int) ≤ z_3.fst) && decide (z_3.fst ≤ (9223372036854775807 : Int)) && decide (z_3.snd ≤ (1000 : Nat)) then bif Nat.ble (ByteArray.size q_5 +
  ByteArray.size (F.pad z_3.fst z_3.snd)) (9223372036854775807 : Nat) then bif Nat.ble (ByteArray.size (q_5 ++ F.pad z_3.fst z_3.snd) + ByteArray.size q_3)
  (9223372036854775807 : Nat) then Option.bind (unenc encPad ((vI (IntKind.wrap IntKind.i64 ((F.moL (20 : Nat) z.snd.fst z.snd.snd.snd (↑z.fst : Int)).snd + (1 : Int)))) ::
  q_4)) fun (z_4 : Int × Nat) => (fun (q_7 : ByteArray) => bif decide ((-9223372036854775808 : Int) ≤ z_4.fst) && decide (z_4.fst ≤ (9223372036854775807 : Int)) && decide
  (z_4.snd ≤ (1000 : Nat)) then bif Nat.ble (ByteArray.size q_6 + ByteArray.size (F.pad z_4.fst z_4.snd)) (9223372036854775807 : Nat) then bif Nat.ble (ByteArray.size (q_6
  ++ F.pad z_4.fst z_4.snd) + ByteArray.size q_2) (9223372036854775807 : Nat) then Option.bind (unenc encPad ((vI (IntKind.wrap IntKind.i64 (Int.tdiv z.snd.snd.fst (3600000
  : Int)))) :: q_4)) fun (z_5 : Int × Nat) => (fun (q_8 : ByteArray) => bif decide ((-9223372036854775808 : Int) ≤ z_5.fst) && decide (z_5.fst ≤ (9223372036854775807 : Int))
  && decide (z_5.snd ≤ (1000 : Nat)) then bif Nat.ble (ByteArray.size q_7 + ByteArray.size (F.pad z_5.fst z_5.snd)) (9223372036854775807 : Nat) then bif Nat.ble
  (ByteArray.size (q_7 ++ F.pad z_5.fst z_5.snd) + ByteArray.size q) (9223372036854775807 : Nat) then Option.bind (unenc encPad ((vI (Int.tmod (IntKind.wrap IntKind.i64
  (Int.tdiv z.snd.snd.fst (60000 : Int))) (60 : Int))) :: q_4)) fun (z_6 : Int × Nat) => (fun (q_9 : ByteArray) => bif decide ((-9223372036854775808 : Int) ≤ z_6.fst) &&
  decide (z_6.fst ≤ (9223372036854775807 : Int)) && decide (z_6.snd ≤ (1000 : Nat)) then bif Nat.ble (ByteArray.size q_8 + ByteArray.size (F.pad z_6.fst z_6.snd))
  (9223372036854775807 : Nat) then bif Nat.ble (ByteArray.size (q_8 ++ F.pad z_6.fst z_6.snd) + ByteArray.size q) (9223372036854775807 : Nat) then Option.bind (unenc encPad
  ((vI (Int.tmod (IntKind.wrap IntKind.i64 (Int.tdiv z.snd.snd.fst (1000 : Int))) (60 : Int))) :: q_4)) fun (z_7 : Int × Nat) => bif decide ((-9223372036854775808 : Int) ≤
  z_7.fst) && decide (z_7.fst ≤ (9223372036854775807 : Int)) && decide (z_7.snd ≤ (1000 : Nat)) then bif Nat.ble (ByteArray.size q_9 + ByteArray.size (F.pad z_7.fst
  z_7.snd)) (9223372036854775807 : Nat) then bif Nat.ble (ByteArray.size (q_9 ++ F.pad z_7.fst z_7.snd) + ByteArray.size q_1) (9223372036854775807 : Nat) then Option.bind
  (unenc encPad [(vI (Int.tmod z.snd.snd.fst (1000 : Int))), (vI (3 : Int))]) fun (z : Int × Nat) => bif decide ((-9223372036854775808 : Int) ≤ z.fst) && decide (z.fst ≤
  (9223372036854775807 : Int)) && decide (z.snd ≤ (1000 : Nat)) then bif Nat.ble (ByteArray.size (q_9 ++ F.pad z_7.fst z_7.snd ++ q_1) + ByteArray.size (F.pad z.fst z.snd))
  (9223372036854775807 : Nat) then bif Nat.ble (ByteArray.size (q_9 ++ F.pad z_7.fst z_7.snd ++ q_1 ++ F.pad z.fst z.snd) + ByteArray.size (ByteArray.mk (Array.mk [(90 :
  UInt8)]))) (9223372036854775807 : Nat) then some (AV.tup [(vS (q_9 ++ F.pad z_7.fst z_7.snd ++ q_1 ++ F.pad z.fst z.snd ++ ByteArray.mk (Array.mk [(90 : UInt8)]))), (vI (0
  : Int))], []) else none else none else none else none else none else none else none else none else none) (q_8 ++ F.pad z_6.fst z_6.snd ++ q) else none else none else none)
  (q_7 ++ F.pad z_5.fst z_5.snd ++ q) else none else none else none) (q_6 ++ F.pad z_4.fst z_4.snd ++ q_2) else none else none else none) (q_5 ++ F.pad z_3.fst z_3.snd ++
  q_3) else none else none) (F.pad z_2.fst z_2.snd ++ q_3) else none else none else none) [(vI (2 : Int))]) (ByteArray.mk (Array.mk [(45 : UInt8)]))) (ByteArray.mk (Array.mk
  [(84 : UInt8)]))) (ByteArray.mk (Array.mk [(46 : UInt8)]))) (ByteArray.mk (Array.mk [(58 : UInt8)])) := (runFR_val).symm.trans (by kernel_rfl)

def encDte1 (n : Int) : List AV := [vI n]

def encDte (a : Int) : List AV := encDte1 a

theorem encDte_inj (a a' : Int) (h : encDte a = encDte a') : a = a' := by
  simp only [encDte, encDte1] at h
  try simp [strs_inj, ints_inj, ents_inj, eEnt_iff, eLst_iff, eSnds_inj, eStrms_inj] at h
  grind

theorem unDte (n : Int) : unenc encDte ([(vI n)]) = some (n) := unenc_of encDte_inj (n) rfl

def resDte1 (n : Int) : AV × Heap := (.tup [vS (F.dtS n), vI 0], [])

def preDte1 (n : Int) : Bool := decide (0 ≤ n) && decide (n ≤ 253402300799999)

noncomputable def oDte : Orc := orc 52 true encDte (fun a => preDte1 a) fun a => resDte1 a

theorem okDte : OrcOK Tryz.prog noG oDte := by
  refine mk_ok Tryz.f52 (keep := false) (by kernel_rfl) (by kernel_rfl) enDt_ok mixed (two_loops (x0 := loopN Tryz.f52 0) (x1 := loopN Tryz.f52 1) (by kernel_rfl) (lpo_ok ?_) (lpo_ok ?_)) (by first | exact fun _ _ => ⟨rfl, rfl⟩ | (intro h; cases h)) ?_
  · rintro ⟨y, r, d⟩ hp
    exact lpDt1_ok y r d hp
  · rintro ⟨m, y, r, d⟩ hp
    exact lpDt2_ok m y r d hp
  rintro n hpre hok
  show (runF enDt false _ (encDte1 _)).val = some (resDte1 _)
  unfold encDte1 resDte1
  rw [evDte]
  simp only [preDte1, Bool.and_eq_true, decide_eq_true_eq] at hpre
  obtain ⟨h1, h2⟩ := hpre
  have ho : F.out n 0 253402300799999 = false := by unfold F.out; rw [decide_eq_false (by omega), decide_eq_false (by omega)]; rfl
  obtain ⟨d, hd⟩ : ∃ d, n.tdiv 86400000 = d := ⟨_, rfl⟩
  obtain ⟨r, hr⟩ : ∃ r, n.tmod 86400000 = r := ⟨_, rfl⟩
  have hd1 : 0 ≤ d ∧ d ≤ 2932896 := by rw [← hd, Int.tdiv_eq_ediv_of_nonneg h1]; omega
  have hr1 : 0 ≤ r ∧ r < 86400000 := by rw [← hr, Int.tmod_eq_emod_of_nonneg h1]; omega
  have q1 : 0 ≤ d.tdiv 366 ∧ d.tdiv 366 ≤ d / 366 := by rw [Int.tdiv_eq_ediv_of_nonneg hd1.1]; omega
  have w1 : IntKind.i64.wrap d = d := wrap_id (by omega) (by omega)
  have w2 : IntKind.i64.wrap (d.tdiv 366) = d.tdiv 366 := wrap_id (by omega) (by omega)
  have w3 : IntKind.i64.wrap (1970 + d.tdiv 366) = 1970 + d.tdiv 366 := wrap_id (by omega) (by omega)
  have hs0 : F.ydays (1970 + d.tdiv 366) ≤ d := by have := F.ydays_366 (y := 1970 + d.tdiv 366) (by omega); omega
  obtain ⟨a1, a2, a3⟩ := F.yrL_ok (d := d) 10000 (1970 + d.tdiv 366) (by omega) hs0 (F.yr_end (by omega) hd1.2)
  obtain ⟨Y, hY⟩ : ∃ Y, F.yrL 10000 d (1970 + d.tdiv 366) = Y := ⟨_, rfl⟩
  rw [hY] at a1 a2 a3
  have hYm := F.yr_max (y := Y) (by omega) hd1.2 a1
  have hup := F.ydays_up (a := Y) (by omega)
  have hy0 := F.ydays_mono (a := 1970) (b := Y) (by omega) (by omega)
  rw [F.ydays_0] at hy0
  have h12 := F.msum_12 Y
  have w4 : IntKind.i64.wrap (d - F.ydays Y) = d - F.ydays Y := wrap_id (by omega) (by omega)
  obtain ⟨i, i1, D, i2, i3, i4, i5⟩ := F.moL_ok Y 12 20 1 (d - F.ydays Y) (by omega) (by omega) (by rw [h12]; omega)
  have hb := F.mdays_b Y ((1 + i : Nat) : Int)
  have i5 : F.moL 20 Y (d - F.ydays Y) 1 = (((1 + i : Nat) : Int), D) := i5
  have w5 : IntKind.i64.wrap (D + 1) = D + 1 := wrap_id (by omega) (by omega)
  have w6 : IntKind.i64.wrap (r.tdiv 3600000) = r.tdiv 3600000 := by rw [Int.tdiv_eq_ediv_of_nonneg hr1.1]; exact wrap_id (by omega) (by omega)
  have w7 : IntKind.i64.wrap (r.tdiv 60000) = r.tdiv 60000 := by rw [Int.tdiv_eq_ediv_of_nonneg hr1.1]; exact wrap_id (by omega) (by omega)
  have w8 : IntKind.i64.wrap (r.tdiv 1000) = r.tdiv 1000 := by rw [Int.tdiv_eq_ediv_of_nonneg hr1.1]; exact wrap_id (by omega) (by omega)
  have u2 : ∀ x : Int, unenc encPad [vI x, vI 2] = some (x, 2) := fun x => unenc_of encPad_inj (x, 2) rfl
  have u3 : ∀ x : Int, unenc encPad [vI x, vI 3] = some (x, 3) := fun x => unenc_of encPad_inj (x, 3) rfl
  have u4 : ∀ x : Int, unenc encPad [vI x, vI 4] = some (x, 4) := fun x => unenc_of encPad_inj (x, 4) rfl
  have g1 : decide (F.ydays (1970 + d.tdiv 366) ≤ d) = true := decide_eq_true hs0
  have g2 : decide (d - F.ydays Y < F.msum Y (13 - 1) 1) = true := decide_eq_true (by rw [show 13 - 1 = 12 from rfl, h12]; omega)
  have c1 : ((1 : Nat) : Int) = 1 := rfl
  simp only [unOut, unYd2, unMdy, unPad, preOut1, preYd21, preMdy1, prePad1, unstDt1, unstDt2, unstDt20, prlDt1, prlDt2, outDt1, outDt2, etaEnt, etaLst, etaSnd, etaStrm, etaMas, Option.bind_some, List.length_map, unStrs, unInts, unBools, unEnts, unItms, unTrns, cond_true, cond_false, Bool.and_true, Bool.true_and, ho, hd, hr, w1, w2, w3, hY, w4, c1, i5, w5, w6, w7, w8, u2, u3, u4, g1, g2]
  rw [decide_eq_true (by omega : 1970 ≤ 1970 + d.tdiv 366), decide_eq_true hd1.1, decide_eq_true hd1.2, decide_eq_true (by omega : 1970 ≤ Y), decide_eq_true (by omega : Y ≤ 20000), decide_eq_true (by omega : 0 ≤ Y), decide_eq_true (by omega : Y ≤ 100000), decide_eq_true (by omega : 0 ≤ d - F.ydays Y)]
  have hS : F.dtS n = F.dtP Y ((1 + i : Nat) : Int) (D + 1) r := by
    unfold F.dtS F.dtM
    have hYd : F.dtY d = Y := hY
    rw [hd, hr, hYd, i5]
  rw [hS]
  unfold F.dtP
  have b1 : 0 ≤ r.tdiv 3600000 ∧ r.tdiv 3600000 ≤ 100000000 := by rw [Int.tdiv_eq_ediv_of_nonneg hr1.1]; omega
  have b2 : 0 ≤ (r.tdiv 60000).tmod 60 ∧ (r.tdiv 60000).tmod 60 ≤ 100 := by
    rw [Int.tdiv_eq_ediv_of_nonneg hr1.1, Int.tmod_eq_emod_of_nonneg (by omega)]; omega
  have b3 : 0 ≤ (r.tdiv 1000).tmod 60 ∧ (r.tdiv 1000).tmod 60 ≤ 100 := by
    rw [Int.tdiv_eq_ediv_of_nonneg hr1.1, Int.tmod_eq_emod_of_nonneg (by omega)]; omega
  have b4 : 0 ≤ r.tmod 1000 ∧ r.tmod 1000 ≤ 1000 := by rw [Int.tmod_eq_emod_of_nonneg hr1.1]; omega
  have hx5 : 0 ≤ ((1 + i : Nat) : Int) ∧ ((1 + i : Nat) : Int) ≤ 100 := by omega
  have hx6 : 0 ≤ D + 1 ∧ D + 1 ≤ 100 := by omega
  clear hS hok ho hd hr w1 w2 w3 w4 w5 w6 w7 w8 u2 u3 u4 g1 g2 h12 hup hy0 i5 i4 i3 a1 a2 hs0 hY
  generalize r.tdiv 3600000 = x1 at *
  generalize (r.tdiv 60000).tmod 60 = x2 at *
  generalize (r.tdiv 1000).tmod 60 = x3 at *
  generalize r.tmod 1000 = x4 at *
  generalize ((1 + i : Nat) : Int) = x5 at *
  generalize D + 1 = x6 at *
  have s1 := F.pad_size (n := Y) (by omega) (by omega) (m := 4) (by decide)
  have s2 := F.pad_size (n := x5) (by omega) (by omega) (m := 2) (by decide)
  have s3 := F.pad_size (n := x6) (by omega) (by omega) (m := 2) (by decide)
  have s4 := F.pad_size (n := x1) (by omega) (by omega) (m := 2) (by decide)
  have s5 := F.pad_size (n := x2) (by omega) (by omega) (m := 2) (by decide)
  have s6 := F.pad_size (n := x3) (by omega) (by omega) (m := 2) (by decide)
  have s7 := F.pad_size (n := x4) (by omega) (by omega) (m := 3) (by decide)
  have e1 : (⟨⟨[45]⟩⟩ : ByteArray).size = 1 := rfl
  have e2 : (⟨⟨[84]⟩⟩ : ByteArray).size = 1 := rfl
  have e3 : (⟨⟨[58]⟩⟩ : ByteArray).size = 1 := rfl
  have e4 : (⟨⟨[46]⟩⟩ : ByteArray).size = 1 := rfl
  have e5 : (⟨⟨[90]⟩⟩ : ByteArray).size = 1 := rfl
  have d4 : decide ((4 : Nat) ≤ 1000) = true := rfl
  have d2 : decide ((2 : Nat) ≤ 1000) = true := rfl
  have d3 : decide ((3 : Nat) ≤ 1000) = true := rfl
  rw [decide_eq_true (by omega : -9223372036854775808 ≤ Y), decide_eq_true (by omega : Y ≤ 9223372036854775807), decide_eq_true (by omega : -9223372036854775808 ≤ x5), decide_eq_true (by omega : x5 ≤ 9223372036854775807), decide_eq_true (by omega : -9223372036854775808 ≤ x6), decide_eq_true (by omega : x6 ≤ 9223372036854775807), decide_eq_true (by omega : -9223372036854775808 ≤ x1), decide_eq_true (by omega : x1 ≤ 9223372036854775807), decide_eq_true (by omega : -9223372036854775808 ≤ x2), decide_eq_true (by omega : x2 ≤ 9223372036854775807), decide_eq_true (by omega : -9223372036854775808 ≤ x3), decide_eq_true (by omega : x3 ≤ 9223372036854775807), decide_eq_true (by omega : -9223372036854775808 ≤ x4), decide_eq_true (by omega : x4 ≤ 9223372036854775807), d4, d2, d3]
  generalize F.pad Y 4 = P1 at *
  generalize F.pad x5 2 = P2 at *
  generalize F.pad x6 2 = P3 at *
  generalize F.pad x1 2 = P4 at *
  generalize F.pad x2 2 = P5 at *
  generalize F.pad x3 2 = P6 at *
  generalize F.pad x4 3 = P7 at *
  simp (disch := omega) only [ByteArray.size_append, e1, e2, e3, e4, e5, ble_t, Bool.and_self, cond_true, decide_true, (by decide : decide ((1 : Nat) ≤ 1) = true), (by decide : decide ((1 : Nat) ≤ 12) = true)]
  rfl

end M

namespace M

def stXpd (many : Nat) (s : ByteArray) : St := ⟨[(5, vS s), (1, vI many)], []⟩

def stXpd1 (a : Nat × ByteArray) : St := stXpd a.1 a.2

theorem stXpd_inj (a a' : Nat × ByteArray) (h : stXpd1 a = stXpd1 a') : a = a' := by
  simp only [stXpd1, stXpd] at h
  try simp [strs_inj, ints_inj, ents_inj, eEnt_iff, eLst_iff, eSnds_inj, eStrms_inj] at h
  grind

theorem unstXpd (many : Nat) (s : ByteArray) : unenc stXpd1 (St.mk [(5, (vS s)), (1, (vI (↑many : Int)))] []) = some (many, s) := unenc_of stXpd_inj (many, s) rfl

def outXpd (many : Nat) (s : ByteArray) : T (Ex × St) := .ret (.exit 0, ⟨[(5, vS (F.zrs (many - s.size) ++ s))], []⟩)

noncomputable def prlXpd (many : Nat) (s : ByteArray) : Bool := decide (many ≤ 1000)

noncomputable def lpXpd : Nat × (St → T (Ex × St)) := (2, lpo [5, 1] [] stXpd1 (fun a => prlXpd a.1 a.2) fun a => outXpd a.1 a.2)

noncomputable def enXpd : Env := envH ty noG lks [oIta] [] [] [lpXpd]

theorem enXpd_ok : EnvOK Tryz.prog enXpd := by
  refine envH_ok lks_ok ty_ok ?_ ?_
  · simp only [List.forall_mem_cons]
    exact ⟨okIta, by simp⟩
  · simp

theorem evXpdL (many : Nat) (s : ByteArray) : ((exec enXpd (loopN Tryz.f103 0) (stXpd many s)).bind (lessX ([5, 1], []) ([5], []) ([], []))).val =
  bif decide ((↑(ByteArray.size s) : Int) < (↑many : Int)) then bif Nat.ble (ByteArray.size (ByteArray.mk (Array.mk [(48 : UInt8)])) + ByteArray.size s) (9223372036854775807
  : Nat) then some (Ex.normal, St.mk [(5, (vS (ByteArray.mk (Array.mk [(48 : UInt8)]) ++ s))), (1, (vI (↑many : Int)))] []) else none else some (Ex.exit (0 : Nat), St.mk
  [(5, (vS s))] []) := (execR_bind _ _ _).symm.trans (by kernel_rfl)

theorem lpXpd_ok (many : Nat) (s : ByteArray) (hp : prlXpd many s = true) : ∀ ex s', (outXpd many s).val = some (ex, s') → LoopOK enXpd (loopN Tryz.f103 0) (stXpd many s) ex s' := by
  simp only [prlXpd, Bool.and_eq_true, decide_eq_true_eq] at hp
  refine loop_gen (st := fun s : ByteArray => stXpd many s) (out := fun s => outXpd many s) (I := fun _ => True) (n := ([5, 1], [])) (e := ([5], [])) (r := ([], [])) (fun s => many - s.size) ?_ s trivial
  intro s _
  by_cases h : s.size < many
  · right
    have e1 : ((⟨⟨[48]⟩⟩ : ByteArray) ++ s).size = s.size + 1 := by rw [ByteArray.size_append]; show 1 + s.size = _; omega
    refine ⟨⟨⟨[48]⟩⟩ ++ s, ?_, rfl, trivial, by omega, ?_⟩
    · rw [evXpdL]
      simp only [unIta, preIta1, unstXpd, prlXpd, outXpd, etaEnt, etaLst, etaSnd, etaStrm, etaMas, Option.bind_some, List.length_map, unStrs, unInts, unBools, unEnts, unItms, unTrns, cond_true, cond_false, Bool.and_true, Bool.true_and, decide_eq_true (show (s.size : Int) < (many : Int) by omega)]
      rw [ble_t (show (ByteArray.mk (Array.mk [48])).size + s.size ≤ 9223372036854775807 by show 1 + s.size ≤ _; omega)]
      rfl
    · have e2 : many - s.size = (many - (s.size + 1)) + 1 := by omega
      simp only [outXpd, e1]
      rw [e2, F.zrs_succ]
  · left
    refine ⟨(.exit 0, ⟨[(5, vS s)], []⟩), ?_, ?_, by simp, rfl⟩
    · rw [evXpdL]
      simp only [unIta, preIta1, unstXpd, prlXpd, outXpd, etaEnt, etaLst, etaSnd, etaStrm, etaMas, Option.bind_some, List.length_map, unStrs, unInts, unBools, unEnts, unItms, unTrns, cond_true, cond_false, Bool.and_true, Bool.true_and, decide_eq_false (show ¬ (s.size : Int) < (many : Int) by omega)]
    · simp only [outXpd]
      rw [show many - s.size = 0 by omega, F.zrs_zero]
      rfl

theorem evXpd (n : Int) (many : Nat) : (runF enXpd false Tryz.f103 [vI n, vI many]).val =
  Option.bind (unenc encIta [(vI n)]) fun (z : Int) => bif decide ((-9223372036854775808 : Int) ≤ z) && decide (z ≤ (9223372036854775807 : Int)) then Option.bind (unenc
  stXpd1 (St.mk [(5, (vS (F.itoa z))), (1, (vI (↑many : Int)))] [])) fun (z : Nat × ByteArray) => bif decide (z.fst ≤ (1000 : Nat)) && true then some ((vS (F.zrs (z.fst -
  ByteArray.size z.snd) ++ z.snd)), []) else none else none := (runFR_val).symm.trans (by kernel_rfl)

def encXpd1 (n : Int) (many : Nat) : List AV := [vI n, vI many]

def encXpd (a : Int × Nat) : List AV := encXpd1 a.1 a.2

theorem encXpd_inj (a a' : Int × Nat) (h : encXpd a = encXpd a') : a = a' := by
  simp only [encXpd, encXpd1] at h
  try simp [strs_inj, ints_inj, ents_inj, eEnt_iff, eLst_iff, eSnds_inj, eStrms_inj] at h
  grind

theorem unXpd (n : Int) (many : Nat) : unenc encXpd ([(vI n), (vI (↑many : Int))]) = some (n, many) := unenc_of encXpd_inj (n, many) rfl

def resXpd1 (n : Int) (many : Nat) : AV × Heap := (vS (F.pad n many), [])

def preXpd1 (n : Int) (many : Nat) : Bool := decide (-9223372036854775808 ≤ n) && decide (n ≤ 9223372036854775807) && decide (many ≤ 1000)

noncomputable def oXpd : Orc := orc 103 true encXpd (fun a => preXpd1 a.1 a.2) fun a => resXpd1 a.1 a.2

theorem okXpd : OrcOK Tryz.prog noG oXpd := by
  refine mk_ok Tryz.f103 (keep := false) (by kernel_rfl) (by kernel_rfl) enXpd_ok mixed (one_loop (x0 := loopN Tryz.f103 0) (by kernel_rfl) (lpo_ok ?_)) (by first | exact fun _ _ => ⟨rfl, rfl⟩ | (intro h; cases h)) ?_
  · rintro ⟨many, s⟩ hp
    exact lpXpd_ok many s hp
  rintro ⟨n, many⟩ hpre hok
  show (runF enXpd false _ (encXpd1 _ _)).val = some (resXpd1 _ _)
  unfold encXpd1 resXpd1
  rw [evXpd]
  simp only [preXpd1, Bool.and_eq_true] at hpre
  simp only [unIta, preIta1, unstXpd, prlXpd, outXpd, etaEnt, etaLst, etaSnd, etaStrm, etaMas, Option.bind_some, List.length_map, unStrs, unInts, unBools, unEnts, unItms, unTrns, cond_true, cond_false, Bool.and_true, Bool.true_and, hpre.1.1, hpre.1.2, hpre.2, F.pad]
  try rfl

def stXy (y : Int) (r : Int) (d : Int) : St := ⟨[(7, vI 1), (6, vI y), (5, vI r), (4, vI d)], []⟩

def stXy1 (a : Int × Int × Int) : St := stXy a.1 a.2.1 a.2.2

theorem stXy_inj (a a' : Int × Int × Int) (h : stXy1 a = stXy1 a') : a = a' := by
  simp only [stXy1, stXy] at h
  try simp [strs_inj, ints_inj, ents_inj, eEnt_iff, eLst_iff, eSnds_inj, eStrms_inj] at h
  grind

theorem unstXy (y : Int) (r : Int) (d : Int) : unenc stXy1 (St.mk [(7, (vI (1 : Int))), (6, (vI y)), (5, (vI r)), (4, (vI d))] []) = some (y, r, d) := unenc_of stXy_inj (y, r, d) rfl

def outXy (y : Int) (r : Int) (d : Int) : T (Ex × St) := .ret (.exit 0, ⟨[(7, vI 1), (6, vI (F.yrL 10000 (d + F.ydays y) y)), (5, vI r), (4, vI (d + F.ydays y - F.ydays (F.yrL 10000 (d + F.ydays y) y)))], []⟩)

noncomputable def prlXy (y : Int) (r : Int) (d : Int) : Bool := decide (1970 ≤ y) && decide (0 ≤ d) && decide (d + F.ydays y ≤ 2932896)

noncomputable def lpXy : Nat × (St → T (Ex × St)) := (5, lpo [7, 6, 5, 4] [] stXy1 (fun a => prlXy a.1 a.2.1 a.2.2) fun a => outXy a.1 a.2.1 a.2.2)

def stXm (m : Nat) (y : Int) (r : Int) (d : Int) : St := ⟨[(7, vI m), (6, vI y), (5, vI r), (4, vI d)], []⟩

def stXm1 (a : Nat × Int × Int × Int) : St := stXm a.1 a.2.1 a.2.2.1 a.2.2.2

theorem stXm_inj (a a' : Nat × Int × Int × Int) (h : stXm1 a = stXm1 a') : a = a' := by
  simp only [stXm1, stXm] at h
  try simp [strs_inj, ints_inj, ents_inj, eEnt_iff, eLst_iff, eSnds_inj, eStrms_inj] at h
  grind

theorem unstXm (m : Nat) (y : Int) (r : Int) (d : Int) : unenc stXm1 (St.mk [(7, (vI (↑m : Int))), (6, (vI y)), (5, (vI r)), (4, (vI d))] []) = some (m, y, r, d) := unenc_of stXm_inj (m, y, r, d) rfl

theorem unstXm0 (y : Int) (r : Int) (d : Int)  : unenc stXm1 (St.mk [(7, (vI (1 : Int))), (6, (vI y)), (5, (vI r)), (4, (vI d))] []) = some (1, y, r, d) := unenc_of stXm_inj (1, y, r, d) rfl

def outXm (m : Nat) (y : Int) (r : Int) (d : Int) : T (Ex × St) := .ret (.exit 2, ⟨[(7, vI (F.moL 20 y d m).1), (6, vI y), (5, vI r), (4, vI (F.moL 20 y d m).2)], []⟩)

noncomputable def prlXm (m : Nat) (y : Int) (r : Int) (d : Int) : Bool := decide (0 ≤ y) && decide (y ≤ 100000) && decide (1 ≤ m) && decide (m ≤ 12) && decide (0 ≤ d) && decide (d < F.msum y (13 - m) m)

noncomputable def lpXm : Nat × (St → T (Ex × St)) := (11, lpo [7, 6, 5, 4] [] stXm1 (fun a => prlXm a.1 a.2.1 a.2.2.1 a.2.2.2) fun a => outXm a.1 a.2.1 a.2.2.1 a.2.2.2)

noncomputable def enXdt : Env := envH ty noG lks [oRLep, oRDy, oXpd] [] [] [lpXy, lpXm]

theorem enXdt_ok : EnvOK Tryz.prog enXdt := by
  refine envH_ok lks_ok ty_ok ?_ ?_
  · simp only [List.forall_mem_cons]
    exact ⟨okRLep, okRDy, okXpd, by simp⟩
  · simp

theorem evXyL (y : Int) (r : Int) (d : Int) : ((exec enXdt (loopN Tryz.f83 0) (stXy y r d)).bind (lessX ([7, 6, 5, 4], []) ([7, 6, 5, 4], []) ([], []))).val =
  Option.bind (unenc encRLep [(vI y)]) fun (z : Int) => bif decide ((0 : Int) ≤ z) && decide (z ≤ (100000 : Int)) then bif F.leap z then bif decide (d < (366 : Int)) then
  some (Ex.exit (0 : Nat), St.mk [(7, (vI (1 : Int))), (6, (vI y)), (5, (vI r)), (4, (vI d))] []) else some (Ex.normal, St.mk [(7, (vI (1 : Int))), (6, (vI (IntKind.wrap
  IntKind.i64 (y + (1 : Int))))), (5, (vI r)), (4, (vI (IntKind.wrap IntKind.i64 (d - (366 : Int)))))] []) else bif decide (d < (365 : Int)) then some (Ex.exit (0 : Nat),
  St.mk [(7, (vI (1 : Int))), (6, (vI y)), (5, (vI r)), (4, (vI d))] []) else some (Ex.normal, St.mk [(7, (vI (1 : Int))), (6, (vI (IntKind.wrap IntKind.i64 (y + (1 :
  Int))))), (5, (vI r)), (4, (vI (IntKind.wrap IntKind.i64 (d - (365 : Int)))))] []) else none := (execR_bind _ _ _).symm.trans (by kernel_rfl)

theorem lpXy_ok (y : Int) (r : Int) (d : Int) (hp : prlXy y r d = true) : ∀ ex s', (outXy y r d).val = some (ex, s') → LoopOK enXdt (loopN Tryz.f83 0) (stXy y r d) ex s' := by
  simp only [prlXy, Bool.and_eq_true, decide_eq_true_eq] at hp
  obtain ⟨⟨h1, h2⟩, h3⟩ := hp
  obtain ⟨D, hD⟩ : ∃ D, d + F.ydays y = D := ⟨_, rfl⟩
  have ed : d = D - F.ydays y := by omega
  have eo : outXy y r d = .ret (.exit 0, ⟨[(7, vI 1), (6, vI (F.yrL 10000 D y)), (5, vI r), (4, vI (D - F.ydays (F.yrL 10000 D y)))], []⟩) := by unfold outXy; rw [hD]
  rw [eo, ed]
  rw [hD] at h3
  have h4 : F.ydays y ≤ D := by omega
  clear hD ed eo h2
  refine loop_gen (st := fun y : Int => stXy y r (D - F.ydays y)) (out := fun y => .ret (.exit 0, ⟨[(7, vI 1), (6, vI (F.yrL 10000 D y)), (5, vI r), (4, vI (D - F.ydays (F.yrL 10000 D y)))], []⟩)) (I := fun y => 1970 ≤ y ∧ F.ydays y ≤ D) (n := ([7, 6, 5, 4], [])) (e := ([7, 6, 5, 4], [])) (r := ([], [])) (fun y => (10000 - y).toNat) ?_ y ⟨h1, h4⟩
  clear h1 h4
  intro y ⟨h1, h4⟩
  have hmx := F.yr_max h1 h3 h4
  have hup := F.ydays_up (a := y) (by omega)
  have hy0 := F.ydays_mono (a := 1970) (b := y) (by omega) (by omega)
  rw [F.ydays_0] at hy0
  have w1 : IntKind.i64.wrap (y + 1) = y + 1 := wrap_id (by omega) (by omega)
  have p1 : decide (0 ≤ y) = true := decide_eq_true (by omega)
  have p2 : decide (y ≤ 100000) = true := decide_eq_true (by omega)
  have wd : ∀ k : Int, 0 ≤ k → k ≤ 366 → IntKind.i64.wrap (D - F.ydays y - k) = D - F.ydays y - k := fun k _ _ => wrap_id (by omega) (by omega)
  by_cases hc : F.ydays (y + 1) ≤ D
  · right
    refine ⟨y + 1, ?_, rfl, ⟨by omega, hc⟩, by omega, ?_⟩
    · rw [evXyL]
      cases hl : F.leap y
      · rw [hl, cond_false] at hup
        simp only [unRLep, unRDy, unXpd, preRLep1, preRDy1, preXpd1, unstXy, unstXm, unstXm0, prlXy, prlXm, outXy, outXm, etaEnt, etaLst, etaSnd, etaStrm, etaMas, Option.bind_some, List.length_map, unStrs, unInts, unBools, unEnts, unItms, unTrns, cond_true, cond_false, Bool.and_true, Bool.true_and, hl, w1, p1, p2, decide_eq_false (show ¬ D - F.ydays y < 365 by omega), wd 365 (by omega) (by omega), stXy]
        rw [show D - F.ydays (y + 1) = D - F.ydays y - 365 by omega]
        try rfl
      · rw [hl, cond_true] at hup
        simp only [unRLep, unRDy, unXpd, preRLep1, preRDy1, preXpd1, unstXy, unstXm, unstXm0, prlXy, prlXm, outXy, outXm, etaEnt, etaLst, etaSnd, etaStrm, etaMas, Option.bind_some, List.length_map, unStrs, unInts, unBools, unEnts, unItms, unTrns, cond_true, cond_false, Bool.and_true, Bool.true_and, hl, w1, p1, p2, decide_eq_false (show ¬ D - F.ydays y < 366 by omega), wd 366 (by omega) (by omega), stXy]
        rw [show D - F.ydays (y + 1) = D - F.ydays y - 366 by omega]
        try rfl
    · simp only [F.yr_step h1 h3 h4 hc]
  · left
    refine ⟨(.exit 0, ⟨[(7, vI 1), (6, vI y), (5, vI r), (4, vI (D - F.ydays y))], []⟩), ?_, ?_, by simp, rfl⟩
    · rw [evXyL]
      cases hl : F.leap y
      · rw [hl, cond_false] at hup
        simp only [unRLep, unRDy, unXpd, preRLep1, preRDy1, preXpd1, unstXy, unstXm, unstXm0, prlXy, prlXm, outXy, outXm, etaEnt, etaLst, etaSnd, etaStrm, etaMas, Option.bind_some, List.length_map, unStrs, unInts, unBools, unEnts, unItms, unTrns, cond_true, cond_false, Bool.and_true, Bool.true_and, hl, p1, p2, decide_eq_true (show D - F.ydays y < 365 by omega)]
        try rfl
      · rw [hl, cond_true] at hup
        simp only [unRLep, unRDy, unXpd, preRLep1, preRDy1, preXpd1, unstXy, unstXm, unstXm0, prlXy, prlXm, outXy, outXm, etaEnt, etaLst, etaSnd, etaStrm, etaMas, Option.bind_some, List.length_map, unStrs, unInts, unBools, unEnts, unItms, unTrns, cond_true, cond_false, Bool.and_true, Bool.true_and, hl, p1, p2, decide_eq_true (show D - F.ydays y < 366 by omega)]
        try rfl
    · simp only [F.yr_stop hc]
      rfl

theorem evXmL (m : Nat) (y : Int) (r : Int) (d : Int) : ((exec enXdt (loopN Tryz.f83 1) (stXm m y r d)).bind (lessX ([7, 6, 5, 4], []) ([7, 6, 5, 4], []) ([], []))).val =
  Option.bind (unenc encRDy [(vI y), (vI (↑m : Int))]) fun (z : Int × Int) => bif decide ((0 : Int) ≤ z.fst) && decide (z.fst ≤ (100000 : Int)) then bif decide (F.mdays
  z.fst z.snd ≤ d) then Option.bind (unenc encRDy [(vI y), (vI (↑m : Int))]) fun (z : Int × Int) => bif decide ((0 : Int) ≤ z.fst) && decide (z.fst ≤ (100000 : Int)) then
  some (Ex.normal, St.mk [(7, (vI (IntKind.wrap IntKind.i64 ((↑m : Int) + (1 : Int))))), (6, (vI y)), (5, (vI r)), (4, (vI (IntKind.wrap IntKind.i64 (d - F.mdays z.fst
  z.snd))))] []) else none else some (Ex.exit (2 : Nat), St.mk [(7, (vI (↑m : Int))), (6, (vI y)), (5, (vI r)), (4, (vI d))] []) else none := (execR_bind _ _ _).symm.trans (by kernel_rfl)

theorem lpXm_ok (m : Nat) (y : Int) (r : Int) (d : Int) (hp : prlXm m y r d = true) : ∀ ex s', (outXm m y r d).val = some (ex, s') → LoopOK enXdt (loopN Tryz.f83 1) (stXm m y r d) ex s' := by
  simp only [prlXm, Bool.and_eq_true, decide_eq_true_eq] at hp
  obtain ⟨⟨⟨⟨⟨h1, h2⟩, h3⟩, h4⟩, h5⟩, h6⟩ := hp
  have p1 : decide (0 ≤ y) = true := decide_eq_true h1
  have p2 : decide (y ≤ 100000) = true := decide_eq_true h2
  refine loop_gen (st := fun p : Nat × Int => stXm p.1 y r p.2) (out := fun p => outXm p.1 y r p.2) (I := fun p => 1 ≤ p.1 ∧ p.1 ≤ 12 ∧ 0 ≤ p.2 ∧ p.2 < F.msum y (13 - p.1) p.1) (n := ([7, 6, 5, 4], [])) (e := ([7, 6, 5, 4], [])) (r := ([], [])) (fun p => 13 - p.1) ?_ (m, d) ⟨h3, h4, h5, h6⟩
  clear h3 h4 h5 h6
  rintro ⟨m, d⟩ ⟨h3, h4, h5, h6⟩
  simp only at h3 h4 h5 h6
  have hb := F.mdays_b y m
  have hs := F.msum_b y (13 - m) m
  by_cases hc : F.mdays y m ≤ d
  · obtain ⟨k1, k2, k3⟩ := F.mo_step h3 h4 h5 h6 hc
    have w1 : IntKind.i64.wrap (d - F.mdays y m) = d - F.mdays y m := wrap_id (by omega) (by omega)
    have w2 : IntKind.i64.wrap ((m : Int) + 1) = ((m + 1 : Nat) : Int) := by rw [wrap_id (by omega) (by omega)]; rfl
    right
    refine ⟨(m + 1, d - F.mdays y m), ?_, rfl, ⟨by simp only; omega, k1, by simp only; omega, k2⟩, by simp only; omega, ?_⟩
    · rw [evXmL]
      simp only [unRLep, unRDy, unXpd, preRLep1, preRDy1, preXpd1, unstXy, unstXm, unstXm0, prlXy, prlXm, outXy, outXm, etaEnt, etaLst, etaSnd, etaStrm, etaMas, Option.bind_some, List.length_map, unStrs, unInts, unBools, unEnts, unItms, unTrns, cond_true, cond_false, Bool.and_true, Bool.true_and, p1, p2, w1, w2, decide_eq_true hc, stXm]
      try rfl
    · simp only [outXm, k3]
  · left
    refine ⟨(.exit 2, ⟨[(7, vI m), (6, vI y), (5, vI r), (4, vI d)], []⟩), ?_, ?_, by simp, rfl⟩
    · rw [evXmL]
      simp only [unRLep, unRDy, unXpd, preRLep1, preRDy1, preXpd1, unstXy, unstXm, unstXm0, prlXy, prlXm, outXy, outXm, etaEnt, etaLst, etaSnd, etaStrm, etaMas, Option.bind_some, List.length_map, unStrs, unInts, unBools, unEnts, unItms, unTrns, cond_true, cond_false, Bool.and_true, Bool.true_and, p1, p2, decide_eq_false hc]
      try rfl
    · simp only [outXm, F.mo_stop hc]
      rfl

theorem evXdt (n : Int) : (runF enXdt false Tryz.f83 [vI n]).val =
  (fun (q : ByteArray) => (fun (q_1 : ByteArray) => (fun (q_2 : ByteArray) => (fun (q_3 : ByteArray) => (fun (q_4 : List AV) => bif bif decide (n < (0 : Int)) then true else
  decide ((253402300799999 : Int) < n) then some (AV.tup [(vS (ByteArray.mk (Array.mk []))), (vI (1 : Int))], []) else Option.bind (unenc stXy1 (St.mk [(7, (vI (1 : Int))),
  (6, (vI (1970 : Int))), (5, (vI (Int.tmod n (86400000 : Int)))), (4, (vI (IntKind.wrap IntKind.i64 (Int.tdiv n (86400000 : Int)))))] [])) fun (z : Int × Int × Int) => (fun
  (q_5 : Int) => bif decide ((1970 : Int) ≤ z.fst) && decide ((0 : Int) ≤ z.snd.snd) && decide (q_5 ≤ (2932896 : Int)) && true then Option.bind (unenc stXm1 (St.mk [(7, (vI
  (1 : Int))), (6, (vI (F.yrL (10000 : Nat) q_5 z.fst))), (5, (vI z.snd.fst)), (4, (vI (q_5 - F.ydays (F.yrL (10000 : Nat) q_5 z.fst))))] [])) fun (z : Nat × Int × Int ×
  Int) => bif decide ((0 : Int) ≤ z.snd.fst) && decide (z.snd.fst ≤ (100000 : Int)) && decide ((1 : Nat) ≤ z.fst) && decide (z.fst ≤ (12 : Nat)) && decide ((0 : Int) ≤
  z.snd.snd.snd) && decide (z.snd.snd.snd < F.msum z.snd.fst ((13 : Nat) - z.fst) z.fst) && true then Option.bind (unenc encXpd [(vI z.snd.fst), (vI (4 : Int))]) fun (z_1 :
  Int × Nat) => (fun (q_6 : ByteArray) => bif decide ((-9223372036854775808 : Int) ≤ z_1.fst) && decide (z_1.fst ≤ (9223372036854775807 : Int)) && decide (z_1.snd ≤ (1000 :
  Nat)) then bif Nat.ble (ByteArray.size (F.pad z_1.fst z_1.snd) + ByteArray.size q) (9223372036854775807 : Nat) then Option.bind (unenc encXpd ((vI (F.moL (20 : Nat)
  z.snd.fst z.snd.snd.snd (↑z.fst : Int)).fst) :: q_4)) fun (z_2 : Int × Nat) => (fun (q_7 : ByteArray) => bif decide ((-9223372036854775808 : Int) ≤ z_2.fst) && decide
  (z_2.fst ≤ (9223372036854775807 : Int)) && decide (z_2.snd ≤ (1000 : Nat)) then bif Nat.ble (ByteArray.size q_6 + ByteArray.size (F.pad z_2.fst z_2.snd))
  (9223372036854775807 : Nat) then bif Nat.ble (ByteArray.size (q_6 ++ F.pad z_2.fst z_2.snd) + ByteArray.size q) (9223372036854775807 : Nat) then Option.bind (unenc encXpd
  ((vI (IntKind.wrap IntKind.i64 ((F.moL (20 : Nat) z.snd.fst z.snd.snd.snd (↑z.fst : Int)).snd + (1 : Int)))) :: q_4)) fun (z_3 : Int × Nat) => (fun (q : ByteArray) => bif
  decide ((-9223372036854775808 : Int) ≤ z_3.fst) && decide (z_3.fst ≤ (9223372036854775807 : Int)) && decide (z_3.snd ≤ (1000 : Nat)) then bif Nat.ble (ByteArray.size q_7 +
  ByteArray.size (F.pad z_3.fst z_3.snd)) (9223372036854775807 : Nat) then bif Nat.ble (ByteArray.size (q_7 ++ F.pad z_3.fst z_3.snd) + ByteArray.size q_3)
  (9223372036854775807 : Nat) then Option.bind (unenc encXpd ((vI (IntKind.wrap IntKind.i64 (Int.tdiv z.snd.snd.fst (3600000 : Int)))) :: q_4)) fun (z_4 : Int × Nat) => (fun
  (q_8 : ByteArray) => bif decide ((-9223372036854775808 : Int) ≤ z_4.fst) && decide (z_4.fst ≤ (9223372036854775807 : Int)) && decide (z_4.snd ≤ (1000 : Nat)) then bif
  Nat.ble (ByteArray.size q + ByteArray.size (F.pad z_4.fst z_4.snd)) (9223372036854775807 : Nat) then bif Nat.ble (ByteArray.size (q ++ F.pad z_4.fst z_4.snd) +
  ByteArray.size q_1) (9223372036854775807 : Nat) then Option.bind (unenc encXpd ((vI (Int.tmod (IntKind.wrap IntKind.i64 (Int.tdiv z.snd.snd.fst (60000 : Int))) (60 :
  Int))) :: q_4)) fun (z_5 : Int × Nat) => (fun (q : ByteArray) => bif decide ((-9223372036854775808 : Int) ≤ z_5.fst) && decide (z_5.fst ≤ (9223372036854775807 : Int)) &&
  decide (z_5.snd ≤ (1000 : Nat)) then bif Nat.ble (ByteArray.size q_8 + ByteArray.size (F.pad z_5.fst z_5.snd)) (9223372036854775807 : Nat) then bif Nat.ble (ByteArray.size
  (q_8 ++ F.pad z_5.fst z_5.snd) + ByteArray.size q_1) (9223372036854775807 : Nat) then Option.bind (unenc encXpd ((vI (Int.tmod (IntKind.wrap IntKind.i64 (Int.tdiv
  z.snd.snd.fst (1000 : Int))) (60 : Int))) :: q_4)) fun (z_6 : Int × Nat) => bif decide ((-9223372036854775808 : Int) ≤ z_6.fst) && decide (z_6.fst ≤ (9223372036854775807 :
  Int)) && decide (z_6.snd ≤ (1000 : Nat)) then bif Nat.ble (ByteArray.size q + ByteArray.size (F.pad z_6.fst z_6.snd)) (9223372036854775807 : Nat) then bif Nat.ble
  (ByteArray.size (q ++ F.pad z_6.fst z_6.snd) + ByteArray.size q_2) (9223372036854775807 : Nat) then Option.bind (unenc encXpd [(vI (Int.tmod z.snd.snd.fst (1000 : Int))),
  (vI (3 : Int))]) fun (z : Int × Nat) => bif decide ((-9223372036854775808 : Int) ≤ z.fst) && decide (z.fst ≤ (9223372036854775807 : Int)) && decide (z.snd ≤ (1000 : Nat))
  then bif Nat.ble (ByteArray.size (q ++ F.pad z_6.fst z_6.snd ++ q_2) + ByteArray.size (F.pad z.fst z.snd)) (9223372036854775807 : Nat) then bif Nat.ble (ByteArray.size (q
  ++ F.pad z_6.fst z_6.snd ++ q_2 ++ F.pad z.fst z.snd) + ByteArray.size (ByteArray.mk (Array.mk [(90 : UInt8)]))) (9223372036854775807 : Nat) then some (AV.tup [(vS (q ++
  F.pad z_6.fst z_6.snd ++ q_2 ++ F.pad z.fst z.snd ++ ByteArray.mk (Array.mk [(90 : UInt8)]))), (vI (0 : Int))], []) else none else none else none else none else none else
  none else none else none else none) (q_8 ++ F.pad z_5.fst z_5.snd ++ q_1) else none else none else none) (q ++ F.pad z_4.fst z_4.snd ++ q_1) else none else none else none)
  (q_7 ++ F.pad z_3.fst z_3.snd ++ q_3) else none else none else none) (q_6 ++ F.pad z_2.fst z_2.snd ++ q) else none else none) (F.pad z_1.fst z_1.snd ++ q) else none else
  none) (z.snd.snd + F.ydays z.fst)) [(vI (2 : Int))]) (ByteArray.mk (Array.mk [(84 : UInt8)]))) (ByteArray.mk (Array.mk [(46 : UInt8)]))) (ByteArray.mk (Array.mk [(58 :
  UInt8)]))) (ByteArray.mk (Array.mk [(45 : UInt8)])) := (runFR_val).symm.trans (by kernel_rfl)

def encXdt1 (n : Int) : List AV := [vI n]

def encXdt (a : Int) : List AV := encXdt1 a

theorem encXdt_inj (a a' : Int) (h : encXdt a = encXdt a') : a = a' := by
  simp only [encXdt, encXdt1] at h
  try simp [strs_inj, ints_inj, ents_inj, eEnt_iff, eLst_iff, eSnds_inj, eStrms_inj] at h
  grind

theorem unXdt (n : Int) : unenc encXdt ([(vI n)]) = some (n) := unenc_of encXdt_inj (n) rfl

def resXdt1 (n : Int) : AV × Heap := (.tup [vS (F.dtS n), vI 0], [])

def preXdt1 (n : Int) : Bool := decide (0 ≤ n) && decide (n ≤ 253402300799999)

noncomputable def oXdt : Orc := orc 83 true encXdt (fun a => preXdt1 a) fun a => resXdt1 a

theorem okXdt : OrcOK Tryz.prog noG oXdt := by
  refine mk_ok Tryz.f83 (keep := false) (by kernel_rfl) (by kernel_rfl) enXdt_ok mixed (two_loops (x0 := loopN Tryz.f83 0) (x1 := loopN Tryz.f83 1) (by kernel_rfl) (lpo_ok ?_) (lpo_ok ?_)) (by first | exact fun _ _ => ⟨rfl, rfl⟩ | (intro h; cases h)) ?_
  · rintro ⟨y, r, d⟩ hp
    exact lpXy_ok y r d hp
  · rintro ⟨m, y, r, d⟩ hp
    exact lpXm_ok m y r d hp
  rintro n hpre hok
  show (runF enXdt false _ (encXdt1 _)).val = some (resXdt1 _)
  unfold encXdt1 resXdt1
  rw [evXdt]
  simp only [preXdt1, Bool.and_eq_true, decide_eq_true_eq] at hpre
  obtain ⟨h1, h2⟩ := hpre
  have o1 : decide (n < 0) = false := decide_eq_false (by omega)
  have o2 : decide (253402300799999 < n) = false := decide_eq_false (by omega)
  obtain ⟨d, hd⟩ : ∃ d, n.tdiv 86400000 = d := ⟨_, rfl⟩
  obtain ⟨r, hr⟩ : ∃ r, n.tmod 86400000 = r := ⟨_, rfl⟩
  have hd1 : 0 ≤ d ∧ d ≤ 2932896 := by rw [← hd, Int.tdiv_eq_ediv_of_nonneg h1]; omega
  have hr1 : 0 ≤ r ∧ r < 86400000 := by rw [← hr, Int.tmod_eq_emod_of_nonneg h1]; omega
  have q1 : 0 ≤ d.tdiv 366 ∧ d.tdiv 366 ≤ d / 366 := by rw [Int.tdiv_eq_ediv_of_nonneg hd1.1]; omega
  have w1 : IntKind.i64.wrap d = d := wrap_id (by omega) (by omega)
  have wr : IntKind.i64.wrap r = r := wrap_id (by omega) (by omega)
  have hs0 : F.ydays (1970 + d.tdiv 366) ≤ d := by have := F.ydays_366 (y := 1970 + d.tdiv 366) (by omega); omega
  obtain ⟨a1, a2, a3⟩ := F.yrL_ok (d := d) 10000 (1970 + d.tdiv 366) (by omega) hs0 (F.yr_end (by omega) hd1.2)
  have z0 : F.ydays 1970 ≤ d := by rw [F.ydays_0]; exact hd1.1
  obtain ⟨yb1, yb2, yb3⟩ := F.yrL_ok (d := d) 10000 1970 (by omega) z0 (F.yr_end (by omega) hd1.2)
  have hYY : F.dtY d = F.yrL 10000 d 1970 := F.yr_uniq (d := d) (by show 1 ≤ F.yrL 10000 d (1970 + d.tdiv 366); omega) (by omega) a1 a2 yb1 yb2
  have zd : d + F.ydays 1970 = d := by rw [F.ydays_0]; omega
  clear a1 a2 a3 yb2
  obtain ⟨Y, hY⟩ : ∃ Y, F.yrL 10000 d 1970 = Y := ⟨_, rfl⟩
  rw [hY] at yb1 yb3 hYY
  have a1 := yb1
  have yb2 : Y ≥ 1970 := by omega
  have bup : d < F.ydays (Y + 1) := by
    have := (F.yrL_ok (d := d) 10000 1970 (by omega) z0 (F.yr_end (by omega) hd1.2)).2.1
    rw [hY] at this
    exact this
  have hYm := F.yr_max (y := Y) (by omega) hd1.2 a1
  have hup := F.ydays_up (a := Y) (by omega)
  have hy0 := F.ydays_mono (a := 1970) (b := Y) (by omega) (by omega)
  rw [F.ydays_0] at hy0
  have h12 := F.msum_12 Y
  have w4 : IntKind.i64.wrap (d - F.ydays Y) = d - F.ydays Y := wrap_id (by omega) (by omega)
  obtain ⟨i, i1, D, i2, i3, i4, i5⟩ := F.moL_ok Y 12 20 1 (d - F.ydays Y) (by omega) (by omega) (by rw [h12]; omega)
  have hb := F.mdays_b Y ((1 + i : Nat) : Int)
  have i5 : F.moL 20 Y (d - F.ydays Y) 1 = (((1 + i : Nat) : Int), D) := i5
  have w5 : IntKind.i64.wrap (D + 1) = D + 1 := wrap_id (by omega) (by omega)
  have w6 : IntKind.i64.wrap (r.tdiv 3600000) = r.tdiv 3600000 := by rw [Int.tdiv_eq_ediv_of_nonneg hr1.1]; exact wrap_id (by omega) (by omega)
  have w7 : IntKind.i64.wrap (r.tdiv 60000) = r.tdiv 60000 := by rw [Int.tdiv_eq_ediv_of_nonneg hr1.1]; exact wrap_id (by omega) (by omega)
  have w8 : IntKind.i64.wrap (r.tdiv 1000) = r.tdiv 1000 := by rw [Int.tdiv_eq_ediv_of_nonneg hr1.1]; exact wrap_id (by omega) (by omega)
  have u2 : ∀ x : Int, unenc encXpd [vI x, vI 2] = some (x, 2) := fun x => unenc_of encXpd_inj (x, 2) rfl
  have u3 : ∀ x : Int, unenc encXpd [vI x, vI 3] = some (x, 3) := fun x => unenc_of encXpd_inj (x, 3) rfl
  have u4 : ∀ x : Int, unenc encXpd [vI x, vI 4] = some (x, 4) := fun x => unenc_of encXpd_inj (x, 4) rfl
  have g1 : decide (d + F.ydays 1970 ≤ 2932896) = true := decide_eq_true (by omega)
  have g2 : decide (d - F.ydays Y < F.msum Y (13 - 1) 1) = true := decide_eq_true (by rw [show 13 - 1 = 12 from rfl, h12]; omega)
  have c1 : ((1 : Nat) : Int) = 1 := rfl
  simp only [unRLep, unRDy, unXpd, preRLep1, preRDy1, preXpd1, unstXy, unstXm, unstXm0, prlXy, prlXm, outXy, outXm, etaEnt, etaLst, etaSnd, etaStrm, etaMas, Option.bind_some, List.length_map, unStrs, unInts, unBools, unEnts, unItms, unTrns, cond_true, cond_false, Bool.and_true, Bool.true_and, o1, o2, hd, hr, w1, wr, g1, zd, hY, w4, c1, i5, w5, w6, w7, w8, u2, u3, u4, g2]
  rw [decide_eq_true hd1.1, decide_eq_true hd1.2, decide_eq_true (by omega : 0 ≤ Y), decide_eq_true (by omega : Y ≤ 100000), decide_eq_true (by omega : 0 ≤ d - F.ydays Y)]
  have hS : F.dtS n = F.dtP Y ((1 + i : Nat) : Int) (D + 1) r := by
    unfold F.dtS F.dtM
    rw [hd, hr, hYY, i5]
  rw [hS]
  unfold F.dtP
  have b1 : 0 ≤ r.tdiv 3600000 ∧ r.tdiv 3600000 ≤ 100000000 := by rw [Int.tdiv_eq_ediv_of_nonneg hr1.1]; omega
  have b2 : 0 ≤ (r.tdiv 60000).tmod 60 ∧ (r.tdiv 60000).tmod 60 ≤ 100 := by
    rw [Int.tdiv_eq_ediv_of_nonneg hr1.1, Int.tmod_eq_emod_of_nonneg (by omega)]; omega
  have b3 : 0 ≤ (r.tdiv 1000).tmod 60 ∧ (r.tdiv 1000).tmod 60 ≤ 100 := by
    rw [Int.tdiv_eq_ediv_of_nonneg hr1.1, Int.tmod_eq_emod_of_nonneg (by omega)]; omega
  have b4 : 0 ≤ r.tmod 1000 ∧ r.tmod 1000 ≤ 1000 := by rw [Int.tmod_eq_emod_of_nonneg hr1.1]; omega
  have hx5 : 0 ≤ ((1 + i : Nat) : Int) ∧ ((1 + i : Nat) : Int) ≤ 100 := by omega
  have hx6 : 0 ≤ D + 1 ∧ D + 1 ≤ 100 := by omega
  clear hS hok o1 o2 hd hr w1 wr w4 w5 w6 w7 w8 u2 u3 u4 g1 g2 h12 hup hy0 i5 i4 i3 a1 yb1 yb3 bup hs0 hY hYY z0 zd
  generalize r.tdiv 3600000 = x1 at *
  generalize (r.tdiv 60000).tmod 60 = x2 at *
  generalize (r.tdiv 1000).tmod 60 = x3 at *
  generalize r.tmod 1000 = x4 at *
  generalize ((1 + i : Nat) : Int) = x5 at *
  generalize D + 1 = x6 at *
  have s1 := F.pad_size (n := Y) (by omega) (by omega) (m := 4) (by decide)
  have s2 := F.pad_size (n := x5) (by omega) (by omega) (m := 2) (by decide)
  have s3 := F.pad_size (n := x6) (by omega) (by omega) (m := 2) (by decide)
  have s4 := F.pad_size (n := x1) (by omega) (by omega) (m := 2) (by decide)
  have s5 := F.pad_size (n := x2) (by omega) (by omega) (m := 2) (by decide)
  have s6 := F.pad_size (n := x3) (by omega) (by omega) (m := 2) (by decide)
  have s7 := F.pad_size (n := x4) (by omega) (by omega) (m := 3) (by decide)
  have e1 : (⟨⟨[45]⟩⟩ : ByteArray).size = 1 := rfl
  have e2 : (⟨⟨[84]⟩⟩ : ByteArray).size = 1 := rfl
  have e3 : (⟨⟨[58]⟩⟩ : ByteArray).size = 1 := rfl
  have e4 : (⟨⟨[46]⟩⟩ : ByteArray).size = 1 := rfl
  have e5 : (⟨⟨[90]⟩⟩ : ByteArray).size = 1 := rfl
  have d4 : decide ((4 : Nat) ≤ 1000) = true := rfl
  have d2 : decide ((2 : Nat) ≤ 1000) = true := rfl
  have d3 : decide ((3 : Nat) ≤ 1000) = true := rfl
  rw [decide_eq_true (by omega : -9223372036854775808 ≤ Y), decide_eq_true (by omega : Y ≤ 9223372036854775807), decide_eq_true (by omega : -9223372036854775808 ≤ x5), decide_eq_true (by omega : x5 ≤ 9223372036854775807), decide_eq_true (by omega : -9223372036854775808 ≤ x6), decide_eq_true (by omega : x6 ≤ 9223372036854775807), decide_eq_true (by omega : -9223372036854775808 ≤ x1), decide_eq_true (by omega : x1 ≤ 9223372036854775807), decide_eq_true (by omega : -9223372036854775808 ≤ x2), decide_eq_true (by omega : x2 ≤ 9223372036854775807), decide_eq_true (by omega : -9223372036854775808 ≤ x3), decide_eq_true (by omega : x3 ≤ 9223372036854775807), decide_eq_true (by omega : -9223372036854775808 ≤ x4), decide_eq_true (by omega : x4 ≤ 9223372036854775807), d4, d2, d3]
  generalize F.pad Y 4 = P1 at *
  generalize F.pad x5 2 = P2 at *
  generalize F.pad x6 2 = P3 at *
  generalize F.pad x1 2 = P4 at *
  generalize F.pad x2 2 = P5 at *
  generalize F.pad x3 2 = P6 at *
  generalize F.pad x4 3 = P7 at *
  simp (disch := omega) only [ByteArray.size_append, e1, e2, e3, e4, e5, ble_t, Bool.and_self, cond_true, decide_true, (by decide : decide ((1 : Nat) ≤ 1) = true), (by decide : decide ((1 : Nat) ≤ 12) = true)]
  rfl

end M

def F.tmS (n : Int) : ByteArray := F.itoa (n.tdiv 1000) ++ F.dot ++ F.pad (n.tmod 1000) 3

def F.vl : List Int → Int
  | [] => 0
  | x :: l => x + 10000 * F.vl l

def F.lb (n : Nat) : List Int := if h : n = 0 then [] else ((n % 10000 : Nat) : Int) :: F.lb (n / 10000)
termination_by n
decreasing_by omega

def F.okL (l : List Int) : Prop := ∀ x ∈ l, 0 ≤ x ∧ x ≤ 9999

theorem F.lb_zero : F.lb 0 = [] := by rw [F.lb]; rfl

theorem F.lb_pos {n : Nat} (h : n ≠ 0) : F.lb n = ((n % 10000 : Nat) : Int) :: F.lb (n / 10000) := by rw [F.lb, dif_neg h]

theorem F.vl_lb (n : Nat) : F.vl (F.lb n) = n := by
  induction n using Nat.strongRecOn with
  | ind n ih =>
    by_cases h : n = 0
    · subst h; rw [F.lb_zero]; rfl
    · rw [F.lb_pos h, F.vl, ih (n / 10000) (by omega)]
      omega

theorem F.lb_ok (n : Nat) : F.okL (F.lb n) := by
  induction n using Nat.strongRecOn with
  | ind n ih =>
    by_cases h : n = 0
    · subst h; rw [F.lb_zero]; intro x hx; cases hx
    · rw [F.lb_pos h]
      intro x hx
      rcases List.mem_cons.1 hx with rfl | hx
      · omega
      · exact ih (n / 10000) (by omega) x hx

theorem F.vl_nn : ∀ {l : List Int}, F.okL l → 0 ≤ F.vl l
  | [], _ => Int.le_refl _
  | x :: l, h => by
    have h1 := h x (List.mem_cons_self ..)
    have h2 := F.vl_nn (l := l) fun y hy => h y (List.mem_cons_of_mem _ hy)
    rw [F.vl]; omega

def F.trimL : List Int → List Int
  | [] => []
  | x :: l => match F.trimL l with
    | [] => if x = 0 then [] else [x]
    | y :: r => x :: y :: r

theorem F.trimL_eq : ∀ {l : List Int}, F.okL l → F.trimL l = F.lb (F.vl l).toNat
  | [], _ => by rw [F.vl]; exact F.lb_zero.symm
  | x :: l, h => by
    have h1 := h x (List.mem_cons_self ..)
    have h2 : F.okL l := fun y hy => h y (List.mem_cons_of_mem _ hy)
    have h3 := F.vl_nn h2
    have ih := F.trimL_eq h2
    rw [F.trimL, ih, F.vl]
    by_cases hz : (F.vl l).toNat = 0
    · rw [hz, F.lb_zero]
      by_cases hx : x = 0
      · rw [if_pos hx, show (x + 10000 * F.vl l).toNat = 0 by omega, F.lb_zero]
      · rw [if_neg hx, F.lb_pos (by omega), show (x + 10000 * F.vl l).toNat / 10000 = 0 by omega, F.lb_zero]
        simp only [List.cons.injEq, and_true]
        omega
    · rw [F.lb_pos (n := (x + 10000 * F.vl l).toNat) (by omega), show (x + 10000 * F.vl l).toNat / 10000 = (F.vl l).toNat by omega]
      rw [F.lb_pos hz]
      simp only [List.cons.injEq, and_true]
      omega

theorem F.lb_len {k : Nat} : ∀ {n : Nat}, n < 10000 ^ k → (F.lb n).length ≤ k := by
  induction k with
  | zero => intro n h; have : n = 0 := by simpa using h
            subst this; rw [F.lb_zero]; exact Nat.le_refl _
  | succ k ih =>
    intro n h
    by_cases hz : n = 0
    · subst hz; rw [F.lb_zero]; exact Nat.zero_le _
    · rw [F.lb_pos hz, List.length_cons]
      have := ih (n := n / 10000) (by rw [Nat.pow_succ] at h; omega)
      omega

theorem F.lb_ge {k : Nat} : ∀ {n : Nat}, 10000 ^ k ≤ n → k < (F.lb n).length := by
  induction k with
  | zero => intro n h; rw [F.lb_pos (by have : 1 ≤ n := by simpa using h
                                        omega), List.length_cons]; omega
  | succ k ih =>
    intro n h
    have hp : 1 ≤ 10000 ^ k := Nat.one_le_pow _ _ (by decide)
    rw [Nat.pow_succ] at h
    rw [F.lb_pos (by omega), List.length_cons]
    have := ih (n := n / 10000) (by omega)
    omega

def F.addL : Int → List Int → List Int → List Int
  | c, [], [] => if 0 < c then [c] else []
  | c, x :: a, [] => (c + x) % 10000 :: F.addL ((c + x) / 10000) a []
  | c, [], y :: b => (c + y) % 10000 :: F.addL ((c + y) / 10000) [] b
  | c, x :: a, y :: b => (c + x + y) % 10000 :: F.addL ((c + x + y) / 10000) a b
termination_by _ a b => a.length + b.length

theorem F.addL_eq : ∀ (k m n c : Nat), m + n ≤ k → c ≤ 1 → F.addL c (F.lb m) (F.lb n) = F.lb (c + m + n) := by
  intro k
  induction k with
  | zero =>
    intro m n c hk hc
    have hm : m = 0 := by omega
    have hn : n = 0 := by omega
    subst hm; subst hn
    rw [F.lb_zero, F.addL]
    by_cases h : c = 0
    · subst h; simp [F.lb_zero]
    · have : c = 1 := by omega
      subst this
      rw [F.lb_pos (by omega), F.lb_zero]; simp
  | succ k ih =>
    intro m n c hk hc
    by_cases hm : m = 0
    · subst hm
      by_cases hn : n = 0
      · subst hn
        exact ih 0 0 c (by omega) hc
      · rw [F.lb_zero, F.lb_pos hn, F.addL]
        have h2 := ih 0 (n / 10000) ((c + n % 10000) / 10000) (by omega) (by omega)
        rw [F.lb_zero] at h2
        rw [F.lb_pos (n := c + 0 + n) (by omega), show (c + 0 + n) / 10000 = (c + n % 10000) / 10000 + 0 + n / 10000 by omega, ← h2]
        congr 1
        omega
    · by_cases hn : n = 0
      · subst hn
        rw [F.lb_zero, F.lb_pos hm, F.addL]
        have h2 := ih (m / 10000) 0 ((c + m % 10000) / 10000) (by omega) (by omega)
        rw [F.lb_zero] at h2
        rw [F.lb_pos (n := c + m + 0) (by omega), show (c + m + 0) / 10000 = (c + m % 10000) / 10000 + m / 10000 + 0 by omega, ← h2]
        congr 1
        omega
      · rw [F.lb_pos hm, F.lb_pos hn, F.addL]
        have h2 := ih (m / 10000) (n / 10000) ((c + m % 10000 + n % 10000) / 10000) (by omega) (by omega)
        rw [F.lb_pos (n := c + m + n) (by omega), show (c + m + n) / 10000 = (c + m % 10000 + n % 10000) / 10000 + m / 10000 + n / 10000 by omega, ← h2]
        congr 1
        omega

def F.subL : Int → List Int → List Int → List Int
  | _, [], _ => []
  | c, x :: a, [] => if x - c < 0 then (x - c + 10000) :: F.subL 1 a [] else (x - c) :: F.subL 0 a []
  | c, x :: a, y :: b => if x - c - y < 0 then (x - c - y + 10000) :: F.subL 1 a b else (x - c - y) :: F.subL 0 a b

theorem F.okL_cons {x : Int} {l : List Int} (h1 : 0 ≤ x ∧ x ≤ 9999) (h2 : F.okL l) : F.okL (x :: l) := fun y hy => by
  rcases List.mem_cons.1 hy with rfl | hy
  · exact h1
  · exact h2 y hy

theorem F.okL_nil : F.okL [] := fun y hy => by cases hy

theorem F.subL_eq : ∀ (a b : List Int) (c : Int), F.okL a → F.okL b → b.length ≤ a.length → (c = 0 ∨ c = 1) →
    F.okL (F.subL c a b) ∧ (F.vl (F.subL c a b) = F.vl a - F.vl b - c ∨ F.vl a - F.vl b - c < 0)
  | [], [], c, _, _, _, hc => ⟨by rw [F.subL]; exact F.okL_nil, by
      simp only [F.subL, F.vl]; omega⟩
  | [], y :: b, c, _, _, h, _ => by simp at h
  | x :: a, [], c, ha, hb, _, hc => by
    have h1 := ha x (List.mem_cons_self ..)
    have h2 : F.okL a := fun y hy => ha y (List.mem_cons_of_mem _ hy)
    rw [F.subL]
    by_cases hx : x - c < 0
    · rw [if_pos hx]
      obtain ⟨q1, q2⟩ := F.subL_eq a [] 1 h2 hb (by simp) (.inr rfl)
      refine ⟨F.okL_cons (by omega) q1, ?_⟩
      simp only [F.vl] at q2 ⊢
      omega
    · rw [if_neg hx]
      obtain ⟨q1, q2⟩ := F.subL_eq a [] 0 h2 hb (by simp) (.inl rfl)
      refine ⟨F.okL_cons (by omega) q1, ?_⟩
      simp only [F.vl] at q2 ⊢
      omega
  | x :: a, y :: b, c, ha, hb, h, hc => by
    have h1 := ha x (List.mem_cons_self ..)
    have h2 : F.okL a := fun y hy => ha y (List.mem_cons_of_mem _ hy)
    have h3 := hb y (List.mem_cons_self ..)
    have h4 : F.okL b := fun z hz => hb z (List.mem_cons_of_mem _ hz)
    rw [F.subL]
    by_cases hx : x - c - y < 0
    · rw [if_pos hx]
      obtain ⟨q1, q2⟩ := F.subL_eq a b 1 h2 h4 (by simpa using h) (.inr rfl)
      refine ⟨F.okL_cons (by omega) q1, ?_⟩
      simp only [F.vl] at q2 ⊢
      omega
    · rw [if_neg hx]
      obtain ⟨q1, q2⟩ := F.subL_eq a b 0 h2 h4 (by simpa using h) (.inl rfl)
      refine ⟨F.okL_cons (by omega) q1, ?_⟩
      simp only [F.vl] at q2 ⊢
      omega

theorem F.lb_mono {m n : Nat} (h : m ≤ n) : (F.lb m).length ≤ (F.lb n).length := by
  rcases Nat.eq_zero_or_pos (F.lb m).length with h0 | h0
  · omega
  · obtain ⟨k, hk⟩ : ∃ k, (F.lb m).length = k + 1 := ⟨(F.lb m).length - 1, by omega⟩
    rcases Nat.lt_or_ge m (10000 ^ k) with h1 | h1
    · have := F.lb_len h1; omega
    · have := F.lb_ge (Nat.le_trans h1 h); omega

theorem F.sub_lb {m n : Nat} (h : n ≤ m) : F.trimL (F.subL 0 (F.lb m) (F.lb n)) = F.lb (m - n) := by
  obtain ⟨q1, q2⟩ := F.subL_eq (F.lb m) (F.lb n) 0 (F.lb_ok m) (F.lb_ok n) (F.lb_mono h) (.inl rfl)
  rw [F.vl_lb, F.vl_lb] at q2
  rw [F.trimL_eq q1]
  congr 1
  omega

def F.cmpA : List Int → List Int → Int
  | x :: a, y :: b => if F.cmpA a b ≠ 0 then F.cmpA a b else if x < y then -1 else if y < x then 1 else 0
  | _, _ => 0

def F.cmpL (a b : List Int) : Int := if a.length < b.length then -1 else if b.length < a.length then 1 else F.cmpA a b

def F.sgn (a b : Int) : Int := if a < b then -1 else if b < a then 1 else 0

theorem F.sgn_step {x y p q : Int} (h1 : 0 ≤ x ∧ x ≤ 9999) (h3 : 0 ≤ y ∧ y ≤ 9999) :
    (if F.sgn p q ≠ 0 then F.sgn p q else if x < y then -1 else if y < x then 1 else 0) = F.sgn (x + 10000 * p) (y + 10000 * q) := by
  unfold F.sgn
  by_cases c1 : p < q
  · rw [if_pos c1, if_pos (by decide), if_pos (show x + 10000 * p < y + 10000 * q by omega)]
  · by_cases c2 : q < p
    · rw [if_neg c1, if_pos c2, if_pos (by decide), if_neg (show ¬ x + 10000 * p < y + 10000 * q by omega), if_pos (show y + 10000 * q < x + 10000 * p by omega)]
    · have : p = q := by omega
      subst this
      rw [if_neg c1, if_neg c1, if_neg (by decide)]
      by_cases d1 : x < y
      · rw [if_pos d1, if_pos (by omega)]
      · by_cases d2 : y < x
        · rw [if_neg d1, if_pos d2, if_neg (by omega), if_pos (by omega)]
        · rw [if_neg d1, if_neg d2, if_neg (by omega), if_neg (by omega)]

theorem F.cmpA_eq : ∀ {a b : List Int}, F.okL a → F.okL b → a.length = b.length → F.cmpA a b = F.sgn (F.vl a) (F.vl b)
  | [], [], _, _, _ => rfl
  | x :: a, y :: b, ha, hb, h => by
    have h1 := ha x (List.mem_cons_self ..)
    have h3 := hb y (List.mem_cons_self ..)
    have ih := F.cmpA_eq (a := a) (b := b) (fun z hz => ha z (List.mem_cons_of_mem _ hz)) (fun z hz => hb z (List.mem_cons_of_mem _ hz)) (by simpa using h)
    rw [F.cmpA, ih]
    exact F.sgn_step h1 h3
  | [], y :: b, _, _, h => by simp at h
  | x :: a, [], _, _, h => by simp at h

theorem F.cmp_lb (m n : Nat) : F.cmpL (F.lb m) (F.lb n) = F.sgn m n := by
  unfold F.cmpL
  by_cases h1 : (F.lb m).length < (F.lb n).length
  · have : m < n := Nat.lt_of_not_le fun h => by have := F.lb_mono h; omega
    rw [if_pos h1, F.sgn, if_pos (by omega)]
  · by_cases h2 : (F.lb n).length < (F.lb m).length
    · have : n < m := Nat.lt_of_not_le fun h => by have := F.lb_mono h; omega
      rw [if_neg h1, if_pos h2, F.sgn, if_neg (by omega), if_pos (by omega)]
    · rw [if_neg h1, if_neg h2, F.cmpA_eq (F.lb_ok m) (F.lb_ok n) (by omega), F.vl_lb, F.vl_lb]

def F.mrow (x : Int) : Int → List Int → List Int → List Int
  | c, o :: os, y :: b => (o + x * y + c) % 10000 :: F.mrow x ((o + x * y + c) / 10000) os b
  | c, o :: os, [] => (o + c) :: os
  | _, [], _ => []

theorem F.mul_bd {x y : Int} (hx : 0 ≤ x ∧ x ≤ 9999) (hy : 0 ≤ y ∧ y ≤ 9999) : 0 ≤ x * y ∧ x * y ≤ 99980001 := by
  refine ⟨Int.mul_nonneg hx.1 hy.1, ?_⟩
  have h1 : x * y ≤ 9999 * y := Int.mul_le_mul_of_nonneg_right hx.2 hy.1
  omega

theorem F.mrow_eq {x : Int} (hx : 0 ≤ x ∧ x ≤ 9999) : ∀ (b os : List Int) (c : Int), F.okL b → F.okL os → b.length < os.length → (0 ≤ c ∧ c ≤ 9999) →
    F.vl (F.mrow x c os b) = F.vl os + x * F.vl b + c ∧ (F.mrow x c os b).length = os.length
  | [], o :: os, c, _, _, _, _ => by
    rw [F.mrow]
    refine ⟨?_, rfl⟩
    simp only [F.vl, Int.mul_zero]
    omega
  | y :: b, o :: os, c, hb, ho2, h, hc => by
    have h3 := hb y (List.mem_cons_self ..)
    rw [F.mrow]
    have hm := F.mul_bd hx h3
    have ho := ho2 o (List.mem_cons_self ..)
    obtain ⟨q1, q2⟩ := F.mrow_eq hx b os ((o + x * y + c) / 10000) (fun z hz => hb z (List.mem_cons_of_mem _ hz)) (fun z hz => ho2 z (List.mem_cons_of_mem _ hz)) (by simpa using h) (by omega)
    refine ⟨?_, by rw [List.length_cons, q2, List.length_cons]⟩
    simp only [F.vl, q1, Int.mul_add]
    rw [show x * (10000 * F.vl b) = 10000 * (x * F.vl b) by rw [← Int.mul_assoc, Int.mul_comm x 10000, Int.mul_assoc]]
    omega
  | [], [], c, _, _, h, _ => by simp at h
  | y :: b, [], c, _, _, h, _ => by simp at h

def F.zeroFrom (k : Nat) (l : List Int) : Prop := ∀ z ∈ l.drop k, z = 0

theorem F.mrow_ok {x : Int} (hx : 0 ≤ x ∧ x ≤ 9999) : ∀ (b os : List Int) (c : Int), F.okL b → F.okL os → F.zeroFrom b.length os → (0 ≤ c ∧ c ≤ 9999) →
    F.okL (F.mrow x c os b) ∧ F.zeroFrom (b.length + 1) (F.mrow x c os b)
  | [], o :: os, c, _, ho, hz, hc => by
    have h0 : o = 0 := hz o (by simp)
    rw [F.mrow]
    refine ⟨F.okL_cons (by omega) fun z h => ho z (List.mem_cons_of_mem _ h), fun z h => hz z ?_⟩
    exact List.mem_cons_of_mem _ (by simpa using h)
  | y :: b, o :: os, c, hb, ho2, hz, hc => by
    have h3 := hb y (List.mem_cons_self ..)
    have hm := F.mul_bd hx h3
    have ho := ho2 o (List.mem_cons_self ..)
    rw [F.mrow]
    obtain ⟨q1, q2⟩ := F.mrow_ok hx b os ((o + x * y + c) / 10000) (fun z hz => hb z (List.mem_cons_of_mem _ hz)) (fun z hz => ho2 z (List.mem_cons_of_mem _ hz)) (fun z h => hz z (by simpa using h)) (by omega)
    exact ⟨F.okL_cons (by omega) q1, fun z h => q2 z (by simpa using h)⟩
  | [], [], c, _, _, _, _ => by
    rw [F.mrow]
    exact ⟨F.okL_nil, fun z h => by simp at h⟩
  | y :: b, [], c, _, _, _, _ => by
    rw [F.mrow]
    exact ⟨F.okL_nil, fun z h => by simp at h⟩

def F.mulR (b : List Int) : List Int → List Int → List Int
  | [], out => out
  | x :: a, out => match F.mrow x 0 out b with
    | [] => []
    | o :: os => o :: F.mulR b a os

theorem F.mulR_eq {b : List Int} (hb : F.okL b) : ∀ (a out : List Int), F.okL a → F.okL out → F.zeroFrom b.length out → a.length + b.length ≤ out.length →
    F.okL (F.mulR b a out) ∧ F.vl (F.mulR b a out) = F.vl out + F.vl a * F.vl b ∧ (F.mulR b a out).length = out.length
  | [], out, _, ho, _, _ => by
    rw [F.mulR]
    exact ⟨ho, by rw [F.vl, Int.zero_mul]; omega, rfl⟩
  | x :: a, out, ha, ho, hz, hl => by
    have h1 := ha x (List.mem_cons_self ..)
    rw [List.length_cons] at hl
    obtain ⟨q1, q2⟩ := F.mrow_eq h1 b out 0 hb ho (by omega) (by omega)
    obtain ⟨q3, q4⟩ := F.mrow_ok h1 b out 0 hb ho hz (by omega)
    rw [F.mulR]
    cases hr : F.mrow x 0 out b with
    | nil => rw [hr] at q2; simp at q2; omega
    | cons o os =>
      rw [hr] at q1 q2 q3 q4
      rw [List.length_cons] at q2
      obtain ⟨r1, r2, r3⟩ := F.mulR_eq hb a os (fun z h => ha z (List.mem_cons_of_mem _ h)) (fun z h => q3 z (List.mem_cons_of_mem _ h)) (fun z h => q4 z (by simpa using h)) (by omega)
      refine ⟨F.okL_cons (q3 o (List.mem_cons_self ..)) r1, ?_, by simp only [List.length_cons, r3]; omega⟩
      simp only [F.vl, r2] at q1 ⊢
      rw [Int.add_mul, Int.mul_assoc]
      omega

theorem F.mul_lb (m n : Nat) : F.trimL (F.mulR (F.lb n) (F.lb m) (List.replicate ((F.lb m).length + (F.lb n).length) 0)) = F.lb (m * n) := by
  have hz : ∀ k : Nat, F.vl (List.replicate k 0) = 0 := fun k => by
    induction k with
    | zero => rfl
    | succ k ih => rw [List.replicate_succ, F.vl, ih]; rfl
  obtain ⟨q1, q2, q3⟩ := F.mulR_eq (F.lb_ok n) (F.lb m) (List.replicate ((F.lb m).length + (F.lb n).length) 0) (F.lb_ok m)
    (fun x hx => by have := (List.mem_replicate.1 hx).2; omega) (fun x hx => (List.mem_replicate.1 (List.mem_of_mem_drop hx)).2) (by simp)
  rw [F.trimL_eq q1, q2, hz, F.vl_lb, F.vl_lb]
  congr 1
  have : (0 : Int) + (m : Int) * (n : Int) = ((m * n : Nat) : Int) := by rw [Int.natCast_mul]; omega
  rw [this]
  rfl

def F.nv (l : List Int) : Nat := (F.vl l).toNat

theorem F.nv_lb (n : Nat) : F.nv (F.lb n) = n := by unfold F.nv; rw [F.vl_lb]; rfl

def F.nk (k : Nat) (l : List Int) : Bool := decide (F.lb (F.nv l) = l) && decide (l.length ≤ k)

theorem F.nk_of {k : Nat} {l : List Int} (h : F.nk k l = true) : ∃ n, l = F.lb n ∧ n < 10000 ^ k := by
  unfold F.nk at h
  simp only [Bool.and_eq_true, decide_eq_true_eq] at h
  refine ⟨F.nv l, h.1.symm, ?_⟩
  rcases Nat.lt_or_ge (F.nv l) (10000 ^ k) with h1 | h1
  · exact h1
  · have := F.lb_ge h1
    rw [h.1] at this
    omega

theorem F.nk_lb {k n : Nat} (h : n < 10000 ^ k) : F.nk k (F.lb n) = true := by
  unfold F.nk
  rw [F.nv_lb, decide_eq_true rfl, decide_eq_true (F.lb_len h)]
  rfl

theorem F.nk_len {k : Nat} {l : List Int} (h : F.nk k l = true) : l.length ≤ k := by
  unfold F.nk at h
  simp only [Bool.and_eq_true, decide_eq_true_eq] at h
  exact h.2

theorem F.lb_nil {n : Nat} : F.lb n = [] ↔ n = 0 := by
  constructor
  · intro h
    have := congrArg F.nv h
    rw [F.nv_lb] at this
    exact this
  · rintro rfl; exact F.lb_zero

theorem F.lb_emp (n : Nat) : (F.lb n).length = 0 ↔ n = 0 := by rw [List.length_eq_zero_iff, F.lb_nil]

theorem F.lb_one : F.lb 1 = [1] := by rw [F.lb_pos (by decide), show (1 : Nat) / 10000 = 0 by decide, F.lb_zero]; rfl

theorem F.trimL_cons {x r : Nat} (hx : x ≤ 9999) : F.trimL ((x : Int) :: F.lb r) = F.lb (x + 10000 * r) := by
  rw [F.trimL_eq (F.okL_cons (by omega) (F.lb_ok r)), F.vl, F.vl_lb]
  congr 1

def F.dqo (b : Nat) : List Int → List Int × Nat
  | [] => ([], 0)
  | x :: l => ((((x.toNat + 10000 * (F.dqo b l).2) / b : Nat) : Int) :: (F.dqo b l).1, (x.toNat + 10000 * (F.dqo b l).2) % b)

theorem F.dqo_eq {b : Nat} (hb : 0 < b) : ∀ {l : List Int}, F.okL l →
    F.okL (F.dqo b l).1 ∧ F.vl (F.dqo b l).1 = ((F.nv l / b : Nat) : Int) ∧ (F.dqo b l).2 = F.nv l % b ∧ (F.dqo b l).1.length = l.length
  | [], _ => ⟨F.okL_nil, by rw [F.dqo, F.vl, show F.nv [] = 0 from rfl, Nat.zero_div]; rfl, by rw [F.dqo, show F.nv [] = 0 from rfl, Nat.zero_mod], rfl⟩
  | x :: l, h => by
    have h1 := h x (List.mem_cons_self ..)
    have h2 : F.okL l := fun y hy => h y (List.mem_cons_of_mem _ hy)
    obtain ⟨q1, q2, q3, q4⟩ := F.dqo_eq hb h2
    have h3 := F.vl_nn h2
    have hr : (F.dqo b l).2 < b := by rw [q3]; exact Nat.mod_lt _ hb
    have hv : F.nv (x :: l) = x.toNat + 10000 * F.nv l := by unfold F.nv; rw [F.vl]; omega
    have e1 := Nat.div_add_mod (F.nv l) b
    rw [← q3] at e1
    have hd : F.nv (x :: l) = (x.toNat + 10000 * (F.dqo b l).2) + b * (10000 * (F.nv l / b)) := by
      rw [hv, Nat.mul_left_comm]; omega
    have hlt : (x.toNat + 10000 * (F.dqo b l).2) / b < 10000 := by
      rw [Nat.div_lt_iff_lt_mul hb]; omega
    rw [F.dqo]
    refine ⟨F.okL_cons (by generalize (x.toNat + 10000 * (F.dqo b l).2) / b = q at hlt ⊢; omega) q1, ?_, ?_, by simp [q4]⟩
    · show F.vl (_ :: _) = _
      rw [F.vl, q2, hd, Nat.add_mul_div_left _ _ hb]
      omega
    · show _ % b = _
      rw [hd, Nat.add_mul_mod_self_left]

theorem F.dqo_lb {b : Nat} (hb : 0 < b) (a : Nat) : F.trimL (F.dqo b (F.lb a)).1 = F.lb (a / b) ∧ (F.dqo b (F.lb a)).2 = a % b := by
  obtain ⟨q1, q2, q3, q4⟩ := F.dqo_eq hb (F.lb_ok a)
  rw [F.nv_lb] at q2 q3
  refine ⟨?_, q3⟩
  rw [F.trimL_eq q1, q2]; rfl

theorem F.lb_lt {m k n : Nat} (h : n < 10000 ^ m) (hm : m ≤ k) : n < 10000 ^ k := Nat.lt_of_lt_of_le h (Nat.pow_le_pow_right (by decide) hm)

theorem F.mul_lt {m n j k : Nat} (h1 : m < 10000 ^ j) (h2 : n < 10000 ^ k) : m * n < 10000 ^ (j + k) := by
  rw [Nat.pow_add]; exact Nat.mul_lt_mul'' h1 h2

theorem F.add_lt {m n k : Nat} (h1 : m < 10000 ^ k) (h2 : n < 10000 ^ k) : m + n < 10000 ^ (k + 1) := by
  rw [Nat.pow_succ]; omega

theorem F.sgn_le (m n : Nat) : decide (F.sgn (m : Int) (n : Int) ≤ 0) = decide (m ≤ n) := by
  unfold F.sgn
  by_cases h : m ≤ n
  · rw [decide_eq_true h]
    by_cases h2 : m < n
    · rw [if_pos (by omega)]; rfl
    · rw [if_neg (by omega), if_neg (by omega)]; rfl
  · rw [decide_eq_false h, if_neg (by omega), if_pos (by omega)]; rfl

theorem F.sgn_ge (m n : Nat) : decide (0 ≤ F.sgn (m : Int) (n : Int)) = decide (n ≤ m) := by
  unfold F.sgn
  by_cases h : n ≤ m
  · rw [decide_eq_true h, if_neg (by omega)]
    by_cases h2 : n < m
    · rw [if_pos (by omega)]; rfl
    · rw [if_neg (by omega)]; rfl
  · rw [decide_eq_false h, if_pos (by omega)]; rfl

theorem F.sgn_eq (m n : Nat) : (F.sgn (m : Int) (n : Int) == 0) = decide (m = n) := by
  unfold F.sgn
  by_cases h : m = n
  · rw [decide_eq_true h, if_neg (by omega), if_neg (by omega)]; rfl
  · rw [decide_eq_false h]
    by_cases h2 : m < n
    · rw [if_pos (by omega)]; rfl
    · rw [if_neg (by omega), if_pos (by omega)]; rfl

theorem F.div_le {b R mid : Nat} (hb : 0 < b) : b * mid ≤ R ↔ mid ≤ R / b := by
  rw [Nat.le_div_iff_mul_le hb, Nat.mul_comm]

def F.trimN (l : List Int) : Nat → Nat
  | 0 => 0
  | n + 1 => bif l.getD n 0 == 0 then F.trimN l n else n + 1

theorem F.trimN_le (l : List Int) : ∀ n, F.trimN l n ≤ n
  | 0 => Nat.le_refl _
  | n + 1 => by
    have := F.trimN_le l n
    rw [F.trimN]
    cases l.getD n 0 == 0
    · exact Nat.le_refl _
    · exact Nat.le_succ_of_le this

theorem F.trimL_z : ∀ l : List Int, F.trimL (l ++ [0]) = F.trimL l
  | [] => rfl
  | x :: l => by
    have ih := F.trimL_z l
    rw [List.cons_append, F.trimL, ih, F.trimL]

theorem F.trimL_x {x : Int} (h : x ≠ 0) : ∀ l : List Int, F.trimL (l ++ [x]) = l ++ [x]
  | [] => by rw [List.nil_append, F.trimL, F.trimL]; simp [h]
  | y :: l => by
    have ih := F.trimL_x h l
    rw [List.cons_append, F.trimL, ih]
    cases l <;> rfl

theorem F.trimN_eq (l : List Int) : ∀ n, n ≤ l.length → l.take (F.trimN l n) = F.trimL (l.take n)
  | 0, _ => by rw [F.trimN, List.take_zero]; rfl
  | n + 1, h => by
    have hlt : n < l.length := h
    have ih := F.trimN_eq l n (by omega)
    have hg : l.getD n 0 = l[n] := by simp [List.getD, List.getElem?_eq_getElem hlt]
    rw [F.trimN, hg, List.take_succ_eq_append_getElem hlt]
    cases hc : l[n] == 0
    · have hx : l[n] ≠ 0 := by simpa using hc
      rw [F.trimL_x hx, cond_false, List.take_succ_eq_append_getElem hlt]
    · have hx : l[n] = 0 := by simpa using hc
      rw [hx, F.trimL_z, cond_true, ih]

namespace M

theorem idx_sub {j : Nat} (h : j + 1 ≤ 9223372036854775807) : idx (IntKind.i64.wrap (((j + 1 : Nat) : Int) - 1)) = some j := by
  have : IntKind.i64.wrap (((j + 1 : Nat) : Int) - 1) = ((j : Nat) : Int) := by rw [wrap_id (by omega) (by omega)]; omega
  rw [this]; rfl

theorem idx_n {j : Nat} (h : j + 1 ≤ 9223372036854775807) : idx (j : Int) = some j := by
  have hw : IntKind.i64.wrap (((j + 1 : Nat) : Int) - 1) = (j : Int) := by rw [wrap_id (by omega) (by omega)]; omega
  have := idx_sub h
  rw [hw] at this
  exact this

def stTrm (l : List Int) (n : Nat) : St := ⟨[(3, vI n), (0, .sl (l.map eI))], []⟩

def stTrm1 (a : (List Int) × Nat) : St := stTrm a.1 a.2

theorem stTrm_inj (a a' : (List Int) × Nat) (h : stTrm1 a = stTrm1 a') : a = a' := by
  simp only [stTrm1, stTrm] at h
  try simp [ints_inj, strs_inj, ents_inj, eEnt_iff, eLst_iff] at h
  grind

theorem unstTrm (l : List Int) (n : Nat) : unenc stTrm1 (St.mk [(3, (vI (↑n : Int))), (0, AV.sl (List.map eI l))] []) = some (l, n) := unenc_of stTrm_inj (l, n) rfl

def outTrm (l : List Int) (n : Nat) : T (Ex × St) := .ret (.exit 0, ⟨[(3, vI (F.trimN l n)), (0, .sl (l.map eI))], []⟩)

noncomputable def prlTrm (l : List Int) (n : Nat) : Bool := decide (l.length ≤ 100000) && decide (n ≤ l.length)

noncomputable def lpTrm : Nat × (St → T (Ex × St)) := (2, lpo [3, 0] [] stTrm1 (fun a => prlTrm a.1 a.2) fun a => outTrm a.1 a.2)

noncomputable def enTrm : Env := envH ty noG lks [] [] [] [lpTrm]

theorem enTrm_ok : EnvOK Tryz.prog enTrm := by
  refine envH_ok lks_ok ty_ok ?_ ?_
  · simp
  · simp

theorem evTrmL (l : List Int) (n : Nat) : ((exec enTrm (loopN Tryz.f133 0) (stTrm l n)).bind (lessX ([3, 0], []) ([3, 0], []) ([], []))).val =
  bif decide ((0 : Int) < (↑n : Int)) then Option.bind (idx (IntKind.wrap IntKind.i64 ((↑n : Int) - (1 : Int)))) fun (z : Nat) => Option.bind (unenc (List.map eI) (List.map
  eI l)) fun (z_1 : List Int) => bif decide (z < List.length z_1) then bif List.getD z_1 z (0 : Int) == (0 : Int) then some (Ex.normal, St.mk [(3, (vI (IntKind.wrap
  IntKind.i64 ((↑n : Int) - (1 : Int))))), (0, AV.sl (List.map eI l))] []) else some (Ex.exit (0 : Nat), St.mk [(3, (vI (↑n : Int))), (0, AV.sl (List.map eI l))] []) else
  none else some (Ex.exit (0 : Nat), St.mk [(3, (vI (↑n : Int))), (0, AV.sl (List.map eI l))] []) := (execR_bind _ _ _).symm.trans (by kernel_rfl)

theorem lpTrm_ok (l : List Int) (n : Nat) (hp : prlTrm l n = true) : ∀ ex s', (outTrm l n).val = some (ex, s') → LoopOK enTrm (loopN Tryz.f133 0) (stTrm l n) ex s' := by
  simp only [prlTrm, Bool.and_eq_true, decide_eq_true_eq] at hp
  refine loop_gen (st := fun n => stTrm l n) (out := fun n => outTrm l n) (I := fun n => n ≤ l.length) (n := ([3, 0], [])) (e := ([3, 0], [])) (r := ([], [])) (fun n => n) ?_ n hp.2
  intro n hn
  have h1 := hp.1
  cases n with
  | zero =>
    left
    refine ⟨(.exit 0, ⟨[(3, vI 0), (0, .sl (l.map eI))], []⟩), ?_, rfl, by simp, rfl⟩
    rw [evTrmL]
    simp
  | succ j =>
    have hlt : j < l.length := hn
    have hy : l[j]? = some l[j] := List.getElem?_eq_getElem hlt
    have hg : l.getD j 0 = l[j] := by simp [hy]
    generalize l[j] = y at hy hg
    have hz : decide ((0 : Int) < ((j + 1 : Nat) : Int)) = true := decide_eq_true (by omega)
    have hw : IntKind.i64.wrap (((j + 1 : Nat) : Int) - 1) = (j : Int) := by rw [wrap_id (by omega) (by omega)]; omega
    have hi : idx ((j : Nat) : Int) = some j := by
      have := idx_sub (j := j) (by omega)
      rw [hw] at this
      exact this
    cases hc : (y == 0)
    · left
      refine ⟨(.exit 0, ⟨[(3, vI (j + 1 : Nat)), (0, .sl (l.map eI))], []⟩), ?_, ?_, by simp, rfl⟩
      · rw [evTrmL]
        simp only [unstTrm, prlTrm, outTrm, etaEnt, etaLst, etaSnd, etaStrm, etaMas, Option.bind_some, List.length_map, unStrs, unInts, unBools, unEnts, unItms, unTrns, cond_true, cond_false, Bool.and_true, Bool.true_and, hz, idx_sub (by omega : j + 1 ≤ 9223372036854775807), decide_eq_true hlt, getD_at hy, hc]
      · simp only [outTrm, F.trimN, hg, hc]
        rfl
    · right
      refine ⟨j, ?_, rfl, by omega, by omega, ?_⟩
      · rw [evTrmL]
        simp only [unstTrm, prlTrm, outTrm, etaEnt, etaLst, etaSnd, etaStrm, etaMas, Option.bind_some, List.length_map, unStrs, unInts, unBools, unEnts, unItms, unTrns, cond_true, cond_false, Bool.and_true, Bool.true_and, hz, hw, hi, decide_eq_true hlt, getD_at hy, hc, stTrm]
      · simp only [outTrm, F.trimN, hg, hc, cond_true]

theorem evTrm (l : List Int) : (runF enTrm false Tryz.f133 [.sl (l.map eI)]).val =
  Option.bind (unenc stTrm1 (St.mk [(3, (vI (↑(List.length (List.map eI l)) : Int))), (0, AV.sl (List.map eI l))] [])) fun (z : List Int × Nat) => bif decide (List.length
  z.fst ≤ (100000 : Nat)) && decide (z.snd ≤ List.length z.fst) && true then bif Nat.ble (0 : Nat) (F.trimN z.fst z.snd) && Nat.ble (F.trimN z.fst z.snd) (List.length
  (List.map eI z.fst)) && List.all (List.map eI z.fst) fun (r : Row) => Nat.beq (List.length r) (1 : Nat) then some (AV.sl (List.take (F.trimN z.fst z.snd) (List.map eI
  z.fst)), []) else none else none := (runFR_val).symm.trans (by kernel_rfl)

def encTrm1 (l : List Int) : List AV := [.sl (l.map eI)]

def encTrm (a : (List Int)) : List AV := encTrm1 a

theorem encTrm_inj (a a' : (List Int)) (h : encTrm a = encTrm a') : a = a' := by
  simp only [encTrm, encTrm1] at h
  try simp [ints_inj, strs_inj, ents_inj, eEnt_iff, eLst_iff] at h
  grind

theorem unTrm (l : List Int) : unenc encTrm ([AV.sl (List.map eI l)]) = some (l) := unenc_of encTrm_inj (l) rfl

def resTrm1 (l : List Int) : AV × Heap := (.sl ((F.trimL l).map eI), [])

def preTrm1 (l : List Int) : Bool := decide (l.length ≤ 100000)

noncomputable def oTrm : Orc := orc 133 false encTrm (fun a => preTrm1 a) fun a => resTrm1 a

theorem okTrm : OrcOK Tryz.prog noG oTrm := by
  refine mk_ok Tryz.f133 (keep := false) (by kernel_rfl) (by kernel_rfl) enTrm_ok mixed (one_loop (x0 := loopN Tryz.f133 0) (by kernel_rfl) (lpo_ok ?_)) (by first | exact fun _ _ => ⟨rfl, rfl⟩ | (intro h; cases h)) ?_
  · rintro ⟨l, n⟩ hp
    exact lpTrm_ok l n hp
  rintro l hpre hok
  show (runF enTrm false _ (encTrm1 _)).val = some (resTrm1 _)
  unfold encTrm1 resTrm1
  rw [evTrm]
  have hx : l.length ≤ 100000 := of_decide_eq_true hpre
  have ht := F.trimN_le l l.length
  have e := F.trimN_eq l l.length (Nat.le_refl _)
  rw [List.take_length] at e
  simp only [unstTrm, prlTrm, outTrm, etaEnt, etaLst, etaSnd, etaStrm, etaMas, Option.bind_some, List.length_map, unStrs, unInts, unBools, unEnts, unItms, unTrns, cond_true, cond_false, Bool.and_true, Bool.true_and, hx, Nat.le_refl, decide_true]
  have h3 : ((l.map eI).all fun r => (List.length r).beq 1) = true := List.all_eq_true.2 fun r hr => by
    obtain ⟨x, _, rfl⟩ := List.mem_map.1 hr
    rfl
  rw [ble_t (Nat.zero_le _), ble_t ht, h3, ← List.map_take, e]
  rfl

end M

def F.cmpK (a b : List Int) : Nat → Int
  | 0 => 0
  | k + 1 => bif decide (a.getD k 0 < b.getD k 0) then -1 else bif decide (b.getD k 0 < a.getD k 0) then 1 else F.cmpK a b k

theorem F.cmpA_app : ∀ (a b : List Int) (x y : Int), a.length = b.length → F.cmpA (a ++ [x]) (b ++ [y]) = if x < y then -1 else if y < x then 1 else F.cmpA a b
  | [], [], x, y, _ => by simp [F.cmpA]
  | p :: a, q :: b, x, y, h => by
    have ih := F.cmpA_app a b x y (by simpa using h)
    rw [List.cons_append, List.cons_append, F.cmpA, ih, F.cmpA]
    by_cases h1 : x < y
    · simp [h1]
    · by_cases h2 : y < x
      · simp [h1, h2]
      · simp [h1, h2]

theorem F.cmpK_eq {a b : List Int} (h : a.length = b.length) : ∀ k, k ≤ a.length → F.cmpK a b k = F.cmpA (a.take k) (b.take k)
  | 0, _ => rfl
  | k + 1, hk => by
    have h1 : k < a.length := hk
    have h2 : k < b.length := by omega
    have ih := F.cmpK_eq h k (by omega)
    rw [List.take_succ_eq_append_getElem h1, List.take_succ_eq_append_getElem h2, F.cmpA_app _ _ _ _ (by simp; omega), F.cmpK, ih]
    simp only [List.getD, List.getElem?_eq_getElem h1, List.getElem?_eq_getElem h2, Option.getD_some, Bool.cond_decide]

theorem F.cmpK_all {a b : List Int} (h : a.length = b.length) : F.cmpK a b a.length = F.cmpL a b := by
  rw [F.cmpK_eq h _ (Nat.le_refl _), List.take_length, h, List.take_length]
  unfold F.cmpL
  rw [if_neg (by omega), if_neg (by omega)]

namespace M

def stCpr (a : List Int) (b : List Int) (i : Int) : St := ⟨[(5, vI i), (1, .sl (b.map eI)), (0, .sl (a.map eI))], []⟩

def stCpr1 (a : (List Int) × (List Int) × Int) : St := stCpr a.1 a.2.1 a.2.2

theorem stCpr_inj (a a' : (List Int) × (List Int) × Int) (h : stCpr1 a = stCpr1 a') : a = a' := by
  simp only [stCpr1, stCpr] at h
  try simp [ints_inj, strs_inj, ents_inj, eEnt_iff, eLst_iff] at h
  grind

theorem unstCpr (a : List Int) (b : List Int) (i : Int) : unenc stCpr1 (St.mk [(5, (vI i)), (1, AV.sl (List.map eI b)), (0, AV.sl (List.map eI a))] []) = some (a, b, i) := unenc_of stCpr_inj (a, b, i) rfl

def outCpr (a : List Int) (b : List Int) (i : Int) : T (Ex × St) := .ifB (F.cmpK a b (i + 1).toNat == 0) (.ret (.exit 0, ⟨[], []⟩)) (.ret (.ret, ⟨[(4, vI (F.cmpK a b (i + 1).toNat))], []⟩))

noncomputable def prlCpr (a : List Int) (b : List Int) (i : Int) : Bool := decide (a.length ≤ 1000) && decide (a.length = b.length) && decide (-1 ≤ i) && decide (i < a.length)

noncomputable def lpCpr : Nat × (St → T (Ex × St)) := (6, lpo [5, 1, 0] [] stCpr1 (fun a => prlCpr a.1 a.2.1 a.2.2) fun a => outCpr a.1 a.2.1 a.2.2)

noncomputable def enCpr : Env := envH ty noG lks [] [] [] [lpCpr]

theorem enCpr_ok : EnvOK Tryz.prog enCpr := by
  refine envH_ok lks_ok ty_ok ?_ ?_
  · simp
  · simp

theorem evCprL (a : List Int) (b : List Int) (i : Int) : ((exec enCpr (loopN Tryz.f119 0) (stCpr a b i)).bind (lessX ([5, 1, 0], []) ([], []) ([4], []))).val =
  bif decide ((0 : Int) ≤ i) then Option.bind (idx i) fun (z : Nat) => Option.bind (unenc (List.map eI) (List.map eI a)) fun (z_1 : List Int) => bif decide (z < List.length
  z_1) then Option.bind (idx i) fun (z_2 : Nat) => Option.bind (unenc (List.map eI) (List.map eI b)) fun (z_3 : List Int) => bif decide (z_2 < List.length z_3) then bif
  decide (List.getD z_1 z (0 : Int) < List.getD z_3 z_2 (0 : Int)) then some (Ex.ret, St.mk [(4, (vI (-1 : Int)))] []) else Option.bind (idx i) fun (z : Nat) => Option.bind
  (unenc (List.map eI) (List.map eI a)) fun (z_4 : List Int) => bif decide (z < List.length z_4) then Option.bind (idx i) fun (z_5 : Nat) => Option.bind (unenc (List.map eI)
  (List.map eI b)) fun (z_6 : List Int) => bif decide (z_5 < List.length z_6) then bif decide (List.getD z_6 z_5 (0 : Int) < List.getD z_4 z (0 : Int)) then some (Ex.ret,
  St.mk [(4, (vI (1 : Int)))] []) else some (Ex.normal, St.mk [(5, (vI (IntKind.wrap IntKind.i64 (i - (1 : Int))))), (1, AV.sl (List.map eI b)), (0, AV.sl (List.map eI a))]
  []) else none else none else none else none else some (Ex.exit (0 : Nat), St.mk [] []) := (execR_bind _ _ _).symm.trans (by kernel_rfl)

theorem lpCpr_ok (a : List Int) (b : List Int) (i : Int) (hp : prlCpr a b i = true) : ∀ ex s', (outCpr a b i).val = some (ex, s') → LoopOK enCpr (loopN Tryz.f119 0) (stCpr a b i) ex s' := by
  simp only [prlCpr, Bool.and_eq_true, decide_eq_true_eq] at hp
  obtain ⟨⟨⟨h1, h2⟩, h3⟩, h4⟩ := hp
  obtain ⟨n, rfl⟩ : ∃ n : Nat, i = (n : Int) - 1 := ⟨(i + 1).toNat, by omega⟩
  refine loop_gen (st := fun n : Nat => stCpr a b ((n : Int) - 1)) (out := fun n : Nat => outCpr a b ((n : Int) - 1)) (I := fun n => n ≤ a.length) (n := ([5, 1, 0], [])) (e := ([], [])) (r := ([4], [])) (fun n => n) ?_ n (by omega)
  intro n hn
  have e : ((n : Int) - 1 + 1).toNat = n := by omega
  cases n with
  | zero =>
    left
    refine ⟨(.exit 0, ⟨[], []⟩), ?_, ?_, by simp, rfl⟩
    · rw [evCprL]; simp
    · simp only [outCpr, e]; rfl
  | succ j =>
    have hlt : j < a.length := hn
    have hlt2 : j < b.length := by omega
    have hy : a[j]? = some a[j] := List.getElem?_eq_getElem hlt
    have hz : b[j]? = some b[j] := List.getElem?_eq_getElem hlt2
    have hg : a.getD j 0 = a[j] := by simp [hy]
    have hg2 : b.getD j 0 = b[j] := by simp [hz]
    generalize a[j] = y at hy hg
    generalize b[j] = z at hz hg2
    have hj : (((j + 1 : Nat) : Int) - 1) = (j : Int) := by omega
    have hw : IntKind.i64.wrap ((j : Int) - 1) = (j : Int) - 1 := wrap_id (by omega) (by omega)
    rw [hj] at e ⊢
    have hi : idx ((j : Nat) : Int) = some j := idx_n (by omega)
    have h0 : decide ((0 : Int) ≤ (j : Int)) = true := decide_eq_true (by omega)
    by_cases c1 : y < z
    · left
      refine ⟨(.ret, ⟨[(4, vI (-1))], []⟩), ?_, ?_, by simp, rfl⟩
      · rw [evCprL]
        simp only [unstCpr, prlCpr, outCpr, etaEnt, etaLst, etaSnd, etaStrm, etaMas, Option.bind_some, List.length_map, unStrs, unInts, unBools, unEnts, unItms, unTrns, cond_true, cond_false, Bool.and_true, Bool.true_and, hi, h0, decide_eq_true hlt, decide_eq_true hlt2, getD_at hy, getD_at hz, decide_eq_true c1]
      · simp only [outCpr, e, F.cmpK, hg, hg2, decide_eq_true c1]; rfl
    · by_cases c2 : z < y
      · left
        refine ⟨(.ret, ⟨[(4, vI 1)], []⟩), ?_, ?_, by simp, rfl⟩
        · rw [evCprL]
          simp only [unstCpr, prlCpr, outCpr, etaEnt, etaLst, etaSnd, etaStrm, etaMas, Option.bind_some, List.length_map, unStrs, unInts, unBools, unEnts, unItms, unTrns, cond_true, cond_false, Bool.and_true, Bool.true_and, hi, h0, decide_eq_true hlt, decide_eq_true hlt2, getD_at hy, getD_at hz, decide_eq_false c1, decide_eq_true c2]
        · simp only [outCpr, e, F.cmpK, hg, hg2, decide_eq_false c1, decide_eq_true c2]; rfl
      · right
        refine ⟨j, ?_, rfl, by omega, by omega, ?_⟩
        · rw [evCprL]
          simp only [unstCpr, prlCpr, outCpr, etaEnt, etaLst, etaSnd, etaStrm, etaMas, Option.bind_some, List.length_map, unStrs, unInts, unBools, unEnts, unItms, unTrns, cond_true, cond_false, Bool.and_true, Bool.true_and, hi, h0, decide_eq_true hlt, decide_eq_true hlt2, getD_at hy, getD_at hz, decide_eq_false c1, decide_eq_false c2, hw, stCpr]
        · have e2 : ((j : Int) - 1 + 1).toNat = j := by omega
          simp only [outCpr, e, e2, F.cmpK, hg, hg2, decide_eq_false c1, decide_eq_false c2, cond_false]

theorem evCpr (a : List Int) (b : List Int) : (runF enCpr false Tryz.f119 [.sl (a.map eI), .sl (b.map eI)]).val =
  bif (↑(List.length (List.map eI a)) : Int) != (↑(List.length (List.map eI b)) : Int) then bif decide ((↑(List.length (List.map eI a)) : Int) < (↑(List.length (List.map eI
  b)) : Int)) then some ((vI (-1 : Int)), []) else some ((vI (1 : Int)), []) else Option.bind (unenc stCpr1 (St.mk [(5, (vI (IntKind.wrap IntKind.i64 ((↑(List.length
  (List.map eI a)) : Int) - (1 : Int))))), (1, AV.sl (List.map eI b)), (0, AV.sl (List.map eI a))] [])) fun (z : List Int × List Int × Int) => bif decide (List.length z.fst
  ≤ (1000 : Nat)) && decide (List.length z.fst = List.length z.snd.fst) && decide ((-1 : Int) ≤ z.snd.snd) && decide (z.snd.snd < (↑(List.length z.fst) : Int)) && true then
  bif F.cmpK z.fst z.snd.fst (Int.toNat (z.snd.snd + (1 : Int))) == (0 : Int) then some ((vI (0 : Int)), []) else some ((vI (F.cmpK z.fst z.snd.fst (Int.toNat (z.snd.snd +
  (1 : Int))))), []) else none := (runFR_val).symm.trans (by kernel_rfl)

def encCpr1 (a : List Int) (b : List Int) : List AV := [.sl (a.map eI), .sl (b.map eI)]

def encCpr (a : (List Int) × (List Int)) : List AV := encCpr1 a.1 a.2

theorem encCpr_inj (a a' : (List Int) × (List Int)) (h : encCpr a = encCpr a') : a = a' := by
  simp only [encCpr, encCpr1] at h
  try simp [ints_inj, strs_inj, ents_inj, eEnt_iff, eLst_iff] at h
  grind

theorem unCpr (a : List Int) (b : List Int) : unenc encCpr ([AV.sl (List.map eI a), AV.sl (List.map eI b)]) = some (a, b) := unenc_of encCpr_inj (a, b) rfl

def resCpr1 (a : List Int) (b : List Int) : AV × Heap := (vI (F.sgn (F.nv a) (F.nv b)), [])

def preCpr1 (a : List Int) (b : List Int) : Bool := F.nk 1000 a && F.nk 1000 b

noncomputable def oCpr : Orc := orc 119 true encCpr (fun a => preCpr1 a.1 a.2) fun a => resCpr1 a.1 a.2

theorem okCpr : OrcOK Tryz.prog noG oCpr := by
  refine mk_ok Tryz.f119 (keep := false) (by kernel_rfl) (by kernel_rfl) enCpr_ok mixed (one_loop (x0 := loopN Tryz.f119 0) (by kernel_rfl) (lpo_ok ?_)) (by first | exact fun _ _ => ⟨rfl, rfl⟩ | (intro h; cases h)) ?_
  · rintro ⟨a, b, i⟩ hp
    exact lpCpr_ok a b i hp
  rintro ⟨a, b⟩ hpre hok
  show (runF enCpr false _ (encCpr1 _ _)).val = some (resCpr1 _ _)
  unfold encCpr1 resCpr1
  rw [evCpr]
  have hpre : (F.nk 1000 a && F.nk 1000 b) = true := hpre
  rw [Bool.and_eq_true] at hpre
  have l1 := F.nk_len hpre.1
  have l2 := F.nk_len hpre.2
  have hres : F.sgn ((F.nv a : Nat) : Int) ((F.nv b : Nat) : Int) = F.cmpL a b := by
    obtain ⟨m, hm1, hm⟩ := F.nk_of hpre.1
    obtain ⟨n, hn1, hn⟩ := F.nk_of hpre.2
    rw [hm1, hn1, F.nv_lb, F.nv_lb, F.cmp_lb]
  have hw : IntKind.i64.wrap ((a.length : Int) - 1) = (a.length : Int) - 1 := wrap_id (by omega) (by omega)
  by_cases h : a.length = b.length
  · have e : (((a.length : Int) - 1) + 1).toNat = a.length := by omega
    have hk := F.cmpK_all h
    have hb : ((a.length : Int) != (b.length : Int)) = false := by rw [h]; simp
    simp only [unstCpr, prlCpr, outCpr, etaEnt, etaLst, etaSnd, etaStrm, etaMas, Option.bind_some, List.length_map, unStrs, unInts, unBools, unEnts, unItms, unTrns, cond_true, cond_false, Bool.and_true, Bool.true_and, hw, hb, e, hk, hres, decide_eq_true h, decide_eq_true l1, decide_eq_true (by omega : (-1 : Int) ≤ (a.length : Int) - 1), decide_eq_true (by omega : (a.length : Int) - 1 < (a.length : Int))]
    cases hc : F.cmpL a b == 0
    · rfl
    · have : F.cmpL a b = 0 := by simpa using hc
      rw [this]; rfl
  · have hb : ((a.length : Int) != (b.length : Int)) = true := by simp; omega
    simp only [unstCpr, prlCpr, outCpr, etaEnt, etaLst, etaSnd, etaStrm, etaMas, Option.bind_some, List.length_map, unStrs, unInts, unBools, unEnts, unItms, unTrns, cond_true, cond_false, Bool.and_true, Bool.true_and, hb, hres]
    unfold F.cmpL
    by_cases c : a.length < b.length
    · rw [decide_eq_true (by omega : (a.length : Int) < (b.length : Int)), if_pos c]; rfl
    · rw [decide_eq_false (by omega : ¬ (a.length : Int) < (b.length : Int)), if_neg c, if_pos (by omega)]; rfl

end M

end Go.Proofs.YtajmdlpanlbnjaaGreatDoor
