/- What is proved here: what the reference's Follows returns on plain data (no statement of the seat). -/
import Derived.Test.YtkfhfjcgegimbaaE13
namespace Go.Proofs.Ytkfhfjcgegimbaa
open Go Go.RowKit
set_option linter.unusedVariables false
set_option linter.unusedSimpArgs false

/-- Breaks up to an entry. -/
def F.brk (b : Int) (l : List Ent) : Int := l.foldl (fun b e => bif e.brk then IntKind.i64.wrap (b + 1) else b) b

def F.brkAt (l : Lst) (i : Int) : Int := F.brk l.breaks (l.entries.take (i + 1).toNat)

theorem F.brk_eq : ∀ (l : List Ent) (b : Int), 0 ≤ b → b + l.length ≤ 4611686018427387904 → F.brk b l = b + F.cnt l
  | [], b, _, _ => by simp [F.brk, F.cnt]
  | e :: l, b, h1, h2 => by
    simp only [List.length_cons] at h2
    have hw : IntKind.i64.wrap (b + 1) = b + 1 := M.wrap_id (by omega) (by omega)
    show F.brk (bif e.brk then IntKind.i64.wrap (b + 1) else b) l = _
    rw [hw, F.brk_eq l _ (by cases e.brk <;> simp <;> omega) (by cases e.brk <;> simp <;> omega)]
    simp only [F.cnt]
    cases e.brk <;> simp <;> omega

theorem F.brkAt_eq {l : Lst} (hc : F.check l = 0) (i : Int) : F.brkAt l i = l.breaks + F.cnt (l.entries.take (i + 1).toNat) := by
  obtain ⟨h1, _, _, h2, h3⟩ := F.check_ok hc
  have : (l.entries.take (i + 1).toNat).length ≤ l.entries.length := by simp; omega
  exact F.brk_eq _ _ (by omega) (by omega)

/-- The reference's place of an old entry in the new list. -/
def F.rfK (old now : Lst) (i : Nat) : Int := IntKind.i64.wrap (IntKind.i64.wrap (old.first + i) - now.first)

def F.rfO (old now : Lst) (i : Nat) : Bool := F.lt (F.rfK old now i) 0 || F.le now.entries.length (F.rfK old now i)

def F.rfG (old now : Lst) (i : Nat) : Int :=
  bif F.rfO old now i then 0 else bif !F.sameE (old.entries.getD i default) (now.entries.getD (F.rfK old now i).toNat default) then 12 else
  bif F.brkAt old i != F.brkAt now (F.rfK old now i) then 3 else 0

def F.rfC (old now : Lst) (k : Nat) : Int := M.ffI (F.rfG old now) ((List.range old.entries.length).drop k)

def F.rfA (old now : Lst) (a : Bool) (k : Nat) : Bool := a || ((List.range old.entries.length).drop k).any fun i => !F.rfO old now i

def F.rfol (old now : Lst) : Int :=
  bif old.target != now.target then 6 else bif old.ended && !F.sameL old now then 11 else bif F.lt now.first old.first || F.lt (F.endN now) (F.endN old) then 8 else
  bif F.rfC old now 0 != 0 then F.rfC old now 0 else bif !F.rfA old now false 0 && F.lt now.breaks (F.brkAt old (old.entries.length - 1)) then 8 else 0

theorem F.range_drop {n k : Nat} (h : k < n) : (List.range n).drop k = k :: (List.range n).drop (k + 1) := by
  rw [List.drop_eq_getElem_cons (by simpa using h)]
  simp

namespace M


def stBrk (l : Lst) (i : Int) (b : Int) (k : Nat) : St := ⟨[(6, vI k), (5, vI b), (2, .ptr 2 0 0), (1, vI i)], [(2, ⟨true, 0, 0, [eLst l]⟩)]⟩

def stBrk1 (a : Lst × Int × Int × Nat) : St := stBrk a.1 a.2.1 a.2.2.1 a.2.2.2

theorem stBrk_inj (a a' : Lst × Int × Int × Nat) (h : stBrk1 a = stBrk1 a') : a = a' := by
  simp only [stBrk1, stBrk] at h
  try simp [strs_inj, ents_inj, eEnt_iff, eLst_iff, ints_inj, eTrn_iff, itms_inj, eCli_iff] at h
  grind

theorem unstBrk (l : Lst) (i : Int) (b : Int) (k : Nat) : unenc stBrk1 (St.mk [(6, (vI (↑k : Int))), (5, (vI b)), (2, .ptr 2 0 0), (1, (vI i))] [(2, Blk.mk true 0 0 [[(vI l.target), (vI l.first), (vI l.breaks), AV.sl (List.map eEnt l.entries),
  (vB l.ended)]])]) = some (l, i, b, k) := unenc_of stBrk_inj (l, i, b, k) rfl

theorem unstBrk0 (l : Lst) (i : Int) (b : Int) : unenc stBrk1 (St.mk [(6, (vI (0 : Int))), (5, (vI b)), (2, .ptr 2 0 0), (1, (vI i))] [(2, Blk.mk true 0 0 [[(vI l.target), (vI l.first), (vI l.breaks), AV.sl (List.map eEnt l.entries),
  (vB l.ended)]])]) = some (l, i, b, 0) := unenc_of stBrk_inj (l, i, b, 0) rfl

def outBrk (l : Lst) (i : Int) (b : Int) (k : Nat) : T (Ex × St) := .ret (.exit 0, ⟨[(5, vI (F.brk b ((l.entries.take (i + 1).toNat).drop k)))], []⟩)

noncomputable def prlBrk (l : Lst) (i : Int) (b : Int) (k : Nat) : Bool := decide (l.entries.length ≤ 100000) && F.lt i l.entries.length && F.le (-1) i && F.le k (i + 1)

noncomputable def lpBrk : Nat × (St → T (Ex × St)) := (3, lpo [6, 5, 2, 1] [2] stBrk1 (fun a => prlBrk a.1 a.2.1 a.2.2.1 a.2.2.2) fun a => outBrk a.1 a.2.1 a.2.2.1 a.2.2.2)

noncomputable def enBrk : Env := envH ty noG lks [] [] [] [lpBrk]

theorem enBrk_ok : EnvOK Try.prog enBrk := by
  refine envH_ok lks_ok ty_ok ?_ ?_
  · simp
  · simp

theorem evBrkL (l : Lst) (i : Int) (b : Int) (k : Nat) : ((exec enBrk (loopN Try.f57 0) (stBrk l i b k)).bind (lessX ([6, 5, 2, 1], [2]) ([5], []) ([], []))).val =
  bif decide ((↑k : Int) ≤ i) then Option.bind (unenc (List.map eEnt) (List.map eEnt l.entries)) fun (z : List Ent) => bif decide (k < List.length z) then bif (List.getD z k
  (Ent.mk (ByteArray.mk (Array.mk [])) (0 : Int) false (0 : Int) (ByteArray.mk (Array.mk [])) false [])).brk then some (Ex.normal, St.mk [(6, (vI (IntKind.wrap IntKind.i64
  ((↑k : Int) + (1 : Int))))), (5, (vI (IntKind.wrap IntKind.i64 (b + (1 : Int))))), (2, .ptr 2 0 0), (1, (vI i))] [(2, Blk.mk true 0 0 [[(vI l.target), (vI l.first), (vI
  l.breaks), AV.sl (List.map eEnt l.entries), (vB l.ended)]])]) else some (Ex.normal, St.mk [(6, (vI (IntKind.wrap IntKind.i64 ((↑k : Int) + (1 : Int))))), (5, (vI b)), (2,
  .ptr 2 0 0), (1, (vI i))] [(2, Blk.mk true 0 0 [[(vI l.target), (vI l.first), (vI l.breaks), AV.sl (List.map eEnt l.entries), (vB l.ended)]])]) else none else some
  (Ex.exit (0 : Nat), St.mk [(5, (vI b))] []) := by kernel_rfl

theorem lpBrk_ok (l : Lst) (i : Int) (b : Int) (k : Nat) (hp : prlBrk l i b k = true) : ∀ ex s', (outBrk l i b k).val = some (ex, s') → LoopOK enBrk (loopN Try.f57 0) (stBrk l i b k) ex s' := by
  simp only [prlBrk, Bool.and_eq_true, decide_eq_true_eq] at hp
  obtain ⟨⟨⟨h1, h2⟩, h3⟩, h4⟩ := hp
  simp only [F.lt, F.le, decide_eq_true_eq] at h2 h3 h4
  have hl : (l.entries.take (i + 1).toNat).length = (i + 1).toNat := by rw [List.length_take]; omega
  refine loop_fold (xs := l.entries.take (i + 1).toNat) (st := fun b k => stBrk l i b k) (f := fun b e => bif e.brk then IntKind.i64.wrap (b + 1) else b) (fin := fun b => (.exit 0, ⟨[(5, vI b)], []⟩)) (I := fun _ _ => True) (n := ([6, 5, 2, 1], [2])) (e := ([5], [])) (r := ([], [])) ?_ (fun _ => ⟨by simp, rfl⟩) (fun _ _ => rfl) ?_ b k (by omega) trivial
  · intro b _
    have hno : decide (((i + 1).toNat : Int) ≤ i) = false := decide_eq_false (by omega)
    rw [hl]
    rw [evBrkL]
    simp only [unstBrk, unstBrk0, prlBrk, outBrk, etaEnt, etaLst, Option.bind_some, List.length_map, unStrs, unInts, unBools, unEnts, unItms, unTrns, cond_true, cond_false, Bool.and_true, Bool.true_and, hno]
  · intro b k y hy _
    have hlt := lt_at hy
    rw [hl] at hlt
    have hy' : l.entries[k]? = some y := by
      rw [List.getElem?_take] at hy
      simpa [hlt] using hy
    have hyes : decide ((k : Int) ≤ i) = true := decide_eq_true (by omega)
    have hlt' := lt_at hy'
    refine ⟨?_, trivial⟩
    rw [evBrkL]
    simp only [unstBrk, unstBrk0, prlBrk, outBrk, etaEnt, etaLst, Option.bind_some, List.length_map, unStrs, unInts, unBools, unEnts, unItms, unTrns, cond_true, cond_false, Bool.and_true, Bool.true_and, hyes, decide_eq_true hlt', next_at hlt' (by omega : l.entries.length ≤ 9223372036854775807), getD_at hy', stBrk, eEnt, eLst, idx]
    cases y.brk <;> rfl

theorem evBrk (l : Lst) (i : Int) : (runF enBrk false Try.f57 [.agg (eLst l), vI i]).val =
  Option.bind (unenc stBrk1 (St.mk [(6, (vI (0 : Int))), (5, (vI l.breaks)), (2, .ptr 2 0 0), (1, (vI i))] [(2, Blk.mk true 0 0 [[(vI l.target), (vI l.first), (vI l.breaks),
  AV.sl (List.map eEnt l.entries), (vB l.ended)]])])) fun (z : Lst × Int × Int × Nat) => bif decide (List.length z.fst.entries ≤ (100000 : Nat)) && F.lt z.snd.fst
  (↑(List.length z.fst.entries) : Int) && F.le (-1 : Int) z.snd.fst && F.le (↑z.snd.snd.snd : Int) (z.snd.fst + (1 : Int)) && true then some ((vI (F.brk z.snd.snd.fst
  (List.drop z.snd.snd.snd (List.take (Int.toNat (z.snd.fst + (1 : Int))) z.fst.entries)))), []) else none := by kernel_rfl

def encBrk1 (l : Lst) (i : Int) : List AV := [.agg (eLst l), vI i]

def encBrk (a : Lst × Int) : List AV := encBrk1 a.1 a.2

theorem encBrk_inj (a a' : Lst × Int) (h : encBrk a = encBrk a') : a = a' := by
  simp only [encBrk, encBrk1] at h
  try simp [strs_inj, ents_inj, eEnt_iff, eLst_iff, ints_inj, eTrn_iff, itms_inj, eCli_iff] at h
  grind

theorem unBrk (l : Lst) (i : Int) : unenc encBrk ([AV.agg [(vI l.target), (vI l.first), (vI l.breaks), AV.sl (List.map eEnt l.entries), (vB l.ended)], (vI i)]) = some (l, i) := unenc_of encBrk_inj (l, i) rfl

theorem unBrkw (l_target : Int) (l_first : Int) (l_breaks : Int) (l_entries : List Ent) (l_ended : Bool) (i : Int) : unenc encBrk ([AV.agg [(vI l_target), (vI l_first), (vI l_breaks), AV.sl (List.map eEnt l_entries), (vB l_ended)], (vI i)]) = some ((Lst.mk l_target l_first l_breaks l_entries l_ended), i) := unenc_of encBrk_inj ((Lst.mk l_target l_first l_breaks l_entries l_ended), i) rfl

def resBrk1 (l : Lst) (i : Int) : AV × Heap := (vI (F.brkAt l i), [])

def preBrk1 (l : Lst) (i : Int) : Bool := decide (l.entries.length ≤ 100000) && F.lt i l.entries.length && F.le (-1) i

noncomputable def oBrk : Orc := orc 57 true encBrk (fun a => preBrk1 a.1 a.2) fun a => resBrk1 a.1 a.2

theorem okBrk : OrcOK Try.prog noG oBrk := by
  refine mk_ok Try.f57 (keep := false) (by kernel_rfl) (by kernel_rfl) enBrk_ok mixed (one_loop (x0 := loopN Try.f57 0) (by kernel_rfl) (lpo_ok ?_)) (by first | exact fun _ _ => ⟨rfl, rfl⟩ | (intro h; cases h)) ?_
  · rintro ⟨l, i, b, k⟩ hp
    exact lpBrk_ok l i b k hp
  rintro ⟨l, i⟩ hpre hok
  show (runF enBrk false _ (encBrk1 _ _)).val = some (resBrk1 _ _)
  unfold encBrk1 resBrk1
  rw [evBrk]
  simp only [preBrk1, Bool.and_eq_true] at hpre
  have h0 : F.le ((0 : Nat) : Int) (i + 1) = true := by have := hpre.2; simp only [F.le, decide_eq_true_eq] at this ⊢; omega
  simp only [unstBrk, unstBrk0, prlBrk, outBrk, etaEnt, etaLst, Option.bind_some, List.length_map, unStrs, unInts, unBools, unEnts, unItms, unTrns, cond_true, cond_false, Bool.and_true, Bool.true_and, hpre.1.1, hpre.1.2, hpre.2, h0, List.drop_zero, F.brkAt]

def stRFl (old : Lst) (now : Lst) (a : Bool) (k : Nat) : St := ⟨[(6, vI k), (5, vB a), (3, .ptr 3 0 0), (2, .ptr 2 0 0)], [(3, ⟨true, 0, 0, [eLst now]⟩), (2, ⟨true, 0, 0, [eLst old]⟩)]⟩

def stRFl1 (a : Lst × Lst × Bool × Nat) : St := stRFl a.1 a.2.1 a.2.2.1 a.2.2.2

theorem stRFl_inj (a a' : Lst × Lst × Bool × Nat) (h : stRFl1 a = stRFl1 a') : a = a' := by
  simp only [stRFl1, stRFl] at h
  try simp [strs_inj, ents_inj, eEnt_iff, eLst_iff, ints_inj, eTrn_iff, itms_inj, eCli_iff] at h
  grind

theorem unstRFl (old : Lst) (now : Lst) (a : Bool) (k : Nat) : unenc stRFl1 (St.mk [(6, (vI (↑k : Int))), (5, (vB a)), (3, .ptr 3 0 0), (2, .ptr 2 0 0)] [(3, Blk.mk true 0 0 [[(vI now.target), (vI now.first), (vI now.breaks), AV.sl (List.map eEnt
  now.entries), (vB now.ended)]]), (2, Blk.mk true 0 0 [[(vI old.target), (vI old.first), (vI old.breaks), AV.sl (List.map eEnt old.entries), (vB old.ended)]])]) = some (old, now, a, k) := unenc_of stRFl_inj (old, now, a, k) rfl

theorem unstRFl0 (old : Lst) (now : Lst) : unenc stRFl1 (St.mk [(6, (vI (0 : Int))), (5, (vB false)), (3, .ptr 3 0 0), (2, .ptr 2 0 0)] [(3, Blk.mk true 0 0 [[(vI now.target), (vI now.first), (vI now.breaks), AV.sl (List.map
  eEnt now.entries), (vB now.ended)]]), (2, Blk.mk true 0 0 [[(vI old.target), (vI old.first), (vI old.breaks), AV.sl (List.map eEnt old.entries), (vB old.ended)]])]) = some (old, now, false, 0) := unenc_of stRFl_inj (old, now, false, 0) rfl

def outRFl (old : Lst) (now : Lst) (a : Bool) (k : Nat) : T (Ex × St) := .ifB (decide (F.rfC old now k = 0)) (.ret (.exit 0, ⟨[(5, vB (F.rfA old now a k)), (3, .ptr 3 0 0), (2, .ptr 2 0 0)], [(3, ⟨true, 0, 0, [eLst now]⟩), (2, ⟨true, 0, 0, [eLst old]⟩)]⟩)) (.ret (.ret, ⟨[(4, vI (F.rfC old now k))], []⟩))

noncomputable def prlRFl (old : Lst) (now : Lst) (a : Bool) (k : Nat) : Bool := decide (F.check old = 0) && decide (F.check now = 0) && decide (k ≤ old.entries.length)

noncomputable def lpRFl : Nat × (St → T (Ex × St)) := (9, lpo [6, 5, 3, 2] [3, 2] stRFl1 (fun a => prlRFl a.1 a.2.1 a.2.2.1 a.2.2.2) fun a => outRFl a.1 a.2.1 a.2.2.1 a.2.2.2)

noncomputable def enRFl : Env := envH ty noG lks [oSmL, oSmE, oBrk] [] [] [lpRFl]

theorem enRFl_ok : EnvOK Try.prog enRFl := by
  refine envH_ok lks_ok ty_ok ?_ ?_
  · simp only [List.forall_mem_cons]
    exact ⟨okSmL, okSmE, okBrk, by simp⟩
  · simp

theorem evRFlL (old : Lst) (now : Lst) (a : Bool) (k : Nat) : ((exec enRFl (loopN Try.f51 0) (stRFl old now a k)).bind (lessX ([6, 5, 3, 2], [3, 2]) ([5, 3, 2], [3, 2]) ([4], []))).val =
  bif decide ((↑k : Int) < (↑(List.length (List.map eEnt old.entries)) : Int)) then bif bif decide (IntKind.wrap IntKind.i64 (IntKind.wrap IntKind.i64 (old.first + (↑k :
  Int)) - now.first) < (0 : Int)) then true else decide ((↑(List.length (List.map eEnt now.entries)) : Int) ≤ IntKind.wrap IntKind.i64 (IntKind.wrap IntKind.i64 (old.first +
  (↑k : Int)) - now.first)) then some (Ex.normal, St.mk [(6, (vI (IntKind.wrap IntKind.i64 ((↑k : Int) + (1 : Int))))), (5, (vB a)), (3, .ptr 3 0 0), (2, .ptr 2 0 0)] [(3,
  Blk.mk true 0 0 [[(vI now.target), (vI now.first), (vI now.breaks), AV.sl (List.map eEnt now.entries), (vB now.ended)]]), (2, Blk.mk true 0 0 [[(vI old.target), (vI
  old.first), (vI old.breaks), AV.sl (List.map eEnt old.entries), (vB old.ended)]])]) else Option.bind (unenc (List.map eEnt) (List.map eEnt old.entries)) fun (z : List Ent)
  => bif decide (k < List.length z) then Option.bind (idx (IntKind.wrap IntKind.i64 (IntKind.wrap IntKind.i64 (old.first + (↑k : Int)) - now.first))) fun (z_1 : Nat) =>
  Option.bind (unenc (List.map eEnt) (List.map eEnt now.entries)) fun (z_2 : List Ent) => bif decide (z_1 < List.length z_2) then Option.bind (unenc encSmE [AV.agg [(vS
  (List.getD z k (Ent.mk (ByteArray.mk (Array.mk [])) (0 : Int) false (0 : Int) (ByteArray.mk (Array.mk [])) false [])).uri), (vI (List.getD z k (Ent.mk (ByteArray.mk
  (Array.mk [])) (0 : Int) false (0 : Int) (ByteArray.mk (Array.mk [])) false [])).milli), (vB (List.getD z k (Ent.mk (ByteArray.mk (Array.mk [])) (0 : Int) false (0 : Int)
  (ByteArray.mk (Array.mk [])) false [])).brk), (vI (List.getD z k (Ent.mk (ByteArray.mk (Array.mk [])) (0 : Int) false (0 : Int) (ByteArray.mk (Array.mk [])) false
  [])).date), (vS (List.getD z k (Ent.mk (ByteArray.mk (Array.mk [])) (0 : Int) false (0 : Int) (ByteArray.mk (Array.mk [])) false [])).key), (vB (List.getD z k (Ent.mk
  (ByteArray.mk (Array.mk [])) (0 : Int) false (0 : Int) (ByteArray.mk (Array.mk [])) false [])).gap), AV.sl (List.map eStr (List.getD z k (Ent.mk (ByteArray.mk (Array.mk
  [])) (0 : Int) false (0 : Int) (ByteArray.mk (Array.mk [])) false [])).extra)], AV.agg [(vS (List.getD z_2 z_1 (Ent.mk (ByteArray.mk (Array.mk [])) (0 : Int) false (0 :
  Int) (ByteArray.mk (Array.mk [])) false [])).uri), (vI (List.getD z_2 z_1 (Ent.mk (ByteArray.mk (Array.mk [])) (0 : Int) false (0 : Int) (ByteArray.mk (Array.mk [])) false
  [])).milli), (vB (List.getD z_2 z_1 (Ent.mk (ByteArray.mk (Array.mk [])) (0 : Int) false (0 : Int) (ByteArray.mk (Array.mk [])) false [])).brk), (vI (List.getD z_2 z_1
  (Ent.mk (ByteArray.mk (Array.mk [])) (0 : Int) false (0 : Int) (ByteArray.mk (Array.mk [])) false [])).date), (vS (List.getD z_2 z_1 (Ent.mk (ByteArray.mk (Array.mk []))
  (0 : Int) false (0 : Int) (ByteArray.mk (Array.mk [])) false [])).key), (vB (List.getD z_2 z_1 (Ent.mk (ByteArray.mk (Array.mk [])) (0 : Int) false (0 : Int) (ByteArray.mk
  (Array.mk [])) false [])).gap), AV.sl (List.map eStr (List.getD z_2 z_1 (Ent.mk (ByteArray.mk (Array.mk [])) (0 : Int) false (0 : Int) (ByteArray.mk (Array.mk [])) false
  [])).extra)]]) fun (z : Ent × Ent) => bif !F.sameE z.fst z.snd then some (Ex.ret, St.mk [(4, (vI (12 : Int)))] []) else Option.bind (unenc encBrk [AV.agg [(vI old.target),
  (vI old.first), (vI old.breaks), AV.sl (List.map eEnt old.entries), (vB old.ended)], (vI (↑k : Int))]) fun (z : Lst × Int) => bif decide (List.length z.fst.entries ≤
  (100000 : Nat)) && F.lt z.snd (↑(List.length z.fst.entries) : Int) && F.le (-1 : Int) z.snd then Option.bind (unenc encBrk [AV.agg [(vI now.target), (vI now.first), (vI
  now.breaks), AV.sl (List.map eEnt now.entries), (vB now.ended)], (vI (IntKind.wrap IntKind.i64 (IntKind.wrap IntKind.i64 (old.first + (↑k : Int)) - now.first)))]) fun (z_3
  : Lst × Int) => bif decide (List.length z_3.fst.entries ≤ (100000 : Nat)) && F.lt z_3.snd (↑(List.length z_3.fst.entries) : Int) && F.le (-1 : Int) z_3.snd then bif
  F.brkAt z.fst z.snd != F.brkAt z_3.fst z_3.snd then some (Ex.ret, St.mk [(4, (vI (3 : Int)))] []) else some (Ex.normal, St.mk [(6, (vI (IntKind.wrap IntKind.i64 ((↑k :
  Int) + (1 : Int))))), (5, (vB true)), (3, .ptr 3 0 0), (2, .ptr 2 0 0)] [(3, Blk.mk true 0 0 [[(vI now.target), (vI now.first), (vI now.breaks), AV.sl (List.map eEnt
  now.entries), (vB now.ended)]]), (2, Blk.mk true 0 0 [[(vI old.target), (vI old.first), (vI old.breaks), AV.sl (List.map eEnt old.entries), (vB old.ended)]])]) else none
  else none else none else none else some (Ex.exit (0 : Nat), St.mk [(5, (vB a)), (3, .ptr 3 0 0), (2, .ptr 2 0 0)] [(3, Blk.mk true 0 0 [[(vI now.target), (vI now.first),
  (vI now.breaks), AV.sl (List.map eEnt now.entries), (vB now.ended)]]), (2, Blk.mk true 0 0 [[(vI old.target), (vI old.first), (vI old.breaks), AV.sl (List.map eEnt
  old.entries), (vB old.ended)]])]) := by kernel_rfl

theorem lpRFl_ok (old : Lst) (now : Lst) (a : Bool) (k : Nat) (hp : prlRFl old now a k = true) : ∀ ex s', (outRFl old now a k).val = some (ex, s') → LoopOK enRFl (loopN Try.f51 0) (stRFl old now a k) ex s' := by
  simp only [prlRFl, Bool.and_eq_true, decide_eq_true_eq] at hp
  obtain ⟨⟨c1, c2⟩, h3⟩ := hp
  obtain ⟨o1, _, _, o2, o3⟩ := F.check_ok c1
  obtain ⟨n1, _, _, n2, n3⟩ := F.check_ok c2
  refine loop_gen (st := fun a : Bool × Nat => stRFl old now a.1 a.2) (out := fun a => outRFl old now a.1 a.2) (I := fun a => a.2 ≤ old.entries.length) (n := ([6, 5, 3, 2], [3, 2])) (e := ([5, 3, 2], [3, 2])) (r := ([4], [])) (fun a => old.entries.length - a.2) ?_ (a, k) h3
  rintro ⟨a, k⟩ hk
  simp only at hk
  by_cases hlt : k < old.entries.length
  · have hy : old.entries[k]? = some old.entries[k] := List.getElem?_eq_getElem hlt
    generalize old.entries[k] = y at hy
    have hd := F.range_drop hlt
    have hC : F.rfC old now k = if F.rfG old now k = 0 then F.rfC old now (k + 1) else F.rfG old now k := by simp only [F.rfC, hd, M.ffI]
    have hA : F.rfA old now a k = F.rfA old now (a || !F.rfO old now k) (k + 1) := by simp only [F.rfA, hd, List.any_cons, Bool.or_assoc]
    have hn := next_at hlt (by omega : old.entries.length ≤ 9223372036854775807)
    by_cases hO1 : F.rfK old now k < 0
    · have hO : F.rfO old now k = true := by simp [F.rfO, F.lt, hO1]
      have hK : decide (IntKind.i64.wrap (IntKind.i64.wrap (old.first + (k : Int)) - now.first) < 0) = true := decide_eq_true hO1
      right
      refine ⟨(a, k + 1), ?_, rfl, by simp only; omega, by simp only; omega, ?_⟩
      · rw [evRFlL]
        simp only [unSmL, unSmE, unBrk, unSmLw, unSmEw, unBrkw, preSmL1, preSmE1, preBrk1, unstRFl, unstRFl0, prlRFl, outRFl, etaEnt, etaLst, Option.bind_some, List.length_map, unStrs, unInts, unBools, unEnts, unItms, unTrns, cond_true, cond_false, Bool.and_true, Bool.true_and, cast_lt hlt, decide_eq_true hlt, hn, hK, stRFl, eLst]
      · simp only [outRFl, hC, hA, F.rfG, hO, cond_true, if_true, Bool.not_true, Bool.or_false]
    · have hK1 : decide (IntKind.i64.wrap (IntKind.i64.wrap (old.first + (k : Int)) - now.first) < 0) = false := decide_eq_false hO1
      by_cases hO2 : (now.entries.length : Int) ≤ F.rfK old now k
      · have hO : F.rfO old now k = true := by simp [F.rfO, F.le, hO2]
        have hK2 : decide ((now.entries.length : Int) ≤ IntKind.i64.wrap (IntKind.i64.wrap (old.first + (k : Int)) - now.first)) = true := decide_eq_true hO2
        right
        refine ⟨(a, k + 1), ?_, rfl, by simp only; omega, by simp only; omega, ?_⟩
        · rw [evRFlL]
          simp only [unSmL, unSmE, unBrk, unSmLw, unSmEw, unBrkw, preSmL1, preSmE1, preBrk1, unstRFl, unstRFl0, prlRFl, outRFl, etaEnt, etaLst, Option.bind_some, List.length_map, unStrs, unInts, unBools, unEnts, unItms, unTrns, cond_true, cond_false, Bool.and_true, Bool.true_and, cast_lt hlt, decide_eq_true hlt, hn, hK1, hK2, stRFl, eLst]
        · simp only [outRFl, hC, hA, F.rfG, hO, cond_true, if_true, Bool.not_true, Bool.or_false]
      · obtain ⟨j, hj⟩ : ∃ j : Nat, F.rfK old now k = j := ⟨(F.rfK old now k).toNat, by omega⟩
        have hjl : j < now.entries.length := by omega
        have hz : now.entries[j]? = some now.entries[j] := List.getElem?_eq_getElem hjl
        generalize now.entries[j] = z at hz
        have hO : F.rfO old now k = false := by simp only [F.rfO, F.lt, F.le, Bool.or_eq_false_iff, decide_eq_false_iff_not]; exact ⟨hO1, hO2⟩
        have hK : IntKind.i64.wrap (IntKind.i64.wrap (old.first + (k : Int)) - now.first) = (j : Int) := hj
        have d1 : decide ((j : Int) < 0) = false := decide_eq_false (by omega)
        have d2 : decide ((now.entries.length : Int) ≤ (j : Int)) = false := decide_eq_false (by omega)
        have d3 : decide (old.entries.length ≤ 100000) = true := decide_eq_true (by omega)
        have d4 : decide (now.entries.length ≤ 100000) = true := decide_eq_true (by omega)
        have d5 : F.lt (k : Int) (old.entries.length : Int) = true := decide_eq_true (by omega)
        have d6 : F.lt (j : Int) (now.entries.length : Int) = true := decide_eq_true (by omega)
        have d7 : F.le (-1) (k : Int) = true := decide_eq_true (by omega)
        have d8 : F.le (-1) (j : Int) = true := decide_eq_true (by omega)
        have hG : F.rfG old now k = bif !F.sameE y z then 12 else bif F.brkAt old k != F.brkAt now j then 3 else 0 := by
          simp only [F.rfG, hO, cond_false, hj, Int.toNat_natCast, getD_at hy, getD_at hz]
        rcases Bool.eq_false_or_eq_true (F.sameE y z) with hs | hs
        · by_cases hb : F.brkAt old k = F.brkAt now j
          · right
            refine ⟨(true, k + 1), ?_, rfl, by simp only; omega, by simp only; omega, ?_⟩
            · rw [evRFlL]
              simp only [unSmL, unSmE, unBrk, unSmLw, unSmEw, unBrkw, preSmL1, preSmE1, preBrk1, unstRFl, unstRFl0, prlRFl, outRFl, etaEnt, etaLst, Option.bind_some, List.length_map, unStrs, unInts, unBools, unEnts, unItms, unTrns, cond_true, cond_false, Bool.and_true, Bool.true_and, cast_lt hlt, decide_eq_true hlt, decide_eq_true hjl, hn, hK, d1, d2, d3, d4, d5, d6, d7, d8, idx, getD_at hy, getD_at hz, hs, hb, bne_self_eq_false, stRFl, eLst]
              rfl
            · have hG0 : F.rfG old now k = 0 := by rw [hG, hs, hb]; simp
              simp only [outRFl, hC, hA, hG0, hO, if_true, Bool.not_false, Bool.or_true]
          · left
            have hbb : (F.brkAt old k != F.brkAt now j) = true := by simp [hb]
            have hG0 : F.rfG old now k = 3 := by rw [hG, hs, hbb]; rfl
            refine ⟨(.ret, ⟨[(4, vI 3)], []⟩), ?_, ?_, by simp, rfl⟩
            · rw [evRFlL]
              simp only [unSmL, unSmE, unBrk, unSmLw, unSmEw, unBrkw, preSmL1, preSmE1, preBrk1, unstRFl, unstRFl0, prlRFl, outRFl, etaEnt, etaLst, Option.bind_some, List.length_map, unStrs, unInts, unBools, unEnts, unItms, unTrns, cond_true, cond_false, Bool.and_true, Bool.true_and, cast_lt hlt, decide_eq_true hlt, decide_eq_true hjl, hn, hK, d1, d2, d3, d4, d5, d6, d7, d8, idx, getD_at hy, getD_at hz, hs, hbb, stRFl, eLst]
              rfl
            · simp only [outRFl, hC, hG0]
              rfl
        · left
          have hG0 : F.rfG old now k = 12 := by rw [hG, hs]; rfl
          refine ⟨(.ret, ⟨[(4, vI 12)], []⟩), ?_, ?_, by simp, rfl⟩
          · rw [evRFlL]
            simp only [unSmL, unSmE, unBrk, unSmLw, unSmEw, unBrkw, preSmL1, preSmE1, preBrk1, unstRFl, unstRFl0, prlRFl, outRFl, etaEnt, etaLst, Option.bind_some, List.length_map, unStrs, unInts, unBools, unEnts, unItms, unTrns, cond_true, cond_false, Bool.and_true, Bool.true_and, cast_lt hlt, decide_eq_true hlt, decide_eq_true hjl, hn, hK, d1, d2, d3, d4, d5, d6, d7, d8, idx, getD_at hy, getD_at hz, hs, stRFl, eLst]
            rfl
          · simp only [outRFl, hC, hG0]
            rfl
  · have : k = old.entries.length := by omega
    subst this
    left
    refine ⟨(.exit 0, ⟨[(5, vB a), (3, .ptr 3 0 0), (2, .ptr 2 0 0)], [(3, ⟨true, 0, 0, [eLst now]⟩), (2, ⟨true, 0, 0, [eLst old]⟩)]⟩), ?_, ?_, by simp, rfl⟩
    · rw [evRFlL]; simp [eLst]
    · have : (List.range old.entries.length).drop old.entries.length = [] := List.drop_eq_nil_of_le (by simp)
      simp [outRFl, F.rfC, F.rfA, this, M.ffI, T.val]

theorem evRFl (old : Lst) (now : Lst) : (runF enRFl false Try.f51 [.agg (eLst old), .agg (eLst now)]).val =
  bif old.target != now.target then some ((vI (6 : Int)), []) else bif old.ended then Option.bind (unenc encSmL [AV.agg [(vI old.target), (vI old.first), (vI old.breaks),
  AV.sl (List.map eEnt old.entries), (vB old.ended)], AV.agg [(vI now.target), (vI now.first), (vI now.breaks), AV.sl (List.map eEnt now.entries), (vB now.ended)]]) fun (z :
  Lst × Lst) => bif bif old.ended then !F.sameL z.fst z.snd else false then some ((vI (11 : Int)), []) else bif !decide (now.first < old.first) then bif !decide (now.first <
  old.first) then bif bif decide (now.first < old.first) then true else decide (IntKind.wrap IntKind.i64 (now.first + (↑(List.length (List.map eEnt now.entries)) : Int)) <
  IntKind.wrap IntKind.i64 (old.first + (↑(List.length (List.map eEnt old.entries)) : Int))) then some ((vI (8 : Int)), []) else Option.bind (unenc stRFl1 (St.mk [(6, (vI (0
  : Int))), (5, (vB false)), (3, .ptr 3 0 0), (2, .ptr 2 0 0)] [(3, Blk.mk true 0 0 [[(vI now.target), (vI now.first), (vI now.breaks), AV.sl (List.map eEnt now.entries),
  (vB now.ended)]]), (2, Blk.mk true 0 0 [[(vI old.target), (vI old.first), (vI old.breaks), AV.sl (List.map eEnt old.entries), (vB old.ended)]])])) fun (z : Lst × Lst ×
  Bool × Nat) => bif decide (F.check z.fst = (0 : Int)) && decide (F.check z.snd.fst = (0 : Int)) && decide (z.snd.snd.snd ≤ List.length z.fst.entries) && true then bif
  decide (F.rfC z.fst z.snd.fst z.snd.snd.snd = (0 : Int)) then bif !F.rfA z.fst z.snd.fst z.snd.snd.fst z.snd.snd.snd then Option.bind (unenc encBrk [AV.agg [(vI
  z.fst.target), (vI z.fst.first), (vI z.fst.breaks), AV.sl (List.map eEnt z.fst.entries), (vB z.fst.ended)], (vI (IntKind.wrap IntKind.i64 ((↑(List.length (List.map eEnt
  z.fst.entries)) : Int) - (1 : Int))))]) fun (z_1 : Lst × Int) => bif decide (List.length z_1.fst.entries ≤ (100000 : Nat)) && F.lt z_1.snd (↑(List.length z_1.fst.entries)
  : Int) && F.le (-1 : Int) z_1.snd then bif bif !F.rfA z.fst z.snd.fst z.snd.snd.fst z.snd.snd.snd then decide (z.snd.fst.breaks < F.brkAt z_1.fst z_1.snd) else false then
  some ((vI (8 : Int)), []) else some ((vI (0 : Int)), []) else none else bif !F.rfA z.fst z.snd.fst z.snd.snd.fst z.snd.snd.snd then none else some ((vI (0 : Int)), [])
  else some ((vI (F.rfC z.fst z.snd.fst z.snd.snd.snd)), []) else none else bif !decide (now.first < old.first) then none else some ((vI (8 : Int)), []) else bif !decide
  (now.first < old.first) then bif !decide (now.first < old.first) then none else some ((vI (8 : Int)), []) else bif !decide (now.first < old.first) then none else some ((vI
  (8 : Int)), []) else bif old.ended then none else bif !decide (now.first < old.first) then bif !decide (now.first < old.first) then bif bif decide (now.first < old.first)
  then true else decide (IntKind.wrap IntKind.i64 (now.first + (↑(List.length (List.map eEnt now.entries)) : Int)) < IntKind.wrap IntKind.i64 (old.first + (↑(List.length
  (List.map eEnt old.entries)) : Int))) then some ((vI (8 : Int)), []) else Option.bind (unenc stRFl1 (St.mk [(6, (vI (0 : Int))), (5, (vB false)), (3, .ptr 3 0 0), (2, .ptr
  2 0 0)] [(3, Blk.mk true 0 0 [[(vI now.target), (vI now.first), (vI now.breaks), AV.sl (List.map eEnt now.entries), (vB now.ended)]]), (2, Blk.mk true 0 0 [[(vI
  old.target), (vI old.first), (vI old.breaks), AV.sl (List.map eEnt old.entries), (vB old.ended)]])])) fun (z : Lst × Lst × Bool × Nat) => bif decide (F.check z.fst = (0 :
  Int)) && decide (F.check z.snd.fst = (0 : Int)) && decide (z.snd.snd.snd ≤ List.length z.fst.entries) && true then bif decide (F.rfC z.fst z.snd.fst z.snd.snd.snd = (0 :
  Int)) then bif !F.rfA z.fst z.snd.fst z.snd.snd.fst z.snd.snd.snd then Option.bind (unenc encBrk [AV.agg [(vI z.fst.target), (vI z.fst.first), (vI z.fst.breaks), AV.sl
  (List.map eEnt z.fst.entries), (vB z.fst.ended)], (vI (IntKind.wrap IntKind.i64 ((↑(List.length (List.map eEnt z.fst.entries)) : Int) - (1 : Int))))]) fun (z_1 : Lst ×
  Int) => bif decide (List.length z_1.fst.entries ≤ (100000 : Nat)) && F.lt z_1.snd (↑(List.length z_1.fst.entries) : Int) && F.le (-1 : Int) z_1.snd then bif bif !F.rfA
  z.fst z.snd.fst z.snd.snd.fst z.snd.snd.snd then decide (z.snd.fst.breaks < F.brkAt z_1.fst z_1.snd) else false then some ((vI (8 : Int)), []) else some ((vI (0 : Int)),
  []) else none else bif !F.rfA z.fst z.snd.fst z.snd.snd.fst z.snd.snd.snd then none else some ((vI (0 : Int)), []) else some ((vI (F.rfC z.fst z.snd.fst z.snd.snd.snd)),
  []) else none else bif !decide (now.first < old.first) then none else some ((vI (8 : Int)), []) else bif !decide (now.first < old.first) then bif !decide (now.first <
  old.first) then none else some ((vI (8 : Int)), []) else bif !decide (now.first < old.first) then none else some ((vI (8 : Int)), []) := by kernel_rfl

def encRFl1 (old : Lst) (now : Lst) : List AV := [.agg (eLst old), .agg (eLst now)]

def encRFl (a : Lst × Lst) : List AV := encRFl1 a.1 a.2

theorem encRFl_inj (a a' : Lst × Lst) (h : encRFl a = encRFl a') : a = a' := by
  simp only [encRFl, encRFl1] at h
  try simp [strs_inj, ents_inj, eEnt_iff, eLst_iff, ints_inj, eTrn_iff, itms_inj, eCli_iff] at h
  grind

theorem unRFl (old : Lst) (now : Lst) : unenc encRFl ([AV.agg [(vI old.target), (vI old.first), (vI old.breaks), AV.sl (List.map eEnt old.entries), (vB old.ended)], AV.agg [(vI now.target), (vI now.first), (vI now.breaks),
  AV.sl (List.map eEnt now.entries), (vB now.ended)]]) = some (old, now) := unenc_of encRFl_inj (old, now) rfl

theorem unRFlw (old_target : Int) (old_first : Int) (old_breaks : Int) (old_entries : List Ent) (old_ended : Bool) (now_target : Int) (now_first : Int) (now_breaks : Int) (now_entries : List Ent) (now_ended : Bool) : unenc encRFl ([AV.agg [(vI old_target), (vI old_first), (vI old_breaks), AV.sl (List.map eEnt old_entries), (vB old_ended)], AV.agg [(vI now_target), (vI now_first), (vI now_breaks),
  AV.sl (List.map eEnt now_entries), (vB now_ended)]]) = some ((Lst.mk old_target old_first old_breaks old_entries old_ended), (Lst.mk now_target now_first now_breaks now_entries now_ended)) := unenc_of encRFl_inj ((Lst.mk old_target old_first old_breaks old_entries old_ended), (Lst.mk now_target now_first now_breaks now_entries now_ended)) rfl

def resRFl1 (old : Lst) (now : Lst) : AV × Heap := (vI (F.rfol old now), [])

def preRFl1 (old : Lst) (now : Lst) : Bool := decide (F.check old = 0) && decide (F.check now = 0)

noncomputable def oRFl : Orc := orc 51 true encRFl (fun a => preRFl1 a.1 a.2) fun a => resRFl1 a.1 a.2

theorem okRFl : OrcOK Try.prog noG oRFl := by
  refine mk_ok Try.f51 (keep := false) (by kernel_rfl) (by kernel_rfl) enRFl_ok mixed (one_loop (x0 := loopN Try.f51 0) (by kernel_rfl) (lpo_ok ?_)) (by first | exact fun _ _ => ⟨rfl, rfl⟩ | (intro h; cases h)) ?_
  · rintro ⟨old, now, a, k⟩ hp
    exact lpRFl_ok old now a k hp
  rintro ⟨old, now⟩ hpre hok
  show (runF enRFl false _ (encRFl1 _ _)).val = some (resRFl1 _ _)
  unfold encRFl1 resRFl1
  rw [evRFl]
  simp only [preRFl1, Bool.and_eq_true, decide_eq_true_eq] at hpre
  obtain ⟨c1, c2⟩ := hpre
  obtain ⟨o1, _, _, o2, o3⟩ := F.check_ok c1
  simp only [unSmL, unSmE, unBrk, unSmLw, unSmEw, unBrkw, preSmL1, preSmE1, preBrk1, unstRFl, unstRFl0, prlRFl, outRFl, etaEnt, etaLst, Option.bind_some, List.length_map, unStrs, unInts, unBools, unEnts, unItms, unTrns, cond_true, cond_false, Bool.and_true, Bool.true_and, c1, c2, F.rfol, F.endN_def, Nat.zero_le, decide_true]
  have hw : IntKind.i64.wrap ((old.entries.length : Int) - 1) = (old.entries.length : Int) - 1 := wrap_id (by omega) (by omega)
  have p0 : decide (old.entries.length ≤ 100000) = true := decide_eq_true (by omega)
  have p1 : F.lt ((old.entries.length : Int) - 1) (old.entries.length : Int) = true := decide_eq_true (by omega)
  have p2 : F.le (-1) ((old.entries.length : Int) - 1) = true := decide_eq_true (by omega)
  simp only [hw, p0, p1, p2, Bool.and_self, cond_true]
  cases (old.target != now.target)
  · by_cases hf : now.first < old.first
    · simp only [hf, F.lt, decide_true, Bool.not_true, cond_true, cond_false, Bool.true_or]
      cases old.ended <;> cases F.sameL old now <;> rfl
    · by_cases hg : F.endN now < F.endN old
      · simp only [hf, hg, F.lt, decide_true, decide_false, Bool.not_false, cond_true, cond_false, Bool.or_true]
        cases old.ended <;> cases F.sameL old now <;> rfl
      · by_cases hz : F.rfC old now 0 = 0
        · rcases Bool.eq_false_or_eq_true (F.rfA old now false 0) with ha | ha
          · simp only [hf, hg, hz, ha, F.lt, decide_true, decide_false, Bool.not_true, Bool.not_false, cond_true, cond_false, Bool.or_false, bne_self_eq_false, Bool.false_and]
            cases old.ended <;> cases F.sameL old now <;> rfl
          · by_cases hb : now.breaks < F.brkAt old ((old.entries.length : Int) - 1) <;>
              simp only [hf, hg, hz, ha, hb, F.lt, decide_true, decide_false, Bool.not_true, Bool.not_false, cond_true, cond_false, Bool.or_false, bne_self_eq_false, Bool.true_and] <;>
              cases old.ended <;> cases F.sameL old now <;> rfl
        · have hzb : (F.rfC old now 0 != 0) = true := by simp [hz]
          simp only [hf, hg, hz, hzb, F.lt, decide_false, Bool.not_false, cond_true, cond_false, Bool.or_false]
          cases old.ended <;> cases F.sameL old now <;> rfl
  · rfl

end M
end Go.Proofs.Ytkfhfjcgegimbaa
