/- What is proved here: what copies of entries and lists are on plain data, and their lengths (no statement of the seat). -/
import Derived.Test.YtgkjfochkhiojaaDoorE6
namespace Go.Proofs.YtgkjfochkhiojaaDoor
open Go Go.RowKit
set_option linter.unusedVariables false
set_option linter.unusedSimpArgs false

theorem F.fold_app {α : Type} : ∀ (l acc : List α), l.foldl (fun a y => a ++ [y]) acc = acc ++ l
  | [], acc => by simp
  | y :: l, acc => by rw [List.foldl_cons, F.fold_app l]; simp

/-- The sum of lengths, in the machine's numbers. -/
def F.lenF (a : Int) (l : List Ent) : Int := l.foldl (fun a e => IntKind.i64.wrap (a + e.milli)) a

namespace M


theorem all_strs (xs : List ByteArray) : ((xs.map eStr).all fun r => Nat.beq (List.length r) 1) = true := by simp [eStr]

theorem all_ents (xs : List Ent) : ((xs.map eEnt).all fun r => Nat.beq (List.length r) 7) = true := by simp [eEnt]

def encCln1 (xs : List ByteArray) : List AV := [.sl (xs.map eStr)]

def encCln (a : (List ByteArray)) : List AV := encCln1 a

theorem encCln_inj (a a' : (List ByteArray)) (h : encCln a = encCln a') : a = a' := by
  simp only [encCln, encCln1] at h
  try simp [strs_inj, ents_inj, eEnt_iff, eLst_iff] at h
  grind

theorem unCln (xs : List ByteArray) : unenc encCln ([AV.sl (List.map eStr xs)]) = some (xs) := unenc_of encCln_inj (xs) rfl

def resCln1 (xs : List ByteArray) : AV × Heap := (.sl (xs.map eStr), [])

def preCln1 (xs : List ByteArray) : Bool := decide (xs.length * 16 ≤ 140737488355328)

def encCpE1 (e : Ent) : List AV := [.agg (eEnt e)]

def encCpE (a : Ent) : List AV := encCpE1 a

theorem encCpE_inj (a a' : Ent) (h : encCpE a = encCpE a') : a = a' := by
  simp only [encCpE, encCpE1] at h
  try simp [strs_inj, ents_inj, eEnt_iff, eLst_iff] at h
  grind

theorem unCpE (e : Ent) : unenc encCpE ([AV.agg [(vS e.uri), (vI e.milli), (vB e.brk), (vI e.date), (vS e.key), (vB e.gap), AV.sl (List.map eStr e.extra)]]) = some (e) := unenc_of encCpE_inj (e) rfl

theorem unCpEw (e_uri : ByteArray) (e_milli : Int) (e_brk : Bool) (e_date : Int) (e_key : ByteArray) (e_gap : Bool) (e_extra : List ByteArray) : unenc encCpE ([AV.agg [(vS e_uri), (vI e_milli), (vB e_brk), (vI e_date), (vS e_key), (vB e_gap), AV.sl (List.map eStr e_extra)]]) = some ((Ent.mk e_uri e_milli e_brk e_date e_key e_gap e_extra)) := unenc_of encCpE_inj ((Ent.mk e_uri e_milli e_brk e_date e_key e_gap e_extra)) rfl

def resCpE1 (e : Ent) : AV × Heap := (.agg (eEnt e), [])

def preCpE1 (e : Ent) : Bool := decide (e.extra.length * 16 ≤ 140737488355328)

def stLen (es : List Ent) (a : Int) (k : Nat) : St := ⟨[(9, vI k), (8, vI es.length), (7, .sl (es.map eEnt)), (3, vI a)], []⟩

def stLen1 (a : (List Ent) × Int × Nat) : St := stLen a.1 a.2.1 a.2.2

theorem stLen_inj (a a' : (List Ent) × Int × Nat) (h : stLen1 a = stLen1 a') : a = a' := by
  simp only [stLen1, stLen] at h
  try simp [strs_inj, ents_inj, eEnt_iff, eLst_iff] at h
  grind

theorem unstLen (es : List Ent) (a : Int) (k : Nat) : unenc stLen1 (St.mk [(9, (vI (↑k : Int))), (8, (vI (↑(List.length es) : Int))), (7, AV.sl (List.map eEnt es)), (3, (vI a))] []) = some (es, a, k) := unenc_of stLen_inj (es, a, k) rfl

theorem unstLen0 (es : List Ent)  : unenc stLen1 (St.mk [(9, (vI (0 : Int))), (8, (vI (↑(List.length es) : Int))), (7, AV.sl (List.map eEnt es)), (3, (vI (0 : Int)))] []) = some (es, 0, 0) := unenc_of stLen_inj (es, 0, 0) rfl

def outLen (es : List Ent) (a : Int) (k : Nat) : T (Ex × St) := .ret (.exit 0, ⟨[(3, vI (F.lenF a (es.drop k)))], []⟩)

noncomputable def prlLen (es : List Ent) (a : Int) (k : Nat) : Bool := decide (es.length ≤ 9223372036854775807) && decide (k ≤ es.length)

noncomputable def lpLen : Nat × (St → T (Ex × St)) := (3, lpo [9, 8, 7, 3] [] stLen1 (fun a => prlLen a.1 a.2.1 a.2.2) fun a => outLen a.1 a.2.1 a.2.2)

noncomputable def enLen : Env := envH ty noG lks [] [] [] [lpLen]

theorem enLen_ok : EnvOK Tryd.prog enLen := by
  refine envH_ok lks_ok ty_ok ?_ ?_
  · simp
  · simp

theorem evLenL (es : List Ent) (a : Int) (k : Nat) : ((exec enLen (loopN Tryd.f29 0) (stLen es a k)).bind (lessX ([9, 8, 7, 3], []) ([3], []) ([], []))).val =
  bif decide ((↑k : Int) < (↑(List.length es) : Int)) then Option.bind (unenc (List.map eEnt) (List.map eEnt es)) fun (z : List Ent) => bif decide (k < List.length z) then
  some (Ex.normal, St.mk [(9, (vI (IntKind.wrap IntKind.i64 ((↑k : Int) + (1 : Int))))), (8, (vI (↑(List.length es) : Int))), (7, AV.sl (List.map eEnt es)), (3, (vI
  (IntKind.wrap IntKind.i64 (a + (List.getD z k (Ent.mk (ByteArray.mk (Array.mk [])) (0 : Int) false (0 : Int) (ByteArray.mk (Array.mk [])) false [])).milli))))] []) else
  none else some (Ex.exit (0 : Nat), St.mk [(3, (vI a))] []) := by kernel_rfl

theorem lpLen_ok (es : List Ent) (a : Int) (k : Nat) (hp : prlLen es a k = true) : ∀ ex s', (outLen es a k).val = some (ex, s') → LoopOK enLen (loopN Tryd.f29 0) (stLen es a k) ex s' := by
  simp only [prlLen, Bool.and_eq_true, decide_eq_true_eq] at hp
  refine loop_fold (xs := es) (st := stLen es) (f := fun a e => IntKind.i64.wrap (a + e.milli)) (fin := fun a => (.exit 0, ⟨[(3, vI a)], []⟩)) (I := fun _ _ => True) (n := ([9, 8, 7, 3], [])) (e := ([3], [])) (r := ([], [])) ?_ (fun _ => ⟨by simp, rfl⟩) (fun _ _ => rfl) ?_ a k hp.2 trivial
  · intro a _
    rw [evLenL]; simp
  · intro a k y hy _
    have hlt := lt_at hy
    rw [evLenL]
    simp only [unstLen, unstLen0, prlLen, outLen, etaEnt, etaLst, Option.bind_some, List.length_map, unStrs, unInts, unBools, unEnts, unItms, unTrns, cond_true, cond_false, Bool.and_true, Bool.true_and, cast_lt hlt, decide_eq_true hlt, next_at hlt hp.1, getD_at hy, stLen, eEnt]
    simp

theorem lst_len {l : Lst} (h : OkA (.agg (eLst l))) : l.entries.length ≤ 9223372036854775807 := by
  have h := okA_agg h
  simp only [eLst, List.forall_mem_cons] at h
  simpa using (okA_sl h.2.2.2.1).1

theorem evLen (l : Lst) : (runF enLen false Tryd.f29 [.agg (eLst l)]).val =
  Option.bind (unenc stLen1 (St.mk [(9, (vI (0 : Int))), (8, (vI (↑(List.length (List.map eEnt l.entries)) : Int))), (7, AV.sl (List.map eEnt l.entries)), (3, (vI (0 :
  Int)))] [])) fun (z : List Ent × Int × Nat) => bif decide (List.length z.fst ≤ (9223372036854775807 : Nat)) && decide (z.snd.snd ≤ List.length z.fst) && true then some
  ((vI (F.lenF z.snd.fst (List.drop z.snd.snd z.fst))), []) else none := by kernel_rfl

def encLen1 (l : Lst) : List AV := [.agg (eLst l)]

def encLen (a : Lst) : List AV := encLen1 a

theorem encLen_inj (a a' : Lst) (h : encLen a = encLen a') : a = a' := by
  simp only [encLen, encLen1] at h
  try simp [strs_inj, ents_inj, eEnt_iff, eLst_iff] at h
  grind

theorem unLen (l : Lst) : unenc encLen ([AV.agg [(vI l.target), (vI l.first), (vI l.breaks), AV.sl (List.map eEnt l.entries), (vB l.ended)]]) = some (l) := unenc_of encLen_inj (l) rfl

theorem unLenw (l_target : Int) (l_first : Int) (l_breaks : Int) (l_entries : List Ent) (l_ended : Bool) : unenc encLen ([AV.agg [(vI l_target), (vI l_first), (vI l_breaks), AV.sl (List.map eEnt l_entries), (vB l_ended)]]) = some ((Lst.mk l_target l_first l_breaks l_entries l_ended)) := unenc_of encLen_inj ((Lst.mk l_target l_first l_breaks l_entries l_ended)) rfl

def resLen1 (l : Lst) : AV × Heap := (vI (F.lenF 0 l.entries), [])

def preLen1 (l : Lst) : Bool := true

noncomputable def oLen : Orc := orc 29 true encLen (fun a => preLen1 a) fun a => resLen1 a

theorem okLen : OrcOK Tryd.prog noG oLen := by
  refine mk_ok Tryd.f29 (keep := false) (by kernel_rfl) (by kernel_rfl) enLen_ok mixed (one_loop (x0 := loopN Tryd.f29 0) (by kernel_rfl) (lpo_ok ?_)) (by first | exact fun _ _ => ⟨rfl, rfl⟩ | (intro h; cases h)) ?_
  · rintro ⟨es, a, k⟩ hp
    exact lpLen_ok es a k hp
  rintro l hpre hok
  show (runF enLen false _ (encLen1 _)).val = some (resLen1 _)
  unfold encLen1 resLen1
  rw [evLen]
  have hx := lst_len (hok _ (List.mem_cons_self ..))
  simp only [unstLen, unstLen0, prlLen, outLen, etaEnt, etaLst, Option.bind_some, List.length_map, unStrs, unInts, unBools, unEnts, unItms, unTrns, cond_true, cond_false, Bool.and_true, Bool.true_and, hx, List.drop_zero, Nat.zero_le, decide_true]

def stRLen (l : Lst) (a : Int) (k : Nat) : St := ⟨[(4, vI k), (3, vI a), (1, .ptr 1 0 0)], [(1, ⟨true, 0, 0, [eLst l]⟩)]⟩

def stRLen1 (a : Lst × Int × Nat) : St := stRLen a.1 a.2.1 a.2.2

theorem stRLen_inj (a a' : Lst × Int × Nat) (h : stRLen1 a = stRLen1 a') : a = a' := by
  simp only [stRLen1, stRLen] at h
  try simp [strs_inj, ents_inj, eEnt_iff, eLst_iff] at h
  grind

theorem unstRLen (l : Lst) (a : Int) (k : Nat) : unenc stRLen1 (St.mk [(4, (vI (↑k : Int))), (3, (vI a)), (1, .ptr 1 0 0)] [(1, Blk.mk true 0 0 [[(vI l.target), (vI l.first), (vI l.breaks), AV.sl (List.map eEnt l.entries), (vB
  l.ended)]])]) = some (l, a, k) := unenc_of stRLen_inj (l, a, k) rfl

theorem unstRLen0 (l : Lst)  : unenc stRLen1 (St.mk [(4, (vI (0 : Int))), (3, (vI (0 : Int))), (1, .ptr 1 0 0)] [(1, Blk.mk true 0 0 [[(vI l.target), (vI l.first), (vI l.breaks), AV.sl (List.map eEnt l.entries), (vB
  l.ended)]])]) = some (l, 0, 0) := unenc_of stRLen_inj (l, 0, 0) rfl

def outRLen (l : Lst) (a : Int) (k : Nat) : T (Ex × St) := .ret (.exit 0, ⟨[(3, vI (F.lenF a (l.entries.drop k)))], []⟩)

noncomputable def prlRLen (l : Lst) (a : Int) (k : Nat) : Bool := decide (l.entries.length ≤ 9223372036854775807) && decide (k ≤ l.entries.length)

noncomputable def lpRLen : Nat × (St → T (Ex × St)) := (3, lpo [4, 3, 1] [1] stRLen1 (fun a => prlRLen a.1 a.2.1 a.2.2) fun a => outRLen a.1 a.2.1 a.2.2)

noncomputable def enRLen : Env := envH ty noG lks [] [] [] [lpRLen]

theorem enRLen_ok : EnvOK Tryd.prog enRLen := by
  refine envH_ok lks_ok ty_ok ?_ ?_
  · simp
  · simp

def encRLen1 (l : Lst) : List AV := [.agg (eLst l)]

def encRLen (a : Lst) : List AV := encRLen1 a

theorem encRLen_inj (a a' : Lst) (h : encRLen a = encRLen a') : a = a' := by
  simp only [encRLen, encRLen1] at h
  try simp [strs_inj, ents_inj, eEnt_iff, eLst_iff] at h
  grind

theorem unRLen (l : Lst) : unenc encRLen ([AV.agg [(vI l.target), (vI l.first), (vI l.breaks), AV.sl (List.map eEnt l.entries), (vB l.ended)]]) = some (l) := unenc_of encRLen_inj (l) rfl

theorem unRLenw (l_target : Int) (l_first : Int) (l_breaks : Int) (l_entries : List Ent) (l_ended : Bool) : unenc encRLen ([AV.agg [(vI l_target), (vI l_first), (vI l_breaks), AV.sl (List.map eEnt l_entries), (vB l_ended)]]) = some ((Lst.mk l_target l_first l_breaks l_entries l_ended)) := unenc_of encRLen_inj ((Lst.mk l_target l_first l_breaks l_entries l_ended)) rfl

def resRLen1 (l : Lst) : AV × Heap := (vI (F.lenF 0 l.entries), [])

def preRLen1 (l : Lst) : Bool := true

def encWith1 (l : Lst) (es : List Ent) : List AV := [.agg (eLst l), .sl (es.map eEnt)]

def encWith (a : Lst × (List Ent)) : List AV := encWith1 a.1 a.2

theorem encWith_inj (a a' : Lst × (List Ent)) (h : encWith a = encWith a') : a = a' := by
  simp only [encWith, encWith1] at h
  try simp [strs_inj, ents_inj, eEnt_iff, eLst_iff] at h
  grind

theorem unWith (l : Lst) (es : List Ent) : unenc encWith ([AV.agg [(vI l.target), (vI l.first), (vI l.breaks), AV.sl (List.map eEnt l.entries), (vB l.ended)], AV.sl (List.map eEnt es)]) = some (l, es) := unenc_of encWith_inj (l, es) rfl

theorem unWithw (l_target : Int) (l_first : Int) (l_breaks : Int) (l_entries : List Ent) (l_ended : Bool) (es : List Ent) : unenc encWith ([AV.agg [(vI l_target), (vI l_first), (vI l_breaks), AV.sl (List.map eEnt l_entries), (vB l_ended)], AV.sl (List.map eEnt es)]) = some ((Lst.mk l_target l_first l_breaks l_entries l_ended), es) := unenc_of encWith_inj ((Lst.mk l_target l_first l_breaks l_entries l_ended), es) rfl

def resWith1 (l : Lst) (es : List Ent) : AV × Heap := (.agg [vI l.target, vI l.first, vI l.breaks, .own 0, vB l.ended], [(0, ⟨false, 44, 7, es.map eEnt⟩)])

def preWith1 (l : Lst) (es : List Ent) : Bool := decide (es.length ≤ 100000)

def stCpL (l : Lst) (acc : List Ent) (k : Nat) : St := ⟨[(9, vI k), (8, vI l.entries.length), (7, .sl (l.entries.map eEnt)), (3, .own 3), (2, .ptr 2 0 0), (1, .ptr 1 0 0)], [(3, ⟨false, 44, 7, acc.map eEnt⟩), (2, ⟨true, 0, 0, [[vI 0, vI 0, vI 0, .e0, vB false]]⟩), (1, ⟨true, 0, 0, [eLst l]⟩)]⟩

def stCpL1 (a : Lst × (List Ent) × Nat) : St := stCpL a.1 a.2.1 a.2.2

theorem stCpL_inj (a a' : Lst × (List Ent) × Nat) (h : stCpL1 a = stCpL1 a') : a = a' := by
  simp only [stCpL1, stCpL] at h
  try simp [strs_inj, ents_inj, eEnt_iff, eLst_iff] at h
  grind

theorem unstCpL (l : Lst) (acc : List Ent) (k : Nat) : unenc stCpL1 (St.mk [(9, (vI (↑k : Int))), (8, (vI (↑(List.length l.entries) : Int))), (7, AV.sl (List.map eEnt l.entries)), (3, .own 3), (2, .ptr 2 0 0), (1, .ptr 1 0 0)] [(3, Blk.mk
  false 44 7 (List.map eEnt acc)), (2, Blk.mk true 0 0 [[(vI (0 : Int)), (vI (0 : Int)), (vI (0 : Int)), AV.e0, (vB false)]]), (1, Blk.mk true 0 0 [[(vI l.target), (vI
  l.first), (vI l.breaks), AV.sl (List.map eEnt l.entries), (vB l.ended)]])]) = some (l, acc, k) := unenc_of stCpL_inj (l, acc, k) rfl

theorem unstCpL0 (l : Lst)  : unenc stCpL1 (St.mk [(9, (vI (0 : Int))), (8, (vI (↑(List.length l.entries) : Int))), (7, AV.sl (List.map eEnt l.entries)), (3, .own 3), (2, .ptr 2 0 0), (1, .ptr 1 0 0)] [(3, Blk.mk
  false 44 7 []), (2, Blk.mk true 0 0 [[(vI (0 : Int)), (vI (0 : Int)), (vI (0 : Int)), AV.e0, (vB false)]]), (1, Blk.mk true 0 0 [[(vI l.target), (vI l.first), (vI
  l.breaks), AV.sl (List.map eEnt l.entries), (vB l.ended)]])]) = some (l, [], 0) := unenc_of stCpL_inj (l, [], 0) rfl

def outCpL (l : Lst) (acc : List Ent) (k : Nat) : T (Ex × St) := .ret (.exit 0, ⟨[(3, .own 3), (2, .ptr 2 0 0), (1, .ptr 1 0 0)], [(3, ⟨false, 44, 7, (acc ++ l.entries.drop k).map eEnt⟩), (2, ⟨true, 0, 0, [[vI 0, vI 0, vI 0, .e0, vB false]]⟩), (1, ⟨true, 0, 0, [eLst l]⟩)]⟩)

noncomputable def prlCpL (l : Lst) (acc : List Ent) (k : Nat) : Bool := decide (l.entries.length * 88 ≤ 140737488355328) && decide (k ≤ l.entries.length) && decide (acc.length = k) && l.entries.all (fun e => decide (e.extra.length * 16 ≤ 140737488355328))

noncomputable def lpCpL : Nat × (St → T (Ex × St)) := (3, lpo [9, 8, 7, 3, 2, 1] [3, 2, 1] stCpL1 (fun a => prlCpL a.1 a.2.1 a.2.2) fun a => outCpL a.1 a.2.1 a.2.2)

def encCpL1 (l : Lst) : List AV := [.agg (eLst l)]

def encCpL (a : Lst) : List AV := encCpL1 a

theorem encCpL_inj (a a' : Lst) (h : encCpL a = encCpL a') : a = a' := by
  simp only [encCpL, encCpL1] at h
  try simp [strs_inj, ents_inj, eEnt_iff, eLst_iff] at h
  grind

theorem unCpL (l : Lst) : unenc encCpL ([AV.agg [(vI l.target), (vI l.first), (vI l.breaks), AV.sl (List.map eEnt l.entries), (vB l.ended)]]) = some (l) := unenc_of encCpL_inj (l) rfl

theorem unCpLw (l_target : Int) (l_first : Int) (l_breaks : Int) (l_entries : List Ent) (l_ended : Bool) : unenc encCpL ([AV.agg [(vI l_target), (vI l_first), (vI l_breaks), AV.sl (List.map eEnt l_entries), (vB l_ended)]]) = some ((Lst.mk l_target l_first l_breaks l_entries l_ended)) := unenc_of encCpL_inj ((Lst.mk l_target l_first l_breaks l_entries l_ended)) rfl

def resCpL1 (l : Lst) : AV × Heap := (.agg [vI l.target, vI l.first, vI l.breaks, .own 0, vB l.ended], [(0, ⟨false, 44, 7, l.entries.map eEnt⟩)])

def preCpL1 (l : Lst) : Bool := decide (l.entries.length * 88 ≤ 140737488355328) && l.entries.all (fun e => decide (e.extra.length * 16 ≤ 140737488355328))

end M
end Go.Proofs.YtgkjfochkhiojaaDoor
