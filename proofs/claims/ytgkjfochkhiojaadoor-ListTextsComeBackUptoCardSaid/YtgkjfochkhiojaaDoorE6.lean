/- What is proved here: what the checks of entries and lists return on plain data, of the program and of the reference (no statement of the seat). -/
import Derived.Test.YtgkjfochkhiojaaDoorE5
namespace Go.Proofs.YtgkjfochkhiojaaDoor
open Go Go.RowKit
set_option linter.unusedVariables false
set_option linter.unusedSimpArgs false

theorem F.empty_eq (s : ByteArray) : (s.toList == ByteArray.toList (ByteArray.mk (Array.mk []))) = !decide (s.size ≠ 0) := by
  have : s.toList.length = s.size := by simp [ByteArray.toList_eq]
  have e0 : ByteArray.toList (ByteArray.mk (Array.mk [])) = [] := by simp [ByteArray.toList_eq]
  rw [e0]
  by_cases h : s.size = 0
  · have : s.toList = [] := List.eq_nil_of_length_eq_zero (by omega)
    simp [h, this]
  · have : s.toList ≠ [] := fun hh => h (by rw [← this, hh]; rfl)
    simp [h, this]

theorem F.within_eq (n l h : Int) : F.within n l h = !F.out n l h := by
  unfold F.within F.out
  by_cases h1 : l ≤ n <;> by_cases h2 : n ≤ h <;> simp [h1, h2] <;> omega

namespace M

def encIsUri1 (s : ByteArray) : List AV := [vS s]

def encIsUri (a : ByteArray) : List AV := encIsUri1 a

theorem encIsUri_inj (a a' : ByteArray) (h : encIsUri a = encIsUri a') : a = a' := by
  simp only [encIsUri, encIsUri1] at h
  try simp [strs_inj, ents_inj, eEnt_iff, eLst_iff] at h
  grind

theorem unIsUri (s : ByteArray) : unenc encIsUri ([(vS s)]) = some (s) := unenc_of encIsUri_inj (s) rfl

def resIsUri1 (s : ByteArray) : AV × Heap := (vB (decide (F.uriFault s = 0)), [])

def preIsUri1 (s : ByteArray) : Bool := true

def stRchE (e : Ent) (k : Nat) : St := ⟨[(5, vI k), (2, .ptr 2 0 0)], [(2, ⟨true, 0, 0, [eEnt e]⟩)]⟩

def stRchE1 (a : Ent × Nat) : St := stRchE a.1 a.2

theorem stRchE_inj (a a' : Ent × Nat) (h : stRchE1 a = stRchE1 a') : a = a' := by
  simp only [stRchE1, stRchE] at h
  try simp [strs_inj, ents_inj, eEnt_iff, eLst_iff] at h
  grind

theorem unstRchE (e : Ent) (k : Nat) : unenc stRchE1 (St.mk [(5, (vI (↑k : Int))), (2, .ptr 2 0 0)] [(2, Blk.mk true 0 0 [[(vS e.uri), (vI e.milli), (vB e.brk), (vI e.date), (vS e.key), (vB e.gap), AV.sl (List.map eStr
  e.extra)]])]) = some (e, k) := unenc_of stRchE_inj (e, k) rfl

theorem unstRchE0 (e : Ent)  : unenc stRchE1 (St.mk [(5, (vI (0 : Int))), (2, .ptr 2 0 0)] [(2, Blk.mk true 0 0 [[(vS e.uri), (vI e.milli), (vB e.brk), (vI e.date), (vS e.key), (vB e.gap), AV.sl (List.map eStr
  e.extra)]])]) = some (e, 0) := unenc_of stRchE_inj (e, 0) rfl

def outRchE (e : Ent) (k : Nat) : T (Ex × St) := .ifB (decide (F.extrasFault (e.extra.drop k) = 0)) (.ret (.exit 0, ⟨[], []⟩)) (.ret (.ret, ⟨[(4, vI (F.extrasFault (e.extra.drop k)))], []⟩))

noncomputable def prlRchE (e : Ent) (k : Nat) : Bool := decide (e.extra.length ≤ 9223372036854775807) && decide (k ≤ e.extra.length)

noncomputable def lpRchE : Nat × (St → T (Ex × St)) := (14, lpo [5, 2] [2] stRchE1 (fun a => prlRchE a.1 a.2) fun a => outRchE a.1 a.2)

def encRchE1 (e : Ent) (t : Int) : List AV := [.agg (eEnt e), vI t]

def encRchE (a : Ent × Int) : List AV := encRchE1 a.1 a.2

theorem encRchE_inj (a a' : Ent × Int) (h : encRchE a = encRchE a') : a = a' := by
  simp only [encRchE, encRchE1] at h
  try simp [strs_inj, ents_inj, eEnt_iff, eLst_iff] at h
  grind

theorem unRchE (e : Ent) (t : Int) : unenc encRchE ([AV.agg [(vS e.uri), (vI e.milli), (vB e.brk), (vI e.date), (vS e.key), (vB e.gap), AV.sl (List.map eStr e.extra)], (vI t)]) = some (e, t) := unenc_of encRchE_inj (e, t) rfl

theorem unRchEw (e_uri : ByteArray) (e_milli : Int) (e_brk : Bool) (e_date : Int) (e_key : ByteArray) (e_gap : Bool) (e_extra : List ByteArray) (t : Int) : unenc encRchE ([AV.agg [(vS e_uri), (vI e_milli), (vB e_brk), (vI e_date), (vS e_key), (vB e_gap), AV.sl (List.map eStr e_extra)], (vI t)]) = some ((Ent.mk e_uri e_milli e_brk e_date e_key e_gap e_extra), t) := unenc_of encRchE_inj ((Ent.mk e_uri e_milli e_brk e_date e_key e_gap e_extra), t) rfl

def resRchE1 (e : Ent) (t : Int) : AV × Heap := (vI (F.entryFault e t), [])

def preRchE1 (e : Ent) (t : Int) : Bool := true

def stChk (l : Lst) (k : Nat) : St := ⟨[(28, vI k), (27, vI l.entries.length), (26, .sl (l.entries.map eEnt)), (1, .ptr 1 0 0)], [(1, ⟨true, 0, 0, [eLst l]⟩)]⟩

def stChk1 (a : Lst × Nat) : St := stChk a.1 a.2

theorem stChk_inj (a a' : Lst × Nat) (h : stChk1 a = stChk1 a') : a = a' := by
  simp only [stChk1, stChk] at h
  try simp [strs_inj, ents_inj, eEnt_iff, eLst_iff] at h
  grind

theorem unstChk (l : Lst) (k : Nat) : unenc stChk1 (St.mk [(28, (vI (↑k : Int))), (27, (vI (↑(List.length l.entries) : Int))), (26, AV.sl (List.map eEnt l.entries)), (1, .ptr 1 0 0)] [(1, Blk.mk true 0 0 [[(vI l.target),
  (vI l.first), (vI l.breaks), AV.sl (List.map eEnt l.entries), (vB l.ended)]])]) = some (l, k) := unenc_of stChk_inj (l, k) rfl

theorem unstChk0 (l : Lst)  : unenc stChk1 (St.mk [(28, (vI (0 : Int))), (27, (vI (↑(List.length l.entries) : Int))), (26, AV.sl (List.map eEnt l.entries)), (1, .ptr 1 0 0)] [(1, Blk.mk true 0 0 [[(vI l.target), (vI
  l.first), (vI l.breaks), AV.sl (List.map eEnt l.entries), (vB l.ended)]])]) = some (l, 0) := unenc_of stChk_inj (l, 0) rfl

def outChk (l : Lst) (k : Nat) : T (Ex × St) := .ifB (decide (F.entsFault l.target (l.entries.drop k) = 0)) (.ret (.exit 1, ⟨[], []⟩)) (.ret (.ret, ⟨[(2, vI (F.entsFault l.target (l.entries.drop k)))], []⟩))

noncomputable def prlChk (l : Lst) (k : Nat) : Bool := decide (l.entries.length ≤ 9223372036854775807) && decide (k ≤ l.entries.length)

noncomputable def lpChk : Nat × (St → T (Ex × St)) := (6, lpo [28, 27, 26, 1] [1] stChk1 (fun a => prlChk a.1 a.2) fun a => outChk a.1 a.2)

noncomputable def enChk : Env := envH ty noG lks [oOut, oEntF] [] [] [lpChk]

theorem enChk_ok : EnvOK Tryd.prog enChk := by
  refine envH_ok lks_ok ty_ok ?_ ?_
  · simp only [List.forall_mem_cons]
    exact ⟨okOut, okEntF, by simp⟩
  · simp

theorem evChkL (l : Lst) (k : Nat) : ((exec enChk (loopN Tryd.f8 0) (stChk l k)).bind (lessX ([28, 27, 26, 1], [1]) ([], []) ([2], []))).val =
  bif decide ((↑k : Int) < (↑(List.length l.entries) : Int)) then Option.bind (unenc (List.map eEnt) (List.map eEnt l.entries)) fun (z : List Ent) => bif decide (k <
  List.length z) then Option.bind (unenc encEntF [AV.agg [(vS (List.getD z k (Ent.mk (ByteArray.mk (Array.mk [])) (0 : Int) false (0 : Int) (ByteArray.mk (Array.mk []))
  false [])).uri), (vI (List.getD z k (Ent.mk (ByteArray.mk (Array.mk [])) (0 : Int) false (0 : Int) (ByteArray.mk (Array.mk [])) false [])).milli), (vB (List.getD z k
  (Ent.mk (ByteArray.mk (Array.mk [])) (0 : Int) false (0 : Int) (ByteArray.mk (Array.mk [])) false [])).brk), (vI (List.getD z k (Ent.mk (ByteArray.mk (Array.mk [])) (0 :
  Int) false (0 : Int) (ByteArray.mk (Array.mk [])) false [])).date), (vS (List.getD z k (Ent.mk (ByteArray.mk (Array.mk [])) (0 : Int) false (0 : Int) (ByteArray.mk
  (Array.mk [])) false [])).key), (vB (List.getD z k (Ent.mk (ByteArray.mk (Array.mk [])) (0 : Int) false (0 : Int) (ByteArray.mk (Array.mk [])) false [])).gap), AV.sl
  (List.map eStr (List.getD z k (Ent.mk (ByteArray.mk (Array.mk [])) (0 : Int) false (0 : Int) (ByteArray.mk (Array.mk [])) false [])).extra)], (vI l.target)]) fun (z : Ent
  × Int) => bif F.entryFault z.fst z.snd != (0 : Int) then some (Ex.ret, St.mk [(2, (vI (F.entryFault z.fst z.snd)))] []) else some (Ex.normal, St.mk [(28, (vI (IntKind.wrap
  IntKind.i64 ((↑k : Int) + (1 : Int))))), (27, (vI (↑(List.length l.entries) : Int))), (26, AV.sl (List.map eEnt l.entries)), (1, .ptr 1 0 0)] [(1, Blk.mk true 0 0 [[(vI
  l.target), (vI l.first), (vI l.breaks), AV.sl (List.map eEnt l.entries), (vB l.ended)]])]) else none else some (Ex.exit (1 : Nat), St.mk [] []) := by kernel_rfl

theorem lpChk_ok (l : Lst) (k : Nat) (hp : prlChk l k = true) : ∀ ex s', (outChk l k).val = some (ex, s') → LoopOK enChk (loopN Tryd.f8 0) (stChk l k) ex s' := by
  simp only [prlChk, Bool.and_eq_true, decide_eq_true_eq] at hp
  refine loop_code (xs := l.entries) (st := stChk l) (g := fun e => F.entryFault e l.target) (o := fun c => (.ret, ⟨[(2, vI c)], []⟩)) (n := ([28, 27, 26, 1], [1])) (e := ([], [])) (r := ([2], [])) ?_ ⟨by simp, rfl⟩ (fun _ => ⟨by simp, rfl⟩) (fun _ => rfl) ?_ k hp.2
  · rw [evChkL]; simp
  · intro k y hy
    have hlt := lt_at hy
    rw [evChkL]
    simp only [unOut, unEntF, unEntFw, preOut1, preEntF1, unstChk, unstChk0, prlChk, outChk, etaEnt, etaLst, Option.bind_some, List.length_map, unStrs, unInts, unBools, unEnts, unItms, unTrns, cond_true, cond_false, Bool.and_true, Bool.true_and, cast_lt hlt, decide_eq_true hlt, next_at hlt hp.1, getD_at hy, stChk, eEnt, eLst]
    grind

theorem evChk (l : Lst) : (runF enChk false Tryd.f8 [.agg (eLst l)]).val =
  Option.bind (unenc encOut [(vI l.target), (vI (1 : Int)), (vI (3600 : Int))]) fun (z : Int × Int × Int) => bif !F.out z.fst z.snd.fst z.snd.snd then Option.bind (unenc
  encOut [(vI l.first), (vI (0 : Int)), (vI (999999999999000 : Int))]) fun (z_1 : Int × Int × Int) => bif !bif F.out z.fst z.snd.fst z.snd.snd then true else F.out z_1.fst
  z_1.snd.fst z_1.snd.snd then Option.bind (unenc encOut [(vI l.breaks), (vI (0 : Int)), (vI (1000000000000000 : Int))]) fun (z_2 : Int × Int × Int) => bif bif bif F.out
  z.fst z.snd.fst z.snd.snd then true else F.out z_1.fst z_1.snd.fst z_1.snd.snd then true else F.out z_2.fst z_2.snd.fst z_2.snd.snd then some ((vI (1 : Int)), []) else bif
  decide ((1000 : Int) < (↑(List.length (List.map eEnt l.entries)) : Int)) then some ((vI (2 : Int)), []) else Option.bind (unenc stChk1 (St.mk [(28, (vI (0 : Int))), (27,
  (vI (↑(List.length (List.map eEnt l.entries)) : Int))), (26, AV.sl (List.map eEnt l.entries)), (1, .ptr 1 0 0)] [(1, Blk.mk true 0 0 [[(vI l.target), (vI l.first), (vI
  l.breaks), AV.sl (List.map eEnt l.entries), (vB l.ended)]])])) fun (z : Lst × Nat) => bif decide (List.length z.fst.entries ≤ (9223372036854775807 : Nat)) && decide (z.snd
  ≤ List.length z.fst.entries) && true then bif decide (F.entsFault z.fst.target (List.drop z.snd z.fst.entries) = (0 : Int)) then some ((vI (0 : Int)), []) else some ((vI
  (F.entsFault z.fst.target (List.drop z.snd z.fst.entries))), []) else none else some ((vI (1 : Int)), []) else some ((vI (1 : Int)), []) := by kernel_rfl

def encChk1 (l : Lst) : List AV := [.agg (eLst l)]

def encChk (a : Lst) : List AV := encChk1 a

theorem encChk_inj (a a' : Lst) (h : encChk a = encChk a') : a = a' := by
  simp only [encChk, encChk1] at h
  try simp [strs_inj, ents_inj, eEnt_iff, eLst_iff] at h
  grind

theorem unChk (l : Lst) : unenc encChk ([AV.agg [(vI l.target), (vI l.first), (vI l.breaks), AV.sl (List.map eEnt l.entries), (vB l.ended)]]) = some (l) := unenc_of encChk_inj (l) rfl

theorem unChkw (l_target : Int) (l_first : Int) (l_breaks : Int) (l_entries : List Ent) (l_ended : Bool) : unenc encChk ([AV.agg [(vI l_target), (vI l_first), (vI l_breaks), AV.sl (List.map eEnt l_entries), (vB l_ended)]]) = some ((Lst.mk l_target l_first l_breaks l_entries l_ended)) := unenc_of encChk_inj ((Lst.mk l_target l_first l_breaks l_entries l_ended)) rfl

def resChk1 (l : Lst) : AV × Heap := (vI (F.check l), [])

def preChk1 (l : Lst) : Bool := true

noncomputable def oChk : Orc := orc 8 true encChk (fun a => preChk1 a) fun a => resChk1 a

theorem okChk : OrcOK Tryd.prog noG oChk := by
  refine mk_ok Tryd.f8 (keep := false) (by kernel_rfl) (by kernel_rfl) enChk_ok mixed (one_loop (x0 := loopN Tryd.f8 0) (by kernel_rfl) (lpo_ok ?_)) (by first | exact fun _ _ => ⟨rfl, rfl⟩ | (intro h; cases h)) ?_
  · rintro ⟨l, k⟩ hp
    exact lpChk_ok l k hp
  rintro l hpre hok
  show (runF enChk false _ (encChk1 _)).val = some (resChk1 _)
  unfold encChk1 resChk1
  rw [evChk]
  have hx : l.entries.length ≤ 9223372036854775807 := by
    have h := okA_agg (hok _ (List.mem_cons_self ..))
    simp only [eLst, List.forall_mem_cons] at h
    simpa using (okA_sl h.2.2.2.1).1
  simp only [unOut, unEntF, unEntFw, preOut1, preEntF1, unstChk, unstChk0, prlChk, outChk, etaEnt, etaLst, Option.bind_some, List.length_map, unStrs, unInts, unBools, unEnts, unItms, unTrns, cond_true, cond_false, Bool.and_true, Bool.true_and, F.check, hx, List.drop_zero, Nat.zero_le, decide_true]
  simp only [Bool.cond_eq_ite]
  grind

def stRChk (l : Lst) (k : Nat) : St := ⟨[(3, vI k), (1, .ptr 1 0 0)], [(1, ⟨true, 0, 0, [eLst l]⟩)]⟩

def stRChk1 (a : Lst × Nat) : St := stRChk a.1 a.2

theorem stRChk_inj (a a' : Lst × Nat) (h : stRChk1 a = stRChk1 a') : a = a' := by
  simp only [stRChk1, stRChk] at h
  try simp [strs_inj, ents_inj, eEnt_iff, eLst_iff] at h
  grind

theorem unstRChk (l : Lst) (k : Nat) : unenc stRChk1 (St.mk [(3, (vI (↑k : Int))), (1, .ptr 1 0 0)] [(1, Blk.mk true 0 0 [[(vI l.target), (vI l.first), (vI l.breaks), AV.sl (List.map eEnt l.entries), (vB l.ended)]])]) = some (l, k) := unenc_of stRChk_inj (l, k) rfl

theorem unstRChk0 (l : Lst)  : unenc stRChk1 (St.mk [(3, (vI (0 : Int))), (1, .ptr 1 0 0)] [(1, Blk.mk true 0 0 [[(vI l.target), (vI l.first), (vI l.breaks), AV.sl (List.map eEnt l.entries), (vB l.ended)]])]) = some (l, 0) := unenc_of stRChk_inj (l, 0) rfl

def outRChk (l : Lst) (k : Nat) : T (Ex × St) := .ifB (decide (F.entsFault l.target (l.entries.drop k) = 0)) (.ret (.exit 0, ⟨[], []⟩)) (.ret (.ret, ⟨[(2, vI (F.entsFault l.target (l.entries.drop k)))], []⟩))

noncomputable def prlRChk (l : Lst) (k : Nat) : Bool := decide (l.entries.length ≤ 9223372036854775807) && decide (k ≤ l.entries.length)

noncomputable def lpRChk : Nat × (St → T (Ex × St)) := (6, lpo [3, 1] [1] stRChk1 (fun a => prlRChk a.1 a.2) fun a => outRChk a.1 a.2)

def encRChk1 (l : Lst) : List AV := [.agg (eLst l)]

def encRChk (a : Lst) : List AV := encRChk1 a

theorem encRChk_inj (a a' : Lst) (h : encRChk a = encRChk a') : a = a' := by
  simp only [encRChk, encRChk1] at h
  try simp [strs_inj, ents_inj, eEnt_iff, eLst_iff] at h
  grind

theorem unRChk (l : Lst) : unenc encRChk ([AV.agg [(vI l.target), (vI l.first), (vI l.breaks), AV.sl (List.map eEnt l.entries), (vB l.ended)]]) = some (l) := unenc_of encRChk_inj (l) rfl

theorem unRChkw (l_target : Int) (l_first : Int) (l_breaks : Int) (l_entries : List Ent) (l_ended : Bool) : unenc encRChk ([AV.agg [(vI l_target), (vI l_first), (vI l_breaks), AV.sl (List.map eEnt l_entries), (vB l_ended)]]) = some ((Lst.mk l_target l_first l_breaks l_entries l_ended)) := unenc_of encRChk_inj ((Lst.mk l_target l_first l_breaks l_entries l_ended)) rfl

def resRChk1 (l : Lst) : AV × Heap := (vI (F.check l), [])

def preRChk1 (l : Lst) : Bool := true

end M
end Go.Proofs.YtgkjfochkhiojaaDoor
