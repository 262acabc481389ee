/- What is proved here: what the checks of entries and lists return on plain data, of the program and of the reference (no statement of the seat). -/
import Derived.Test.YtgkjfochkhiojaaDoorE3
namespace Go.Proofs.YtgkjfochkhiojaaDoor
open Go Go.RowKit
set_option linter.unusedVariables false
set_option linter.unusedSimpArgs false

def F.extraFault (s : ByteArray) : Int := if !F.hasPrefix s ⟨#[35, 88]⟩ || !F.vis s 32 then 3 else if 300 < s.size then 2 else 0

def F.extrasFault (l : List ByteArray) : Int := M.ffI F.extraFault l

def F.entryFault (e : Ent) (target : Int) : Int :=
  if F.uriFault e.uri ≠ 0 then F.uriFault e.uri else
  if F.out e.milli 1 3600000 then 1 else
  if target < (e.milli + 500) / 1000 then 2 else
  if F.out e.date (-1) 253402300799999 then 1 else
  if !F.seq e.key ⟨#[]⟩ && !F.isName e.key then 5 else
  if 20 < e.extra.length then 2 else F.extrasFault e.extra

def F.entsFault (target : Int) (l : List Ent) : Int := M.ffI (fun e => F.entryFault e target) l

def F.check (l : Lst) : Int :=
  if F.out l.target 1 3600 || F.out l.first 0 999999999999000 || F.out l.breaks 0 1000000000000000 then 1 else
  if 1000 < l.entries.length then 2 else F.entsFault l.target l.entries

namespace M


def stEntF (xs : List ByteArray) (k : Nat) : St := ⟨[(47, vI k), (46, vI xs.length), (45, .sl (xs.map eStr))], []⟩

def stEntF1 (a : (List ByteArray) × Nat) : St := stEntF a.1 a.2

theorem stEntF_inj (a a' : (List ByteArray) × Nat) (h : stEntF1 a = stEntF1 a') : a = a' := by
  simp only [stEntF1, stEntF] at h
  try simp [strs_inj, ents_inj, eEnt_iff, eLst_iff] at h
  grind

theorem unstEntF (xs : List ByteArray) (k : Nat) : unenc stEntF1 (St.mk [(47, (vI (↑k : Int))), (46, (vI (↑(List.length xs) : Int))), (45, AV.sl (List.map eStr xs))] []) = some (xs, k) := unenc_of stEntF_inj (xs, k) rfl

theorem unstEntF0 (xs : List ByteArray)  : unenc stEntF1 (St.mk [(47, (vI (0 : Int))), (46, (vI (↑(List.length xs) : Int))), (45, AV.sl (List.map eStr xs))] []) = some (xs, 0) := unenc_of stEntF_inj (xs, 0) rfl

def outEntF (xs : List ByteArray) (k : Nat) : T (Ex × St) := .ifB (decide (F.extrasFault (xs.drop k) = 0)) (.ret (.exit 1, ⟨[], []⟩)) (.ret (.ret, ⟨[(4, vI (F.extrasFault (xs.drop k)))], []⟩))

noncomputable def prlEntF (xs : List ByteArray) (k : Nat) : Bool := decide (xs.length ≤ 9223372036854775807) && decide (k ≤ xs.length)

noncomputable def lpEntF : Nat × (St → T (Ex × St)) := (15, lpo [47, 46, 45] [] stEntF1 (fun a => prlEntF a.1 a.2) fun a => outEntF a.1 a.2)

noncomputable def enEntF : Env := envH ty noG lks [oUri, oOut, oName, oHasPre, oVis] [] [] [lpEntF]

theorem enEntF_ok : EnvOK Tryd.prog enEntF := by
  refine envH_ok lks_ok ty_ok ?_ ?_
  · simp only [List.forall_mem_cons]
    exact ⟨okUri, okOut, okName, okHasPre, okVis, by simp⟩
  · simp

theorem evEntFL (xs : List ByteArray) (k : Nat) : ((exec enEntF (loopN Tryd.f16 0) (stEntF xs k)).bind (lessX ([47, 46, 45], []) ([], []) ([4], []))).val =
  bif decide ((↑k : Int) < (↑(List.length xs) : Int)) then Option.bind (unenc (List.map eStr) (List.map eStr xs)) fun (z : List ByteArray) => bif decide (k < List.length z)
  then Option.bind (unenc encHasPre [(vS (List.getD z k (ByteArray.mk (Array.mk [])))), (vS (ByteArray.mk (Array.mk [(35 : UInt8), (88 : UInt8)])))]) fun (z_1 : ByteArray ×
  ByteArray) => bif !!F.hasPrefix z_1.fst z_1.snd then Option.bind (unenc encVis [(vS (List.getD z k (ByteArray.mk (Array.mk [])))), (vU (32 : Int))]) fun (z_2 : ByteArray ×
  Int) => bif bif !F.hasPrefix z_1.fst z_1.snd then true else !F.vis z_2.fst z_2.snd then some (Ex.ret, St.mk [(4, (vI (3 : Int)))] []) else bif decide ((300 : Int) <
  (↑(ByteArray.size (List.getD z k (ByteArray.mk (Array.mk [])))) : Int)) then some (Ex.ret, St.mk [(4, (vI (2 : Int)))] []) else some (Ex.normal, St.mk [(47, (vI
  (IntKind.wrap IntKind.i64 ((↑k : Int) + (1 : Int))))), (46, (vI (↑(List.length xs) : Int))), (45, AV.sl (List.map eStr xs))] []) else bif !!F.hasPrefix z_1.fst z_1.snd
  then none else some (Ex.ret, St.mk [(4, (vI (3 : Int)))] []) else none else some (Ex.exit (1 : Nat), St.mk [] []) := by kernel_rfl

theorem evEntF (e : Ent) (t : Int) : (runF enEntF false Tryd.f16 [.agg (eEnt e), vI t]).val =
  Option.bind (unenc encUri [(vS e.uri)]) fun (z : ByteArray) => bif F.uriFault z != (0 : Int) then some ((vI (F.uriFault z)), []) else Option.bind (unenc encOut [(vI
  e.milli), (vI (1 : Int)), (vI (3600000 : Int))]) fun (z : Int × Int × Int) => bif F.out z.fst z.snd.fst z.snd.snd then some ((vI (1 : Int)), []) else bif decide (t <
  IntKind.wrap IntKind.i64 (Int.tdiv (IntKind.wrap IntKind.i64 (e.milli + (500 : Int))) (1000 : Int))) then some ((vI (2 : Int)), []) else Option.bind (unenc encOut [(vI
  e.date), (vI (-1 : Int)), (vI (253402300799999 : Int))]) fun (z : Int × Int × Int) => bif F.out z.fst z.snd.fst z.snd.snd then some ((vI (1 : Int)), []) else bif
  !ByteArray.toList e.key == ByteArray.toList (ByteArray.mk (Array.mk [])) then Option.bind (unenc encName [(vS e.key)]) fun (z : ByteArray) => bif bif !ByteArray.toList
  e.key == ByteArray.toList (ByteArray.mk (Array.mk [])) then !F.isName z else false then some ((vI (5 : Int)), []) else bif decide ((20 : Int) < (↑(List.length (List.map
  eStr e.extra)) : Int)) then some ((vI (2 : Int)), []) else Option.bind (unenc stEntF1 (St.mk [(47, (vI (0 : Int))), (46, (vI (↑(List.length (List.map eStr e.extra)) :
  Int))), (45, AV.sl (List.map eStr e.extra))] [])) fun (z : List ByteArray × Nat) => bif decide (List.length z.fst ≤ (9223372036854775807 : Nat)) && decide (z.snd ≤
  List.length z.fst) && true then bif decide (F.extrasFault (List.drop z.snd z.fst) = (0 : Int)) then some ((vI (0 : Int)), []) else some ((vI (F.extrasFault (List.drop
  z.snd z.fst))), []) else none else bif !ByteArray.toList e.key == ByteArray.toList (ByteArray.mk (Array.mk [])) then none else bif decide ((20 : Int) < (↑(List.length
  (List.map eStr e.extra)) : Int)) then some ((vI (2 : Int)), []) else Option.bind (unenc stEntF1 (St.mk [(47, (vI (0 : Int))), (46, (vI (↑(List.length (List.map eStr
  e.extra)) : Int))), (45, AV.sl (List.map eStr e.extra))] [])) fun (z : List ByteArray × Nat) => bif decide (List.length z.fst ≤ (9223372036854775807 : Nat)) && decide
  (z.snd ≤ List.length z.fst) && true then bif decide (F.extrasFault (List.drop z.snd z.fst) = (0 : Int)) then some ((vI (0 : Int)), []) else some ((vI (F.extrasFault
  (List.drop z.snd z.fst))), []) else none := by kernel_rfl

theorem lpEntF_ok (xs : List ByteArray) (hs : xs.length ≤ 9223372036854775807) (k : Nat) (hk : k ≤ xs.length) : ∀ e s', (outEntF xs k).val = some (e, s') → LoopOK enEntF (loopN Tryd.f16 0) (stEntF xs k) e s' := by
  refine loop_code (xs := xs) (st := stEntF xs) (g := F.extraFault) (o := fun c => (.ret, ⟨[(4, vI c)], []⟩)) (n := ([47, 46, 45], [])) (e := ([], [])) (r := ([4], [])) ?_ ⟨by simp, rfl⟩ (fun _ => ⟨by simp, rfl⟩) (fun _ => rfl) ?_ k hk
  · rw [evEntFL]; simp
  · intro k y hy
    have hlt := lt_at hy
    rw [evEntFL]
    simp only [cast_lt hlt, decide_eq_true hlt, Option.bind_some, next_at hlt hs, unStrs, unHasPre, unVis, getD_at hy, F.extraFault, stEntF]
    grind

def encEntF1 (e : Ent) (t : Int) : List AV := [.agg (eEnt e), vI t]

def encEntF (a : Ent × Int) : List AV := encEntF1 a.1 a.2

theorem encEntF_inj (a a' : Ent × Int) (h : encEntF a = encEntF a') : a = a' := by
  simp only [encEntF, encEntF1] at h
  try simp [strs_inj, ents_inj, eEnt_iff, eLst_iff] at h
  grind

theorem unEntF (e : Ent) (t : Int) : unenc encEntF ([AV.agg [(vS e.uri), (vI e.milli), (vB e.brk), (vI e.date), (vS e.key), (vB e.gap), AV.sl (List.map eStr e.extra)], (vI t)]) = some (e, t) := unenc_of encEntF_inj (e, t) rfl

theorem unEntFw (e_uri : ByteArray) (e_milli : Int) (e_brk : Bool) (e_date : Int) (e_key : ByteArray) (e_gap : Bool) (e_extra : List ByteArray) (t : Int) : unenc encEntF ([AV.agg [(vS e_uri), (vI e_milli), (vB e_brk), (vI e_date), (vS e_key), (vB e_gap), AV.sl (List.map eStr e_extra)], (vI t)]) = some ((Ent.mk e_uri e_milli e_brk e_date e_key e_gap e_extra), t) := unenc_of encEntF_inj ((Ent.mk e_uri e_milli e_brk e_date e_key e_gap e_extra), t) rfl

def resEntF1 (e : Ent) (t : Int) : AV × Heap := (vI (F.entryFault e t), [])

def preEntF1 (e : Ent) (t : Int) : Bool := true

noncomputable def oEntF : Orc := orc 16 true encEntF (fun a => preEntF1 a.1 a.2) fun a => resEntF1 a.1 a.2

theorem ent_bounds {e : Ent} (h : OkA (.agg (eEnt e))) : (-9223372036854775808 ≤ e.milli ∧ e.milli ≤ 9223372036854775807) ∧ e.extra.length ≤ 9223372036854775807 ∧ (-9223372036854775808 ≤ e.date ∧ e.date ≤ 9223372036854775807) ∧ e.uri.size ≤ 9223372036854775807 ∧ e.key.size ≤ 9223372036854775807 := by
  have h := okA_agg h
  simp only [eEnt, List.forall_mem_cons] at h
  obtain ⟨h1, h2, h3, h4, h5, h6, h7, _⟩ := h
  refine ⟨okA_int h2, ?_, okA_int h4, okA_str h1, okA_str h5⟩
  simpa using (okA_sl h7).1

theorem okEntF : OrcOK Tryd.prog noG oEntF := by
  refine mk_ok Tryd.f16 (keep := false) (by kernel_rfl) (by kernel_rfl) enEntF_ok mixed (one_loop (x0 := loopN Tryd.f16 0) (by kernel_rfl) (lpo_ok ?_)) (by first | exact fun _ _ => ⟨rfl, rfl⟩ | (intro h; cases h)) ?_
  · rintro ⟨xs, k⟩ hp
    simp only [prlEntF, Bool.and_eq_true, decide_eq_true_eq] at hp
    exact lpEntF_ok xs hp.1 k hp.2
  · rintro ⟨e, t⟩ _ hok
    obtain ⟨hm, hx, _⟩ := ent_bounds (hok _ (List.mem_cons_self ..))
    show (runF enEntF false _ (encEntF1 _ _)).val = some (resEntF1 _ _)
    unfold encEntF1 resEntF1
    rw [evEntF]
    simp only [unUri, unOut, unName, unstEntF0, Option.bind_some, List.length_map, F.entryFault, F.seq, hx]
    cases h1 : F.out e.milli 1 3600000
    · have : IntKind.i64.wrap (Int.tdiv (IntKind.i64.wrap (e.milli + 500)) 1000) = (e.milli + 500) / 1000 := by
        simp [F.out] at h1
        rw [wrap_id (n := e.milli + 500) (by omega) (by omega), tdiv_nn (by omega), wrap_id (by omega) (by omega)]
      rw [this]
      simp only [Bool.cond_eq_ite]
      grind
    · simp only [Bool.cond_eq_ite]
      grind

end M
end Go.Proofs.YtgkjfochkhiojaaDoor
