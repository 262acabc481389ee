/- What is proved here: what the changes of lists return on plain data, of the program and of the reference (no statement of the seat). -/
import Derived.Test.YtkfhfjcgegimbaaE8
namespace Go.Proofs.Ytkfhfjcgegimbaa
open Go Go.RowKit
set_option linter.unusedVariables false
set_option linter.unusedSimpArgs false

/-- A list with other entries. -/
def F.withE (l : Lst) (es : List Ent) : Lst := ⟨l.target, l.first, l.breaks, es, l.ended⟩

/-- An entry put at the end. -/
def F.add (l : Lst) (e : Ent) : Lst × Int :=
  if F.check l ≠ 0 then (default, F.check l) else if l.ended then (default, 11) else
  if F.check (F.withE l (l.entries ++ [e])) ≠ 0 then (default, F.check (F.withE l (l.entries ++ [e]))) else (F.withE l (l.entries ++ [e]), 0)

/-- How many entries go, what they have of breaks. -/
def F.goneS (keep : Int) (a : Int × Int) (e : Ent) : Option (Int × Int) :=
  if keep ≤ IntKind.i64.wrap (a.1 - e.milli) then some (IntKind.i64.wrap (a.1 - e.milli), if e.brk then IntKind.i64.wrap (a.2 + 1) else a.2) else none

def F.gone (keep left b : Int) (n : Nat) (l : List Ent) : (Int × Int) × Nat := M.scan (F.goneS keep) (left, b) n l

def F.goneL (l : Lst) (keep : Int) : Nat × Int := ((F.gone keep (F.lenF 0 l.entries) l.breaks 0 l.entries).2, (F.gone keep (F.lenF 0 l.entries) l.breaks 0 l.entries).1.2)

def F.slide (l : Lst) (keep : Int) : Lst × Int × Int :=
  if F.check l ≠ 0 then (default, 0, F.check l) else if F.out keep 0 1000000000000000 then (default, 0, 1) else if l.ended then (default, 0, 11) else
  if 999999999999000 < IntKind.i64.wrap (l.first + (F.goneL l keep).1) || 1000000000000000 < (F.goneL l keep).2 then (default, 0, 1) else
  (⟨l.target, IntKind.i64.wrap (l.first + (F.goneL l keep).1), (F.goneL l keep).2, l.entries.drop (F.goneL l keep).1, l.ended⟩, (F.goneL l keep).1, 0)

def F.endL (l : Lst) : Lst × Int := if F.check l ≠ 0 then (default, F.check l) else (⟨l.target, l.first, l.breaks, l.entries, true⟩, 0)

theorem F.ffI_zero {α : Type} {g : α → Int} : ∀ {l : List α}, M.ffI g l = 0 → ∀ y ∈ l, g y = 0
  | y :: l, h, z, hz => by
    simp only [M.ffI] at h
    split at h
    · rename_i h0
      rcases List.mem_cons.1 hz with rfl | hz
      · exact h0
      · exact F.ffI_zero h z hz
    · exact absurd h ‹_›

theorem F.check_ok {l : Lst} (h : F.check l = 0) : l.entries.length ≤ 1000 ∧ (∀ e ∈ l.entries, F.entryFault e l.target = 0) ∧ (1 ≤ l.target ∧ l.target ≤ 3600) ∧ (0 ≤ l.first ∧ l.first ≤ 999999999999000) ∧ (0 ≤ l.breaks ∧ l.breaks ≤ 1000000000000000) := by
  unfold F.check at h
  split at h
  · cases h
  · rename_i h1
    split at h
    · cases h
    · simp only [F.out, Bool.or_eq_true, decide_eq_true_eq] at h1
      exact ⟨by omega, F.ffI_zero h, by omega, by omega, by omega⟩

theorem F.entry_ok {e : Ent} {t : Int} (h : F.entryFault e t = 0) : (1 ≤ e.milli ∧ e.milli ≤ 3600000) ∧ e.extra.length ≤ 20 ∧ (-1 ≤ e.date ∧ e.date ≤ 253402300799999) := by
  unfold F.entryFault at h
  split at h
  · exact absurd h ‹_›
  · split at h
    · cases h
    · rename_i h1
      split at h
      · cases h
      · split at h
        · cases h
        · rename_i h2
          split at h
          · cases h
          · split at h
            · cases h
            · simp only [F.out, Bool.or_eq_true, decide_eq_true_eq] at h1 h2
              omega

theorem F.check_room {l : Lst} (h : F.check l = 0) : (decide (l.entries.length * 88 ≤ 140737488355328) && l.entries.all fun e => decide (e.extra.length * 16 ≤ 140737488355328)) = true := by
  obtain ⟨h1, h2, _⟩ := F.check_ok h
  rw [Bool.and_eq_true, decide_eq_true_eq, List.all_eq_true]
  exact ⟨by omega, fun e he => decide_eq_true (by have := (F.entry_ok (h2 e he)).2.1; omega)⟩

theorem F.slide_eq {l : Lst} {keep : Int} (h0 : F.check l = 0) (h1 : F.out keep 0 1000000000000000 = false) (he : l.ended = false) : F.slide l keep =
    bif decide (999999999999000 < IntKind.i64.wrap (l.first + ((F.gone keep (F.lenF 0 l.entries) l.breaks 0 l.entries).2 : Int))) || decide (1000000000000000 < (F.gone keep (F.lenF 0 l.entries) l.breaks 0 l.entries).1.2) then (default, 0, 1) else
    (⟨l.target, IntKind.i64.wrap (l.first + ((F.gone keep (F.lenF 0 l.entries) l.breaks 0 l.entries).2 : Int)), (F.gone keep (F.lenF 0 l.entries) l.breaks 0 l.entries).1.2, l.entries.drop (F.gone keep (F.lenF 0 l.entries) l.breaks 0 l.entries).2, l.ended⟩, ((F.gone keep (F.lenF 0 l.entries) l.breaks 0 l.entries).2 : Int), 0) := by
  unfold F.slide
  rw [if_neg (by simp [h0]), if_neg (by simp [h1]), if_neg (by simp [he])]
  cases hc : (decide (999999999999000 < IntKind.i64.wrap (l.first + ((F.gone keep (F.lenF 0 l.entries) l.breaks 0 l.entries).2 : Int))) || decide (1000000000000000 < (F.gone keep (F.lenF 0 l.entries) l.breaks 0 l.entries).1.2))
  · exact if_neg (fun h => Bool.noConfusion (hc.symm.trans h))
  · exact if_pos hc

theorem F.goneL_le (l : Lst) (keep : Int) : (F.goneL l keep).1 ≤ l.entries.length := by
  have := (M.scan_le (step := F.goneS keep) (l := l.entries) (a := (F.lenF 0 l.entries, l.breaks)) (k := 0)).2
  simp only [F.goneL, F.gone]
  omega

namespace M


theorem appEnts' (xs : List Ent) (e : Ent) : xs.map eEnt ++ [[vS e.uri, vI e.milli, vB e.brk, vI e.date, vS e.key, vB e.gap, .sl (e.extra.map eStr)]] = (xs ++ [e]).map eEnt := by simp [eEnt]

noncomputable def enAdd : Env := envH ty noG lks [oChk, oCpL, oCpE] [] [] []

theorem enAdd_ok : EnvOK Try.prog enAdd := by
  refine envH_ok lks_ok ty_ok ?_ ?_
  · simp only [List.forall_mem_cons]
    exact ⟨okChk, okCpL, okCpE, by simp⟩
  · simp

theorem bne0 {x : Int} (h : x = 0) : (x != 0) = false := by simp [h]

theorem bne1 {x : Int} (h : ¬ x = 0) : (x != 0) = true := by simp [h]

theorem eLst_def : eLst default = [vI 0, vI 0, vI 0, .sl [], vB false] := rfl

theorem evAdd (l : Lst) (e : Ent) : (runF enAdd false Try.f16 [.agg (eLst l), .agg (eEnt e)]).val =
  Option.bind (unenc encChk [AV.agg [(vI l.target), (vI l.first), (vI l.breaks), AV.sl (List.map eEnt l.entries), (vB l.ended)]]) fun (z : Lst) => bif F.check z != (0 : Int)
  then some (AV.tup [AV.agg [(vI (0 : Int)), (vI (0 : Int)), (vI (0 : Int)), AV.sl [], (vB false)], (vI (F.check z))], []) else bif l.ended then some (AV.tup [AV.agg [(vI (0
  : Int)), (vI (0 : Int)), (vI (0 : Int)), AV.sl [], (vB false)], (vI (11 : Int))], []) else Option.bind (unenc encCpL [AV.agg [(vI l.target), (vI l.first), (vI l.breaks),
  AV.sl (List.map eEnt l.entries), (vB l.ended)]]) fun (z : Lst) => bif decide (List.length z.entries * (88 : Nat) ≤ (140737488355328 : Nat)) && List.all z.entries fun (e :
  Ent) => decide (List.length e.extra * (16 : Nat) ≤ (140737488355328 : Nat)) then Option.bind (unenc encCpE [AV.agg [(vS e.uri), (vI e.milli), (vB e.brk), (vI e.date), (vS
  e.key), (vB e.gap), AV.sl (List.map eStr e.extra)]]) fun (z_1 : Ent) => bif decide (List.length z_1.extra * (16 : Nat) ≤ (140737488355328 : Nat)) then bif Nat.ble
  ((List.length (List.map eEnt z.entries) + (1 : Nat)) * (88 : Nat)) (140737488355328 : Nat) && true then Option.bind (unenc encChk [AV.agg [(vI z.target), (vI z.first), (vI
  z.breaks), AV.sl (List.map eEnt z.entries ++ [[(vS z_1.uri), (vI z_1.milli), (vB z_1.brk), (vI z_1.date), (vS z_1.key), (vB z_1.gap), AV.sl (List.map eStr z_1.extra)]]),
  (vB z.ended)]]) fun (z_2 : Lst) => bif F.check z_2 != (0 : Int) then some (AV.tup [AV.agg [(vI (0 : Int)), (vI (0 : Int)), (vI (0 : Int)), AV.sl [], (vB false)], (vI
  (F.check z_2))], []) else some (AV.tup [AV.agg [(vI z.target), (vI z.first), (vI z.breaks), AV.sl (List.map eEnt z.entries ++ [[(vS z_1.uri), (vI z_1.milli), (vB z_1.brk),
  (vI z_1.date), (vS z_1.key), (vB z_1.gap), AV.sl (List.map eStr z_1.extra)]]), (vB z.ended)], (vI (0 : Int))], []) else none else none else none := by kernel_rfl

def encAdd1 (l : Lst) (e : Ent) : List AV := [.agg (eLst l), .agg (eEnt e)]

def encAdd (a : Lst × Ent) : List AV := encAdd1 a.1 a.2

theorem encAdd_inj (a a' : Lst × Ent) (h : encAdd a = encAdd a') : a = a' := by
  simp only [encAdd, encAdd1] at h
  try simp [strs_inj, ents_inj, eEnt_iff, eLst_iff] at h
  grind

theorem unAdd (l : Lst) (e : Ent) : unenc encAdd ([AV.agg [(vI l.target), (vI l.first), (vI l.breaks), AV.sl (List.map eEnt l.entries), (vB l.ended)], AV.agg [(vS e.uri), (vI e.milli), (vB e.brk), (vI e.date), (vS e.key),
  (vB e.gap), AV.sl (List.map eStr e.extra)]]) = some (l, e) := unenc_of encAdd_inj (l, e) rfl

theorem unAddw (l_target : Int) (l_first : Int) (l_breaks : Int) (l_entries : List Ent) (l_ended : Bool) (e_uri : ByteArray) (e_milli : Int) (e_brk : Bool) (e_date : Int) (e_key : ByteArray) (e_gap : Bool) (e_extra : List ByteArray) : unenc encAdd ([AV.agg [(vI l_target), (vI l_first), (vI l_breaks), AV.sl (List.map eEnt l_entries), (vB l_ended)], AV.agg [(vS e_uri), (vI e_milli), (vB e_brk), (vI e_date), (vS e_key),
  (vB e_gap), AV.sl (List.map eStr e_extra)]]) = some ((Lst.mk l_target l_first l_breaks l_entries l_ended), (Ent.mk e_uri e_milli e_brk e_date e_key e_gap e_extra)) := unenc_of encAdd_inj ((Lst.mk l_target l_first l_breaks l_entries l_ended), (Ent.mk e_uri e_milli e_brk e_date e_key e_gap e_extra)) rfl

def resAdd1 (l : Lst) (e : Ent) : AV × Heap := (.tup [.agg (eLst (F.add l e).1), vI (F.add l e).2], [])

def preAdd1 (l : Lst) (e : Ent) : Bool := decide (e.extra.length * 16 ≤ 140737488355328)

noncomputable def oAdd : Orc := orc 16 false encAdd (fun a => preAdd1 a.1 a.2) fun a => resAdd1 a.1 a.2

theorem okAdd : OrcOK Try.prog noG oAdd := by
  refine mk_ok Try.f16 (keep := false) (by kernel_rfl) (by kernel_rfl) enAdd_ok mixed (no_loops (by kernel_rfl)) (by first | exact fun _ _ => ⟨rfl, rfl⟩ | (intro h; cases h)) ?_
  rintro ⟨l, e⟩ hpre hok
  show (runF enAdd false _ (encAdd1 _ _)).val = some (resAdd1 _ _)
  unfold encAdd1 resAdd1
  rw [evAdd]
  simp only [preAdd1] at hpre
  simp only [unChk, unCpL, unCpE, unChkw, unCpLw, unCpEw, preChk1, preCpL1, preCpE1, etaEnt, etaLst, Option.bind_some, List.length_map, unStrs, unInts, unBools, unEnts, unItms, unTrns, cond_true, cond_false, Bool.and_true, Bool.true_and, hpre, appEnts']
  by_cases h0 : F.check l = 0
  · have hb : Nat.ble ((l.entries.length + 1) * 88) 140737488355328 = true := ble_t (by have := (F.check_ok h0).1; omega)
    simp only [F.check_room h0, hb, bne_self_eq_false, F.add, h0, ne_eq, not_true_eq_false, if_false, cond_true, cond_false]
    cases he : l.ended
    · simp only [cond_false, Bool.false_eq_true, if_false, F.withE, he]
      by_cases h2 : F.check ⟨l.target, l.first, l.breaks, l.entries ++ [e], false⟩ = 0
      · simp only [bne_self_eq_false, h2, not_true_eq_false, if_false, cond_false, eLst]
      · simp only [bne1 h2, h2, not_false_eq_true, if_true, cond_true, eLst_def]
    · rfl
  · simp only [bne1 h0, cond_true, F.add, h0, if_true, ne_eq, not_false_eq_true]
    rfl

noncomputable def enRAdd : Env := envH ty noG lks [oRChk, oWith] [] [] []

theorem enRAdd_ok : EnvOK Try.prog enRAdd := by
  refine envH_ok lks_ok ty_ok ?_ ?_
  · simp only [List.forall_mem_cons]
    exact ⟨okRChk, okWith, by simp⟩
  · simp

theorem evRAdd (l : Lst) (e : Ent) : (runF enRAdd false Try.f17 [.agg (eLst l), .agg (eEnt e)]).val =
  Option.bind (unenc encRChk [AV.agg [(vI l.target), (vI l.first), (vI l.breaks), AV.sl (List.map eEnt l.entries), (vB l.ended)]]) fun (z : Lst) => bif F.check z != (0 :
  Int) then some (AV.tup [AV.agg [(vI (0 : Int)), (vI (0 : Int)), (vI (0 : Int)), AV.sl [], (vB false)], (vI (F.check z))], []) else bif l.ended then some (AV.tup [AV.agg
  [(vI (0 : Int)), (vI (0 : Int)), (vI (0 : Int)), AV.sl [], (vB false)], (vI (11 : Int))], []) else Option.bind (unenc encWith [AV.agg [(vI l.target), (vI l.first), (vI
  l.breaks), AV.sl (List.map eEnt l.entries), (vB l.ended)], AV.sl (List.map eEnt l.entries)]) fun (z : Lst × List Ent) => bif decide (List.length z.snd ≤ (100000 : Nat))
  then bif Nat.ble ((List.length (List.map eEnt z.snd) + (1 : Nat)) * (88 : Nat)) (140737488355328 : Nat) && true then Option.bind (unenc encRChk [AV.agg [(vI z.fst.target),
  (vI z.fst.first), (vI z.fst.breaks), AV.sl (List.map eEnt z.snd ++ [[(vS e.uri), (vI e.milli), (vB e.brk), (vI e.date), (vS e.key), (vB e.gap), AV.sl (List.map eStr
  e.extra)]]), (vB z.fst.ended)]]) fun (z_1 : Lst) => bif F.check z_1 != (0 : Int) then some (AV.tup [AV.agg [(vI (0 : Int)), (vI (0 : Int)), (vI (0 : Int)), AV.sl [], (vB
  false)], (vI (F.check z_1))], []) else some (AV.tup [AV.agg [(vI z.fst.target), (vI z.fst.first), (vI z.fst.breaks), AV.sl (List.map eEnt z.snd ++ [[(vS e.uri), (vI
  e.milli), (vB e.brk), (vI e.date), (vS e.key), (vB e.gap), AV.sl (List.map eStr e.extra)]]), (vB z.fst.ended)], (vI (0 : Int))], []) else none else none := by kernel_rfl

def encRAdd1 (l : Lst) (e : Ent) : List AV := [.agg (eLst l), .agg (eEnt e)]

def encRAdd (a : Lst × Ent) : List AV := encRAdd1 a.1 a.2

theorem encRAdd_inj (a a' : Lst × Ent) (h : encRAdd a = encRAdd a') : a = a' := by
  simp only [encRAdd, encRAdd1] at h
  try simp [strs_inj, ents_inj, eEnt_iff, eLst_iff] at h
  grind

theorem unRAdd (l : Lst) (e : Ent) : unenc encRAdd ([AV.agg [(vI l.target), (vI l.first), (vI l.breaks), AV.sl (List.map eEnt l.entries), (vB l.ended)], AV.agg [(vS e.uri), (vI e.milli), (vB e.brk), (vI e.date), (vS e.key),
  (vB e.gap), AV.sl (List.map eStr e.extra)]]) = some (l, e) := unenc_of encRAdd_inj (l, e) rfl

theorem unRAddw (l_target : Int) (l_first : Int) (l_breaks : Int) (l_entries : List Ent) (l_ended : Bool) (e_uri : ByteArray) (e_milli : Int) (e_brk : Bool) (e_date : Int) (e_key : ByteArray) (e_gap : Bool) (e_extra : List ByteArray) : unenc encRAdd ([AV.agg [(vI l_target), (vI l_first), (vI l_breaks), AV.sl (List.map eEnt l_entries), (vB l_ended)], AV.agg [(vS e_uri), (vI e_milli), (vB e_brk), (vI e_date), (vS e_key),
  (vB e_gap), AV.sl (List.map eStr e_extra)]]) = some ((Lst.mk l_target l_first l_breaks l_entries l_ended), (Ent.mk e_uri e_milli e_brk e_date e_key e_gap e_extra)) := unenc_of encRAdd_inj ((Lst.mk l_target l_first l_breaks l_entries l_ended), (Ent.mk e_uri e_milli e_brk e_date e_key e_gap e_extra)) rfl

def resRAdd1 (l : Lst) (e : Ent) : AV × Heap := (.tup [.agg (eLst (F.add l e).1), vI (F.add l e).2], [])

def preRAdd1 (l : Lst) (e : Ent) : Bool := true

noncomputable def oRAdd : Orc := orc 17 false encRAdd (fun a => preRAdd1 a.1 a.2) fun a => resRAdd1 a.1 a.2

theorem okRAdd : OrcOK Try.prog noG oRAdd := by
  refine mk_ok Try.f17 (keep := false) (by kernel_rfl) (by kernel_rfl) enRAdd_ok mixed (no_loops (by kernel_rfl)) (by first | exact fun _ _ => ⟨rfl, rfl⟩ | (intro h; cases h)) ?_
  rintro ⟨l, e⟩ hpre hok
  show (runF enRAdd false _ (encRAdd1 _ _)).val = some (resRAdd1 _ _)
  unfold encRAdd1 resRAdd1
  rw [evRAdd]
  simp only [unRChk, unWith, unRChkw, unWithw, preRChk1, preWith1, etaEnt, etaLst, Option.bind_some, List.length_map, unStrs, unInts, unBools, unEnts, unItms, unTrns, cond_true, cond_false, Bool.and_true, Bool.true_and, appEnts']
  by_cases h0 : F.check l = 0
  · have hb : Nat.ble ((l.entries.length + 1) * 88) 140737488355328 = true := ble_t (by have := (F.check_ok h0).1; omega)
    have hw : decide (l.entries.length ≤ 100000) = true := decide_eq_true (by have := (F.check_ok h0).1; omega)
    simp only [hw, hb, bne_self_eq_false, F.add, h0, ne_eq, not_true_eq_false, if_false, cond_true, cond_false]
    cases he : l.ended
    · simp only [cond_false, Bool.false_eq_true, if_false, F.withE, he]
      by_cases h2 : F.check ⟨l.target, l.first, l.breaks, l.entries ++ [e], false⟩ = 0
      · simp only [bne_self_eq_false, h2, not_true_eq_false, if_false, cond_false, eLst]
      · simp only [bne1 h2, h2, not_false_eq_true, if_true, cond_true, eLst_def]
    · rfl
  · simp only [bne1 h0, cond_true, F.add, h0, if_true, ne_eq, not_false_eq_true]
    rfl

noncomputable def enEnd : Env := envH ty noG lks [oChk, oCpL] [] [] []

theorem enEnd_ok : EnvOK Try.prog enEnd := by
  refine envH_ok lks_ok ty_ok ?_ ?_
  · simp only [List.forall_mem_cons]
    exact ⟨okChk, okCpL, by simp⟩
  · simp

theorem evEnd (l : Lst) : (runF enEnd false Try.f21 [.agg (eLst l)]).val =
  Option.bind (unenc encChk [AV.agg [(vI l.target), (vI l.first), (vI l.breaks), AV.sl (List.map eEnt l.entries), (vB l.ended)]]) fun (z : Lst) => bif F.check z != (0 : Int)
  then some (AV.tup [AV.agg [(vI (0 : Int)), (vI (0 : Int)), (vI (0 : Int)), AV.sl [], (vB false)], (vI (F.check z))], []) else Option.bind (unenc encCpL [AV.agg [(vI
  l.target), (vI l.first), (vI l.breaks), AV.sl (List.map eEnt l.entries), (vB l.ended)]]) fun (z : Lst) => bif decide (List.length z.entries * (88 : Nat) ≤ (140737488355328
  : Nat)) && List.all z.entries fun (e : Ent) => decide (List.length e.extra * (16 : Nat) ≤ (140737488355328 : Nat)) then some (AV.tup [AV.agg [(vI z.target), (vI z.first),
  (vI z.breaks), AV.sl (List.map eEnt z.entries), (vB true)], (vI (0 : Int))], []) else none := by kernel_rfl

def encEnd1 (l : Lst) : List AV := [.agg (eLst l)]

def encEnd (a : Lst) : List AV := encEnd1 a

theorem encEnd_inj (a a' : Lst) (h : encEnd a = encEnd a') : a = a' := by
  simp only [encEnd, encEnd1] at h
  try simp [strs_inj, ents_inj, eEnt_iff, eLst_iff] at h
  grind

theorem unEnd (l : Lst) : unenc encEnd ([AV.agg [(vI l.target), (vI l.first), (vI l.breaks), AV.sl (List.map eEnt l.entries), (vB l.ended)]]) = some (l) := unenc_of encEnd_inj (l) rfl

theorem unEndw (l_target : Int) (l_first : Int) (l_breaks : Int) (l_entries : List Ent) (l_ended : Bool) : unenc encEnd ([AV.agg [(vI l_target), (vI l_first), (vI l_breaks), AV.sl (List.map eEnt l_entries), (vB l_ended)]]) = some ((Lst.mk l_target l_first l_breaks l_entries l_ended)) := unenc_of encEnd_inj ((Lst.mk l_target l_first l_breaks l_entries l_ended)) rfl

def resEnd1 (l : Lst) : AV × Heap := (.tup [.agg (eLst (F.endL l).1), vI (F.endL l).2], [])

def preEnd1 (l : Lst) : Bool := true

noncomputable def oEnd : Orc := orc 21 false encEnd (fun a => preEnd1 a) fun a => resEnd1 a

theorem okEnd : OrcOK Try.prog noG oEnd := by
  refine mk_ok Try.f21 (keep := false) (by kernel_rfl) (by kernel_rfl) enEnd_ok mixed (no_loops (by kernel_rfl)) (by first | exact fun _ _ => ⟨rfl, rfl⟩ | (intro h; cases h)) ?_
  rintro l hpre hok
  show (runF enEnd false _ (encEnd1 _)).val = some (resEnd1 _)
  unfold encEnd1 resEnd1
  rw [evEnd]
  simp only [unChk, unCpL, unChkw, unCpLw, preChk1, preCpL1, etaEnt, etaLst, Option.bind_some, List.length_map, unStrs, unInts, unBools, unEnts, unItms, unTrns, cond_true, cond_false, Bool.and_true, Bool.true_and]
  by_cases h0 : F.check l = 0
  · simp only [F.check_room h0, bne_self_eq_false, F.endL, h0, ne_eq, not_true_eq_false, if_false, cond_true, cond_false, eLst]
  · simp only [bne1 h0, cond_true, F.endL, h0, if_true, ne_eq, not_false_eq_true]
    rfl

noncomputable def enREnd : Env := envH ty noG lks [oRChk, oWith] [] [] []

theorem enREnd_ok : EnvOK Try.prog enREnd := by
  refine envH_ok lks_ok ty_ok ?_ ?_
  · simp only [List.forall_mem_cons]
    exact ⟨okRChk, okWith, by simp⟩
  · simp

theorem evREnd (l : Lst) : (runF enREnd false Try.f22 [.agg (eLst l)]).val =
  Option.bind (unenc encRChk [AV.agg [(vI l.target), (vI l.first), (vI l.breaks), AV.sl (List.map eEnt l.entries), (vB l.ended)]]) fun (z : Lst) => bif F.check z != (0 :
  Int) then some (AV.tup [AV.agg [(vI (0 : Int)), (vI (0 : Int)), (vI (0 : Int)), AV.sl [], (vB false)], (vI (F.check z))], []) else Option.bind (unenc encWith [AV.agg [(vI
  l.target), (vI l.first), (vI l.breaks), AV.sl (List.map eEnt l.entries), (vB l.ended)], AV.sl (List.map eEnt l.entries)]) fun (z : Lst × List Ent) => bif decide
  (List.length z.snd ≤ (100000 : Nat)) then some (AV.tup [AV.agg [(vI z.fst.target), (vI z.fst.first), (vI z.fst.breaks), AV.sl (List.map eEnt z.snd), (vB true)], (vI (0 :
  Int))], []) else none := by kernel_rfl

def encREnd1 (l : Lst) : List AV := [.agg (eLst l)]

def encREnd (a : Lst) : List AV := encREnd1 a

theorem encREnd_inj (a a' : Lst) (h : encREnd a = encREnd a') : a = a' := by
  simp only [encREnd, encREnd1] at h
  try simp [strs_inj, ents_inj, eEnt_iff, eLst_iff] at h
  grind

theorem unREnd (l : Lst) : unenc encREnd ([AV.agg [(vI l.target), (vI l.first), (vI l.breaks), AV.sl (List.map eEnt l.entries), (vB l.ended)]]) = some (l) := unenc_of encREnd_inj (l) rfl

theorem unREndw (l_target : Int) (l_first : Int) (l_breaks : Int) (l_entries : List Ent) (l_ended : Bool) : unenc encREnd ([AV.agg [(vI l_target), (vI l_first), (vI l_breaks), AV.sl (List.map eEnt l_entries), (vB l_ended)]]) = some ((Lst.mk l_target l_first l_breaks l_entries l_ended)) := unenc_of encREnd_inj ((Lst.mk l_target l_first l_breaks l_entries l_ended)) rfl

def resREnd1 (l : Lst) : AV × Heap := (.tup [.agg (eLst (F.endL l).1), vI (F.endL l).2], [])

def preREnd1 (l : Lst) : Bool := true

noncomputable def oREnd : Orc := orc 22 false encREnd (fun a => preREnd1 a) fun a => resREnd1 a

theorem okREnd : OrcOK Try.prog noG oREnd := by
  refine mk_ok Try.f22 (keep := false) (by kernel_rfl) (by kernel_rfl) enREnd_ok mixed (no_loops (by kernel_rfl)) (by first | exact fun _ _ => ⟨rfl, rfl⟩ | (intro h; cases h)) ?_
  rintro l hpre hok
  show (runF enREnd false _ (encREnd1 _)).val = some (resREnd1 _)
  unfold encREnd1 resREnd1
  rw [evREnd]
  simp only [unRChk, unWith, unRChkw, unWithw, preRChk1, preWith1, etaEnt, etaLst, Option.bind_some, List.length_map, unStrs, unInts, unBools, unEnts, unItms, unTrns, cond_true, cond_false, Bool.and_true, Bool.true_and]
  by_cases h0 : F.check l = 0
  · have hw : decide (l.entries.length ≤ 100000) = true := decide_eq_true (by have := (F.check_ok h0).1; omega)
    simp only [hw, bne_self_eq_false, F.endL, h0, ne_eq, not_true_eq_false, if_false, cond_true, cond_false, eLst]
  · simp only [bne1 h0, cond_true, F.endL, h0, if_true, ne_eq, not_false_eq_true]
    rfl

def stSld (l : Lst) (keep : Int) (left : Int) (b : Int) (k : Nat) : St := ⟨[(10, vI left), (9, vI k), (8, .ptr 8 0 0), (4, .ptr 4 0 0), (2, .ptr 2 0 0), (1, vI keep)], [(27000, ⟨false, 32, 7, l.entries.map eEnt⟩), (8, ⟨true, 0, 0, [[vI l.target, vI l.first, vI b, .own 27000, vB l.ended]]⟩), (4, ⟨true, 0, 0, [[vI 0, vI 0, vI 0, .e0, vB false]]⟩), (2, ⟨true, 0, 0, [eLst l]⟩)]⟩

def stSld1 (a : Lst × Int × Int × Int × Nat) : St := stSld a.1 a.2.1 a.2.2.1 a.2.2.2.1 a.2.2.2.2

theorem stSld_inj (a a' : Lst × Int × Int × Int × Nat) (h : stSld1 a = stSld1 a') : a = a' := by
  simp only [stSld1, stSld] at h
  try simp [strs_inj, ents_inj, eEnt_iff, eLst_iff] at h
  grind

theorem unstSld (l : Lst) (keep : Int) (left : Int) (b : Int) (k : Nat) : unenc stSld1 (St.mk [(10, (vI left)), (9, (vI (↑k : Int))), (8, .ptr 8 0 0), (4, .ptr 4 0 0), (2, .ptr 2 0 0), (1, (vI keep))] [(27000, Blk.mk false 32 7 (List.map eEnt l.entries)), (8,
  Blk.mk true 0 0 [[(vI l.target), (vI l.first), (vI b), .own 27000, (vB l.ended)]]), (4, Blk.mk true 0 0 [[(vI (0 : Int)), (vI (0 : Int)), (vI (0 : Int)), AV.e0, (vB
  false)]]), (2, Blk.mk true 0 0 [[(vI l.target), (vI l.first), (vI l.breaks), AV.sl (List.map eEnt l.entries), (vB l.ended)]])]) = some (l, keep, left, b, k) := unenc_of stSld_inj (l, keep, left, b, k) rfl

theorem unstSld0 (l : Lst) (keep : Int) (left : Int) (b : Int) : unenc stSld1 (St.mk [(10, (vI left)), (9, (vI (0 : Int))), (8, .ptr 8 0 0), (4, .ptr 4 0 0), (2, .ptr 2 0 0), (1, (vI keep))] [(27000, Blk.mk false 32 7 (List.map eEnt l.entries)), (8,
  Blk.mk true 0 0 [[(vI l.target), (vI l.first), (vI b), .own 27000, (vB l.ended)]]), (4, Blk.mk true 0 0 [[(vI (0 : Int)), (vI (0 : Int)), (vI (0 : Int)), AV.e0, (vB
  false)]]), (2, Blk.mk true 0 0 [[(vI l.target), (vI l.first), (vI l.breaks), AV.sl (List.map eEnt l.entries), (vB l.ended)]])]) = some (l, keep, left, b, 0) := unenc_of stSld_inj (l, keep, left, b, 0) rfl

def outSld (l : Lst) (keep : Int) (left : Int) (b : Int) (k : Nat) : T (Ex × St) := .ret (.exit 1, ⟨[(9, vI (F.gone keep left b k (l.entries.drop k)).2), (8, .ptr 8 0 0), (4, .ptr 4 0 0)], [(27000, ⟨false, 32, 7, l.entries.map eEnt⟩), (8, ⟨true, 0, 0, [[vI l.target, vI l.first, vI (F.gone keep left b k (l.entries.drop k)).1.2, .own 27000, vB l.ended]]⟩), (4, ⟨true, 0, 0, [[vI 0, vI 0, vI 0, .e0, vB false]]⟩)]⟩)

noncomputable def prlSld (l : Lst) (keep : Int) (left : Int) (b : Int) (k : Nat) : Bool := decide (l.entries.length ≤ 9223372036854775807) && decide (k ≤ l.entries.length)

noncomputable def lpSld : Nat × (St → T (Ex × St)) := (11, lpo [10, 9, 8, 4, 2, 1] [27000, 8, 4, 2] stSld1 (fun a => prlSld a.1 a.2.1 a.2.2.1 a.2.2.2.1 a.2.2.2.2) fun a => outSld a.1 a.2.1 a.2.2.1 a.2.2.2.1 a.2.2.2.2)

noncomputable def enSld : Env := envH ty noG lks [oChk, oCpL, oOut, oLen] [] [] [lpSld]

theorem enSld_ok : EnvOK Try.prog enSld := by
  refine envH_ok lks_ok ty_ok ?_ ?_
  · simp only [List.forall_mem_cons]
    exact ⟨okChk, okCpL, okOut, okLen, by simp⟩
  · simp

theorem evSldL (l : Lst) (keep : Int) (left : Int) (b : Int) (k : Nat) : ((exec enSld (loopN Try.f19 0) (stSld l keep left b k)).bind (lessX ([10, 9, 8, 4, 2, 1], [27000, 8, 4, 2]) ([9, 8, 4], [27000, 8, 4]) ([], []))).val =
  bif decide ((↑k : Int) < (↑(List.length (List.map eEnt l.entries)) : Int)) then Option.bind (unenc (List.map eEnt) (List.map eEnt l.entries)) fun (z : List Ent) => bif
  decide (k < List.length z) then bif bif decide ((↑k : Int) < (↑(List.length (List.map eEnt l.entries)) : Int)) then decide (keep ≤ IntKind.wrap IntKind.i64 (left -
  (List.getD z k (Ent.mk (ByteArray.mk (Array.mk [])) (0 : Int) false (0 : Int) (ByteArray.mk (Array.mk [])) false [])).milli)) else false then Option.bind (unenc (List.map
  eEnt) (List.map eEnt l.entries)) fun (z : List Ent) => bif decide (k < List.length z) then Option.bind (unenc (List.map eEnt) (List.map eEnt l.entries)) fun (z_1 : List
  Ent) => bif decide (k < List.length z_1) then bif (List.getD z_1 k (Ent.mk (ByteArray.mk (Array.mk [])) (0 : Int) false (0 : Int) (ByteArray.mk (Array.mk [])) false
  [])).brk then some (Ex.normal, St.mk [(10, (vI (IntKind.wrap IntKind.i64 (left - (List.getD z k (Ent.mk (ByteArray.mk (Array.mk [])) (0 : Int) false (0 : Int)
  (ByteArray.mk (Array.mk [])) false [])).milli)))), (9, (vI (IntKind.wrap IntKind.i64 ((↑k : Int) + (1 : Int))))), (8, .ptr 8 0 0), (4, .ptr 4 0 0), (2, .ptr 2 0 0), (1,
  (vI keep))] [(27000, Blk.mk false 32 7 (List.map eEnt l.entries)), (8, Blk.mk true 0 0 [[(vI l.target), (vI l.first), (vI (IntKind.wrap IntKind.i64 (b + (1 : Int)))), .own
  27000, (vB l.ended)]]), (4, Blk.mk true 0 0 [[(vI (0 : Int)), (vI (0 : Int)), (vI (0 : Int)), AV.e0, (vB false)]]), (2, Blk.mk true 0 0 [[(vI l.target), (vI l.first), (vI
  l.breaks), AV.sl (List.map eEnt l.entries), (vB l.ended)]])]) else some (Ex.normal, St.mk [(10, (vI (IntKind.wrap IntKind.i64 (left - (List.getD z k (Ent.mk (ByteArray.mk
  (Array.mk [])) (0 : Int) false (0 : Int) (ByteArray.mk (Array.mk [])) false [])).milli)))), (9, (vI (IntKind.wrap IntKind.i64 ((↑k : Int) + (1 : Int))))), (8, .ptr 8 0 0),
  (4, .ptr 4 0 0), (2, .ptr 2 0 0), (1, (vI keep))] [(27000, Blk.mk false 32 7 (List.map eEnt l.entries)), (8, Blk.mk true 0 0 [[(vI l.target), (vI l.first), (vI b), .own
  27000, (vB l.ended)]]), (4, Blk.mk true 0 0 [[(vI (0 : Int)), (vI (0 : Int)), (vI (0 : Int)), AV.e0, (vB false)]]), (2, Blk.mk true 0 0 [[(vI l.target), (vI l.first), (vI
  l.breaks), AV.sl (List.map eEnt l.entries), (vB l.ended)]])]) else none else none else some (Ex.exit (1 : Nat), St.mk [(9, (vI (↑k : Int))), (8, .ptr 8 0 0), (4, .ptr 4 0
  0)] [(27000, Blk.mk false 32 7 (List.map eEnt l.entries)), (8, Blk.mk true 0 0 [[(vI l.target), (vI l.first), (vI b), .own 27000, (vB l.ended)]]), (4, Blk.mk true 0 0
  [[(vI (0 : Int)), (vI (0 : Int)), (vI (0 : Int)), AV.e0, (vB false)]])]) else none else bif decide ((↑k : Int) < (↑(List.length (List.map eEnt l.entries)) : Int)) then
  none else bif decide ((↑k : Int) < (↑(List.length (List.map eEnt l.entries)) : Int)) then none else bif decide ((↑k : Int) < (↑(List.length (List.map eEnt l.entries)) :
  Int)) then none else bif decide ((↑k : Int) < (↑(List.length (List.map eEnt l.entries)) : Int)) then none else some (Ex.exit (1 : Nat), St.mk [(9, (vI (↑k : Int))), (8,
  .ptr 8 0 0), (4, .ptr 4 0 0)] [(27000, Blk.mk false 32 7 (List.map eEnt l.entries)), (8, Blk.mk true 0 0 [[(vI l.target), (vI l.first), (vI b), .own 27000, (vB
  l.ended)]]), (4, Blk.mk true 0 0 [[(vI (0 : Int)), (vI (0 : Int)), (vI (0 : Int)), AV.e0, (vB false)]])]) := by kernel_rfl

theorem lpSld_ok (l : Lst) (keep : Int) (left : Int) (b : Int) (k : Nat) (hp : prlSld l keep left b k = true) : ∀ ex s', (outSld l keep left b k).val = some (ex, s') → LoopOK enSld (loopN Try.f19 0) (stSld l keep left b k) ex s' := by
  simp only [prlSld, Bool.and_eq_true, decide_eq_true_eq] at hp
  refine loop_scan (xs := l.entries) (st := fun a k => stSld l keep a.1 a.2 k) (step := F.goneS keep) (fin := fun a => (.exit 1, ⟨[(9, vI a.2), (8, .ptr 8 0 0), (4, .ptr 4 0 0)], [(27000, ⟨false, 32, 7, l.entries.map eEnt⟩), (8, ⟨true, 0, 0, [[vI l.target, vI l.first, vI a.1.2, .own 27000, vB l.ended]]⟩), (4, ⟨true, 0, 0, [[vI 0, vI 0, vI 0, .e0, vB false]]⟩)]⟩)) (I := fun _ _ => True) (n := ([10, 9, 8, 4, 2, 1], [27000, 8, 4, 2])) (e := ([9, 8, 4], [27000, 8, 4])) (r := ([], [])) ?_ (fun _ => ⟨by simp, rfl⟩) (fun _ _ => rfl) ?_ (left, b) k hp.2 trivial
  · rintro ⟨a, c⟩ _
    rw [evSldL]; simp
  · rintro ⟨a, c⟩ k y hy _
    have hlt := lt_at hy
    rw [evSldL]
    simp only [unChk, unCpL, unOut, unLen, unChkw, unCpLw, unLenw, preChk1, preCpL1, preOut1, preLen1, unstSld, unstSld0, prlSld, outSld, etaEnt, etaLst, Option.bind_some, List.length_map, unStrs, unInts, unBools, unEnts, unItms, unTrns, cond_true, cond_false, Bool.and_true, Bool.true_and, cast_lt hlt, decide_eq_true hlt, next_at hlt hp.1, getD_at hy, stSld, eEnt, eLst, F.goneS]
    by_cases h1 : keep ≤ IntKind.i64.wrap (a - y.milli) <;> cases h2 : y.brk <;> simp [h1]

theorem evSld (l : Lst) (keep : Int) : (runF enSld false Try.f19 [.agg (eLst l), vI keep]).val =
  Option.bind (unenc encChk [AV.agg [(vI l.target), (vI l.first), (vI l.breaks), AV.sl (List.map eEnt l.entries), (vB l.ended)]]) fun (z : Lst) => bif F.check z != (0 : Int)
  then some (AV.tup [AV.agg [(vI (0 : Int)), (vI (0 : Int)), (vI (0 : Int)), AV.sl [], (vB false)], (vI (0 : Int)), (vI (F.check z))], []) else Option.bind (unenc encOut
  [(vI keep), (vI (0 : Int)), (vI (1000000000000000 : Int))]) fun (z : Int × Int × Int) => bif F.out z.fst z.snd.fst z.snd.snd then some (AV.tup [AV.agg [(vI (0 : Int)), (vI
  (0 : Int)), (vI (0 : Int)), AV.sl [], (vB false)], (vI (0 : Int)), (vI (1 : Int))], []) else bif l.ended then some (AV.tup [AV.agg [(vI (0 : Int)), (vI (0 : Int)), (vI (0
  : Int)), AV.sl [], (vB false)], (vI (0 : Int)), (vI (11 : Int))], []) else Option.bind (unenc encCpL [AV.agg [(vI l.target), (vI l.first), (vI l.breaks), AV.sl (List.map
  eEnt l.entries), (vB l.ended)]]) fun (z : Lst) => bif decide (List.length z.entries * (88 : Nat) ≤ (140737488355328 : Nat)) && List.all z.entries fun (e : Ent) => decide
  (List.length e.extra * (16 : Nat) ≤ (140737488355328 : Nat)) then Option.bind (unenc encLen [AV.agg [(vI l.target), (vI l.first), (vI l.breaks), AV.sl (List.map eEnt
  l.entries), (vB l.ended)]]) fun (z_1 : Lst) => Option.bind (unenc stSld1 (St.mk [(10, (vI (F.lenF (0 : Int) z_1.entries))), (9, (vI (0 : Int))), (8, .ptr 8 0 0), (4, .ptr
  4 0 0), (2, .ptr 2 0 0), (1, (vI keep))] [(27000, Blk.mk false 32 7 (List.map eEnt z.entries)), (8, Blk.mk true 0 0 [[(vI z.target), (vI z.first), (vI z.breaks), .own
  27000, (vB z.ended)]]), (4, Blk.mk true 0 0 [[(vI (0 : Int)), (vI (0 : Int)), (vI (0 : Int)), AV.e0, (vB false)]]), (2, Blk.mk true 0 0 [[(vI l.target), (vI l.first), (vI
  l.breaks), AV.sl (List.map eEnt l.entries), (vB l.ended)]])])) fun (z : Lst × Int × Int × Int × Nat) => bif decide (List.length z.fst.entries ≤ (9223372036854775807 :
  Nat)) && decide (z.snd.snd.snd.snd ≤ List.length z.fst.entries) && true then bif Nat.ble (F.gone z.snd.fst z.snd.snd.fst z.snd.snd.snd.fst z.snd.snd.snd.snd (List.drop
  z.snd.snd.snd.snd z.fst.entries)).snd (List.length (List.map eEnt z.fst.entries)) && Nat.ble (List.length (List.map eEnt z.fst.entries)) (List.length (List.map eEnt
  z.fst.entries)) && List.all (List.map eEnt z.fst.entries) fun (r : Row) => Nat.beq (List.length r) (7 : Nat) then bif bif decide ((999999999999000 : Int) < IntKind.wrap
  IntKind.i64 (z.fst.first + (↑(F.gone z.snd.fst z.snd.snd.fst z.snd.snd.snd.fst z.snd.snd.snd.snd (List.drop z.snd.snd.snd.snd z.fst.entries)).snd : Int))) then true else
  decide ((1000000000000000 : Int) < (F.gone z.snd.fst z.snd.snd.fst z.snd.snd.snd.fst z.snd.snd.snd.snd (List.drop z.snd.snd.snd.snd z.fst.entries)).fst.snd) then some
  (AV.tup [AV.agg [(vI (0 : Int)), (vI (0 : Int)), (vI (0 : Int)), AV.sl [], (vB false)], (vI (0 : Int)), (vI (1 : Int))], []) else some (AV.tup [AV.agg [(vI z.fst.target),
  (vI (IntKind.wrap IntKind.i64 (z.fst.first + (↑(F.gone z.snd.fst z.snd.snd.fst z.snd.snd.snd.fst z.snd.snd.snd.snd (List.drop z.snd.snd.snd.snd z.fst.entries)).snd :
  Int)))), (vI (F.gone z.snd.fst z.snd.snd.fst z.snd.snd.snd.fst z.snd.snd.snd.snd (List.drop z.snd.snd.snd.snd z.fst.entries)).fst.snd), AV.sl (List.drop (F.gone z.snd.fst
  z.snd.snd.fst z.snd.snd.snd.fst z.snd.snd.snd.snd (List.drop z.snd.snd.snd.snd z.fst.entries)).snd (List.map eEnt z.fst.entries)), (vB z.fst.ended)], (vI (↑(F.gone
  z.snd.fst z.snd.snd.fst z.snd.snd.snd.fst z.snd.snd.snd.snd (List.drop z.snd.snd.snd.snd z.fst.entries)).snd : Int)), (vI (0 : Int))], []) else none else none else none := by kernel_rfl

def encSld1 (l : Lst) (keep : Int) : List AV := [.agg (eLst l), vI keep]

def encSld (a : Lst × Int) : List AV := encSld1 a.1 a.2

theorem encSld_inj (a a' : Lst × Int) (h : encSld a = encSld a') : a = a' := by
  simp only [encSld, encSld1] at h
  try simp [strs_inj, ents_inj, eEnt_iff, eLst_iff] at h
  grind

theorem unSld (l : Lst) (keep : Int) : unenc encSld ([AV.agg [(vI l.target), (vI l.first), (vI l.breaks), AV.sl (List.map eEnt l.entries), (vB l.ended)], (vI keep)]) = some (l, keep) := unenc_of encSld_inj (l, keep) rfl

theorem unSldw (l_target : Int) (l_first : Int) (l_breaks : Int) (l_entries : List Ent) (l_ended : Bool) (keep : Int) : unenc encSld ([AV.agg [(vI l_target), (vI l_first), (vI l_breaks), AV.sl (List.map eEnt l_entries), (vB l_ended)], (vI keep)]) = some ((Lst.mk l_target l_first l_breaks l_entries l_ended), keep) := unenc_of encSld_inj ((Lst.mk l_target l_first l_breaks l_entries l_ended), keep) rfl

def resSld1 (l : Lst) (keep : Int) : AV × Heap := (.tup [.agg (eLst (F.slide l keep).1), vI (F.slide l keep).2.1, vI (F.slide l keep).2.2], [])

def preSld1 (l : Lst) (keep : Int) : Bool := true

noncomputable def oSld : Orc := orc 19 false encSld (fun a => preSld1 a.1 a.2) fun a => resSld1 a.1 a.2

theorem okSld : OrcOK Try.prog noG oSld := by
  refine mk_ok Try.f19 (keep := false) (by kernel_rfl) (by kernel_rfl) enSld_ok mixed (one_loop (x0 := loopN Try.f19 0) (by kernel_rfl) (lpo_ok ?_)) (by first | exact fun _ _ => ⟨rfl, rfl⟩ | (intro h; cases h)) ?_
  · rintro ⟨l, keep, left, b, k⟩ hp
    exact lpSld_ok l keep left b k hp
  rintro ⟨l, keep⟩ hpre hok
  show (runF enSld false _ (encSld1 _ _)).val = some (resSld1 _ _)
  unfold encSld1 resSld1
  rw [evSld]
  have hx := lst_len (hok _ (List.mem_cons_self ..))
  simp only [unChk, unCpL, unOut, unLen, unChkw, unCpLw, unLenw, preChk1, preCpL1, preOut1, preLen1, unstSld, unstSld0, prlSld, outSld, etaEnt, etaLst, Option.bind_some, List.length_map, unStrs, unInts, unBools, unEnts, unItms, unTrns, cond_true, cond_false, Bool.and_true, Bool.true_and, hx, List.drop_zero, Nat.zero_le, decide_true, all_ents]
  by_cases h0 : F.check l = 0
  · have hle := F.goneL_le l keep
    simp only [F.goneL] at hle
    cases h1 : F.out keep 0 1000000000000000
    · cases he : l.ended
      · rw [F.slide_eq h0 h1 he]
        simp only [F.check_room h0, bne_self_eq_false, h0, h1, cond_true, cond_false, idx, hle, ble_t, Nat.le_refl, Bool.and_self, F.cond_tl]
        cases hc : (decide (999999999999000 < IntKind.i64.wrap (l.first + ((F.gone keep (F.lenF 0 l.entries) l.breaks 0 l.entries).2 : Int))) || decide (1000000000000000 < (F.gone keep (F.lenF 0 l.entries) l.breaks 0 l.entries).1.2))
        · simp only [cond_false, eLst, List.map_drop, he]
        · simp only [cond_true, eLst_def]
      · simp only [F.slide, h0, h1, he, bne_self_eq_false, cond_true, cond_false, ne_eq, not_true_eq_false, if_false, Bool.false_eq_true, if_true, eLst_def]
    · simp only [F.slide, h0, h1, bne_self_eq_false, cond_true, cond_false, ne_eq, not_true_eq_false, if_false, if_true, eLst_def]
  · simp only [bne1 h0, cond_true, F.slide, h0, if_true, ne_eq, not_false_eq_true, eLst_def]

def stRSld (l : Lst) (keep : Int) (left : Int) (b : Int) (k : Nat) : St := ⟨[(10, .ptr 10 0 0), (9, vI left), (8, vI k), (4, .ptr 4 0 0), (2, .ptr 2 0 0), (1, vI keep)], [(10, ⟨true, 0, 0, [[vI l.target, vI l.first, vI b, .sl (l.entries.map eEnt), vB l.ended]]⟩), (4, ⟨true, 0, 0, [[vI 0, vI 0, vI 0, .e0, vB false]]⟩), (2, ⟨true, 0, 0, [eLst l]⟩)]⟩

def stRSld1 (a : Lst × Int × Int × Int × Nat) : St := stRSld a.1 a.2.1 a.2.2.1 a.2.2.2.1 a.2.2.2.2

theorem stRSld_inj (a a' : Lst × Int × Int × Int × Nat) (h : stRSld1 a = stRSld1 a') : a = a' := by
  simp only [stRSld1, stRSld] at h
  try simp [strs_inj, ents_inj, eEnt_iff, eLst_iff] at h
  grind

theorem unstRSld (l : Lst) (keep : Int) (left : Int) (b : Int) (k : Nat) : unenc stRSld1 (St.mk [(10, .ptr 10 0 0), (9, (vI left)), (8, (vI (↑k : Int))), (4, .ptr 4 0 0), (2, .ptr 2 0 0), (1, (vI keep))] [(10, Blk.mk true 0 0 [[(vI l.target), (vI l.first), (vI
  b), AV.sl (List.map eEnt l.entries), (vB l.ended)]]), (4, Blk.mk true 0 0 [[(vI (0 : Int)), (vI (0 : Int)), (vI (0 : Int)), AV.e0, (vB false)]]), (2, Blk.mk true 0 0 [[(vI
  l.target), (vI l.first), (vI l.breaks), AV.sl (List.map eEnt l.entries), (vB l.ended)]])]) = some (l, keep, left, b, k) := unenc_of stRSld_inj (l, keep, left, b, k) rfl

theorem unstRSld0 (l : Lst) (keep : Int) (left : Int) (b : Int) : unenc stRSld1 (St.mk [(10, .ptr 10 0 0), (9, (vI left)), (8, (vI (0 : Int))), (4, .ptr 4 0 0), (2, .ptr 2 0 0), (1, (vI keep))] [(10, Blk.mk true 0 0 [[(vI l.target), (vI l.first), (vI
  b), AV.sl (List.map eEnt l.entries), (vB l.ended)]]), (4, Blk.mk true 0 0 [[(vI (0 : Int)), (vI (0 : Int)), (vI (0 : Int)), AV.e0, (vB false)]]), (2, Blk.mk true 0 0 [[(vI
  l.target), (vI l.first), (vI l.breaks), AV.sl (List.map eEnt l.entries), (vB l.ended)]])]) = some (l, keep, left, b, 0) := unenc_of stRSld_inj (l, keep, left, b, 0) rfl

def outRSld (l : Lst) (keep : Int) (left : Int) (b : Int) (k : Nat) : T (Ex × St) := .ret (.exit 0, ⟨[(10, .ptr 10 0 0), (8, vI (F.gone keep left b k (l.entries.drop k)).2), (4, .ptr 4 0 0), (2, .ptr 2 0 0)], [(10, ⟨true, 0, 0, [[vI l.target, vI l.first, vI (F.gone keep left b k (l.entries.drop k)).1.2, .sl (l.entries.map eEnt), vB l.ended]]⟩), (4, ⟨true, 0, 0, [[vI 0, vI 0, vI 0, .e0, vB false]]⟩), (2, ⟨true, 0, 0, [eLst l]⟩)]⟩)

noncomputable def prlRSld (l : Lst) (keep : Int) (left : Int) (b : Int) (k : Nat) : Bool := decide (l.entries.length ≤ 9223372036854775807) && decide (k ≤ l.entries.length)

noncomputable def lpRSld : Nat × (St → T (Ex × St)) := (10, lpo [10, 9, 8, 4, 2, 1] [10, 4, 2] stRSld1 (fun a => prlRSld a.1 a.2.1 a.2.2.1 a.2.2.2.1 a.2.2.2.2) fun a => outRSld a.1 a.2.1 a.2.2.1 a.2.2.2.1 a.2.2.2.2)

noncomputable def enRSld : Env := envH ty noG lks [oRChk, oWithin, oRLen, oWith] [] [] [lpRSld]

theorem enRSld_ok : EnvOK Try.prog enRSld := by
  refine envH_ok lks_ok ty_ok ?_ ?_
  · simp only [List.forall_mem_cons]
    exact ⟨okRChk, okWithin, okRLen, okWith, by simp⟩
  · simp

theorem evRSldL (l : Lst) (keep : Int) (left : Int) (b : Int) (k : Nat) : ((exec enRSld (loopN Try.f20 0) (stRSld l keep left b k)).bind (lessX ([10, 9, 8, 4, 2, 1], [10, 4, 2]) ([10, 8, 4, 2], [10, 4, 2]) ([], []))).val =
  bif decide ((↑k : Int) < (↑(List.length (List.map eEnt l.entries)) : Int)) then Option.bind (unenc (List.map eEnt) (List.map eEnt l.entries)) fun (z : List Ent) => bif
  decide (k < List.length z) then bif bif decide ((↑k : Int) < (↑(List.length (List.map eEnt l.entries)) : Int)) then decide (keep ≤ IntKind.wrap IntKind.i64 (left -
  (List.getD z k (Ent.mk (ByteArray.mk (Array.mk [])) (0 : Int) false (0 : Int) (ByteArray.mk (Array.mk [])) false [])).milli)) else false then Option.bind (unenc (List.map
  eEnt) (List.map eEnt l.entries)) fun (z : List Ent) => bif decide (k < List.length z) then Option.bind (unenc (List.map eEnt) (List.map eEnt l.entries)) fun (z_1 : List
  Ent) => bif decide (k < List.length z_1) then bif (List.getD z_1 k (Ent.mk (ByteArray.mk (Array.mk [])) (0 : Int) false (0 : Int) (ByteArray.mk (Array.mk [])) false
  [])).brk then some (Ex.normal, St.mk [(10, .ptr 10 0 0), (9, (vI (IntKind.wrap IntKind.i64 (left - (List.getD z k (Ent.mk (ByteArray.mk (Array.mk [])) (0 : Int) false (0 :
  Int) (ByteArray.mk (Array.mk [])) false [])).milli)))), (8, (vI (IntKind.wrap IntKind.i64 ((↑k : Int) + (1 : Int))))), (4, .ptr 4 0 0), (2, .ptr 2 0 0), (1, (vI keep))]
  [(10, Blk.mk true 0 0 [[(vI l.target), (vI l.first), (vI (IntKind.wrap IntKind.i64 (b + (1 : Int)))), AV.sl (List.map eEnt l.entries), (vB l.ended)]]), (4, Blk.mk true 0 0
  [[(vI (0 : Int)), (vI (0 : Int)), (vI (0 : Int)), AV.e0, (vB false)]]), (2, Blk.mk true 0 0 [[(vI l.target), (vI l.first), (vI l.breaks), AV.sl (List.map eEnt l.entries),
  (vB l.ended)]])]) else some (Ex.normal, St.mk [(10, .ptr 10 0 0), (9, (vI (IntKind.wrap IntKind.i64 (left - (List.getD z k (Ent.mk (ByteArray.mk (Array.mk [])) (0 : Int)
  false (0 : Int) (ByteArray.mk (Array.mk [])) false [])).milli)))), (8, (vI (IntKind.wrap IntKind.i64 ((↑k : Int) + (1 : Int))))), (4, .ptr 4 0 0), (2, .ptr 2 0 0), (1, (vI
  keep))] [(10, Blk.mk true 0 0 [[(vI l.target), (vI l.first), (vI b), AV.sl (List.map eEnt l.entries), (vB l.ended)]]), (4, Blk.mk true 0 0 [[(vI (0 : Int)), (vI (0 :
  Int)), (vI (0 : Int)), AV.e0, (vB false)]]), (2, Blk.mk true 0 0 [[(vI l.target), (vI l.first), (vI l.breaks), AV.sl (List.map eEnt l.entries), (vB l.ended)]])]) else none
  else none else some (Ex.exit (0 : Nat), St.mk [(10, .ptr 10 0 0), (8, (vI (↑k : Int))), (4, .ptr 4 0 0), (2, .ptr 2 0 0)] [(10, Blk.mk true 0 0 [[(vI l.target), (vI
  l.first), (vI b), AV.sl (List.map eEnt l.entries), (vB l.ended)]]), (4, Blk.mk true 0 0 [[(vI (0 : Int)), (vI (0 : Int)), (vI (0 : Int)), AV.e0, (vB false)]]), (2, Blk.mk
  true 0 0 [[(vI l.target), (vI l.first), (vI l.breaks), AV.sl (List.map eEnt l.entries), (vB l.ended)]])]) else none else bif decide ((↑k : Int) < (↑(List.length (List.map
  eEnt l.entries)) : Int)) then none else bif decide ((↑k : Int) < (↑(List.length (List.map eEnt l.entries)) : Int)) then none else bif decide ((↑k : Int) < (↑(List.length
  (List.map eEnt l.entries)) : Int)) then none else bif decide ((↑k : Int) < (↑(List.length (List.map eEnt l.entries)) : Int)) then none else some (Ex.exit (0 : Nat), St.mk
  [(10, .ptr 10 0 0), (8, (vI (↑k : Int))), (4, .ptr 4 0 0), (2, .ptr 2 0 0)] [(10, Blk.mk true 0 0 [[(vI l.target), (vI l.first), (vI b), AV.sl (List.map eEnt l.entries),
  (vB l.ended)]]), (4, Blk.mk true 0 0 [[(vI (0 : Int)), (vI (0 : Int)), (vI (0 : Int)), AV.e0, (vB false)]]), (2, Blk.mk true 0 0 [[(vI l.target), (vI l.first), (vI
  l.breaks), AV.sl (List.map eEnt l.entries), (vB l.ended)]])]) := by kernel_rfl

theorem lpRSld_ok (l : Lst) (keep : Int) (left : Int) (b : Int) (k : Nat) (hp : prlRSld l keep left b k = true) : ∀ ex s', (outRSld l keep left b k).val = some (ex, s') → LoopOK enRSld (loopN Try.f20 0) (stRSld l keep left b k) ex s' := by
  simp only [prlRSld, Bool.and_eq_true, decide_eq_true_eq] at hp
  refine loop_scan (xs := l.entries) (st := fun a k => stRSld l keep a.1 a.2 k) (step := F.goneS keep) (fin := fun a => (.exit 0, ⟨[(10, .ptr 10 0 0), (8, vI a.2), (4, .ptr 4 0 0), (2, .ptr 2 0 0)], [(10, ⟨true, 0, 0, [[vI l.target, vI l.first, vI a.1.2, .sl (l.entries.map eEnt), vB l.ended]]⟩), (4, ⟨true, 0, 0, [[vI 0, vI 0, vI 0, .e0, vB false]]⟩), (2, ⟨true, 0, 0, [eLst l]⟩)]⟩)) (I := fun _ _ => True) (n := ([10, 9, 8, 4, 2, 1], [10, 4, 2])) (e := ([10, 8, 4, 2], [10, 4, 2])) (r := ([], [])) ?_ (fun _ => ⟨by simp, rfl⟩) (fun _ _ => rfl) ?_ (left, b) k hp.2 trivial
  · rintro ⟨a, c⟩ _
    rw [evRSldL]; simp [eLst]
  · rintro ⟨a, c⟩ k y hy _
    have hlt := lt_at hy
    rw [evRSldL]
    simp only [unRChk, unWithin, unRLen, unWith, unRChkw, unRLenw, unWithw, preRChk1, preWithin1, preRLen1, preWith1, unstRSld, unstRSld0, prlRSld, outRSld, etaEnt, etaLst, Option.bind_some, List.length_map, unStrs, unInts, unBools, unEnts, unItms, unTrns, cond_true, cond_false, Bool.and_true, Bool.true_and, cast_lt hlt, decide_eq_true hlt, next_at hlt hp.1, getD_at hy, stRSld, eEnt, eLst, F.goneS]
    by_cases h1 : keep ≤ IntKind.i64.wrap (a - y.milli) <;> cases h2 : y.brk <;> simp [h1]

theorem evRSld (l : Lst) (keep : Int) : (runF enRSld false Try.f20 [.agg (eLst l), vI keep]).val =
  Option.bind (unenc encRChk [AV.agg [(vI l.target), (vI l.first), (vI l.breaks), AV.sl (List.map eEnt l.entries), (vB l.ended)]]) fun (z : Lst) => bif F.check z != (0 :
  Int) then some (AV.tup [AV.agg [(vI (0 : Int)), (vI (0 : Int)), (vI (0 : Int)), AV.sl [], (vB false)], (vI (0 : Int)), (vI (F.check z))], []) else Option.bind (unenc
  encWithin [(vI keep), (vI (0 : Int)), (vI (1000000000000000 : Int))]) fun (z : Int × Int × Int) => bif !F.within z.fst z.snd.fst z.snd.snd then some (AV.tup [AV.agg [(vI
  (0 : Int)), (vI (0 : Int)), (vI (0 : Int)), AV.sl [], (vB false)], (vI (0 : Int)), (vI (1 : Int))], []) else bif l.ended then some (AV.tup [AV.agg [(vI (0 : Int)), (vI (0
  : Int)), (vI (0 : Int)), AV.sl [], (vB false)], (vI (0 : Int)), (vI (11 : Int))], []) else Option.bind (unenc encRLen [AV.agg [(vI l.target), (vI l.first), (vI l.breaks),
  AV.sl (List.map eEnt l.entries), (vB l.ended)]]) fun (z : Lst) => Option.bind (unenc stRSld1 (St.mk [(10, .ptr 10 0 0), (9, (vI (F.lenF (0 : Int) z.entries))), (8, (vI (0
  : Int))), (4, .ptr 4 0 0), (2, .ptr 2 0 0), (1, (vI keep))] [(10, Blk.mk true 0 0 [[(vI l.target), (vI l.first), (vI l.breaks), AV.sl (List.map eEnt l.entries), (vB
  l.ended)]]), (4, Blk.mk true 0 0 [[(vI (0 : Int)), (vI (0 : Int)), (vI (0 : Int)), AV.e0, (vB false)]]), (2, Blk.mk true 0 0 [[(vI l.target), (vI l.first), (vI l.breaks),
  AV.sl (List.map eEnt l.entries), (vB l.ended)]])])) fun (z : Lst × Int × Int × Int × Nat) => bif decide (List.length z.fst.entries ≤ (9223372036854775807 : Nat)) && decide
  (z.snd.snd.snd.snd ≤ List.length z.fst.entries) && true then bif bif decide ((999999999999000 : Int) < IntKind.wrap IntKind.i64 (z.fst.first + (↑(F.gone z.snd.fst
  z.snd.snd.fst z.snd.snd.snd.fst z.snd.snd.snd.snd (List.drop z.snd.snd.snd.snd z.fst.entries)).snd : Int))) then true else decide ((1000000000000000 : Int) < (F.gone
  z.snd.fst z.snd.snd.fst z.snd.snd.snd.fst z.snd.snd.snd.snd (List.drop z.snd.snd.snd.snd z.fst.entries)).fst.snd) then some (AV.tup [AV.agg [(vI (0 : Int)), (vI (0 :
  Int)), (vI (0 : Int)), AV.sl [], (vB false)], (vI (0 : Int)), (vI (1 : Int))], []) else bif Nat.ble (F.gone z.snd.fst z.snd.snd.fst z.snd.snd.snd.fst z.snd.snd.snd.snd
  (List.drop z.snd.snd.snd.snd z.fst.entries)).snd (List.length (List.map eEnt z.fst.entries)) && Nat.ble (List.length (List.map eEnt z.fst.entries)) (List.length (List.map
  eEnt z.fst.entries)) && List.all (List.map eEnt z.fst.entries) fun (r : Row) => Nat.beq (List.length r) (7 : Nat) then Option.bind (unenc encWith [AV.agg [(vI
  z.fst.target), (vI (IntKind.wrap IntKind.i64 (z.fst.first + (↑(F.gone z.snd.fst z.snd.snd.fst z.snd.snd.snd.fst z.snd.snd.snd.snd (List.drop z.snd.snd.snd.snd
  z.fst.entries)).snd : Int)))), (vI (F.gone z.snd.fst z.snd.snd.fst z.snd.snd.snd.fst z.snd.snd.snd.snd (List.drop z.snd.snd.snd.snd z.fst.entries)).fst.snd), AV.sl
  (List.map eEnt z.fst.entries), (vB z.fst.ended)], AV.sl (List.drop (F.gone z.snd.fst z.snd.snd.fst z.snd.snd.snd.fst z.snd.snd.snd.snd (List.drop z.snd.snd.snd.snd
  z.fst.entries)).snd (List.map eEnt z.fst.entries))]) fun (z_1 : Lst × List Ent) => bif decide (List.length z_1.snd ≤ (100000 : Nat)) then some (AV.tup [AV.agg [(vI
  z_1.fst.target), (vI z_1.fst.first), (vI z_1.fst.breaks), AV.sl (List.map eEnt z_1.snd), (vB z_1.fst.ended)], (vI (↑(F.gone z.snd.fst z.snd.snd.fst z.snd.snd.snd.fst
  z.snd.snd.snd.snd (List.drop z.snd.snd.snd.snd z.fst.entries)).snd : Int)), (vI (0 : Int))], []) else none else none else none := by kernel_rfl

def encRSld1 (l : Lst) (keep : Int) : List AV := [.agg (eLst l), vI keep]

def encRSld (a : Lst × Int) : List AV := encRSld1 a.1 a.2

theorem encRSld_inj (a a' : Lst × Int) (h : encRSld a = encRSld a') : a = a' := by
  simp only [encRSld, encRSld1] at h
  try simp [strs_inj, ents_inj, eEnt_iff, eLst_iff] at h
  grind

theorem unRSld (l : Lst) (keep : Int) : unenc encRSld ([AV.agg [(vI l.target), (vI l.first), (vI l.breaks), AV.sl (List.map eEnt l.entries), (vB l.ended)], (vI keep)]) = some (l, keep) := unenc_of encRSld_inj (l, keep) rfl

theorem unRSldw (l_target : Int) (l_first : Int) (l_breaks : Int) (l_entries : List Ent) (l_ended : Bool) (keep : Int) : unenc encRSld ([AV.agg [(vI l_target), (vI l_first), (vI l_breaks), AV.sl (List.map eEnt l_entries), (vB l_ended)], (vI keep)]) = some ((Lst.mk l_target l_first l_breaks l_entries l_ended), keep) := unenc_of encRSld_inj ((Lst.mk l_target l_first l_breaks l_entries l_ended), keep) rfl

def resRSld1 (l : Lst) (keep : Int) : AV × Heap := (.tup [.agg (eLst (F.slide l keep).1), vI (F.slide l keep).2.1, vI (F.slide l keep).2.2], [])

def preRSld1 (l : Lst) (keep : Int) : Bool := true

noncomputable def oRSld : Orc := orc 20 false encRSld (fun a => preRSld1 a.1 a.2) fun a => resRSld1 a.1 a.2

theorem okRSld : OrcOK Try.prog noG oRSld := by
  refine mk_ok Try.f20 (keep := false) (by kernel_rfl) (by kernel_rfl) enRSld_ok mixed (one_loop (x0 := loopN Try.f20 0) (by kernel_rfl) (lpo_ok ?_)) (by first | exact fun _ _ => ⟨rfl, rfl⟩ | (intro h; cases h)) ?_
  · rintro ⟨l, keep, left, b, k⟩ hp
    exact lpRSld_ok l keep left b k hp
  rintro ⟨l, keep⟩ hpre hok
  show (runF enRSld false _ (encRSld1 _ _)).val = some (resRSld1 _ _)
  unfold encRSld1 resRSld1
  rw [evRSld]
  have hx := lst_len (hok _ (List.mem_cons_self ..))
  simp only [unRChk, unWithin, unRLen, unWith, unRChkw, unRLenw, unWithw, preRChk1, preWithin1, preRLen1, preWith1, unstRSld, unstRSld0, prlRSld, outRSld, etaEnt, etaLst, Option.bind_some, List.length_map, unStrs, unInts, unBools, unEnts, unItms, unTrns, cond_true, cond_false, Bool.and_true, Bool.true_and, hx, List.drop_zero, Nat.zero_le, decide_true, all_ents, ← List.map_drop, F.within_eq]
  by_cases h0 : F.check l = 0
  · have hle := F.goneL_le l keep
    simp only [F.goneL] at hle
    have hc := (F.check_ok h0).1
    have hw : decide ((l.entries.drop (F.gone keep (F.lenF 0 l.entries) l.breaks 0 l.entries).2).length ≤ 100000) = true := decide_eq_true (by simp; omega)
    cases h1 : F.out keep 0 1000000000000000
    · cases he : l.ended
      · rw [F.slide_eq h0 h1 he]
        simp only [bne_self_eq_false, h0, h1, cond_true, cond_false, Bool.not_true, Bool.not_false, idx, hle, ble_t, Nat.le_refl, Bool.and_self, F.cond_tl, hw]
        cases hc : (decide (999999999999000 < IntKind.i64.wrap (l.first + ((F.gone keep (F.lenF 0 l.entries) l.breaks 0 l.entries).2 : Int))) || decide (1000000000000000 < (F.gone keep (F.lenF 0 l.entries) l.breaks 0 l.entries).1.2))
        · simp only [cond_false, eLst, he]
        · simp only [cond_true, eLst_def]
      · simp only [F.slide, h0, h1, he, bne_self_eq_false, cond_true, cond_false, Bool.not_true, Bool.not_false, ne_eq, not_true_eq_false, if_false, Bool.false_eq_true, if_true, eLst_def]
    · simp only [F.slide, h0, h1, bne_self_eq_false, cond_true, cond_false, Bool.not_true, Bool.not_false, ne_eq, not_true_eq_false, if_false, if_true, eLst_def]
  · simp only [bne1 h0, cond_true, F.slide, h0, if_true, ne_eq, not_false_eq_true, eLst_def]

end M
end Go.Proofs.Ytkfhfjcgegimbaa
