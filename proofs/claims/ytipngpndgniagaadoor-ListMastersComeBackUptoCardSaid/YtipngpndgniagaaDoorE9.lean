/- What is proved here: what the changes of lists return on plain data, of the program and of the reference (no statement of the seat). -/
import Derived.Test.YtipngpndgniagaaDoorE8
namespace Go.Proofs.YtipngpndgniagaaDoor
open Go Go.RowKit
set_option linter.unusedVariables false
set_option linter.unusedSimpArgs false

/-- A list with other entries. -/
def F.withE (l : Lst) (es : List Ent) : Lst := ⟨l.target, l.first, l.breaks, es, l.ended⟩

/-- An entry put at the end. -/
def F.add (l : Lst) (e : Ent) : Lst × Int :=
  if F.check l ≠ 0 then (default, F.check l) else if l.ended then (default, 11) else
  if F.check (F.withE l (l.entries ++ [e])) ≠ 0 then (default, F.check (F.withE l (l.entries ++ [e]))) else (F.withE l (l.entries ++ [e]), 0)

/-- How many entries go, what they have of breaks. -/
def F.goneS (keep : Int) (a : Int × Int) (e : Ent) : Option (Int × Int) :=
  if keep ≤ IntKind.i64.wrap (a.1 - e.milli) then some (IntKind.i64.wrap (a.1 - e.milli), if e.brk then IntKind.i64.wrap (a.2 + 1) else a.2) else none

def F.gone (keep left b : Int) (n : Nat) (l : List Ent) : (Int × Int) × Nat := M.scan (F.goneS keep) (left, b) n l

def F.goneL (l : Lst) (keep : Int) : Nat × Int := ((F.gone keep (F.lenF 0 l.entries) l.breaks 0 l.entries).2, (F.gone keep (F.lenF 0 l.entries) l.breaks 0 l.entries).1.2)

def F.slide (l : Lst) (keep : Int) : Lst × Int × Int :=
  if F.check l ≠ 0 then (default, 0, F.check l) else if F.out keep 0 1000000000000000 then (default, 0, 1) else if l.ended then (default, 0, 11) else
  if 999999999999000 < IntKind.i64.wrap (l.first + (F.goneL l keep).1) || 1000000000000000 < (F.goneL l keep).2 then (default, 0, 1) else
  (⟨l.target, IntKind.i64.wrap (l.first + (F.goneL l keep).1), (F.goneL l keep).2, l.entries.drop (F.goneL l keep).1, l.ended⟩, (F.goneL l keep).1, 0)

def F.endL (l : Lst) : Lst × Int := if F.check l ≠ 0 then (default, F.check l) else (⟨l.target, l.first, l.breaks, l.entries, true⟩, 0)

theorem F.ffI_zero {α : Type} {g : α → Int} : ∀ {l : List α}, M.ffI g l = 0 → ∀ y ∈ l, g y = 0
  | y :: l, h, z, hz => by
    simp only [M.ffI] at h
    split at h
    · rename_i h0
      rcases List.mem_cons.1 hz with rfl | hz
      · exact h0
      · exact F.ffI_zero h z hz
    · exact absurd h ‹_›

theorem F.check_ok {l : Lst} (h : F.check l = 0) : l.entries.length ≤ 1000 ∧ (∀ e ∈ l.entries, F.entryFault e l.target = 0) ∧ (1 ≤ l.target ∧ l.target ≤ 3600) ∧ (0 ≤ l.first ∧ l.first ≤ 999999999999000) ∧ (0 ≤ l.breaks ∧ l.breaks ≤ 1000000000000000) := by
  unfold F.check at h
  split at h
  · cases h
  · rename_i h1
    split at h
    · cases h
    · simp only [F.out, Bool.or_eq_true, decide_eq_true_eq] at h1
      exact ⟨by omega, F.ffI_zero h, by omega, by omega, by omega⟩

theorem F.entry_ok {e : Ent} {t : Int} (h : F.entryFault e t = 0) : (1 ≤ e.milli ∧ e.milli ≤ 3600000) ∧ e.extra.length ≤ 20 ∧ (-1 ≤ e.date ∧ e.date ≤ 253402300799999) := by
  unfold F.entryFault at h
  split at h
  · exact absurd h ‹_›
  · split at h
    · cases h
    · rename_i h1
      split at h
      · cases h
      · split at h
        · cases h
        · rename_i h2
          split at h
          · cases h
          · split at h
            · cases h
            · simp only [F.out, Bool.or_eq_true, decide_eq_true_eq] at h1 h2
              omega

theorem F.check_room {l : Lst} (h : F.check l = 0) : (decide (l.entries.length * 88 ≤ 140737488355328) && l.entries.all fun e => decide (e.extra.length * 16 ≤ 140737488355328)) = true := by
  obtain ⟨h1, h2, _⟩ := F.check_ok h
  rw [Bool.and_eq_true, decide_eq_true_eq, List.all_eq_true]
  exact ⟨by omega, fun e he => decide_eq_true (by have := (F.entry_ok (h2 e he)).2.1; omega)⟩

theorem F.slide_eq {l : Lst} {keep : Int} (h0 : F.check l = 0) (h1 : F.out keep 0 1000000000000000 = false) (he : l.ended = false) : F.slide l keep =
    bif decide (999999999999000 < IntKind.i64.wrap (l.first + ((F.gone keep (F.lenF 0 l.entries) l.breaks 0 l.entries).2 : Int))) || decide (1000000000000000 < (F.gone keep (F.lenF 0 l.entries) l.breaks 0 l.entries).1.2) then (default, 0, 1) else
    (⟨l.target, IntKind.i64.wrap (l.first + ((F.gone keep (F.lenF 0 l.entries) l.breaks 0 l.entries).2 : Int)), (F.gone keep (F.lenF 0 l.entries) l.breaks 0 l.entries).1.2, l.entries.drop (F.gone keep (F.lenF 0 l.entries) l.breaks 0 l.entries).2, l.ended⟩, ((F.gone keep (F.lenF 0 l.entries) l.breaks 0 l.entries).2 : Int), 0) := by
  unfold F.slide
  rw [if_neg (by simp [h0]), if_neg (by simp [h1]), if_neg (by simp [he])]
  cases hc : (decide (999999999999000 < IntKind.i64.wrap (l.first + ((F.gone keep (F.lenF 0 l.entries) l.breaks 0 l.entries).2 : Int))) || decide (1000000000000000 < (F.gone keep (F.lenF 0 l.entries) l.breaks 0 l.entries).1.2))
  · exact if_neg (fun h => Bool.noConfusion (hc.symm.trans h))
  · exact if_pos hc

theorem F.goneL_le (l : Lst) (keep : Int) : (F.goneL l keep).1 ≤ l.entries.length := by
  have := (M.scan_le (step := F.goneS keep) (l := l.entries) (a := (F.lenF 0 l.entries, l.breaks)) (k := 0)).2
  simp only [F.goneL, F.gone]
  omega

namespace M


theorem appEnts' (xs : List Ent) (e : Ent) : xs.map eEnt ++ [[vS e.uri, vI e.milli, vB e.brk, vI e.date, vS e.key, vB e.gap, .sl (e.extra.map eStr)]] = (xs ++ [e]).map eEnt := by simp [eEnt]

theorem bne0 {x : Int} (h : x = 0) : (x != 0) = false := by simp [h]

theorem bne1 {x : Int} (h : ¬ x = 0) : (x != 0) = true := by simp [h]

theorem eLst_def : eLst default = [vI 0, vI 0, vI 0, .sl [], vB false] := rfl

def encAdd1 (l : Lst) (e : Ent) : List AV := [.agg (eLst l), .agg (eEnt e)]

def encAdd (a : Lst × Ent) : List AV := encAdd1 a.1 a.2

theorem encAdd_inj (a a' : Lst × Ent) (h : encAdd a = encAdd a') : a = a' := by
  simp only [encAdd, encAdd1] at h
  try simp [strs_inj, ents_inj, eEnt_iff, eLst_iff] at h
  grind

theorem unAdd (l : Lst) (e : Ent) : unenc encAdd ([AV.agg [(vI l.target), (vI l.first), (vI l.breaks), AV.sl (List.map eEnt l.entries), (vB l.ended)], AV.agg [(vS e.uri), (vI e.milli), (vB e.brk), (vI e.date), (vS e.key),
  (vB e.gap), AV.sl (List.map eStr e.extra)]]) = some (l, e) := unenc_of encAdd_inj (l, e) rfl

theorem unAddw (l_target : Int) (l_first : Int) (l_breaks : Int) (l_entries : List Ent) (l_ended : Bool) (e_uri : ByteArray) (e_milli : Int) (e_brk : Bool) (e_date : Int) (e_key : ByteArray) (e_gap : Bool) (e_extra : List ByteArray) : unenc encAdd ([AV.agg [(vI l_target), (vI l_first), (vI l_breaks), AV.sl (List.map eEnt l_entries), (vB l_ended)], AV.agg [(vS e_uri), (vI e_milli), (vB e_brk), (vI e_date), (vS e_key),
  (vB e_gap), AV.sl (List.map eStr e_extra)]]) = some ((Lst.mk l_target l_first l_breaks l_entries l_ended), (Ent.mk e_uri e_milli e_brk e_date e_key e_gap e_extra)) := unenc_of encAdd_inj ((Lst.mk l_target l_first l_breaks l_entries l_ended), (Ent.mk e_uri e_milli e_brk e_date e_key e_gap e_extra)) rfl

def resAdd1 (l : Lst) (e : Ent) : AV × Heap := (.tup [.agg (eLst (F.add l e).1), vI (F.add l e).2], [])

def preAdd1 (l : Lst) (e : Ent) : Bool := decide (e.extra.length * 16 ≤ 140737488355328)

def encRAdd1 (l : Lst) (e : Ent) : List AV := [.agg (eLst l), .agg (eEnt e)]

def encRAdd (a : Lst × Ent) : List AV := encRAdd1 a.1 a.2

theorem encRAdd_inj (a a' : Lst × Ent) (h : encRAdd a = encRAdd a') : a = a' := by
  simp only [encRAdd, encRAdd1] at h
  try simp [strs_inj, ents_inj, eEnt_iff, eLst_iff] at h
  grind

theorem unRAdd (l : Lst) (e : Ent) : unenc encRAdd ([AV.agg [(vI l.target), (vI l.first), (vI l.breaks), AV.sl (List.map eEnt l.entries), (vB l.ended)], AV.agg [(vS e.uri), (vI e.milli), (vB e.brk), (vI e.date), (vS e.key),
  (vB e.gap), AV.sl (List.map eStr e.extra)]]) = some (l, e) := unenc_of encRAdd_inj (l, e) rfl

theorem unRAddw (l_target : Int) (l_first : Int) (l_breaks : Int) (l_entries : List Ent) (l_ended : Bool) (e_uri : ByteArray) (e_milli : Int) (e_brk : Bool) (e_date : Int) (e_key : ByteArray) (e_gap : Bool) (e_extra : List ByteArray) : unenc encRAdd ([AV.agg [(vI l_target), (vI l_first), (vI l_breaks), AV.sl (List.map eEnt l_entries), (vB l_ended)], AV.agg [(vS e_uri), (vI e_milli), (vB e_brk), (vI e_date), (vS e_key),
  (vB e_gap), AV.sl (List.map eStr e_extra)]]) = some ((Lst.mk l_target l_first l_breaks l_entries l_ended), (Ent.mk e_uri e_milli e_brk e_date e_key e_gap e_extra)) := unenc_of encRAdd_inj ((Lst.mk l_target l_first l_breaks l_entries l_ended), (Ent.mk e_uri e_milli e_brk e_date e_key e_gap e_extra)) rfl

def resRAdd1 (l : Lst) (e : Ent) : AV × Heap := (.tup [.agg (eLst (F.add l e).1), vI (F.add l e).2], [])

def preRAdd1 (l : Lst) (e : Ent) : Bool := true

def encEnd1 (l : Lst) : List AV := [.agg (eLst l)]

def encEnd (a : Lst) : List AV := encEnd1 a

theorem encEnd_inj (a a' : Lst) (h : encEnd a = encEnd a') : a = a' := by
  simp only [encEnd, encEnd1] at h
  try simp [strs_inj, ents_inj, eEnt_iff, eLst_iff] at h
  grind

theorem unEnd (l : Lst) : unenc encEnd ([AV.agg [(vI l.target), (vI l.first), (vI l.breaks), AV.sl (List.map eEnt l.entries), (vB l.ended)]]) = some (l) := unenc_of encEnd_inj (l) rfl

theorem unEndw (l_target : Int) (l_first : Int) (l_breaks : Int) (l_entries : List Ent) (l_ended : Bool) : unenc encEnd ([AV.agg [(vI l_target), (vI l_first), (vI l_breaks), AV.sl (List.map eEnt l_entries), (vB l_ended)]]) = some ((Lst.mk l_target l_first l_breaks l_entries l_ended)) := unenc_of encEnd_inj ((Lst.mk l_target l_first l_breaks l_entries l_ended)) rfl

def resEnd1 (l : Lst) : AV × Heap := (.tup [.agg (eLst (F.endL l).1), vI (F.endL l).2], [])

def preEnd1 (l : Lst) : Bool := true

def encREnd1 (l : Lst) : List AV := [.agg (eLst l)]

def encREnd (a : Lst) : List AV := encREnd1 a

theorem encREnd_inj (a a' : Lst) (h : encREnd a = encREnd a') : a = a' := by
  simp only [encREnd, encREnd1] at h
  try simp [strs_inj, ents_inj, eEnt_iff, eLst_iff] at h
  grind

theorem unREnd (l : Lst) : unenc encREnd ([AV.agg [(vI l.target), (vI l.first), (vI l.breaks), AV.sl (List.map eEnt l.entries), (vB l.ended)]]) = some (l) := unenc_of encREnd_inj (l) rfl

theorem unREndw (l_target : Int) (l_first : Int) (l_breaks : Int) (l_entries : List Ent) (l_ended : Bool) : unenc encREnd ([AV.agg [(vI l_target), (vI l_first), (vI l_breaks), AV.sl (List.map eEnt l_entries), (vB l_ended)]]) = some ((Lst.mk l_target l_first l_breaks l_entries l_ended)) := unenc_of encREnd_inj ((Lst.mk l_target l_first l_breaks l_entries l_ended)) rfl

def resREnd1 (l : Lst) : AV × Heap := (.tup [.agg (eLst (F.endL l).1), vI (F.endL l).2], [])

def preREnd1 (l : Lst) : Bool := true

def stSld (l : Lst) (keep : Int) (left : Int) (b : Int) (k : Nat) : St := ⟨[(10, vI left), (9, vI k), (8, .ptr 8 0 0), (4, .ptr 4 0 0), (2, .ptr 2 0 0), (1, vI keep)], [(27000, ⟨false, 67, 7, l.entries.map eEnt⟩), (8, ⟨true, 0, 0, [[vI l.target, vI l.first, vI b, .own 27000, vB l.ended]]⟩), (4, ⟨true, 0, 0, [[vI 0, vI 0, vI 0, .e0, vB false]]⟩), (2, ⟨true, 0, 0, [eLst l]⟩)]⟩

def stSld1 (a : Lst × Int × Int × Int × Nat) : St := stSld a.1 a.2.1 a.2.2.1 a.2.2.2.1 a.2.2.2.2

theorem stSld_inj (a a' : Lst × Int × Int × Int × Nat) (h : stSld1 a = stSld1 a') : a = a' := by
  simp only [stSld1, stSld] at h
  try simp [strs_inj, ents_inj, eEnt_iff, eLst_iff] at h
  grind

theorem unstSld (l : Lst) (keep : Int) (left : Int) (b : Int) (k : Nat) : unenc stSld1 (St.mk [(10, (vI left)), (9, (vI (↑k : Int))), (8, .ptr 8 0 0), (4, .ptr 4 0 0), (2, .ptr 2 0 0), (1, (vI keep))] [(27000, Blk.mk false 67 7 (List.map eEnt l.entries)), (8,
  Blk.mk true 0 0 [[(vI l.target), (vI l.first), (vI b), .own 27000, (vB l.ended)]]), (4, Blk.mk true 0 0 [[(vI (0 : Int)), (vI (0 : Int)), (vI (0 : Int)), AV.e0, (vB
  false)]]), (2, Blk.mk true 0 0 [[(vI l.target), (vI l.first), (vI l.breaks), AV.sl (List.map eEnt l.entries), (vB l.ended)]])]) = some (l, keep, left, b, k) := unenc_of stSld_inj (l, keep, left, b, k) rfl

theorem unstSld0 (l : Lst) (keep : Int) (left : Int) (b : Int)  : unenc stSld1 (St.mk [(10, (vI left)), (9, (vI (0 : Int))), (8, .ptr 8 0 0), (4, .ptr 4 0 0), (2, .ptr 2 0 0), (1, (vI keep))] [(27000, Blk.mk false 67 7 (List.map eEnt l.entries)), (8,
  Blk.mk true 0 0 [[(vI l.target), (vI l.first), (vI b), .own 27000, (vB l.ended)]]), (4, Blk.mk true 0 0 [[(vI (0 : Int)), (vI (0 : Int)), (vI (0 : Int)), AV.e0, (vB
  false)]]), (2, Blk.mk true 0 0 [[(vI l.target), (vI l.first), (vI l.breaks), AV.sl (List.map eEnt l.entries), (vB l.ended)]])]) = some (l, keep, left, b, 0) := unenc_of stSld_inj (l, keep, left, b, 0) rfl

def outSld (l : Lst) (keep : Int) (left : Int) (b : Int) (k : Nat) : T (Ex × St) := .ret (.exit 1, ⟨[(9, vI (F.gone keep left b k (l.entries.drop k)).2), (8, .ptr 8 0 0), (4, .ptr 4 0 0)], [(27000, ⟨false, 67, 7, l.entries.map eEnt⟩), (8, ⟨true, 0, 0, [[vI l.target, vI l.first, vI (F.gone keep left b k (l.entries.drop k)).1.2, .own 27000, vB l.ended]]⟩), (4, ⟨true, 0, 0, [[vI 0, vI 0, vI 0, .e0, vB false]]⟩)]⟩)

noncomputable def prlSld (l : Lst) (keep : Int) (left : Int) (b : Int) (k : Nat) : Bool := decide (l.entries.length ≤ 9223372036854775807) && decide (k ≤ l.entries.length)

noncomputable def lpSld : Nat × (St → T (Ex × St)) := (11, lpo [10, 9, 8, 4, 2, 1] [27000, 8, 4, 2] stSld1 (fun a => prlSld a.1 a.2.1 a.2.2.1 a.2.2.2.1 a.2.2.2.2) fun a => outSld a.1 a.2.1 a.2.2.1 a.2.2.2.1 a.2.2.2.2)

def encSld1 (l : Lst) (keep : Int) : List AV := [.agg (eLst l), vI keep]

def encSld (a : Lst × Int) : List AV := encSld1 a.1 a.2

theorem encSld_inj (a a' : Lst × Int) (h : encSld a = encSld a') : a = a' := by
  simp only [encSld, encSld1] at h
  try simp [strs_inj, ents_inj, eEnt_iff, eLst_iff] at h
  grind

theorem unSld (l : Lst) (keep : Int) : unenc encSld ([AV.agg [(vI l.target), (vI l.first), (vI l.breaks), AV.sl (List.map eEnt l.entries), (vB l.ended)], (vI keep)]) = some (l, keep) := unenc_of encSld_inj (l, keep) rfl

theorem unSldw (l_target : Int) (l_first : Int) (l_breaks : Int) (l_entries : List Ent) (l_ended : Bool) (keep : Int) : unenc encSld ([AV.agg [(vI l_target), (vI l_first), (vI l_breaks), AV.sl (List.map eEnt l_entries), (vB l_ended)], (vI keep)]) = some ((Lst.mk l_target l_first l_breaks l_entries l_ended), keep) := unenc_of encSld_inj ((Lst.mk l_target l_first l_breaks l_entries l_ended), keep) rfl

def resSld1 (l : Lst) (keep : Int) : AV × Heap := (.tup [.agg (eLst (F.slide l keep).1), vI (F.slide l keep).2.1, vI (F.slide l keep).2.2], [])

def preSld1 (l : Lst) (keep : Int) : Bool := true

def stRSld (l : Lst) (keep : Int) (left : Int) (b : Int) (k : Nat) : St := ⟨[(10, .ptr 10 0 0), (9, vI left), (8, vI k), (4, .ptr 4 0 0), (2, .ptr 2 0 0), (1, vI keep)], [(10, ⟨true, 0, 0, [[vI l.target, vI l.first, vI b, .sl (l.entries.map eEnt), vB l.ended]]⟩), (4, ⟨true, 0, 0, [[vI 0, vI 0, vI 0, .e0, vB false]]⟩), (2, ⟨true, 0, 0, [eLst l]⟩)]⟩

def stRSld1 (a : Lst × Int × Int × Int × Nat) : St := stRSld a.1 a.2.1 a.2.2.1 a.2.2.2.1 a.2.2.2.2

theorem stRSld_inj (a a' : Lst × Int × Int × Int × Nat) (h : stRSld1 a = stRSld1 a') : a = a' := by
  simp only [stRSld1, stRSld] at h
  try simp [strs_inj, ents_inj, eEnt_iff, eLst_iff] at h
  grind

theorem unstRSld (l : Lst) (keep : Int) (left : Int) (b : Int) (k : Nat) : unenc stRSld1 (St.mk [(10, .ptr 10 0 0), (9, (vI left)), (8, (vI (↑k : Int))), (4, .ptr 4 0 0), (2, .ptr 2 0 0), (1, (vI keep))] [(10, Blk.mk true 0 0 [[(vI l.target), (vI l.first), (vI
  b), AV.sl (List.map eEnt l.entries), (vB l.ended)]]), (4, Blk.mk true 0 0 [[(vI (0 : Int)), (vI (0 : Int)), (vI (0 : Int)), AV.e0, (vB false)]]), (2, Blk.mk true 0 0 [[(vI
  l.target), (vI l.first), (vI l.breaks), AV.sl (List.map eEnt l.entries), (vB l.ended)]])]) = some (l, keep, left, b, k) := unenc_of stRSld_inj (l, keep, left, b, k) rfl

theorem unstRSld0 (l : Lst) (keep : Int) (left : Int) (b : Int)  : unenc stRSld1 (St.mk [(10, .ptr 10 0 0), (9, (vI left)), (8, (vI (0 : Int))), (4, .ptr 4 0 0), (2, .ptr 2 0 0), (1, (vI keep))] [(10, Blk.mk true 0 0 [[(vI l.target), (vI l.first), (vI
  b), AV.sl (List.map eEnt l.entries), (vB l.ended)]]), (4, Blk.mk true 0 0 [[(vI (0 : Int)), (vI (0 : Int)), (vI (0 : Int)), AV.e0, (vB false)]]), (2, Blk.mk true 0 0 [[(vI
  l.target), (vI l.first), (vI l.breaks), AV.sl (List.map eEnt l.entries), (vB l.ended)]])]) = some (l, keep, left, b, 0) := unenc_of stRSld_inj (l, keep, left, b, 0) rfl

def outRSld (l : Lst) (keep : Int) (left : Int) (b : Int) (k : Nat) : T (Ex × St) := .ret (.exit 0, ⟨[(10, .ptr 10 0 0), (8, vI (F.gone keep left b k (l.entries.drop k)).2), (4, .ptr 4 0 0), (2, .ptr 2 0 0)], [(10, ⟨true, 0, 0, [[vI l.target, vI l.first, vI (F.gone keep left b k (l.entries.drop k)).1.2, .sl (l.entries.map eEnt), vB l.ended]]⟩), (4, ⟨true, 0, 0, [[vI 0, vI 0, vI 0, .e0, vB false]]⟩), (2, ⟨true, 0, 0, [eLst l]⟩)]⟩)

noncomputable def prlRSld (l : Lst) (keep : Int) (left : Int) (b : Int) (k : Nat) : Bool := decide (l.entries.length ≤ 9223372036854775807) && decide (k ≤ l.entries.length)

noncomputable def lpRSld : Nat × (St → T (Ex × St)) := (10, lpo [10, 9, 8, 4, 2, 1] [10, 4, 2] stRSld1 (fun a => prlRSld a.1 a.2.1 a.2.2.1 a.2.2.2.1 a.2.2.2.2) fun a => outRSld a.1 a.2.1 a.2.2.1 a.2.2.2.1 a.2.2.2.2)

def encRSld1 (l : Lst) (keep : Int) : List AV := [.agg (eLst l), vI keep]

def encRSld (a : Lst × Int) : List AV := encRSld1 a.1 a.2

theorem encRSld_inj (a a' : Lst × Int) (h : encRSld a = encRSld a') : a = a' := by
  simp only [encRSld, encRSld1] at h
  try simp [strs_inj, ents_inj, eEnt_iff, eLst_iff] at h
  grind

theorem unRSld (l : Lst) (keep : Int) : unenc encRSld ([AV.agg [(vI l.target), (vI l.first), (vI l.breaks), AV.sl (List.map eEnt l.entries), (vB l.ended)], (vI keep)]) = some (l, keep) := unenc_of encRSld_inj (l, keep) rfl

theorem unRSldw (l_target : Int) (l_first : Int) (l_breaks : Int) (l_entries : List Ent) (l_ended : Bool) (keep : Int) : unenc encRSld ([AV.agg [(vI l_target), (vI l_first), (vI l_breaks), AV.sl (List.map eEnt l_entries), (vB l_ended)], (vI keep)]) = some ((Lst.mk l_target l_first l_breaks l_entries l_ended), keep) := unenc_of encRSld_inj ((Lst.mk l_target l_first l_breaks l_entries l_ended), keep) rfl

def resRSld1 (l : Lst) (keep : Int) : AV × Heap := (.tup [.agg (eLst (F.slide l keep).1), vI (F.slide l keep).2.1, vI (F.slide l keep).2.2], [])

def preRSld1 (l : Lst) (keep : Int) : Bool := true

end M
end Go.Proofs.YtipngpndgniagaaDoor
