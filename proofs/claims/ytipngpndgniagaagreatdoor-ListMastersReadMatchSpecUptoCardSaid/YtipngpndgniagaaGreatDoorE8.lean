/- What is proved here: what the comparisons of entries and lists return on plain data (no statement of the seat). -/
import Derived.Test.YtipngpndgniagaaGreatDoorE7
namespace Go.Proofs.YtipngpndgniagaaGreatDoor
open Go Go.RowKit
set_option linter.unusedVariables false
set_option linter.unusedSimpArgs false

def F.sameSs (l : List (ByteArray × ByteArray)) : Bool := l.all fun p => F.seq p.1 p.2

/-- Entries are alike. -/
def F.sameE (a b : Ent) : Bool := F.seq a.uri b.uri && (a.milli == b.milli) && (a.brk == b.brk) && (a.date == b.date) && F.seq a.key b.key && (a.gap == b.gap) && decide (a.extra.length = b.extra.length) && F.sameSs (a.extra.zip b.extra)

def F.sameEs (l : List (Ent × Ent)) : Bool := l.all fun p => F.sameE p.1 p.2

/-- Lists are alike. -/
def F.sameL (a b : Lst) : Bool := (a.target == b.target) && (a.first == b.first) && (a.breaks == b.breaks) && (a.ended == b.ended) && decide (a.entries.length = b.entries.length) && F.sameEs (a.entries.zip b.entries)

theorem F.seq_refl (s : ByteArray) : F.seq s s = true := by simp [F.seq]

theorem F.zip_all {α : Type} (p : α → α → Bool) (h : ∀ a, p a a = true) : ∀ l : List α, ((l.zip l).all fun q => p q.1 q.2) = true
  | [] => rfl
  | y :: l => by simp only [List.zip_cons_cons, List.all_cons, h, Bool.true_and]; exact F.zip_all p h l

theorem F.sameE_refl (a : Ent) : F.sameE a a = true := by
  simp only [F.sameE, F.seq_refl, F.sameSs, F.zip_all F.seq F.seq_refl]
  simp

theorem F.sameL_refl (a : Lst) : F.sameL a a = true := by
  simp only [F.sameL, F.sameEs, F.zip_all F.sameE F.sameE_refl]
  simp

theorem F.zip_at {α β : Type} {a : List α} {b : List β} {k : Nat} {y : α × β} (h : (a.zip b)[k]? = some y) : a[k]? = some y.1 ∧ b[k]? = some y.2 := by
  rw [List.getElem?_zip_eq_some] at h
  exact h

theorem F.cond_tl (c x : Bool) : (bif c then true else x) = (c || x) := by cases c <;> rfl

theorem F.len_eq (n m : Nat) : ((n : Int) == (m : Int)) = decide (n = m) := by by_cases h : n = m <;> simp [h]; omega

namespace M


def stSmE (a : Ent) (b : Ent) (k : Nat) : St := ⟨[(5, vI k), (3, .ptr 3 0 0), (2, .ptr 2 0 0)], [(3, ⟨true, 0, 0, [eEnt b]⟩), (2, ⟨true, 0, 0, [eEnt a]⟩)]⟩

def stSmE1 (a : Ent × Ent × Nat) : St := stSmE a.1 a.2.1 a.2.2

theorem stSmE_inj (a a' : Ent × Ent × Nat) (h : stSmE1 a = stSmE1 a') : a = a' := by
  simp only [stSmE1, stSmE] at h
  try simp [strs_inj, ents_inj, eEnt_iff, eLst_iff] at h
  grind

theorem unstSmE (a : Ent) (b : Ent) (k : Nat) : unenc stSmE1 (St.mk [(5, (vI (↑k : Int))), (3, .ptr 3 0 0), (2, .ptr 2 0 0)] [(3, Blk.mk true 0 0 [[(vS b.uri), (vI b.milli), (vB b.brk), (vI b.date), (vS b.key), (vB b.gap), AV.sl
  (List.map eStr b.extra)]]), (2, Blk.mk true 0 0 [[(vS a.uri), (vI a.milli), (vB a.brk), (vI a.date), (vS a.key), (vB a.gap), AV.sl (List.map eStr a.extra)]])]) = some (a, b, k) := unenc_of stSmE_inj (a, b, k) rfl

theorem unstSmE0 (a : Ent) (b : Ent)  : unenc stSmE1 (St.mk [(5, (vI (0 : Int))), (3, .ptr 3 0 0), (2, .ptr 2 0 0)] [(3, Blk.mk true 0 0 [[(vS b.uri), (vI b.milli), (vB b.brk), (vI b.date), (vS b.key), (vB b.gap), AV.sl
  (List.map eStr b.extra)]]), (2, Blk.mk true 0 0 [[(vS a.uri), (vI a.milli), (vB a.brk), (vI a.date), (vS a.key), (vB a.gap), AV.sl (List.map eStr a.extra)]])]) = some (a, b, 0) := unenc_of stSmE_inj (a, b, 0) rfl

def outSmE (a : Ent) (b : Ent) (k : Nat) : T (Ex × St) := .ifB (F.sameSs ((a.extra.zip b.extra).drop k)) (.ret (.exit 0, ⟨[], []⟩)) (.ret (.ret, ⟨[(4, vB false)], []⟩))

noncomputable def prlSmE (a : Ent) (b : Ent) (k : Nat) : Bool := decide (a.extra.length ≤ 9223372036854775807) && decide (k ≤ a.extra.length) && decide (a.extra.length = b.extra.length)

noncomputable def lpSmE : Nat × (St → T (Ex × St)) := (4, lpo [5, 3, 2] [3, 2] stSmE1 (fun a => prlSmE a.1 a.2.1 a.2.2) fun a => outSmE a.1 a.2.1 a.2.2)

noncomputable def enSmE : Env := envH ty noG lks [] [] [] [lpSmE]

theorem enSmE_ok : EnvOK Tryz.prog enSmE := by
  refine envH_ok lks_ok ty_ok ?_ ?_
  · simp
  · simp

def encSmE1 (a : Ent) (b : Ent) : List AV := [.agg (eEnt a), .agg (eEnt b)]

def encSmE (a : Ent × Ent) : List AV := encSmE1 a.1 a.2

theorem encSmE_inj (a a' : Ent × Ent) (h : encSmE a = encSmE a') : a = a' := by
  simp only [encSmE, encSmE1] at h
  try simp [strs_inj, ents_inj, eEnt_iff, eLst_iff] at h
  grind

theorem unSmE (a : Ent) (b : Ent) : unenc encSmE ([AV.agg [(vS a.uri), (vI a.milli), (vB a.brk), (vI a.date), (vS a.key), (vB a.gap), AV.sl (List.map eStr a.extra)], AV.agg [(vS b.uri), (vI b.milli), (vB b.brk), (vI
  b.date), (vS b.key), (vB b.gap), AV.sl (List.map eStr b.extra)]]) = some (a, b) := unenc_of encSmE_inj (a, b) rfl

theorem unSmEw (a_uri : ByteArray) (a_milli : Int) (a_brk : Bool) (a_date : Int) (a_key : ByteArray) (a_gap : Bool) (a_extra : List ByteArray) (b_uri : ByteArray) (b_milli : Int) (b_brk : Bool) (b_date : Int) (b_key : ByteArray) (b_gap : Bool) (b_extra : List ByteArray) : unenc encSmE ([AV.agg [(vS a_uri), (vI a_milli), (vB a_brk), (vI a_date), (vS a_key), (vB a_gap), AV.sl (List.map eStr a_extra)], AV.agg [(vS b_uri), (vI b_milli), (vB b_brk), (vI
  b_date), (vS b_key), (vB b_gap), AV.sl (List.map eStr b_extra)]]) = some ((Ent.mk a_uri a_milli a_brk a_date a_key a_gap a_extra), (Ent.mk b_uri b_milli b_brk b_date b_key b_gap b_extra)) := unenc_of encSmE_inj ((Ent.mk a_uri a_milli a_brk a_date a_key a_gap a_extra), (Ent.mk b_uri b_milli b_brk b_date b_key b_gap b_extra)) rfl

def resSmE1 (a : Ent) (b : Ent) : AV × Heap := (vB (F.sameE a b), [])

def preSmE1 (a : Ent) (b : Ent) : Bool := true

def stSmL (a : Lst) (b : Lst) (k : Nat) : St := ⟨[(5, vI k), (3, .ptr 3 0 0), (2, .ptr 2 0 0)], [(3, ⟨true, 0, 0, [eLst b]⟩), (2, ⟨true, 0, 0, [eLst a]⟩)]⟩

def stSmL1 (a : Lst × Lst × Nat) : St := stSmL a.1 a.2.1 a.2.2

theorem stSmL_inj (a a' : Lst × Lst × Nat) (h : stSmL1 a = stSmL1 a') : a = a' := by
  simp only [stSmL1, stSmL] at h
  try simp [strs_inj, ents_inj, eEnt_iff, eLst_iff] at h
  grind

theorem unstSmL (a : Lst) (b : Lst) (k : Nat) : unenc stSmL1 (St.mk [(5, (vI (↑k : Int))), (3, .ptr 3 0 0), (2, .ptr 2 0 0)] [(3, Blk.mk true 0 0 [[(vI b.target), (vI b.first), (vI b.breaks), AV.sl (List.map eEnt b.entries), (vB
  b.ended)]]), (2, Blk.mk true 0 0 [[(vI a.target), (vI a.first), (vI a.breaks), AV.sl (List.map eEnt a.entries), (vB a.ended)]])]) = some (a, b, k) := unenc_of stSmL_inj (a, b, k) rfl

theorem unstSmL0 (a : Lst) (b : Lst)  : unenc stSmL1 (St.mk [(5, (vI (0 : Int))), (3, .ptr 3 0 0), (2, .ptr 2 0 0)] [(3, Blk.mk true 0 0 [[(vI b.target), (vI b.first), (vI b.breaks), AV.sl (List.map eEnt b.entries), (vB
  b.ended)]]), (2, Blk.mk true 0 0 [[(vI a.target), (vI a.first), (vI a.breaks), AV.sl (List.map eEnt a.entries), (vB a.ended)]])]) = some (a, b, 0) := unenc_of stSmL_inj (a, b, 0) rfl

def outSmL (a : Lst) (b : Lst) (k : Nat) : T (Ex × St) := .ifB (F.sameEs ((a.entries.zip b.entries).drop k)) (.ret (.exit 0, ⟨[], []⟩)) (.ret (.ret, ⟨[(4, vB false)], []⟩))

noncomputable def prlSmL (a : Lst) (b : Lst) (k : Nat) : Bool := decide (a.entries.length ≤ 9223372036854775807) && decide (k ≤ a.entries.length) && decide (a.entries.length = b.entries.length)

noncomputable def lpSmL : Nat × (St → T (Ex × St)) := (4, lpo [5, 3, 2] [3, 2] stSmL1 (fun a => prlSmL a.1 a.2.1 a.2.2) fun a => outSmL a.1 a.2.1 a.2.2)

def encSmL1 (a : Lst) (b : Lst) : List AV := [.agg (eLst a), .agg (eLst b)]

def encSmL (a : Lst × Lst) : List AV := encSmL1 a.1 a.2

theorem encSmL_inj (a a' : Lst × Lst) (h : encSmL a = encSmL a') : a = a' := by
  simp only [encSmL, encSmL1] at h
  try simp [strs_inj, ents_inj, eEnt_iff, eLst_iff] at h
  grind

theorem unSmL (a : Lst) (b : Lst) : unenc encSmL ([AV.agg [(vI a.target), (vI a.first), (vI a.breaks), AV.sl (List.map eEnt a.entries), (vB a.ended)], AV.agg [(vI b.target), (vI b.first), (vI b.breaks), AV.sl (List.map
  eEnt b.entries), (vB b.ended)]]) = some (a, b) := unenc_of encSmL_inj (a, b) rfl

theorem unSmLw (a_target : Int) (a_first : Int) (a_breaks : Int) (a_entries : List Ent) (a_ended : Bool) (b_target : Int) (b_first : Int) (b_breaks : Int) (b_entries : List Ent) (b_ended : Bool) : unenc encSmL ([AV.agg [(vI a_target), (vI a_first), (vI a_breaks), AV.sl (List.map eEnt a_entries), (vB a_ended)], AV.agg [(vI b_target), (vI b_first), (vI b_breaks), AV.sl (List.map
  eEnt b_entries), (vB b_ended)]]) = some ((Lst.mk a_target a_first a_breaks a_entries a_ended), (Lst.mk b_target b_first b_breaks b_entries b_ended)) := unenc_of encSmL_inj ((Lst.mk a_target a_first a_breaks a_entries a_ended), (Lst.mk b_target b_first b_breaks b_entries b_ended)) rfl

def resSmL1 (a : Lst) (b : Lst) : AV × Heap := (vB (F.sameL a b), [])

def preSmL1 (a : Lst) (b : Lst) : Bool := true

end M
end Go.Proofs.YtipngpndgniagaaGreatDoor
