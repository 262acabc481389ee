/- What is proved here: what the comparisons of entries and lists return on plain data (no statement of the seat). -/
import Derived.Test.YtgkjfochkhiojaaDoorE7
namespace Go.Proofs.YtgkjfochkhiojaaDoor
open Go Go.RowKit
set_option linter.unusedVariables false
set_option linter.unusedSimpArgs false

def F.sameSs (l : List (ByteArray × ByteArray)) : Bool := l.all fun p => F.seq p.1 p.2

/-- Entries are alike. -/
def F.sameE (a b : Ent) : Bool := F.seq a.uri b.uri && (a.milli == b.milli) && (a.brk == b.brk) && (a.date == b.date) && F.seq a.key b.key && (a.gap == b.gap) && decide (a.extra.length = b.extra.length) && F.sameSs (a.extra.zip b.extra)

def F.sameEs (l : List (Ent × Ent)) : Bool := l.all fun p => F.sameE p.1 p.2

/-- Lists are alike. -/
def F.sameL (a b : Lst) : Bool := (a.target == b.target) && (a.first == b.first) && (a.breaks == b.breaks) && (a.ended == b.ended) && decide (a.entries.length = b.entries.length) && F.sameEs (a.entries.zip b.entries)

theorem F.seq_refl (s : ByteArray) : F.seq s s = true := by simp [F.seq]

theorem F.zip_all {α : Type} (p : α → α → Bool) (h : ∀ a, p a a = true) : ∀ l : List α, ((l.zip l).all fun q => p q.1 q.2) = true
  | [] => rfl
  | y :: l => by simp only [List.zip_cons_cons, List.all_cons, h, Bool.true_and]; exact F.zip_all p h l

theorem F.sameE_refl (a : Ent) : F.sameE a a = true := by
  simp only [F.sameE, F.seq_refl, F.sameSs, F.zip_all F.seq F.seq_refl]
  simp

theorem F.sameL_refl (a : Lst) : F.sameL a a = true := by
  simp only [F.sameL, F.sameEs, F.zip_all F.sameE F.sameE_refl]
  simp

theorem F.zip_at {α β : Type} {a : List α} {b : List β} {k : Nat} {y : α × β} (h : (a.zip b)[k]? = some y) : a[k]? = some y.1 ∧ b[k]? = some y.2 := by
  rw [List.getElem?_zip_eq_some] at h
  exact h

theorem F.cond_tl (c x : Bool) : (bif c then true else x) = (c || x) := by cases c <;> rfl

theorem F.len_eq (n m : Nat) : ((n : Int) == (m : Int)) = decide (n = m) := by by_cases h : n = m <;> simp [h]; omega

namespace M


def stSmE (a : Ent) (b : Ent) (k : Nat) : St := ⟨[(5, vI k), (3, .ptr 3 0 0), (2, .ptr 2 0 0)], [(3, ⟨true, 0, 0, [eEnt b]⟩), (2, ⟨true, 0, 0, [eEnt a]⟩)]⟩

def stSmE1 (a : Ent × Ent × Nat) : St := stSmE a.1 a.2.1 a.2.2

theorem stSmE_inj (a a' : Ent × Ent × Nat) (h : stSmE1 a = stSmE1 a') : a = a' := by
  simp only [stSmE1, stSmE] at h
  try simp [strs_inj, ents_inj, eEnt_iff, eLst_iff] at h
  grind

theorem unstSmE (a : Ent) (b : Ent) (k : Nat) : unenc stSmE1 (St.mk [(5, (vI (↑k : Int))), (3, .ptr 3 0 0), (2, .ptr 2 0 0)] [(3, Blk.mk true 0 0 [[(vS b.uri), (vI b.milli), (vB b.brk), (vI b.date), (vS b.key), (vB b.gap), AV.sl
  (List.map eStr b.extra)]]), (2, Blk.mk true 0 0 [[(vS a.uri), (vI a.milli), (vB a.brk), (vI a.date), (vS a.key), (vB a.gap), AV.sl (List.map eStr a.extra)]])]) = some (a, b, k) := unenc_of stSmE_inj (a, b, k) rfl

theorem unstSmE0 (a : Ent) (b : Ent)  : unenc stSmE1 (St.mk [(5, (vI (0 : Int))), (3, .ptr 3 0 0), (2, .ptr 2 0 0)] [(3, Blk.mk true 0 0 [[(vS b.uri), (vI b.milli), (vB b.brk), (vI b.date), (vS b.key), (vB b.gap), AV.sl
  (List.map eStr b.extra)]]), (2, Blk.mk true 0 0 [[(vS a.uri), (vI a.milli), (vB a.brk), (vI a.date), (vS a.key), (vB a.gap), AV.sl (List.map eStr a.extra)]])]) = some (a, b, 0) := unenc_of stSmE_inj (a, b, 0) rfl

def outSmE (a : Ent) (b : Ent) (k : Nat) : T (Ex × St) := .ifB (F.sameSs ((a.extra.zip b.extra).drop k)) (.ret (.exit 0, ⟨[], []⟩)) (.ret (.ret, ⟨[(4, vB false)], []⟩))

noncomputable def prlSmE (a : Ent) (b : Ent) (k : Nat) : Bool := decide (a.extra.length ≤ 9223372036854775807) && decide (k ≤ a.extra.length) && decide (a.extra.length = b.extra.length)

noncomputable def lpSmE : Nat × (St → T (Ex × St)) := (4, lpo [5, 3, 2] [3, 2] stSmE1 (fun a => prlSmE a.1 a.2.1 a.2.2) fun a => outSmE a.1 a.2.1 a.2.2)

noncomputable def enSmE : Env := envH ty noG lks [] [] [] [lpSmE]

theorem enSmE_ok : EnvOK Tryd.prog enSmE := by
  refine envH_ok lks_ok ty_ok ?_ ?_
  · simp
  · simp

theorem evSmEL (a : Ent) (b : Ent) (k : Nat) : ((exec enSmE (loopN Tryd.f13 0) (stSmE a b k)).bind (lessX ([5, 3, 2], [3, 2]) ([], []) ([4], []))).val =
  bif decide ((↑k : Int) < (↑(List.length (List.map eStr a.extra)) : Int)) then Option.bind (unenc (List.map eStr) (List.map eStr a.extra)) fun (z : List ByteArray) => bif
  decide (k < List.length z) then Option.bind (unenc (List.map eStr) (List.map eStr b.extra)) fun (z_1 : List ByteArray) => bif decide (k < List.length z_1) then bif
  !ByteArray.toList (List.getD z k (ByteArray.mk (Array.mk []))) == ByteArray.toList (List.getD z_1 k (ByteArray.mk (Array.mk []))) then some (Ex.ret, St.mk [(4, (vB
  false))] []) else some (Ex.normal, St.mk [(5, (vI (IntKind.wrap IntKind.i64 ((↑k : Int) + (1 : Int))))), (3, .ptr 3 0 0), (2, .ptr 2 0 0)] [(3, Blk.mk true 0 0 [[(vS
  b.uri), (vI b.milli), (vB b.brk), (vI b.date), (vS b.key), (vB b.gap), AV.sl (List.map eStr b.extra)]]), (2, Blk.mk true 0 0 [[(vS a.uri), (vI a.milli), (vB a.brk), (vI
  a.date), (vS a.key), (vB a.gap), AV.sl (List.map eStr a.extra)]])]) else none else none else some (Ex.exit (0 : Nat), St.mk [] []) := by kernel_rfl

theorem lpSmE_ok (a : Ent) (b : Ent) (k : Nat) (hp : prlSmE a b k = true) : ∀ ex s', (outSmE a b k).val = some (ex, s') → LoopOK enSmE (loopN Tryd.f13 0) (stSmE a b k) ex s' := by
  simp only [prlSmE, Bool.and_eq_true, decide_eq_true_eq] at hp
  obtain ⟨⟨h1, h2⟩, h3⟩ := hp
  have hz : (a.extra.zip b.extra).length = a.extra.length := by rw [List.length_zip]; omega
  refine loop_all (xs := a.extra.zip b.extra) (st := stSmE a b) (p := fun p => F.seq p.1 p.2) (n := ([5, 3, 2], [3, 2])) (e := ([], [])) (r := ([4], [])) ?_ ⟨by simp, rfl⟩ ⟨by simp, rfl⟩ (fun _ => rfl) ?_ k (by omega)
  · rw [hz]; rw [evSmEL]; simp
  · intro k y hy
    obtain ⟨ha, hb⟩ := F.zip_at hy
    have hlt := lt_at ha
    have hlt' := lt_at hb
    rw [evSmEL]
    simp only [unstSmE, unstSmE0, prlSmE, outSmE, etaEnt, etaLst, Option.bind_some, List.length_map, unStrs, unInts, unBools, unEnts, unItms, unTrns, cond_true, cond_false, Bool.and_true, Bool.true_and, cast_lt hlt, decide_eq_true hlt, decide_eq_true hlt', next_at hlt h1, getD_at ha, getD_at hb, stSmE, eEnt, F.seq]
    simp only [Bool.cond_eq_ite]
    grind

theorem evSmE (a : Ent) (b : Ent) : (runF enSmE false Tryd.f13 [.agg (eEnt a), .agg (eEnt b)]).val =
  bif bif bif bif bif bif bif !ByteArray.toList a.uri == ByteArray.toList b.uri then true else a.milli != b.milli then true else !a.brk == b.brk then true else a.date !=
  b.date then true else !ByteArray.toList a.key == ByteArray.toList b.key then true else !a.gap == b.gap then true else (↑(List.length (List.map eStr a.extra)) : Int) !=
  (↑(List.length (List.map eStr b.extra)) : Int) then some ((vB false), []) else Option.bind (unenc stSmE1 (St.mk [(5, (vI (0 : Int))), (3, .ptr 3 0 0), (2, .ptr 2 0 0)]
  [(3, Blk.mk true 0 0 [[(vS b.uri), (vI b.milli), (vB b.brk), (vI b.date), (vS b.key), (vB b.gap), AV.sl (List.map eStr b.extra)]]), (2, Blk.mk true 0 0 [[(vS a.uri), (vI
  a.milli), (vB a.brk), (vI a.date), (vS a.key), (vB a.gap), AV.sl (List.map eStr a.extra)]])])) fun (z : Ent × Ent × Nat) => bif decide (List.length z.fst.extra ≤
  (9223372036854775807 : Nat)) && decide (z.snd.snd ≤ List.length z.fst.extra) && decide (List.length z.fst.extra = List.length z.snd.fst.extra) && true then bif F.sameSs
  (List.drop z.snd.snd (List.zip z.fst.extra z.snd.fst.extra)) then some ((vB true), []) else some ((vB false), []) else none := by kernel_rfl

def encSmE1 (a : Ent) (b : Ent) : List AV := [.agg (eEnt a), .agg (eEnt b)]

def encSmE (a : Ent × Ent) : List AV := encSmE1 a.1 a.2

theorem encSmE_inj (a a' : Ent × Ent) (h : encSmE a = encSmE a') : a = a' := by
  simp only [encSmE, encSmE1] at h
  try simp [strs_inj, ents_inj, eEnt_iff, eLst_iff] at h
  grind

theorem unSmE (a : Ent) (b : Ent) : unenc encSmE ([AV.agg [(vS a.uri), (vI a.milli), (vB a.brk), (vI a.date), (vS a.key), (vB a.gap), AV.sl (List.map eStr a.extra)], AV.agg [(vS b.uri), (vI b.milli), (vB b.brk), (vI
  b.date), (vS b.key), (vB b.gap), AV.sl (List.map eStr b.extra)]]) = some (a, b) := unenc_of encSmE_inj (a, b) rfl

theorem unSmEw (a_uri : ByteArray) (a_milli : Int) (a_brk : Bool) (a_date : Int) (a_key : ByteArray) (a_gap : Bool) (a_extra : List ByteArray) (b_uri : ByteArray) (b_milli : Int) (b_brk : Bool) (b_date : Int) (b_key : ByteArray) (b_gap : Bool) (b_extra : List ByteArray) : unenc encSmE ([AV.agg [(vS a_uri), (vI a_milli), (vB a_brk), (vI a_date), (vS a_key), (vB a_gap), AV.sl (List.map eStr a_extra)], AV.agg [(vS b_uri), (vI b_milli), (vB b_brk), (vI
  b_date), (vS b_key), (vB b_gap), AV.sl (List.map eStr b_extra)]]) = some ((Ent.mk a_uri a_milli a_brk a_date a_key a_gap a_extra), (Ent.mk b_uri b_milli b_brk b_date b_key b_gap b_extra)) := unenc_of encSmE_inj ((Ent.mk a_uri a_milli a_brk a_date a_key a_gap a_extra), (Ent.mk b_uri b_milli b_brk b_date b_key b_gap b_extra)) rfl

def resSmE1 (a : Ent) (b : Ent) : AV × Heap := (vB (F.sameE a b), [])

def preSmE1 (a : Ent) (b : Ent) : Bool := true

noncomputable def oSmE : Orc := orc 13 true encSmE (fun a => preSmE1 a.1 a.2) fun a => resSmE1 a.1 a.2

theorem okSmE : OrcOK Tryd.prog noG oSmE := by
  refine mk_ok Tryd.f13 (keep := false) (by kernel_rfl) (by kernel_rfl) enSmE_ok mixed (one_loop (x0 := loopN Tryd.f13 0) (by kernel_rfl) (lpo_ok ?_)) (by first | exact fun _ _ => ⟨rfl, rfl⟩ | (intro h; cases h)) ?_
  · rintro ⟨a, b, k⟩ hp
    exact lpSmE_ok a b k hp
  rintro ⟨a, b⟩ hpre hok
  show (runF enSmE false _ (encSmE1 _ _)).val = some (resSmE1 _ _)
  unfold encSmE1 resSmE1
  rw [evSmE]
  obtain ⟨hm, hx, _⟩ := ent_bounds (hok _ (List.mem_cons_self ..))
  simp only [unstSmE, unstSmE0, prlSmE, outSmE, etaEnt, etaLst, Option.bind_some, List.length_map, unStrs, unInts, unBools, unEnts, unItms, unTrns, cond_true, cond_false, Bool.and_true, Bool.true_and, F.sameE, F.seq, hx, List.drop_zero, Nat.zero_le, decide_true, F.cond_tl, F.len_eq, bne]
  cases a.uri.toList == b.uri.toList <;> cases a.milli == b.milli <;> cases a.brk == b.brk <;> cases a.date == b.date <;> cases a.key.toList == b.key.toList <;> cases a.gap == b.gap <;> try simp
  cases h : decide (a.extra.length = b.extra.length) <;> cases F.sameSs (a.extra.zip b.extra) <;> simp_all

def stSmL (a : Lst) (b : Lst) (k : Nat) : St := ⟨[(5, vI k), (3, .ptr 3 0 0), (2, .ptr 2 0 0)], [(3, ⟨true, 0, 0, [eLst b]⟩), (2, ⟨true, 0, 0, [eLst a]⟩)]⟩

def stSmL1 (a : Lst × Lst × Nat) : St := stSmL a.1 a.2.1 a.2.2

theorem stSmL_inj (a a' : Lst × Lst × Nat) (h : stSmL1 a = stSmL1 a') : a = a' := by
  simp only [stSmL1, stSmL] at h
  try simp [strs_inj, ents_inj, eEnt_iff, eLst_iff] at h
  grind

theorem unstSmL (a : Lst) (b : Lst) (k : Nat) : unenc stSmL1 (St.mk [(5, (vI (↑k : Int))), (3, .ptr 3 0 0), (2, .ptr 2 0 0)] [(3, Blk.mk true 0 0 [[(vI b.target), (vI b.first), (vI b.breaks), AV.sl (List.map eEnt b.entries), (vB
  b.ended)]]), (2, Blk.mk true 0 0 [[(vI a.target), (vI a.first), (vI a.breaks), AV.sl (List.map eEnt a.entries), (vB a.ended)]])]) = some (a, b, k) := unenc_of stSmL_inj (a, b, k) rfl

theorem unstSmL0 (a : Lst) (b : Lst)  : unenc stSmL1 (St.mk [(5, (vI (0 : Int))), (3, .ptr 3 0 0), (2, .ptr 2 0 0)] [(3, Blk.mk true 0 0 [[(vI b.target), (vI b.first), (vI b.breaks), AV.sl (List.map eEnt b.entries), (vB
  b.ended)]]), (2, Blk.mk true 0 0 [[(vI a.target), (vI a.first), (vI a.breaks), AV.sl (List.map eEnt a.entries), (vB a.ended)]])]) = some (a, b, 0) := unenc_of stSmL_inj (a, b, 0) rfl

def outSmL (a : Lst) (b : Lst) (k : Nat) : T (Ex × St) := .ifB (F.sameEs ((a.entries.zip b.entries).drop k)) (.ret (.exit 0, ⟨[], []⟩)) (.ret (.ret, ⟨[(4, vB false)], []⟩))

noncomputable def prlSmL (a : Lst) (b : Lst) (k : Nat) : Bool := decide (a.entries.length ≤ 9223372036854775807) && decide (k ≤ a.entries.length) && decide (a.entries.length = b.entries.length)

noncomputable def lpSmL : Nat × (St → T (Ex × St)) := (4, lpo [5, 3, 2] [3, 2] stSmL1 (fun a => prlSmL a.1 a.2.1 a.2.2) fun a => outSmL a.1 a.2.1 a.2.2)

noncomputable def enSmL : Env := envH ty noG lks [oSmE] [] [] [lpSmL]

theorem enSmL_ok : EnvOK Tryd.prog enSmL := by
  refine envH_ok lks_ok ty_ok ?_ ?_
  · simp only [List.forall_mem_cons]
    exact ⟨okSmE, by simp⟩
  · simp

theorem evSmLL (a : Lst) (b : Lst) (k : Nat) : ((exec enSmL (loopN Tryd.f6 0) (stSmL a b k)).bind (lessX ([5, 3, 2], [3, 2]) ([], []) ([4], []))).val =
  bif decide ((↑k : Int) < (↑(List.length (List.map eEnt a.entries)) : Int)) then Option.bind (unenc (List.map eEnt) (List.map eEnt a.entries)) fun (z : List Ent) => bif
  decide (k < List.length z) then Option.bind (unenc (List.map eEnt) (List.map eEnt b.entries)) fun (z_1 : List Ent) => bif decide (k < List.length z_1) then Option.bind
  (unenc encSmE [AV.agg [(vS (List.getD z k (Ent.mk (ByteArray.mk (Array.mk [])) (0 : Int) false (0 : Int) (ByteArray.mk (Array.mk [])) false [])).uri), (vI (List.getD z k
  (Ent.mk (ByteArray.mk (Array.mk [])) (0 : Int) false (0 : Int) (ByteArray.mk (Array.mk [])) false [])).milli), (vB (List.getD z k (Ent.mk (ByteArray.mk (Array.mk [])) (0 :
  Int) false (0 : Int) (ByteArray.mk (Array.mk [])) false [])).brk), (vI (List.getD z k (Ent.mk (ByteArray.mk (Array.mk [])) (0 : Int) false (0 : Int) (ByteArray.mk
  (Array.mk [])) false [])).date), (vS (List.getD z k (Ent.mk (ByteArray.mk (Array.mk [])) (0 : Int) false (0 : Int) (ByteArray.mk (Array.mk [])) false [])).key), (vB
  (List.getD z k (Ent.mk (ByteArray.mk (Array.mk [])) (0 : Int) false (0 : Int) (ByteArray.mk (Array.mk [])) false [])).gap), AV.sl (List.map eStr (List.getD z k (Ent.mk
  (ByteArray.mk (Array.mk [])) (0 : Int) false (0 : Int) (ByteArray.mk (Array.mk [])) false [])).extra)], AV.agg [(vS (List.getD z_1 k (Ent.mk (ByteArray.mk (Array.mk []))
  (0 : Int) false (0 : Int) (ByteArray.mk (Array.mk [])) false [])).uri), (vI (List.getD z_1 k (Ent.mk (ByteArray.mk (Array.mk [])) (0 : Int) false (0 : Int) (ByteArray.mk
  (Array.mk [])) false [])).milli), (vB (List.getD z_1 k (Ent.mk (ByteArray.mk (Array.mk [])) (0 : Int) false (0 : Int) (ByteArray.mk (Array.mk [])) false [])).brk), (vI
  (List.getD z_1 k (Ent.mk (ByteArray.mk (Array.mk [])) (0 : Int) false (0 : Int) (ByteArray.mk (Array.mk [])) false [])).date), (vS (List.getD z_1 k (Ent.mk (ByteArray.mk
  (Array.mk [])) (0 : Int) false (0 : Int) (ByteArray.mk (Array.mk [])) false [])).key), (vB (List.getD z_1 k (Ent.mk (ByteArray.mk (Array.mk [])) (0 : Int) false (0 : Int)
  (ByteArray.mk (Array.mk [])) false [])).gap), AV.sl (List.map eStr (List.getD z_1 k (Ent.mk (ByteArray.mk (Array.mk [])) (0 : Int) false (0 : Int) (ByteArray.mk (Array.mk
  [])) false [])).extra)]]) fun (z : Ent × Ent) => bif !F.sameE z.fst z.snd then some (Ex.ret, St.mk [(4, (vB false))] []) else some (Ex.normal, St.mk [(5, (vI (IntKind.wrap
  IntKind.i64 ((↑k : Int) + (1 : Int))))), (3, .ptr 3 0 0), (2, .ptr 2 0 0)] [(3, Blk.mk true 0 0 [[(vI b.target), (vI b.first), (vI b.breaks), AV.sl (List.map eEnt
  b.entries), (vB b.ended)]]), (2, Blk.mk true 0 0 [[(vI a.target), (vI a.first), (vI a.breaks), AV.sl (List.map eEnt a.entries), (vB a.ended)]])]) else none else none else
  some (Ex.exit (0 : Nat), St.mk [] []) := by kernel_rfl

theorem lpSmL_ok (a : Lst) (b : Lst) (k : Nat) (hp : prlSmL a b k = true) : ∀ ex s', (outSmL a b k).val = some (ex, s') → LoopOK enSmL (loopN Tryd.f6 0) (stSmL a b k) ex s' := by
  simp only [prlSmL, Bool.and_eq_true, decide_eq_true_eq] at hp
  obtain ⟨⟨h1, h2⟩, h3⟩ := hp
  have hz : (a.entries.zip b.entries).length = a.entries.length := by rw [List.length_zip]; omega
  refine loop_all (xs := a.entries.zip b.entries) (st := stSmL a b) (p := fun p => F.sameE p.1 p.2) (n := ([5, 3, 2], [3, 2])) (e := ([], [])) (r := ([4], [])) ?_ ⟨by simp, rfl⟩ ⟨by simp, rfl⟩ (fun _ => rfl) ?_ k (by omega)
  · rw [hz]; rw [evSmLL]; simp
  · intro k y hy
    obtain ⟨ha, hb⟩ := F.zip_at hy
    have hlt := lt_at ha
    have hlt' := lt_at hb
    rw [evSmLL]
    simp only [unSmE, unSmEw, preSmE1, unstSmL, unstSmL0, prlSmL, outSmL, etaEnt, etaLst, Option.bind_some, List.length_map, unStrs, unInts, unBools, unEnts, unItms, unTrns, cond_true, cond_false, Bool.and_true, Bool.true_and, cast_lt hlt, decide_eq_true hlt, decide_eq_true hlt', next_at hlt h1, getD_at ha, getD_at hb, stSmL, eEnt, eLst]
    simp only [Bool.cond_eq_ite]
    grind

theorem evSmL (a : Lst) (b : Lst) : (runF enSmL false Tryd.f6 [.agg (eLst a), .agg (eLst b)]).val =
  bif bif bif bif bif a.target != b.target then true else a.first != b.first then true else a.breaks != b.breaks then true else !a.ended == b.ended then true else
  (↑(List.length (List.map eEnt a.entries)) : Int) != (↑(List.length (List.map eEnt b.entries)) : Int) then some ((vB false), []) else Option.bind (unenc stSmL1 (St.mk [(5,
  (vI (0 : Int))), (3, .ptr 3 0 0), (2, .ptr 2 0 0)] [(3, Blk.mk true 0 0 [[(vI b.target), (vI b.first), (vI b.breaks), AV.sl (List.map eEnt b.entries), (vB b.ended)]]), (2,
  Blk.mk true 0 0 [[(vI a.target), (vI a.first), (vI a.breaks), AV.sl (List.map eEnt a.entries), (vB a.ended)]])])) fun (z : Lst × Lst × Nat) => bif decide (List.length
  z.fst.entries ≤ (9223372036854775807 : Nat)) && decide (z.snd.snd ≤ List.length z.fst.entries) && decide (List.length z.fst.entries = List.length z.snd.fst.entries) &&
  true then bif F.sameEs (List.drop z.snd.snd (List.zip z.fst.entries z.snd.fst.entries)) then some ((vB true), []) else some ((vB false), []) else none := by kernel_rfl

def encSmL1 (a : Lst) (b : Lst) : List AV := [.agg (eLst a), .agg (eLst b)]

def encSmL (a : Lst × Lst) : List AV := encSmL1 a.1 a.2

theorem encSmL_inj (a a' : Lst × Lst) (h : encSmL a = encSmL a') : a = a' := by
  simp only [encSmL, encSmL1] at h
  try simp [strs_inj, ents_inj, eEnt_iff, eLst_iff] at h
  grind

theorem unSmL (a : Lst) (b : Lst) : unenc encSmL ([AV.agg [(vI a.target), (vI a.first), (vI a.breaks), AV.sl (List.map eEnt a.entries), (vB a.ended)], AV.agg [(vI b.target), (vI b.first), (vI b.breaks), AV.sl (List.map
  eEnt b.entries), (vB b.ended)]]) = some (a, b) := unenc_of encSmL_inj (a, b) rfl

theorem unSmLw (a_target : Int) (a_first : Int) (a_breaks : Int) (a_entries : List Ent) (a_ended : Bool) (b_target : Int) (b_first : Int) (b_breaks : Int) (b_entries : List Ent) (b_ended : Bool) : unenc encSmL ([AV.agg [(vI a_target), (vI a_first), (vI a_breaks), AV.sl (List.map eEnt a_entries), (vB a_ended)], AV.agg [(vI b_target), (vI b_first), (vI b_breaks), AV.sl (List.map
  eEnt b_entries), (vB b_ended)]]) = some ((Lst.mk a_target a_first a_breaks a_entries a_ended), (Lst.mk b_target b_first b_breaks b_entries b_ended)) := unenc_of encSmL_inj ((Lst.mk a_target a_first a_breaks a_entries a_ended), (Lst.mk b_target b_first b_breaks b_entries b_ended)) rfl

def resSmL1 (a : Lst) (b : Lst) : AV × Heap := (vB (F.sameL a b), [])

def preSmL1 (a : Lst) (b : Lst) : Bool := true

noncomputable def oSmL : Orc := orc 6 true encSmL (fun a => preSmL1 a.1 a.2) fun a => resSmL1 a.1 a.2

theorem okSmL : OrcOK Tryd.prog noG oSmL := by
  refine mk_ok Tryd.f6 (keep := false) (by kernel_rfl) (by kernel_rfl) enSmL_ok mixed (one_loop (x0 := loopN Tryd.f6 0) (by kernel_rfl) (lpo_ok ?_)) (by first | exact fun _ _ => ⟨rfl, rfl⟩ | (intro h; cases h)) ?_
  · rintro ⟨a, b, k⟩ hp
    exact lpSmL_ok a b k hp
  rintro ⟨a, b⟩ hpre hok
  show (runF enSmL false _ (encSmL1 _ _)).val = some (resSmL1 _ _)
  unfold encSmL1 resSmL1
  rw [evSmL]
  have hx := lst_len (hok _ (List.mem_cons_self ..))
  simp only [unSmE, unSmEw, preSmE1, unstSmL, unstSmL0, prlSmL, outSmL, etaEnt, etaLst, Option.bind_some, List.length_map, unStrs, unInts, unBools, unEnts, unItms, unTrns, cond_true, cond_false, Bool.and_true, Bool.true_and, F.sameL, hx, List.drop_zero, Nat.zero_le, decide_true, F.cond_tl, F.len_eq, bne]
  cases a.target == b.target <;> cases a.first == b.first <;> cases a.breaks == b.breaks <;> cases a.ended == b.ended <;> try simp
  cases h : decide (a.entries.length = b.entries.length) <;> cases F.sameEs (a.entries.zip b.entries) <;> simp_all

end M
end Go.Proofs.YtgkjfochkhiojaaDoor
