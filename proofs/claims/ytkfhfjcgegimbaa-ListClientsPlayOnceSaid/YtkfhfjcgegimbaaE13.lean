/- What is proved here: where a client begins, on plain data, of the program and of the reference (no statement of the seat). -/
import Derived.Test.YtkfhfjcgegimbaaE12
namespace Go.Proofs.Ytkfhfjcgegimbaa
open Go Go.RowKit
set_option linter.unusedVariables false
set_option linter.unusedSimpArgs false

def F.found {α : Type} (o : Option α) : Bool := o.isSome

def F.got {α : Type} (o : Option α) (d : α) : α := o.getD d

/-- The entry that has a moment. -/
def F.ent (m : Int) (k : Nat) : List Ent → Option (Nat × Int)
  | [] => none
  | e :: l => bif F.lt m e.milli then some (k, m) else F.ent (IntKind.i64.wrap (m - e.milli)) (k + 1) l

def F.entI (o : Option (Nat × Int)) (n : Nat) : Int := bif F.found o then ((F.got o (0, 0)).1 : Int) else (n : Int)

def F.entP (o : Option (Nat × Int)) : Int := bif F.found o then (F.got o (0, 0)).2 else 0

def F.startM (l : Lst) (back : Int) : Int := IntKind.i64.wrap (F.lenF 0 l.entries - back)

def F.startI (l : Lst) (back : Int) : Int := bif l.ended || F.lt (F.startM l back) 0 then 0 else bif back == 0 then IntKind.i64.wrap (l.entries.length - 1) else F.entI (F.ent (F.startM l back) 0 l.entries) l.entries.length

def F.startP (l : Lst) (back : Int) : Int := bif l.ended || F.lt (F.startM l back) 0 then 0 else bif back == 0 then (l.entries.getD (l.entries.length - 1) default).milli else F.entP (F.ent (F.startM l back) 0 l.entries)

def F.start (l : Lst) (back : Int) : Int × Int × Int := bif F.out back 0 1000000000000000 then (0, 0, 1) else bif l.entries.isEmpty then (0, 0, 9) else (F.startI l back, F.startP l back, 0)

def F.cliF (c : Cli) (back : Int) : Int := bif F.out c.next 0 1000000000000000 || F.out c.lost 0 1000000000000000 || F.out back 0 1000000000000000 then 1 else bif F.lt 2000 c.queue.length then 2 else 0

theorem F.isE {α : Type} (l : List α) : (((l.length : Nat) : Int) == 0) = l.isEmpty := by
  cases l with
  | nil => rfl
  | cons y l => simp; omega

/-- Milliseconds, without bounds. -/
def F.sumM : List Ent → Int
  | [] => 0
  | e :: l => e.milli + F.sumM l

theorem F.lenF_eq : ∀ (l : List Ent) (a : Int), (∀ e ∈ l, 1 ≤ e.milli ∧ e.milli ≤ 3600000) → 0 ≤ a → a + l.length * 3600000 ≤ 4611686018427387904 → F.lenF a l = a + F.sumM l ∧ 0 ≤ F.sumM l ∧ F.sumM l ≤ l.length * 3600000
  | [], a, _, _, _ => by simp [F.lenF, F.sumM]
  | e :: l, a, h, h1, h2 => by
    have he := h e (by simp)
    simp only [List.length_cons] at h2 ⊢
    have hw : IntKind.i64.wrap (a + e.milli) = a + e.milli := M.wrap_id (by omega) (by omega)
    have ih := F.lenF_eq l (a + e.milli) (fun y hy => h y (by simp [hy])) (by omega) (by omega)
    have e1 : F.lenF a (e :: l) = F.lenF (a + e.milli) l := by
      show F.lenF (IntKind.i64.wrap (a + e.milli)) l = _
      rw [hw]
    rw [e1, ih.1]
    simp only [F.sumM]
    omega

theorem F.ent_some : ∀ (l : List Ent) (m : Int) (k : Nat), (∀ e ∈ l, 1 ≤ e.milli ∧ e.milli ≤ 3600000) → 0 ≤ m → m < F.sumM l → m ≤ 4611686018427387904 → F.found (F.ent m k l) = true
  | [], m, k, _, h1, h2, _ => by simp only [F.sumM] at h2; omega
  | e :: l, m, k, h, h1, h2, h3 => by
    have he := h e (by simp)
    simp only [F.sumM] at h2
    simp only [F.ent]
    cases hl : F.lt m e.milli
    · simp only [F.lt, decide_eq_false_iff_not] at hl
      have hw : IntKind.i64.wrap (m - e.milli) = m - e.milli := M.wrap_id (by omega) (by omega)
      rw [hw]
      exact F.ent_some l _ _ (fun y hy => h y (by simp [hy])) (by omega) (by omega) (by omega)
    · rfl

theorem F.start_found {l : Lst} {back : Int} (hc : F.check l = 0) (hb : F.out back 0 1000000000000000 = false) (h0 : (back == 0) = false) (hm : F.lt (F.startM l back) 0 = false) : F.found (F.ent (F.startM l back) 0 l.entries) = true := by
  obtain ⟨h1, h2, _⟩ := F.check_ok hc
  have hml : ∀ e ∈ l.entries, 1 ≤ e.milli ∧ e.milli ≤ 3600000 := fun e he => (F.entry_ok (h2 e he)).1
  obtain ⟨e1, e2, e3⟩ := F.lenF_eq l.entries 0 hml (by omega) (by omega)
  simp only [F.out, Bool.or_eq_false_iff, decide_eq_false_iff_not] at hb
  have h0 : back ≠ 0 := by simpa using h0
  have hw : F.startM l back = F.sumM l.entries - back := by
    unfold F.startM
    rw [e1, Int.zero_add]
    exact M.wrap_id (by omega) (by omega)
  simp only [F.lt, decide_eq_false_iff_not] at hm
  rw [hw] at hm ⊢
  exact F.ent_some _ _ _ hml (by omega) (by omega) (by omega)

namespace M


theorem drop_at {α : Type} {xs : List α} {k : Nat} {y : α} (h : xs[k]? = some y) : xs.drop k = y :: xs.drop (k + 1) := by
  have hlt := lt_at h
  rw [List.drop_eq_getElem_cons hlt]
  congr 1
  exact (List.getElem?_eq_some_iff.1 h).2

def stEnA (l : Lst) (m : Int) (k : Nat) : St := ⟨[(11, vI k), (10, vI l.entries.length), (9, .sl (l.entries.map eEnt)), (2, .ptr 2 0 0), (1, vI m)], [(2, ⟨true, 0, 0, [eLst l]⟩)]⟩

def stEnA1 (a : Lst × Int × Nat) : St := stEnA a.1 a.2.1 a.2.2

theorem stEnA_inj (a a' : Lst × Int × Nat) (h : stEnA1 a = stEnA1 a') : a = a' := by
  simp only [stEnA1, stEnA] at h
  try simp [strs_inj, ents_inj, eEnt_iff, eLst_iff, ints_inj, eTrn_iff, itms_inj, eCli_iff] at h
  grind

theorem unstEnA (l : Lst) (m : Int) (k : Nat) : unenc stEnA1 (St.mk [(11, (vI (↑k : Int))), (10, (vI (↑(List.length l.entries) : Int))), (9, AV.sl (List.map eEnt l.entries)), (2, .ptr 2 0 0), (1, (vI m))] [(2, Blk.mk true 0 0 [[(vI
  l.target), (vI l.first), (vI l.breaks), AV.sl (List.map eEnt l.entries), (vB l.ended)]])]) = some (l, m, k) := unenc_of stEnA_inj (l, m, k) rfl

theorem unstEnA0 (l : Lst) (m : Int) : unenc stEnA1 (St.mk [(11, (vI (0 : Int))), (10, (vI (↑(List.length l.entries) : Int))), (9, AV.sl (List.map eEnt l.entries)), (2, .ptr 2 0 0), (1, (vI m))] [(2, Blk.mk true 0 0 [[(vI
  l.target), (vI l.first), (vI l.breaks), AV.sl (List.map eEnt l.entries), (vB l.ended)]])]) = some (l, m, 0) := unenc_of stEnA_inj (l, m, 0) rfl

def outEnA (l : Lst) (m : Int) (k : Nat) : T (Ex × St) := .ifB (F.found (F.ent m k (l.entries.drop k))) (.ret (.ret, ⟨[(5, vI (F.got (F.ent m k (l.entries.drop k)) (0, 0)).2), (4, vI (F.got (F.ent m k (l.entries.drop k)) (0, 0)).1)], []⟩)) (.ret (.exit 0, ⟨[(2, .ptr 2 0 0)], [(2, ⟨true, 0, 0, [eLst l]⟩)]⟩))

noncomputable def prlEnA (l : Lst) (m : Int) (k : Nat) : Bool := decide (l.entries.length ≤ 9223372036854775807) && decide (k ≤ l.entries.length)

noncomputable def lpEnA : Nat × (St → T (Ex × St)) := (2, lpo [11, 10, 9, 2, 1] [2] stEnA1 (fun a => prlEnA a.1 a.2.1 a.2.2) fun a => outEnA a.1 a.2.1 a.2.2)

noncomputable def enEnA : Env := envH ty noG lks [] [] [] [lpEnA]

theorem enEnA_ok : EnvOK Try.prog enEnA := by
  refine envH_ok lks_ok ty_ok ?_ ?_
  · simp
  · simp

theorem evEnAL (l : Lst) (m : Int) (k : Nat) : ((exec enEnA (loopN Try.f37 0) (stEnA l m k)).bind (lessX ([11, 10, 9, 2, 1], [2]) ([2], [2]) ([5, 4], []))).val =
  bif decide ((↑k : Int) < (↑(List.length l.entries) : Int)) then Option.bind (unenc (List.map eEnt) (List.map eEnt l.entries)) fun (z : List Ent) => bif decide (k <
  List.length z) then bif decide (m < (List.getD z k (Ent.mk (ByteArray.mk (Array.mk [])) (0 : Int) false (0 : Int) (ByteArray.mk (Array.mk [])) false [])).milli) then some
  (Ex.ret, St.mk [(5, (vI m)), (4, (vI (↑k : Int)))] []) else some (Ex.normal, St.mk [(11, (vI (IntKind.wrap IntKind.i64 ((↑k : Int) + (1 : Int))))), (10, (vI (↑(List.length
  l.entries) : Int))), (9, AV.sl (List.map eEnt l.entries)), (2, .ptr 2 0 0), (1, (vI (IntKind.wrap IntKind.i64 (m - (List.getD z k (Ent.mk (ByteArray.mk (Array.mk [])) (0 :
  Int) false (0 : Int) (ByteArray.mk (Array.mk [])) false [])).milli))))] [(2, Blk.mk true 0 0 [[(vI l.target), (vI l.first), (vI l.breaks), AV.sl (List.map eEnt l.entries),
  (vB l.ended)]])]) else none else some (Ex.exit (0 : Nat), St.mk [(2, .ptr 2 0 0)] [(2, Blk.mk true 0 0 [[(vI l.target), (vI l.first), (vI l.breaks), AV.sl (List.map eEnt
  l.entries), (vB l.ended)]])]) := by kernel_rfl

theorem lpEnA_ok (l : Lst) (m : Int) (k : Nat) (hp : prlEnA l m k = true) : ∀ ex s', (outEnA l m k).val = some (ex, s') → LoopOK enEnA (loopN Try.f37 0) (stEnA l m k) ex s' := by
  simp only [prlEnA, Bool.and_eq_true, decide_eq_true_eq] at hp
  refine loop_gen (st := fun a : Int × Nat => stEnA l a.1 a.2) (out := fun a => outEnA l a.1 a.2) (I := fun a => a.2 ≤ l.entries.length) (n := ([11, 10, 9, 2, 1], [2])) (e := ([2], [2])) (r := ([5, 4], [])) (fun a => l.entries.length - a.2) ?_ (m, k) hp.2
  rintro ⟨m, k⟩ hk
  simp only at hk
  by_cases hlt : k < l.entries.length
  · have hy : l.entries[k]? = some l.entries[k] := List.getElem?_eq_getElem hlt
    generalize l.entries[k] = y at hy
    have hd := drop_at hy
    cases hm : F.lt m y.milli
    · right
      refine ⟨(IntKind.i64.wrap (m - y.milli), k + 1), ?_, rfl, by simp only; omega, by simp only; omega, ?_⟩
      · simp only [F.lt] at hm
        rw [evEnAL]
        simp only [unstEnA, unstEnA0, prlEnA, outEnA, etaEnt, etaLst, Option.bind_some, List.length_map, unStrs, unInts, unBools, unEnts, unItms, unTrns, cond_true, cond_false, Bool.and_true, Bool.true_and, cast_lt hlt, decide_eq_true hlt, next_at hlt hp.1, getD_at hy, stEnA, eEnt, eLst, hm]
      · simp only [outEnA, hd, F.ent, hm, cond_false]
    · left
      refine ⟨(.ret, ⟨[(5, vI m), (4, vI k)], []⟩), ?_, ?_, by simp, rfl⟩
      · simp only [F.lt] at hm
        rw [evEnAL]
        simp only [unstEnA, unstEnA0, prlEnA, outEnA, etaEnt, etaLst, Option.bind_some, List.length_map, unStrs, unInts, unBools, unEnts, unItms, unTrns, cond_true, cond_false, Bool.and_true, Bool.true_and, cast_lt hlt, decide_eq_true hlt, next_at hlt hp.1, getD_at hy, stEnA, eEnt, eLst, hm]
      · simp only [outEnA, hd, F.ent, hm, cond_true, F.found, F.got]
        rfl
  · have : k = l.entries.length := by omega
    subst this
    left
    refine ⟨(.exit 0, ⟨[(2, .ptr 2 0 0)], [(2, ⟨true, 0, 0, [eLst l]⟩)]⟩), ?_, ?_, by simp, rfl⟩
    · rw [evEnAL]; simp [eLst]
    · simp [outEnA, F.ent, F.found, T.val]

theorem evEnA (l : Lst) (m : Int) : (runF enEnA false Try.f37 [.agg (eLst l), vI m]).val =
  Option.bind (unenc stEnA1 (St.mk [(11, (vI (0 : Int))), (10, (vI (↑(List.length (List.map eEnt l.entries)) : Int))), (9, AV.sl (List.map eEnt l.entries)), (2, .ptr 2 0 0),
  (1, (vI m))] [(2, Blk.mk true 0 0 [[(vI l.target), (vI l.first), (vI l.breaks), AV.sl (List.map eEnt l.entries), (vB l.ended)]])])) fun (z : Lst × Int × Nat) => bif decide
  (List.length z.fst.entries ≤ (9223372036854775807 : Nat)) && decide (z.snd.snd ≤ List.length z.fst.entries) && true then bif F.found (F.ent z.snd.fst z.snd.snd (List.drop
  z.snd.snd z.fst.entries)) then some (AV.tup [(vI (↑(F.got (F.ent z.snd.fst z.snd.snd (List.drop z.snd.snd z.fst.entries)) (0, (0 : Int))).fst : Int)), (vI (F.got (F.ent
  z.snd.fst z.snd.snd (List.drop z.snd.snd z.fst.entries)) (0, (0 : Int))).snd)], []) else some (AV.tup [(vI (↑(List.length (List.map eEnt z.fst.entries)) : Int)), (vI (0 :
  Int))], []) else none := by kernel_rfl

def encEnA1 (l : Lst) (m : Int) : List AV := [.agg (eLst l), vI m]

def encEnA (a : Lst × Int) : List AV := encEnA1 a.1 a.2

theorem encEnA_inj (a a' : Lst × Int) (h : encEnA a = encEnA a') : a = a' := by
  simp only [encEnA, encEnA1] at h
  try simp [strs_inj, ents_inj, eEnt_iff, eLst_iff, ints_inj, eTrn_iff, itms_inj, eCli_iff] at h
  grind

theorem unEnA (l : Lst) (m : Int) : unenc encEnA ([AV.agg [(vI l.target), (vI l.first), (vI l.breaks), AV.sl (List.map eEnt l.entries), (vB l.ended)], (vI m)]) = some (l, m) := unenc_of encEnA_inj (l, m) rfl

theorem unEnAw (l_target : Int) (l_first : Int) (l_breaks : Int) (l_entries : List Ent) (l_ended : Bool) (m : Int) : unenc encEnA ([AV.agg [(vI l_target), (vI l_first), (vI l_breaks), AV.sl (List.map eEnt l_entries), (vB l_ended)], (vI m)]) = some ((Lst.mk l_target l_first l_breaks l_entries l_ended), m) := unenc_of encEnA_inj ((Lst.mk l_target l_first l_breaks l_entries l_ended), m) rfl

def resEnA1 (l : Lst) (m : Int) : AV × Heap := (.tup [vI (F.entI (F.ent m 0 l.entries) l.entries.length), vI (F.entP (F.ent m 0 l.entries))], [])

def preEnA1 (l : Lst) (m : Int) : Bool := true

noncomputable def oEnA : Orc := orc 37 true encEnA (fun a => preEnA1 a.1 a.2) fun a => resEnA1 a.1 a.2

theorem okEnA : OrcOK Try.prog noG oEnA := by
  refine mk_ok Try.f37 (keep := false) (by kernel_rfl) (by kernel_rfl) enEnA_ok mixed (one_loop (x0 := loopN Try.f37 0) (by kernel_rfl) (lpo_ok ?_)) (by first | exact fun _ _ => ⟨rfl, rfl⟩ | (intro h; cases h)) ?_
  · rintro ⟨l, m, k⟩ hp
    exact lpEnA_ok l m k hp
  rintro ⟨l, m⟩ hpre hok
  show (runF enEnA false _ (encEnA1 _ _)).val = some (resEnA1 _ _)
  unfold encEnA1 resEnA1
  rw [evEnA]
  have hx := lst_len (hok _ (List.mem_cons_self ..))
  simp only [unstEnA, unstEnA0, prlEnA, outEnA, etaEnt, etaLst, Option.bind_some, List.length_map, unStrs, unInts, unBools, unEnts, unItms, unTrns, cond_true, cond_false, Bool.and_true, Bool.true_and, hx, List.drop_zero, Nat.zero_le, decide_true, F.entI, F.entP]
  cases F.found (F.ent m 0 l.entries) <;> rfl

noncomputable def enStA : Env := envH ty noG lks [oOut, oLen, oEnA] [] [] []

theorem enStA_ok : EnvOK Try.prog enStA := by
  refine envH_ok lks_ok ty_ok ?_ ?_
  · simp only [List.forall_mem_cons]
    exact ⟨okOut, okLen, okEnA, by simp⟩
  · simp

theorem evStA (l : Lst) (b : Int) : (runF enStA false Try.f41 [.agg (eLst l), vI b]).val =
  Option.bind (unenc encOut [(vI b), (vI (0 : Int)), (vI (1000000000000000 : Int))]) fun (z : Int × Int × Int) => bif F.out z.fst z.snd.fst z.snd.snd then some (AV.tup [(vI
  (0 : Int)), (vI (0 : Int)), (vI (1 : Int))], []) else bif (↑(List.length (List.map eEnt l.entries)) : Int) == (0 : Int) then some (AV.tup [(vI (0 : Int)), (vI (0 : Int)),
  (vI (9 : Int))], []) else Option.bind (unenc encLen [AV.agg [(vI l.target), (vI l.first), (vI l.breaks), AV.sl (List.map eEnt l.entries), (vB l.ended)]]) fun (z : Lst) =>
  bif bif l.ended then true else decide (IntKind.wrap IntKind.i64 (F.lenF (0 : Int) z.entries - b) < (0 : Int)) then some (AV.tup [(vI (0 : Int)), (vI (0 : Int)), (vI (0 :
  Int))], []) else bif b == (0 : Int) then Option.bind (idx (IntKind.wrap IntKind.i64 ((↑(List.length (List.map eEnt l.entries)) : Int) - (1 : Int)))) fun (z : Nat) =>
  Option.bind (unenc (List.map eEnt) (List.map eEnt l.entries)) fun (z_1 : List Ent) => bif decide (z < List.length z_1) then some (AV.tup [(vI (IntKind.wrap IntKind.i64
  ((↑(List.length (List.map eEnt l.entries)) : Int) - (1 : Int)))), (vI (List.getD z_1 z (Ent.mk (ByteArray.mk (Array.mk [])) (0 : Int) false (0 : Int) (ByteArray.mk
  (Array.mk [])) false [])).milli), (vI (0 : Int))], []) else none else Option.bind (unenc encEnA [AV.agg [(vI l.target), (vI l.first), (vI l.breaks), AV.sl (List.map eEnt
  l.entries), (vB l.ended)], (vI (IntKind.wrap IntKind.i64 (F.lenF (0 : Int) z.entries - b)))]) fun (z : Lst × Int) => some (AV.tup [(vI (F.entI (F.ent z.snd (0 : Nat)
  z.fst.entries) (List.length z.fst.entries))), (vI (F.entP (F.ent z.snd (0 : Nat) z.fst.entries))), (vI (0 : Int))], []) := by kernel_rfl

def encStA1 (l : Lst) (b : Int) : List AV := [.agg (eLst l), vI b]

def encStA (a : Lst × Int) : List AV := encStA1 a.1 a.2

theorem encStA_inj (a a' : Lst × Int) (h : encStA a = encStA a') : a = a' := by
  simp only [encStA, encStA1] at h
  try simp [strs_inj, ents_inj, eEnt_iff, eLst_iff, ints_inj, eTrn_iff, itms_inj, eCli_iff] at h
  grind

theorem unStA (l : Lst) (b : Int) : unenc encStA ([AV.agg [(vI l.target), (vI l.first), (vI l.breaks), AV.sl (List.map eEnt l.entries), (vB l.ended)], (vI b)]) = some (l, b) := unenc_of encStA_inj (l, b) rfl

theorem unStAw (l_target : Int) (l_first : Int) (l_breaks : Int) (l_entries : List Ent) (l_ended : Bool) (b : Int) : unenc encStA ([AV.agg [(vI l_target), (vI l_first), (vI l_breaks), AV.sl (List.map eEnt l_entries), (vB l_ended)], (vI b)]) = some ((Lst.mk l_target l_first l_breaks l_entries l_ended), b) := unenc_of encStA_inj ((Lst.mk l_target l_first l_breaks l_entries l_ended), b) rfl

def resStA1 (l : Lst) (b : Int) : AV × Heap := (.tup [vI (F.start l b).1, vI (F.start l b).2.1, vI (F.start l b).2.2], [])

def preStA1 (l : Lst) (b : Int) : Bool := true

noncomputable def oStA : Orc := orc 41 true encStA (fun a => preStA1 a.1 a.2) fun a => resStA1 a.1 a.2

theorem okStA : OrcOK Try.prog noG oStA := by
  refine mk_ok Try.f41 (keep := false) (by kernel_rfl) (by kernel_rfl) enStA_ok mixed (no_loops (by kernel_rfl)) (by first | exact fun _ _ => ⟨rfl, rfl⟩ | (intro h; cases h)) ?_
  rintro ⟨l, b⟩ hpre hok
  show (runF enStA false _ (encStA1 _ _)).val = some (resStA1 _ _)
  unfold encStA1 resStA1
  rw [evStA]
  have hx : l.entries.length ≤ 9223372036854775807 := lst_len (hok _ (List.mem_cons_self ..))
  simp only [unOut, unLen, unEnA, unLenw, unEnAw, preOut1, preLen1, preEnA1, etaEnt, etaLst, Option.bind_some, List.length_map, unStrs, unInts, unBools, unEnts, unItms, unTrns, cond_true, cond_false, Bool.and_true, Bool.true_and, F.start, F.startI, F.startP, F.startM, F.lt, F.isE]
  cases F.out b 0 1000000000000000
  · rcases Bool.eq_false_or_eq_true l.entries.isEmpty with h0 | h0
    · simp only [h0, cond_false, cond_true]
    · have hn : 0 < l.entries.length := by cases hh : l.entries <;> simp_all
      have hj : idx (IntKind.i64.wrap ((l.entries.length : Int) - 1)) = some (l.entries.length - 1) := by
        rw [wrap_id (by omega) (by omega), show (l.entries.length : Int) - 1 = ((l.entries.length - 1 : Nat) : Int) by omega]; rfl
      have hd : decide (l.entries.length - 1 < l.entries.length) = true := decide_eq_true (by omega)
      simp only [h0, cond_false, hj, hd, cond_true, Option.bind_some]
      by_cases hm : IntKind.i64.wrap (F.lenF 0 l.entries - b) < 0 <;> simp only [hm, decide_true, decide_false] <;> cases l.ended <;> cases (b == 0) <;> rfl
  · rfl

def stPlc (l : Lst) (m : Int) (k : Nat) : St := ⟨[(6, vI k), (2, .ptr 2 0 0), (1, vI m)], [(2, ⟨true, 0, 0, [eLst l]⟩)]⟩

def stPlc1 (a : Lst × Int × Nat) : St := stPlc a.1 a.2.1 a.2.2

theorem stPlc_inj (a a' : Lst × Int × Nat) (h : stPlc1 a = stPlc1 a') : a = a' := by
  simp only [stPlc1, stPlc] at h
  try simp [strs_inj, ents_inj, eEnt_iff, eLst_iff, ints_inj, eTrn_iff, itms_inj, eCli_iff] at h
  grind

theorem unstPlc (l : Lst) (m : Int) (k : Nat) : unenc stPlc1 (St.mk [(6, (vI (↑k : Int))), (2, .ptr 2 0 0), (1, (vI m))] [(2, Blk.mk true 0 0 [[(vI l.target), (vI l.first), (vI l.breaks), AV.sl (List.map eEnt l.entries), (vB
  l.ended)]])]) = some (l, m, k) := unenc_of stPlc_inj (l, m, k) rfl

theorem unstPlc0 (l : Lst) (m : Int) : unenc stPlc1 (St.mk [(6, (vI (0 : Int))), (2, .ptr 2 0 0), (1, (vI m))] [(2, Blk.mk true 0 0 [[(vI l.target), (vI l.first), (vI l.breaks), AV.sl (List.map eEnt l.entries), (vB
  l.ended)]])]) = some (l, m, 0) := unenc_of stPlc_inj (l, m, 0) rfl

def outPlc (l : Lst) (m : Int) (k : Nat) : T (Ex × St) := .ret (.exit 0, ⟨[(6, vI (F.got (F.ent m k (l.entries.drop k)) (0, 0)).1), (1, vI (F.got (F.ent m k (l.entries.drop k)) (0, 0)).2)], []⟩)

noncomputable def prlPlc (l : Lst) (m : Int) (k : Nat) : Bool := decide (l.entries.length ≤ 9223372036854775807) && F.found (F.ent m k (l.entries.drop k))

noncomputable def lpPlc : Nat × (St → T (Ex × St)) := (2, lpo [6, 2, 1] [2] stPlc1 (fun a => prlPlc a.1 a.2.1 a.2.2) fun a => outPlc a.1 a.2.1 a.2.2)

noncomputable def enPlc : Env := envH ty noG lks [] [] [] [lpPlc]

theorem enPlc_ok : EnvOK Try.prog enPlc := by
  refine envH_ok lks_ok ty_ok ?_ ?_
  · simp
  · simp

theorem evPlcL (l : Lst) (m : Int) (k : Nat) : ((exec enPlc (loopN Try.f40 0) (stPlc l m k)).bind (lessX ([6, 2, 1], [2]) ([6, 1], []) ([], []))).val =
  Option.bind (unenc (List.map eEnt) (List.map eEnt l.entries)) fun (z : List Ent) => bif decide (k < List.length z) then bif decide ((List.getD z k (Ent.mk (ByteArray.mk
  (Array.mk [])) (0 : Int) false (0 : Int) (ByteArray.mk (Array.mk [])) false [])).milli ≤ m) then Option.bind (unenc (List.map eEnt) (List.map eEnt l.entries)) fun (z :
  List Ent) => bif decide (k < List.length z) then some (Ex.normal, St.mk [(6, (vI (IntKind.wrap IntKind.i64 ((↑k : Int) + (1 : Int))))), (2, .ptr 2 0 0), (1, (vI
  (IntKind.wrap IntKind.i64 (m - (List.getD z k (Ent.mk (ByteArray.mk (Array.mk [])) (0 : Int) false (0 : Int) (ByteArray.mk (Array.mk [])) false [])).milli))))] [(2, Blk.mk
  true 0 0 [[(vI l.target), (vI l.first), (vI l.breaks), AV.sl (List.map eEnt l.entries), (vB l.ended)]])]) else none else some (Ex.exit (0 : Nat), St.mk [(6, (vI (↑k :
  Int))), (1, (vI m))] []) else none := by kernel_rfl

theorem lpPlc_ok (l : Lst) (m : Int) (k : Nat) (hp : prlPlc l m k = true) : ∀ ex s', (outPlc l m k).val = some (ex, s') → LoopOK enPlc (loopN Try.f40 0) (stPlc l m k) ex s' := by
  simp only [prlPlc, Bool.and_eq_true, decide_eq_true_eq] at hp
  refine loop_gen (st := fun a : Int × Nat => stPlc l a.1 a.2) (out := fun a => outPlc l a.1 a.2) (I := fun a => F.found (F.ent a.1 a.2 (l.entries.drop a.2)) = true) (n := ([6, 2, 1], [2])) (e := ([6, 1], [])) (r := ([], [])) (fun a => l.entries.length - a.2) ?_ (m, k) hp.2
  rintro ⟨m, k⟩ hk
  simp only at hk
  by_cases hlt : k < l.entries.length
  · have hy : l.entries[k]? = some l.entries[k] := List.getElem?_eq_getElem hlt
    generalize l.entries[k] = y at hy
    have hd := drop_at hy
    rw [hd] at hk
    simp only [F.ent] at hk
    by_cases hm : m < y.milli
    · left
      have hm' : F.lt m y.milli = true := decide_eq_true hm
      have hg : decide (y.milli ≤ m) = false := decide_eq_false (by omega)
      refine ⟨(.exit 0, ⟨[(6, vI k), (1, vI m)], []⟩), ?_, ?_, by simp, rfl⟩
      · rw [evPlcL]
        simp only [unstPlc, unstPlc0, prlPlc, outPlc, etaEnt, etaLst, Option.bind_some, List.length_map, unStrs, unInts, unBools, unEnts, unItms, unTrns, cond_true, cond_false, Bool.and_true, Bool.true_and, decide_eq_true hlt, next_at hlt hp.1, getD_at hy, stPlc, eEnt, eLst, hg, idx]
      · simp only [outPlc, hd, F.ent, hm', cond_true, F.got]
        rfl
    · right
      have hm' : F.lt m y.milli = false := decide_eq_false hm
      have hg : decide (y.milli ≤ m) = true := decide_eq_true (by omega)
      rw [hm'] at hk
      refine ⟨(IntKind.i64.wrap (m - y.milli), k + 1), ?_, rfl, hk, by simp only; omega, ?_⟩
      · rw [evPlcL]
        simp only [unstPlc, unstPlc0, prlPlc, outPlc, etaEnt, etaLst, Option.bind_some, List.length_map, unStrs, unInts, unBools, unEnts, unItms, unTrns, cond_true, cond_false, Bool.and_true, Bool.true_and, decide_eq_true hlt, next_at hlt hp.1, getD_at hy, stPlc, eEnt, eLst, hg, idx]
      · simp only [outPlc, hd, F.ent, hm', cond_false]
  · rw [List.drop_eq_nil_of_le (by omega)] at hk
    simp [F.ent, F.found] at hk

theorem evPlc (l : Lst) (m : Int) : (runF enPlc false Try.f40 [.agg (eLst l), vI m]).val =
  Option.bind (unenc stPlc1 (St.mk [(6, (vI (0 : Int))), (2, .ptr 2 0 0), (1, (vI m))] [(2, Blk.mk true 0 0 [[(vI l.target), (vI l.first), (vI l.breaks), AV.sl (List.map
  eEnt l.entries), (vB l.ended)]])])) fun (z : Lst × Int × Nat) => bif decide (List.length z.fst.entries ≤ (9223372036854775807 : Nat)) && F.found (F.ent z.snd.fst z.snd.snd
  (List.drop z.snd.snd z.fst.entries)) && true then some (AV.tup [(vI (↑(F.got (F.ent z.snd.fst z.snd.snd (List.drop z.snd.snd z.fst.entries)) (0, (0 : Int))).fst : Int)),
  (vI (F.got (F.ent z.snd.fst z.snd.snd (List.drop z.snd.snd z.fst.entries)) (0, (0 : Int))).snd)], []) else none := by kernel_rfl

def encPlc1 (l : Lst) (m : Int) : List AV := [.agg (eLst l), vI m]

def encPlc (a : Lst × Int) : List AV := encPlc1 a.1 a.2

theorem encPlc_inj (a a' : Lst × Int) (h : encPlc a = encPlc a') : a = a' := by
  simp only [encPlc, encPlc1] at h
  try simp [strs_inj, ents_inj, eEnt_iff, eLst_iff, ints_inj, eTrn_iff, itms_inj, eCli_iff] at h
  grind

theorem unPlc (l : Lst) (m : Int) : unenc encPlc ([AV.agg [(vI l.target), (vI l.first), (vI l.breaks), AV.sl (List.map eEnt l.entries), (vB l.ended)], (vI m)]) = some (l, m) := unenc_of encPlc_inj (l, m) rfl

theorem unPlcw (l_target : Int) (l_first : Int) (l_breaks : Int) (l_entries : List Ent) (l_ended : Bool) (m : Int) : unenc encPlc ([AV.agg [(vI l_target), (vI l_first), (vI l_breaks), AV.sl (List.map eEnt l_entries), (vB l_ended)], (vI m)]) = some ((Lst.mk l_target l_first l_breaks l_entries l_ended), m) := unenc_of encPlc_inj ((Lst.mk l_target l_first l_breaks l_entries l_ended), m) rfl

def resPlc1 (l : Lst) (m : Int) : AV × Heap := (.tup [vI (F.entI (F.ent m 0 l.entries) l.entries.length), vI (F.entP (F.ent m 0 l.entries))], [])

def prePlc1 (l : Lst) (m : Int) : Bool := F.found (F.ent m 0 l.entries)

noncomputable def oPlc : Orc := orc 40 true encPlc (fun a => prePlc1 a.1 a.2) fun a => resPlc1 a.1 a.2

theorem okPlc : OrcOK Try.prog noG oPlc := by
  refine mk_ok Try.f40 (keep := false) (by kernel_rfl) (by kernel_rfl) enPlc_ok mixed (one_loop (x0 := loopN Try.f40 0) (by kernel_rfl) (lpo_ok ?_)) (by first | exact fun _ _ => ⟨rfl, rfl⟩ | (intro h; cases h)) ?_
  · rintro ⟨l, m, k⟩ hp
    exact lpPlc_ok l m k hp
  rintro ⟨l, m⟩ hpre hok
  show (runF enPlc false _ (encPlc1 _ _)).val = some (resPlc1 _ _)
  unfold encPlc1 resPlc1
  rw [evPlc]
  simp only [prePlc1] at hpre
  have hx := lst_len (hok _ (List.mem_cons_self ..))
  simp only [unstPlc, unstPlc0, prlPlc, outPlc, etaEnt, etaLst, Option.bind_some, List.length_map, unStrs, unInts, unBools, unEnts, unItms, unTrns, cond_true, cond_false, Bool.and_true, Bool.true_and, hx, List.drop_zero, Nat.zero_le, decide_true, F.entI, F.entP, hpre]

noncomputable def enRSt : Env := envH ty noG lks [oRLen, oPlc] [] [] []

theorem enRSt_ok : EnvOK Try.prog enRSt := by
  refine envH_ok lks_ok ty_ok ?_ ?_
  · simp only [List.forall_mem_cons]
    exact ⟨okRLen, okPlc, by simp⟩
  · simp

theorem evRSt (l : Lst) (b : Int) : (runF enRSt false Try.f43 [.agg (eLst l), vI b]).val =
  Option.bind (unenc encRLen [AV.agg [(vI l.target), (vI l.first), (vI l.breaks), AV.sl (List.map eEnt l.entries), (vB l.ended)]]) fun (z : Lst) => bif bif l.ended then true
  else decide (IntKind.wrap IntKind.i64 (F.lenF (0 : Int) z.entries - b) < (0 : Int)) then some (AV.tup [(vI (0 : Int)), (vI (0 : Int))], []) else bif b == (0 : Int) then
  Option.bind (idx (IntKind.wrap IntKind.i64 ((↑(List.length (List.map eEnt l.entries)) : Int) - (1 : Int)))) fun (z : Nat) => Option.bind (unenc (List.map eEnt) (List.map
  eEnt l.entries)) fun (z_1 : List Ent) => bif decide (z < List.length z_1) then some (AV.tup [(vI (IntKind.wrap IntKind.i64 ((↑(List.length (List.map eEnt l.entries)) :
  Int) - (1 : Int)))), (vI (List.getD z_1 z (Ent.mk (ByteArray.mk (Array.mk [])) (0 : Int) false (0 : Int) (ByteArray.mk (Array.mk [])) false [])).milli)], []) else none
  else Option.bind (unenc encPlc [AV.agg [(vI l.target), (vI l.first), (vI l.breaks), AV.sl (List.map eEnt l.entries), (vB l.ended)], (vI (IntKind.wrap IntKind.i64 (F.lenF
  (0 : Int) z.entries - b)))]) fun (z : Lst × Int) => bif F.found (F.ent z.snd (0 : Nat) z.fst.entries) then some (AV.tup [(vI (F.entI (F.ent z.snd (0 : Nat) z.fst.entries)
  (List.length z.fst.entries))), (vI (F.entP (F.ent z.snd (0 : Nat) z.fst.entries)))], []) else none := by kernel_rfl

def encRSt1 (l : Lst) (b : Int) : List AV := [.agg (eLst l), vI b]

def encRSt (a : Lst × Int) : List AV := encRSt1 a.1 a.2

theorem encRSt_inj (a a' : Lst × Int) (h : encRSt a = encRSt a') : a = a' := by
  simp only [encRSt, encRSt1] at h
  try simp [strs_inj, ents_inj, eEnt_iff, eLst_iff, ints_inj, eTrn_iff, itms_inj, eCli_iff] at h
  grind

theorem unRSt (l : Lst) (b : Int) : unenc encRSt ([AV.agg [(vI l.target), (vI l.first), (vI l.breaks), AV.sl (List.map eEnt l.entries), (vB l.ended)], (vI b)]) = some (l, b) := unenc_of encRSt_inj (l, b) rfl

theorem unRStw (l_target : Int) (l_first : Int) (l_breaks : Int) (l_entries : List Ent) (l_ended : Bool) (b : Int) : unenc encRSt ([AV.agg [(vI l_target), (vI l_first), (vI l_breaks), AV.sl (List.map eEnt l_entries), (vB l_ended)], (vI b)]) = some ((Lst.mk l_target l_first l_breaks l_entries l_ended), b) := unenc_of encRSt_inj ((Lst.mk l_target l_first l_breaks l_entries l_ended), b) rfl

def resRSt1 (l : Lst) (b : Int) : AV × Heap := (.tup [vI (F.startI l b), vI (F.startP l b)], [])

def preRSt1 (l : Lst) (b : Int) : Bool := decide (F.check l = 0) && !F.out b 0 1000000000000000 && decide (0 < l.entries.length)

noncomputable def oRSt : Orc := orc 43 true encRSt (fun a => preRSt1 a.1 a.2) fun a => resRSt1 a.1 a.2

theorem okRSt : OrcOK Try.prog noG oRSt := by
  refine mk_ok Try.f43 (keep := false) (by kernel_rfl) (by kernel_rfl) enRSt_ok mixed (no_loops (by kernel_rfl)) (by first | exact fun _ _ => ⟨rfl, rfl⟩ | (intro h; cases h)) ?_
  rintro ⟨l, b⟩ hpre hok
  show (runF enRSt false _ (encRSt1 _ _)).val = some (resRSt1 _ _)
  unfold encRSt1 resRSt1
  rw [evRSt]
  simp only [preRSt1, Bool.and_eq_true, decide_eq_true_eq, Bool.not_eq_true'] at hpre
  have hx : l.entries.length ≤ 9223372036854775807 := lst_len (hok _ (List.mem_cons_self ..))
  simp only [unRLen, unPlc, unRLenw, unPlcw, preRLen1, prePlc1, etaEnt, etaLst, Option.bind_some, List.length_map, unStrs, unInts, unBools, unEnts, unItms, unTrns, cond_true, cond_false, Bool.and_true, Bool.true_and, F.startI, F.startP, F.startM, F.lt]
  have hj : idx (IntKind.i64.wrap ((l.entries.length : Int) - 1)) = some (l.entries.length - 1) := by
    rw [wrap_id (by omega) (by omega), show (l.entries.length : Int) - 1 = ((l.entries.length - 1 : Nat) : Int) by omega]; rfl
  have hd : decide (l.entries.length - 1 < l.entries.length) = true := decide_eq_true (by omega)
  have hfd := F.start_found (l := l) (back := b) hpre.1.1 hpre.1.2
  simp only [F.lt, F.startM] at hfd
  simp only [hj, hd, cond_true, Option.bind_some]
  cases l.ended
  · by_cases hm : IntKind.i64.wrap (F.lenF 0 l.entries - b) < 0
    · simp only [hm, decide_true]
      rfl
    · rcases Bool.eq_false_or_eq_true (b == 0) with h0 | h0
      · simp only [hm, h0, decide_false, cond_true]
        rfl
      · have := hfd h0 (decide_eq_false hm)
        simp only [hm, h0, decide_false, cond_false, this]
        rfl
  · rfl

noncomputable def enClF : Env := envH ty noG lks [oOut] [] [] []

theorem enClF_ok : EnvOK Try.prog enClF := by
  refine envH_ok lks_ok ty_ok ?_ ?_
  · simp only [List.forall_mem_cons]
    exact ⟨okOut, by simp⟩
  · simp

theorem evClF (c : Cli) (b : Int) : (runF enClF false Try.f64 [.agg (eCli c), vI b]).val =
  Option.bind (unenc encOut [(vI c.next), (vI (0 : Int)), (vI (1000000000000000 : Int))]) fun (z : Int × Int × Int) => bif !F.out z.fst z.snd.fst z.snd.snd then Option.bind
  (unenc encOut [(vI c.lost), (vI (0 : Int)), (vI (1000000000000000 : Int))]) fun (z_1 : Int × Int × Int) => bif !bif F.out z.fst z.snd.fst z.snd.snd then true else F.out
  z_1.fst z_1.snd.fst z_1.snd.snd then Option.bind (unenc encOut [(vI b), (vI (0 : Int)), (vI (1000000000000000 : Int))]) fun (z_2 : Int × Int × Int) => bif bif bif F.out
  z.fst z.snd.fst z.snd.snd then true else F.out z_1.fst z_1.snd.fst z_1.snd.snd then true else F.out z_2.fst z_2.snd.fst z_2.snd.snd then some ((vI (1 : Int)), []) else bif
  decide ((2000 : Int) < (↑(List.length (List.map eItm c.queue)) : Int)) then some ((vI (2 : Int)), []) else some ((vI (0 : Int)), []) else some ((vI (1 : Int)), []) else
  some ((vI (1 : Int)), []) := by kernel_rfl

def encClF1 (c : Cli) (b : Int) : List AV := [.agg (eCli c), vI b]

def encClF (a : Cli × Int) : List AV := encClF1 a.1 a.2

theorem encClF_inj (a a' : Cli × Int) (h : encClF a = encClF a') : a = a' := by
  simp only [encClF, encClF1] at h
  try simp [strs_inj, ents_inj, eEnt_iff, eLst_iff, ints_inj, eTrn_iff, itms_inj, eCli_iff] at h
  grind

theorem unClF (c : Cli) (b : Int) : unenc encClF ([AV.agg [(vB c.begun), (vI c.next), (vI c.last.target), (vI c.last.first), (vI c.last.breaks), AV.sl (List.map eEnt c.last.entries), (vB c.last.ended), AV.sl (List.map
  eItm c.queue), (vI c.lost)], (vI b)]) = some (c, b) := unenc_of encClF_inj (c, b) rfl

def resClF1 (c : Cli) (b : Int) : AV × Heap := (vI (F.cliF c b), [])

def preClF1 (c : Cli) (b : Int) : Bool := true

noncomputable def oClF : Orc := orc 64 true encClF (fun a => preClF1 a.1 a.2) fun a => resClF1 a.1 a.2

theorem okClF : OrcOK Try.prog noG oClF := by
  refine mk_ok Try.f64 (keep := false) (by kernel_rfl) (by kernel_rfl) enClF_ok mixed (no_loops (by kernel_rfl)) (by first | exact fun _ _ => ⟨rfl, rfl⟩ | (intro h; cases h)) ?_
  rintro ⟨c, b⟩ hpre hok
  show (runF enClF false _ (encClF1 _ _)).val = some (resClF1 _ _)
  unfold encClF1 resClF1
  rw [evClF]
  simp only [unOut, preOut1, etaEnt, etaLst, Option.bind_some, List.length_map, unStrs, unInts, unBools, unEnts, unItms, unTrns, cond_true, cond_false, Bool.and_true, Bool.true_and, F.cliF, F.lt]
  cases F.out c.next 0 1000000000000000 <;> cases F.out c.lost 0 1000000000000000 <;> cases F.out b 0 1000000000000000 <;> cases decide (2000 < (c.queue.length : Int)) <;> rfl

noncomputable def enRCl : Env := envH ty noG lks [oWithin] [] [] []

theorem enRCl_ok : EnvOK Try.prog enRCl := by
  refine envH_ok lks_ok ty_ok ?_ ?_
  · simp only [List.forall_mem_cons]
    exact ⟨okWithin, by simp⟩
  · simp

theorem evRCl (c : Cli) (b : Int) : (runF enRCl false Try.f62 [.agg (eCli c), vI b]).val =
  Option.bind (unenc encWithin [(vI c.next), (vI (0 : Int)), (vI (1000000000000000 : Int))]) fun (z : Int × Int × Int) => bif !!F.within z.fst z.snd.fst z.snd.snd then
  Option.bind (unenc encWithin [(vI c.lost), (vI (0 : Int)), (vI (1000000000000000 : Int))]) fun (z_1 : Int × Int × Int) => bif !bif !F.within z.fst z.snd.fst z.snd.snd then
  true else !F.within z_1.fst z_1.snd.fst z_1.snd.snd then Option.bind (unenc encWithin [(vI b), (vI (0 : Int)), (vI (1000000000000000 : Int))]) fun (z_2 : Int × Int × Int)
  => bif bif bif !F.within z.fst z.snd.fst z.snd.snd then true else !F.within z_1.fst z_1.snd.fst z_1.snd.snd then true else !F.within z_2.fst z_2.snd.fst z_2.snd.snd then
  some ((vI (1 : Int)), []) else bif decide ((2000 : Int) < (↑(List.length (List.map eItm c.queue)) : Int)) then some ((vI (2 : Int)), []) else some ((vI (0 : Int)), [])
  else bif !bif !F.within z.fst z.snd.fst z.snd.snd then true else !F.within z_1.fst z_1.snd.fst z_1.snd.snd then none else some ((vI (1 : Int)), []) else bif !!F.within
  z.fst z.snd.fst z.snd.snd then none else some ((vI (1 : Int)), []) := by kernel_rfl

def encRCl1 (c : Cli) (b : Int) : List AV := [.agg (eCli c), vI b]

def encRCl (a : Cli × Int) : List AV := encRCl1 a.1 a.2

theorem encRCl_inj (a a' : Cli × Int) (h : encRCl a = encRCl a') : a = a' := by
  simp only [encRCl, encRCl1] at h
  try simp [strs_inj, ents_inj, eEnt_iff, eLst_iff, ints_inj, eTrn_iff, itms_inj, eCli_iff] at h
  grind

theorem unRCl (c : Cli) (b : Int) : unenc encRCl ([AV.agg [(vB c.begun), (vI c.next), (vI c.last.target), (vI c.last.first), (vI c.last.breaks), AV.sl (List.map eEnt c.last.entries), (vB c.last.ended), AV.sl (List.map
  eItm c.queue), (vI c.lost)], (vI b)]) = some (c, b) := unenc_of encRCl_inj (c, b) rfl

def resRCl1 (c : Cli) (b : Int) : AV × Heap := (vI (F.cliF c b), [])

def preRCl1 (c : Cli) (b : Int) : Bool := true

noncomputable def oRCl : Orc := orc 62 true encRCl (fun a => preRCl1 a.1 a.2) fun a => resRCl1 a.1 a.2

theorem okRCl : OrcOK Try.prog noG oRCl := by
  refine mk_ok Try.f62 (keep := false) (by kernel_rfl) (by kernel_rfl) enRCl_ok mixed (no_loops (by kernel_rfl)) (by first | exact fun _ _ => ⟨rfl, rfl⟩ | (intro h; cases h)) ?_
  rintro ⟨c, b⟩ hpre hok
  show (runF enRCl false _ (encRCl1 _ _)).val = some (resRCl1 _ _)
  unfold encRCl1 resRCl1
  rw [evRCl]
  simp only [unWithin, preWithin1, etaEnt, etaLst, Option.bind_some, List.length_map, unStrs, unInts, unBools, unEnts, unItms, unTrns, cond_true, cond_false, Bool.and_true, Bool.true_and, F.cliF, F.within_eq, F.lt]
  cases F.out c.next 0 1000000000000000 <;> cases F.out c.lost 0 1000000000000000 <;> cases F.out b 0 1000000000000000 <;> cases decide (2000 < (c.queue.length : Int)) <;> rfl

end M
end Go.Proofs.Ytkfhfjcgegimbaa
