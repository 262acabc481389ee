/- What is proved here: what headendref1.times and small return on limbs (no statement of the seat). -/
import Derived.Lib.ItoaLen
import Derived.Lib.ItoaNum
import Derived.Lib.AtoiErrMem
import Derived.Test.YtajmdlpanlbnjaaGreatDoorA3

namespace Go.Proofs.YtajmdlpanlbnjaaGreatDoor
open Go Go.RowKit
set_option linter.unusedVariables false
set_option linter.unusedSimpArgs false
set_option maxHeartbeats 1000000

namespace F

noncomputable def fwdB (es : List Ent) (xs : List Int) (k : Nat) : Bool := @decide (GoodD es ∧ FwdAt es xs k ∧ k ≤ es.length) (Classical.propDecidable _)

noncomputable def bwdB (es : List Ent) (xs : List Int) (z : Int) : Bool := @decide (GoodD es ∧ BwdAt es xs z ∧ -2 ≤ z ∧ z ≤ (es.length : Int) - 2) (Classical.propDecidable _)

theorem fwdB_iff {es : List Ent} {xs : List Int} {k : Nat} : fwdB es xs k = true ↔ GoodD es ∧ FwdAt es xs k ∧ k ≤ es.length := by
  unfold fwdB
  exact @decide_eq_true_iff _ (Classical.propDecidable _)

theorem bwdB_iff {es : List Ent} {xs : List Int} {z : Int} : bwdB es xs z = true ↔ GoodD es ∧ BwdAt es xs z ∧ -2 ≤ z ∧ z ≤ (es.length : Int) - 2 := by
  unfold bwdB
  exact @decide_eq_true_iff _ (Classical.propDecidable _)

def okF : Option Int → Bool
  | none => true
  | some x => decide (x ≤ 253402300799999)

def fOk (es : List Ent) : Bool := (forO es).all okF

def fOut (es : List Ent) : List Int := (forO es).map gd

def dOk (es : List Ent) : Bool := (datO es).all okD

theorem fOk_no {es : List Ent} {k : Nat} {x : Int} (h : (forO es)[k]? = some (some x)) (hx : ¬ x ≤ 253402300799999) : fOk es = false := by
  unfold fOk
  refine Bool.eq_false_iff.2 fun ha => ?_
  have := List.all_eq_true.1 ha _ (List.mem_of_getElem? h)
  simp only [okF, decide_eq_true_eq] at this
  exact hx this

theorem dOk_no {es : List Ent} {k : Nat} {x : Int} (h : (datO es)[k]? = some (some x)) (hx : x < 0) : dOk es = false := by
  unfold dOk
  refine Bool.eq_false_iff.2 fun ha => ?_
  have := List.all_eq_true.1 ha _ (List.mem_of_getElem? h)
  rw [okD_bad (.inl hx)] at this
  cases this

theorem FwdAt.done {es : List Ent} {xs : List Int} (h : FwdAt es xs es.length) : xs = fOut es ∧ fOk es = true := by
  refine ⟨?_, ?_⟩
  · apply List.ext_getElem?
    intro j
    unfold fOut
    rw [List.getElem?_map]
    cases hd : (forO es)[j]? with
    | none =>
      have : xs.length ≤ j := by rw [h.1, ← forO_len es]; exact List.getElem?_eq_none_iff.1 hd
      simp [List.getElem?_eq_none this]
    | some d => simp [(h.2 j d (by rw [← forO_len es]; exact (List.getElem?_eq_some_iff.1 hd).1) hd).1]
  · unfold fOk
    refine List.all_eq_true.2 fun d hd => ?_
    obtain ⟨j, hj⟩ := List.getElem?_of_mem hd
    have := (h.2 j d (by rw [← forO_len es]; exact (List.getElem?_eq_some_iff.1 hj).1) hj).2
    cases d with
    | none => rfl
    | some x => exact decide_eq_true (this x rfl)

theorem datesF_eq (es : List Ent) : datesF es = bif dOk es then ((datO es).map gd, 0) else ([], 1) := by
  unfold datesF dOk
  cases (datO es).all okD <;> rfl

theorem BwdAt.fin {es : List Ent} {xs : List Int} {z : Int} (h : BwdAt es xs z) (hz : z < 0) : dOk es = true ∧ xs = (datO es).map gd := by
  have := h.done hz
  rw [datesF_eq] at this
  cases hd : dOk es
  · rw [hd] at this
    cases this
  · rw [hd, cond_true] at this
    exact ⟨rfl, (Prod.mk.inj this).1.symm⟩

theorem fOk_dOk {es : List Ent} (h : fOk es = false) : dOk es = false := by
  unfold fOk at h
  have : ∃ d ∈ forO es, okF d = false := by
    refine Classical.byContradiction fun hc => ?_
    have : (forO es).all okF = true := List.all_eq_true.2 fun d hd => by
      cases ho : okF d
      · exact absurd ⟨d, hd, ho⟩ hc
      · rfl
    rw [this] at h
    cases h
  obtain ⟨d, hd, ho⟩ := this
  obtain ⟨j, hj⟩ := List.getElem?_of_mem hd
  cases d with
  | none => cases ho
  | some x =>
    have hx : ¬ x ≤ 253402300799999 := of_decide_eq_false ho
    have h2 := datO_some hj
    unfold dOk
    refine Bool.eq_false_iff.2 fun ha => ?_
    have := List.all_eq_true.1 ha _ (List.mem_of_getElem? h2)
    rw [okD_bad (.inr (by omega))] at this
    cases this

theorem forO_A {es : List Ent} {k : Nat} {e : Ent} (hy : es[k]? = some e) (hd : 0 ≤ e.date) : (forO es)[k]? = some (some e.date) := by
  obtain ⟨hlt, rfl⟩ := List.getElem?_eq_some_iff.1 hy
  cases k with
  | zero => rw [forO_0 hlt]; unfold stepF; rw [if_pos hd]
  | succ j =>
    obtain ⟨p, hp⟩ := forO_at (show j < es.length by omega)
    rw [forO_next hlt hp]; unfold stepF; rw [if_pos hd]

theorem forO_N {es : List Ent} {k : Nat} {e : Ent} (hy : es[k]? = some e) (hd : ¬ 0 ≤ e.date) (h : k = 0 ∨ e.brk = true) : (forO es)[k]? = some none := by
  obtain ⟨hlt, rfl⟩ := List.getElem?_eq_some_iff.1 hy
  cases k with
  | zero => rw [forO_0 hlt]; unfold stepF; rw [if_neg hd]; simp
  | succ j =>
    obtain ⟨p, hp⟩ := forO_at (show j < es.length by omega)
    rw [forO_next hlt hp]; unfold stepF; rw [if_neg hd, if_neg (by rcases h with h | h <;> simp_all)]

theorem forO_D {es : List Ent} {j : Nat} {e y : Ent} {p : Option Int} (hy : es[j + 1]? = some e) (hj : es[j]? = some y) (hd : ¬ 0 ≤ e.date) (hb : e.brk = false) (hp : (forO es)[j]? = some p) : (forO es)[j + 1]? = some (p.map (· + y.milli)) := by
  obtain ⟨hlt, rfl⟩ := List.getElem?_eq_some_iff.1 hy
  obtain ⟨hlt2, rfl⟩ := List.getElem?_eq_some_iff.1 hj
  rw [forO_next hlt hp]; unfold stepF; rw [if_neg hd, if_pos hb]

theorem datO_B {es : List Ent} {k : Nat} {e y : Ent} {d : Option Int} (hy : es[k]? = some y) (he : es[k + 1]? = some e) (h : (forO es)[k]? = some none) (hd : (datO es)[k + 1]? = some d) : (datO es)[k]? = some (if e.brk = false then d.map (· - y.milli) else none) := by
  obtain ⟨hlt, rfl⟩ := List.getElem?_eq_some_iff.1 he
  obtain ⟨hlt2, rfl⟩ := List.getElem?_eq_some_iff.1 hy
  exact datO_none hlt h hd

end F

namespace M

theorem getD_set {xs : List Int} {k : Nat} {v d : Int} (h : k < xs.length) : (xs.set k v).getD k d = v := by simp [List.getD, List.getElem?_set_self h]

theorem getD_set_ne {xs : List Int} {k j : Nat} {v d : Int} (h : k ≠ j) : (xs.set k v).getD j d = xs.getD j d := by simp [List.getD, List.getElem?_set_ne h]

theorem rep_ints (n : Nat) : List.replicate n [vI 0] = (List.replicate n (0 : Int)).map eI := by simp [eI]

theorem setInt (xs : List Int) (i : Nat) (v : Int) : (xs.map eI).set i [vI v] = (xs.set i v).map eI := by simp [eI, List.map_set]

def stDy1 (t : Int) (f : Int) (b : Int) (es : List Ent) (en : Bool) (xs : List Int) (k : Nat) : St := ⟨[(15, vI k), (14, vI es.length), (13, .sl (es.map eEnt)), (4, .own 11), (1, .ptr 1 0 0)], [(11, ⟨false, 3, 1, xs.map eI⟩), (1, ⟨true, 0, 0, [[vI t, vI f, vI b, .sl (es.map eEnt), vB en]]⟩)]⟩

def stDy11 (a : Int × Int × Int × (List Ent) × Bool × (List Int) × Nat) : St := stDy1 a.1 a.2.1 a.2.2.1 a.2.2.2.1 a.2.2.2.2.1 a.2.2.2.2.2.1 a.2.2.2.2.2.2

theorem stDy1_inj (a a' : Int × Int × Int × (List Ent) × Bool × (List Int) × Nat) (h : stDy11 a = stDy11 a') : a = a' := by
  simp only [stDy11, stDy1] at h
  try simp [strs_inj, ints_inj, ents_inj, eEnt_iff, eLst_iff] at h
  grind

theorem unstDy1 (t : Int) (f : Int) (b : Int) (es : List Ent) (en : Bool) (xs : List Int) (k : Nat) : unenc stDy11 (St.mk [(15, (vI (↑k : Int))), (14, (vI (↑(List.length es) : Int))), (13, AV.sl (List.map eEnt es)), (4, .own 11), (1, .ptr 1 0 0)] [(11, Blk.mk false 3 1 (List.map eI
  xs)), (1, Blk.mk true 0 0 [[(vI t), (vI f), (vI b), AV.sl (List.map eEnt es), (vB en)]])]) = some (t, f, b, es, en, xs, k) := unenc_of stDy1_inj (t, f, b, es, en, xs, k) rfl

theorem unstDy10 (t : Int) (f : Int) (b : Int) (es : List Ent) (en : Bool) (xs : List Int)  : unenc stDy11 (St.mk [(15, (vI (0 : Int))), (14, (vI (↑(List.length es) : Int))), (13, AV.sl (List.map eEnt es)), (4, .own 11), (1, .ptr 1 0 0)] [(11, Blk.mk false 3 1 (List.map eI xs)),
  (1, Blk.mk true 0 0 [[(vI t), (vI f), (vI b), AV.sl (List.map eEnt es), (vB en)]])]) = some (t, f, b, es, en, xs, 0) := unenc_of stDy1_inj (t, f, b, es, en, xs, 0) rfl

def outDy1 (t : Int) (f : Int) (b : Int) (es : List Ent) (en : Bool) (xs : List Int) (k : Nat) : T (Ex × St) := .ifB (F.fOk es) (.ret (.exit 0, ⟨[(4, .own 11), (1, .ptr 1 0 0)], [(11, ⟨false, 3, 1, (F.fOut es).map eI⟩), (1, ⟨true, 0, 0, [[vI t, vI f, vI b, .sl (es.map eEnt), vB en]]⟩)]⟩)) (.ret (.ret, ⟨[(3, vI 1), (2, .own 2)], [(2, ⟨false, 3, 1, []⟩)]⟩))

noncomputable def prlDy1 (t : Int) (f : Int) (b : Int) (es : List Ent) (en : Bool) (xs : List Int) (k : Nat) : Bool := F.fwdB es xs k

noncomputable def lpDy1 : Nat × (St → T (Ex × St)) := (3, lpo [15, 14, 13, 4, 1] [11, 1] stDy11 (fun a => prlDy1 a.1 a.2.1 a.2.2.1 a.2.2.2.1 a.2.2.2.2.1 a.2.2.2.2.2.1 a.2.2.2.2.2.2) fun a => outDy1 a.1 a.2.1 a.2.2.1 a.2.2.2.1 a.2.2.2.2.1 a.2.2.2.2.2.1 a.2.2.2.2.2.2)

def stDy2 (t : Int) (f : Int) (b : Int) (es : List Ent) (en : Bool) (xs : List Int) (z : Int) : St := ⟨[(7, vI z), (4, .own 11), (1, .ptr 1 0 0)], [(11, ⟨false, 3, 1, xs.map eI⟩), (1, ⟨true, 0, 0, [[vI t, vI f, vI b, .sl (es.map eEnt), vB en]]⟩)]⟩

def stDy21 (a : Int × Int × Int × (List Ent) × Bool × (List Int) × Int) : St := stDy2 a.1 a.2.1 a.2.2.1 a.2.2.2.1 a.2.2.2.2.1 a.2.2.2.2.2.1 a.2.2.2.2.2.2

theorem stDy2_inj (a a' : Int × Int × Int × (List Ent) × Bool × (List Int) × Int) (h : stDy21 a = stDy21 a') : a = a' := by
  simp only [stDy21, stDy2] at h
  try simp [strs_inj, ints_inj, ents_inj, eEnt_iff, eLst_iff] at h
  grind

theorem unstDy2 (t : Int) (f : Int) (b : Int) (es : List Ent) (en : Bool) (xs : List Int) (z : Int) : unenc stDy21 (St.mk [(7, (vI z)), (4, .own 11), (1, .ptr 1 0 0)] [(11, Blk.mk false 3 1 (List.map eI xs)), (1, Blk.mk true 0 0 [[(vI t), (vI f), (vI b), AV.sl (List.map eEnt es), (vB
  en)]])]) = some (t, f, b, es, en, xs, z) := unenc_of stDy2_inj (t, f, b, es, en, xs, z) rfl

def outDy2 (t : Int) (f : Int) (b : Int) (es : List Ent) (en : Bool) (xs : List Int) (z : Int) : T (Ex × St) := .ifB (F.dOk es) (.ret (.exit 2, ⟨[(4, .own 11)], [(11, ⟨false, 3, 1, ((F.datO es).map F.gd).map eI⟩)]⟩)) (.ret (.ret, ⟨[(3, vI 1), (2, .own 2)], [(2, ⟨false, 3, 1, []⟩)]⟩))

noncomputable def prlDy2 (t : Int) (f : Int) (b : Int) (es : List Ent) (en : Bool) (xs : List Int) (z : Int) : Bool := F.bwdB es xs z

noncomputable def lpDy2 : Nat × (St → T (Ex × St)) := (12, lpo [7, 4, 1] [11, 1] stDy21 (fun a => prlDy2 a.1 a.2.1 a.2.2.1 a.2.2.2.1 a.2.2.2.2.1 a.2.2.2.2.2.1 a.2.2.2.2.2.2) fun a => outDy2 a.1 a.2.1 a.2.2.1 a.2.2.2.1 a.2.2.2.2.1 a.2.2.2.2.2.1 a.2.2.2.2.2.2)

noncomputable def enDts : Env := envH ty noG lks [] [] [] [lpDy1, lpDy2]

theorem enDts_ok : EnvOK Tryz.prog enDts := by
  refine envH_ok lks_ok ty_ok ?_ ?_
  · simp
  · simp

theorem evDy1L (t : Int) (f : Int) (b : Int) (es : List Ent) (en : Bool) (xs : List Int) (k : Nat) : ((exec enDts (loopN Tryz.f34 0) (stDy1 t f b es en xs k)).bind (lessX ([15, 14, 13, 4, 1], [11, 1]) ([4, 1], [11, 1]) ([3, 2], [2]))).val =
  (fun (q : Bool) => (fun (q_1 : Option Nat) => (fun (q_2 : Blk) => (fun (q_3 : Ent) => (fun (q_4 : Option (Ex × St)) => (fun (q_5 : List (Nat × Blk)) => (fun (q_6 : List
  (Nat × AV)) => bif decide ((↑k : Int) < (↑(List.length es) : Int)) then Option.bind (unenc (List.map eEnt) (List.map eEnt es)) fun (z : List Ent) => (fun (q_7 : List Row)
  => (fun (q_8 : Option (List Int)) => (fun (q : Bool) => (fun (q_9 : Blk) => (fun (q_10 : Nat) => (fun (q_11 : Bool) => (fun (q_12 : Option (Ex × St)) => (fun (q_13 :
  Option (Ex × St)) => bif decide (k < List.length z) then bif decide (k < List.length q_2.rows) then Option.bind (unenc (List.map eI) (List.map eI xs)) fun (z : List Int)
  => bif decide (k < List.length z) then bif q then Option.bind q_1 fun (z : Nat) => bif decide (z < q_10) then bif q then Option.bind q_8 fun (z_1 : List Int) => bif decide
  (z < List.length z_1) then bif bif q then decide ((0 : Int) ≤ List.getD z_1 z (0 : Int)) else false then Option.bind q_1 fun (z : Nat) => bif decide (z < q_10) then
  Option.bind q_8 fun (z_2 : List Int) => bif decide (z < List.length z_2) then Option.bind q_1 fun (z_3 : Nat) => Option.bind (unenc (List.map eEnt) (List.map eEnt es)) fun
  (z_4 : List Ent) => (fun (q : List Row) => (fun (q_14 : Blk) => bif decide (z_3 < List.length z_4) then bif q_11 then Option.bind q_8 fun (z : List Int) => bif decide (k <
  List.length z) then bif decide (k < List.length q_14.rows) then Option.bind (unenc (List.map eI) q) fun (z : List Int) => bif decide (k < List.length z) then bif decide
  ((253402300799999 : Int) < List.getD z k (0 : Int)) then q_4 else some (Ex.normal, St.mk q_6 ((11, q_14) :: q_5)) else none else none else none else none else none)
  (Blk.mk false 3 1 q)) (List.set q_7 k [(vI (IntKind.wrap IntKind.i64 (List.getD z_2 z (0 : Int) + (List.getD z_4 z_3 q_3).milli)))]) else none else none else q_12 else
  none else q_13 else none else bif q then none else q_13 else none else none else none) (bif q then none else q_12)) (bif q_11 then Option.bind q_8 fun (z : List Int) =>
  bif decide (k < List.length z) then bif decide ((253402300799999 : Int) < List.getD z k (0 : Int)) then q_4 else some (Ex.normal, St.mk q_6 ((11, q_9) :: q_5)) else none
  else none)) (decide (k < q_10))) (List.length q_9.rows)) (Blk.mk false 3 1 q_7)) (bif bif decide ((List.getD z k q_3).date < (0 : Int)) then q else false then !(List.getD
  z k q_3).brk else false)) (unenc (List.map eI) q_7)) (List.set (List.map eI xs) k [(vI (List.getD z k q_3).date)]) else some (Ex.exit (0 : Nat), St.mk [(4, .own 11), (1,
  .ptr 1 0 0)] ((11, q_2) :: q_5))) [(15, (vI (IntKind.wrap IntKind.i64 ((↑k : Int) + (1 : Int))))), (14, (vI (↑(List.length es) : Int))), (13, AV.sl (List.map eEnt es)),
  (4, .own 11), (1, .ptr 1 0 0)]) [(1, Blk.mk true 0 0 [[(vI t), (vI f), (vI b), AV.sl (List.map eEnt es), (vB en)]])]) (some (Ex.ret, St.mk [(3, (vI (1 : Int))), (2, .own
  2)] [(2, Blk.mk false 3 1 [])]))) (Ent.mk (ByteArray.mk (Array.mk [])) (0 : Int) false (0 : Int) (ByteArray.mk (Array.mk [])) false [])) (Blk.mk false 3 1 (List.map eI
  xs))) (idx (IntKind.wrap IntKind.i64 ((↑k : Int) - (1 : Int))))) (decide ((0 : Int) < (↑k : Int))) := by kernel_rfl

theorem lpDy1_ok (t : Int) (f : Int) (b : Int) (es : List Ent) (en : Bool) (xs : List Int) (k : Nat) (hp : prlDy1 t f b es en xs k = true) : ∀ ex s', (outDy1 t f b es en xs k).val = some (ex, s') → LoopOK enDts (loopN Tryz.f34 0) (stDy1 t f b es en xs k) ex s' := by
  simp only [prlDy1, Bool.and_eq_true, decide_eq_true_eq] at hp
  obtain ⟨hg, hF, hk⟩ := F.fwdB_iff.1 hp
  refine loop_gen (st := fun a : List Int × Nat => stDy1 t f b es en a.1 a.2) (out := fun a => outDy1 t f b es en a.1 a.2) (I := fun a => F.FwdAt es a.1 a.2 ∧ a.2 ≤ es.length) (n := ([15, 14, 13, 4, 1], [11, 1])) (e := ([4, 1], [11, 1])) (r := ([3, 2], [2])) (fun a => es.length - a.2) ?_ (xs, k) ⟨hF, hk⟩
  clear hF hk hp xs k
  rintro ⟨xs, k⟩ ⟨hF, hk⟩
  simp only at hF hk
  have hn := hg.1.1
  by_cases hlt : k < es.length
  · have hy : es[k]? = some es[k] := List.getElem?_eq_getElem hlt
    have hgk := hg.2 es[k] (List.getElem_mem hlt)
    generalize es[k] = e at hy hgk
    have hkx : k < xs.length := by rw [hF.1]; exact hlt
    have hN := next_at hlt (by omega : es.length ≤ 9223372036854775807)
    by_cases hd : 0 ≤ e.date
    · right
      refine ⟨(xs.set k e.date, k + 1), ?_, rfl, ⟨hF.step hlt (F.forO_A hy hd) (fun x hx => by cases hx; omega) rfl, hlt⟩, by simp only; omega, rfl⟩
      rw [evDy1L]
      simp only [unstDy1, unstDy2, unstDy10, prlDy1, prlDy2, outDy1, outDy2, etaEnt, etaLst, etaSnd, etaStrm, etaMas, Option.bind_some, List.length_map, unStrs, unInts, unBools, unEnts, unItms, unTrns, cond_true, cond_false, Bool.and_true, Bool.true_and, cast_lt hlt, decide_eq_true hlt, decide_eq_true hkx, getD_at hy, decide_eq_false (by omega : ¬ e.date < 0), setInt, List.length_set, getD_set hkx, decide_eq_false (by omega : ¬ 253402300799999 < e.date), hN]
      rfl
    · have hm : e.date = -1 := by omega
      have hdl : decide (e.date < 0) = true := decide_eq_true (by omega)
      have hmx : decide ((253402300799999 : Int) < -1) = false := rfl
      have hdm : decide ((-1 : Int) < 0) = true := rfl
      by_cases hb : k = 0 ∨ e.brk = true
      · right
        refine ⟨(xs.set k (-1), k + 1), ?_, rfl, ⟨hF.step hlt (F.forO_N hy hd hb) (fun x hx => by cases hx) rfl, hlt⟩, by simp only; omega, rfl⟩
        have hc : (bif decide (0 < (k : Int)) then !e.brk else false) = false := by
          rcases hb with h | h
          · subst h; rfl
          · rw [h]; cases decide (0 < (k : Int)) <;> rfl
        rw [evDy1L]
        simp only [unstDy1, unstDy2, unstDy10, prlDy1, prlDy2, outDy1, outDy2, etaEnt, etaLst, etaSnd, etaStrm, etaMas, Option.bind_some, List.length_map, unStrs, unInts, unBools, unEnts, unItms, unTrns, cond_true, cond_false, Bool.and_true, Bool.true_and, cast_lt hlt, decide_eq_true hlt, decide_eq_true hkx, getD_at hy, hdl, setInt, List.length_set, getD_set hkx, hm, hdm, hc, hmx, hN]
        rfl
      · obtain ⟨j, rfl⟩ : ∃ j, k = j + 1 := ⟨k - 1, by omega⟩
        have hbf : e.brk = false := by
          cases h : e.brk
          · rfl
          · exact absurd (.inr h) hb
        have hlj : j < es.length := by omega
        have hjx : j < xs.length := by omega
        have hz : es[j]? = some es[j] := List.getElem?_eq_getElem hlj
        have hgj := hg.1.2 es[j] (List.getElem_mem hlj)
        generalize es[j] = y at hz hgj
        obtain ⟨p, hp⟩ := F.forO_at hlj
        have hD := F.forO_D hy hz hd hbf hp
        obtain ⟨q1, q2⟩ := hF.2 j p (by omega) hp
        have hpos : decide ((0 : Int) < ((j + 1 : Nat) : Int)) = true := decide_eq_true (by omega)
        have hi : idx (IntKind.i64.wrap (((j + 1 : Nat) : Int) - 1)) = some j := by
          have : IntKind.i64.wrap (((j + 1 : Nat) : Int) - 1) = ((j : Nat) : Int) := by rw [wrap_id (by omega) (by omega)]; omega
          rw [this]; rfl
        have hg1 : (xs.set (j + 1) e.date).getD j 0 = F.gd p := by rw [getD_set_ne (by omega), getD_at q1]
        cases p with
        | none =>
          right
          refine ⟨(xs.set (j + 1) (-1), j + 1 + 1), ?_, rfl, ⟨hF.step hlt hD (fun x hx => by cases hx) rfl, hlt⟩, by simp only; omega, rfl⟩
          have hg2 : (xs.set (j + 1) (-1)).getD j 0 = -1 := by rw [getD_set_ne (by omega), getD_at q1]; rfl
          have hge : decide ((0 : Int) ≤ -1) = false := rfl
          rw [evDy1L]
          simp only [unstDy1, unstDy2, unstDy10, prlDy1, prlDy2, outDy1, outDy2, etaEnt, etaLst, etaSnd, etaStrm, etaMas, Option.bind_some, List.length_map, unStrs, unInts, unBools, unEnts, unItms, unTrns, cond_true, cond_false, Bool.and_true, Bool.true_and, cast_lt hlt, decide_eq_true hlt, decide_eq_true hkx, decide_eq_true hjx, getD_at hy, hdl, setInt, List.length_set, getD_set hkx, hm, hdm, hbf, hpos, hi, hg2, hge, hmx, hN, Bool.not_false]
          rfl
        | some x =>
          have hx0 : 0 ≤ x := F.forO_pos hg.1 hp
          have hxM : x ≤ 253402300799999 := q2 x rfl
          have hg2 : (xs.set (j + 1) (-1)).getD j 0 = x := by rw [getD_set_ne (by omega), getD_at q1]; rfl
          have hw : IntKind.i64.wrap (x + y.milli) = x + y.milli := wrap_id (by omega) (by omega)
          by_cases hM : x + y.milli ≤ 253402300799999
          · right
            refine ⟨(xs.set (j + 1) (x + y.milli), j + 1 + 1), ?_, rfl, ⟨hF.step hlt hD (fun z hz => by cases hz; exact hM) rfl, hlt⟩, by simp only; omega, rfl⟩
            rw [evDy1L]
            simp only [unstDy1, unstDy2, unstDy10, prlDy1, prlDy2, outDy1, outDy2, etaEnt, etaLst, etaSnd, etaStrm, etaMas, Option.bind_some, List.length_map, unStrs, unInts, unBools, unEnts, unItms, unTrns, cond_true, cond_false, Bool.and_true, Bool.true_and, cast_lt hlt, decide_eq_true hlt, decide_eq_true hkx, decide_eq_true hjx, decide_eq_true hlj, getD_at hy, getD_at hz, hdl, setInt, List.length_set, getD_set hkx, hm, hdm, hbf, hpos, hi, hg2, decide_eq_true hx0, hmx, hN, hw, Bool.not_false, List.set_set, decide_eq_false (by omega : ¬ 253402300799999 < x + y.milli)]
            rfl
          · left
            refine ⟨(.ret, ⟨[(3, vI 1), (2, .own 2)], [(2, ⟨false, 3, 1, []⟩)]⟩), ?_, ?_, by simp, rfl⟩
            · rw [evDy1L]
              simp only [unstDy1, unstDy2, unstDy10, prlDy1, prlDy2, outDy1, outDy2, etaEnt, etaLst, etaSnd, etaStrm, etaMas, Option.bind_some, List.length_map, unStrs, unInts, unBools, unEnts, unItms, unTrns, cond_true, cond_false, Bool.and_true, Bool.true_and, cast_lt hlt, decide_eq_true hlt, decide_eq_true hkx, decide_eq_true hjx, decide_eq_true hlj, getD_at hy, getD_at hz, hdl, setInt, List.length_set, getD_set hkx, hm, hdm, hbf, hpos, hi, hg2, decide_eq_true hx0, hmx, hN, hw, Bool.not_false, List.set_set, decide_eq_true (by omega : 253402300799999 < x + y.milli)]
              try rfl
            · unfold outDy1
              rw [F.fOk_no hD hM]
              rfl
  · have : k = es.length := by omega
    subst this
    obtain ⟨h1, h2⟩ := hF.done
    left
    refine ⟨(.exit 0, ⟨[(4, .own 11), (1, .ptr 1 0 0)], [(11, ⟨false, 3, 1, (F.fOut es).map eI⟩), (1, ⟨true, 0, 0, [[vI t, vI f, vI b, .sl (es.map eEnt), vB en]]⟩)]⟩), ?_, ?_, by simp, rfl⟩
    rotate_left
    · unfold outDy1
      rw [h2]
      rfl
    · rw [evDy1L]
      simp only [unstDy1, unstDy2, unstDy10, prlDy1, prlDy2, outDy1, outDy2, etaEnt, etaLst, etaSnd, etaStrm, etaMas, Option.bind_some, List.length_map, unStrs, unInts, unBools, unEnts, unItms, unTrns, cond_true, cond_false, Bool.and_true, Bool.true_and, cast_ge, h1]
      try rfl

theorem evDy2L (t : Int) (f : Int) (b : Int) (es : List Ent) (en : Bool) (xs : List Int) (z : Int) : ((exec enDts (loopN Tryz.f34 1) (stDy2 t f b es en xs z)).bind (lessX ([7, 4, 1], [11, 1]) ([4], [11]) ([3, 2], [2]))).val =
  (fun (q : Option Nat) => (fun (q_1 : Option (List Int)) => (fun (q_2 : Blk) => (fun (q_3 : Nat) => (fun (q_4 : Ent) => (fun (q_5 : List (Nat × AV)) => (fun (q_6 : List
  (Nat × Blk)) => (fun (q_7 : Option (Ex × St)) => bif decide ((0 : Int) ≤ z) then Option.bind (idx z) fun (z_1 : Nat) => bif decide (z_1 < q_3) then Option.bind q_1 fun
  (z_2 : List Int) => (fun (q_8 : Bool) => (fun (q_9 : Bool) => (fun (q_10 : Option (Ex × St)) => bif decide (z_1 < List.length z_2) then bif q_9 then bif q_9 then
  Option.bind q fun (z_3 : Nat) => bif decide (z_3 < q_3) then bif q_9 then Option.bind q_1 fun (z_4 : List Int) => (fun (q_11 : Bool) => (fun (q_12 : Option (Ex × St)) =>
  bif decide (z_3 < List.length z_4) then bif q_11 then bif q_11 then Option.bind q fun (z_5 : Nat) => Option.bind (unenc (List.map eEnt) (List.map eEnt es)) fun (z_6 : List
  Ent) => bif decide (z_5 < List.length z_6) then bif bif bif q_8 then true else decide (List.getD z_4 z_3 (0 : Int) < (0 : Int)) then true else (List.getD z_6 z_5 q_4).brk
  then q_7 else Option.bind q fun (z_7 : Nat) => bif decide (z_7 < q_3) then Option.bind q_1 fun (z_8 : List Int) => bif decide (z_7 < List.length z_8) then Option.bind (idx
  z) fun (z_9 : Nat) => Option.bind (unenc (List.map eEnt) (List.map eEnt es)) fun (z_10 : List Ent) => (fun (q : List AV) => bif decide (z_9 < List.length z_10) then
  Option.bind (idx z) fun (z_11 : Nat) => (fun (q_13 : Blk) => bif decide (z_11 < q_3) then Option.bind q_1 fun (z_12 : List Int) => bif decide (z_11 < List.length z_12)
  then Option.bind (idx z) fun (z : Nat) => bif decide (z < List.length q_13.rows) then Option.bind (unenc (List.map eI) (List.set (List.map eI xs) z_11 q)) fun (z_13 : List
  Int) => bif decide (z < List.length z_13) then bif decide (List.getD z_13 z (0 : Int) < (0 : Int)) then some (Ex.ret, St.mk [(3, (vI (1 : Int))), (2, .own 2)] [(2, Blk.mk
  false 3 1 [])]) else some (Ex.normal, St.mk q_5 ((11, q_13) :: q_6)) else none else none else none else none) (Blk.mk false 3 1 (List.set (List.map eI xs) z_11 q)) else
  none) [(vI (IntKind.wrap IntKind.i64 (List.getD z_8 z_7 (0 : Int) - (List.getD z_10 z_9 q_4).milli)))] else none else none else none else q_12 else bif q_11 then none else
  q_12 else none) (bif q_11 then none else bif q_11 then none else q_7)) !bif q_8 then true else decide (List.getD z_4 z_3 (0 : Int) < (0 : Int)) else bif q_9 then none else
  q_7 else none else q_10 else bif q_9 then none else q_10 else none) (bif q_9 then none else bif q_9 then none else q_7)) !q_8) (decide ((0 : Int) ≤ List.getD z_2 z_1 (0 :
  Int))) else none else some (Ex.exit (2 : Nat), St.mk [(4, .own 11)] [(11, q_2)])) (some (Ex.normal, St.mk q_5 ((11, q_2) :: q_6)))) [(1, Blk.mk true 0 0 [[(vI t), (vI f),
  (vI b), AV.sl (List.map eEnt es), (vB en)]])]) [(7, (vI (IntKind.wrap IntKind.i64 (z - (1 : Int))))), (4, .own 11), (1, .ptr 1 0 0)]) (Ent.mk (ByteArray.mk (Array.mk []))
  (0 : Int) false (0 : Int) (ByteArray.mk (Array.mk [])) false [])) (List.length q_2.rows)) (Blk.mk false 3 1 (List.map eI xs))) (unenc (List.map eI) (List.map eI xs))) (idx
  (IntKind.wrap IntKind.i64 (z + (1 : Int)))) := by kernel_rfl

theorem lpDy2_ok (t : Int) (f : Int) (b : Int) (es : List Ent) (en : Bool) (xs : List Int) (z : Int) (hp : prlDy2 t f b es en xs z = true) : ∀ ex s', (outDy2 t f b es en xs z).val = some (ex, s') → LoopOK enDts (loopN Tryz.f34 1) (stDy2 t f b es en xs z) ex s' := by
  simp only [prlDy2, Bool.and_eq_true, decide_eq_true_eq] at hp
  obtain ⟨hg, hB, hz1, hz2⟩ := F.bwdB_iff.1 hp
  refine loop_gen (st := fun a : List Int × Int => stDy2 t f b es en a.1 a.2) (out := fun a => outDy2 t f b es en a.1 a.2) (I := fun a => F.BwdAt es a.1 a.2 ∧ -2 ≤ a.2 ∧ a.2 ≤ (es.length : Int) - 2) (n := ([7, 4, 1], [11, 1])) (e := ([4], [11])) (r := ([3, 2], [2])) (fun a => (a.2 + 2).toNat) ?_ (xs, z) ⟨hB, hz1, hz2⟩
  clear hB hz1 hz2 hp xs z
  rintro ⟨xs, z⟩ ⟨hB, hz1, hz2⟩
  simp only at hB hz1 hz2
  have hn := hg.1.1
  by_cases h0 : 0 ≤ z
  · obtain ⟨k, rfl⟩ := Int.eq_ofNat_of_zero_le h0
    have hlt : k < es.length := by omega
    have hlt1 : k + 1 < es.length := by omega
    have hkx : k < xs.length := by rw [hB.1]; exact hlt
    have hkx1 : k + 1 < xs.length := by rw [hB.1]; exact hlt1
    have hy : es[k]? = some es[k] := List.getElem?_eq_getElem hlt
    have hgk := hg.1.2 es[k] (List.getElem_mem hlt)
    generalize es[k] = y at hy hgk
    have he : es[k + 1]? = some es[k + 1] := List.getElem?_eq_getElem hlt1
    generalize es[k + 1] = e at he
    obtain ⟨p, hp⟩ := F.forO_at hlt
    obtain ⟨d, hd⟩ : ∃ d, (F.datO es)[k + 1]? = some d := ⟨_, List.getElem?_eq_getElem (by rw [F.datO_len]; exact hlt1)⟩
    have q1 := hB.2.2.1 k p (by omega) hp
    obtain ⟨q2, q3⟩ := hB.2.1 (k + 1) d (by omega) hd
    have hi : idx ((k : Nat) : Int) = some k := rfl
    have hi1 : idx (IntKind.i64.wrap ((k : Int) + 1)) = some (k + 1) := by
      have : IntKind.i64.wrap ((k : Int) + 1) = ((k + 1 : Nat) : Int) := by rw [wrap_id (by omega) (by omega)]; omega
      rw [this]; rfl
    have hw1 : IntKind.i64.wrap ((k : Int) - 1) = (k : Int) - 1 := wrap_id (by omega) (by omega)
    cases p with
    | some x =>
      have hx0 : 0 ≤ x := F.forO_pos hg.1 hp
      have g1 : xs.getD k 0 = x := getD_at q1
      have hxd := F.datO_some hp
      right
      refine ⟨(xs, (k : Int) - 1), ?_, rfl, ⟨hB.step hlt hxd (F.okD_of hx0 (hB.2.2.2 k x hp)) q1, by omega, by omega⟩, by simp only; omega, rfl⟩
      rw [evDy2L]
      simp only [unstDy1, unstDy2, unstDy10, prlDy1, prlDy2, outDy1, outDy2, etaEnt, etaLst, etaSnd, etaStrm, etaMas, Option.bind_some, List.length_map, unStrs, unInts, unBools, unEnts, unItms, unTrns, cond_true, cond_false, Bool.and_true, Bool.true_and, decide_eq_true h0, hi, decide_eq_true hkx, g1, decide_eq_true hx0, hw1, Bool.not_true]
      rfl
    | none =>
      have g1 : xs.getD k 0 = -1 := getD_at q1
      have hge : decide ((0 : Int) ≤ -1) = false := rfl
      have hDB := F.datO_B hy he hp hd
      cases d with
      | none =>
        have g2 : xs.getD (k + 1) 0 = -1 := getD_at q2
        have hlt0 : decide ((-1 : Int) < 0) = true := rfl
        have hnn : (F.datO es)[k]? = some none := by rw [hDB]; simp
        right
        refine ⟨(xs, (k : Int) - 1), ?_, rfl, ⟨hB.step hlt hnn rfl q1, by omega, by omega⟩, by simp only; omega, rfl⟩
        rw [evDy2L]
        simp only [unstDy1, unstDy2, unstDy10, prlDy1, prlDy2, outDy1, outDy2, etaEnt, etaLst, etaSnd, etaStrm, etaMas, Option.bind_some, List.length_map, unStrs, unInts, unBools, unEnts, unItms, unTrns, cond_true, cond_false, Bool.and_true, Bool.true_and, decide_eq_true h0, hi, hi1, decide_eq_true hkx, decide_eq_true hkx1, g1, g2, hge, hlt0, hw1, Bool.not_true, Bool.not_false]
        rfl
      | some v =>
        have hv : 0 ≤ v ∧ v ≤ 253402300799999 := by simpa [F.okD] using q3
        have g2 : xs.getD (k + 1) 0 = v := getD_at q2
        have hvl : decide (v < 0) = false := decide_eq_false (by omega)
        cases hb : e.brk
        · have hDv : (F.datO es)[k]? = some (some (v - y.milli)) := by rw [hDB, hb]; rfl
          have hw : IntKind.i64.wrap (v - y.milli) = v - y.milli := wrap_id (by omega) (by omega)
          by_cases hneg : v - y.milli < 0
          · left
            refine ⟨(.ret, ⟨[(3, vI 1), (2, .own 2)], [(2, ⟨false, 3, 1, []⟩)]⟩), ?_, ?_, by simp, rfl⟩
            · rw [evDy2L]
              simp only [unstDy1, unstDy2, unstDy10, prlDy1, prlDy2, outDy1, outDy2, etaEnt, etaLst, etaSnd, etaStrm, etaMas, Option.bind_some, List.length_map, unStrs, unInts, unBools, unEnts, unItms, unTrns, cond_true, cond_false, Bool.and_true, Bool.true_and, decide_eq_true h0, hi, hi1, decide_eq_true hkx, decide_eq_true hkx1, decide_eq_true hlt, decide_eq_true hlt1, getD_at he, getD_at hy, g1, g2, hge, hvl, hb, hw1, hw, setInt, List.length_set, getD_set hkx, decide_eq_true hneg, Bool.not_true, Bool.not_false]
              try rfl
            · unfold outDy2
              rw [F.dOk_no hDv hneg]
              rfl
          · right
            refine ⟨(xs.set k (v - y.milli), (k : Int) - 1), ?_, rfl, ⟨hB.stepSet hlt hDv (F.okD_of (by omega) (by omega)) rfl, by omega, by omega⟩, by simp only; omega, rfl⟩
            rw [evDy2L]
            simp only [unstDy1, unstDy2, unstDy10, prlDy1, prlDy2, outDy1, outDy2, etaEnt, etaLst, etaSnd, etaStrm, etaMas, Option.bind_some, List.length_map, unStrs, unInts, unBools, unEnts, unItms, unTrns, cond_true, cond_false, Bool.and_true, Bool.true_and, decide_eq_true h0, hi, hi1, decide_eq_true hkx, decide_eq_true hkx1, decide_eq_true hlt, decide_eq_true hlt1, getD_at he, getD_at hy, g1, g2, hge, hvl, hb, hw1, hw, setInt, List.length_set, getD_set hkx, decide_eq_false hneg, Bool.not_true, Bool.not_false]
            rfl
        · have hnn : (F.datO es)[k]? = some none := by rw [hDB, hb]; rfl
          right
          refine ⟨(xs, (k : Int) - 1), ?_, rfl, ⟨hB.step hlt hnn rfl q1, by omega, by omega⟩, by simp only; omega, rfl⟩
          rw [evDy2L]
          simp only [unstDy1, unstDy2, unstDy10, prlDy1, prlDy2, outDy1, outDy2, etaEnt, etaLst, etaSnd, etaStrm, etaMas, Option.bind_some, List.length_map, unStrs, unInts, unBools, unEnts, unItms, unTrns, cond_true, cond_false, Bool.and_true, Bool.true_and, decide_eq_true h0, hi, hi1, decide_eq_true hkx, decide_eq_true hkx1, decide_eq_true hlt1, getD_at he, g1, g2, hge, hvl, hb, hw1, Bool.not_true, Bool.not_false]
          rfl
  · obtain ⟨h1, h2⟩ := hB.fin (by omega)
    left
    refine ⟨(.exit 2, ⟨[(4, .own 11)], [(11, ⟨false, 3, 1, ((F.datO es).map F.gd).map eI⟩)]⟩), ?_, ?_, by simp, rfl⟩
    · rw [evDy2L]
      simp only [unstDy1, unstDy2, unstDy10, prlDy1, prlDy2, outDy1, outDy2, etaEnt, etaLst, etaSnd, etaStrm, etaMas, Option.bind_some, List.length_map, unStrs, unInts, unBools, unEnts, unItms, unTrns, cond_true, cond_false, Bool.and_true, Bool.true_and, decide_eq_false h0, ← h2]
      try rfl
    · unfold outDy2
      rw [h1]
      rfl

theorem evDts (l : Lst) : (runF enDts false Tryz.f34 [.agg (eLst l)]).val =
  bif Nat.ble (List.length (List.map eEnt l.entries)) (List.length (List.map eEnt l.entries)) && Nat.ble (List.length (List.map eEnt l.entries) * (8 : Nat)) (140737488355328
  : Nat) then Option.bind (unenc stDy11 (St.mk [(15, (vI (0 : Int))), (14, (vI (↑(List.length (List.map eEnt l.entries)) : Int))), (13, AV.sl (List.map eEnt l.entries)), (4,
  .own 11), (1, .ptr 1 0 0)] [(11, Blk.mk false 3 1 (List.replicate (List.length (List.map eEnt l.entries)) [(vI (0 : Int))])), (1, Blk.mk true 0 0 [[(vI l.target), (vI
  l.first), (vI l.breaks), AV.sl (List.map eEnt l.entries), (vB l.ended)]])])) fun (z : Int × Int × Int × List Ent × Bool × List Int × Nat) => bif F.fwdB z.snd.snd.snd.fst
  z.snd.snd.snd.snd.snd.fst z.snd.snd.snd.snd.snd.snd && true then bif F.fOk z.snd.snd.snd.fst then Option.bind (unenc stDy21 (St.mk [(7, (vI (IntKind.wrap IntKind.i64
  ((↑(List.length (List.map eI (F.fOut z.snd.snd.snd.fst))) : Int) - (2 : Int))))), (4, .own 11), (1, .ptr 1 0 0)] [(11, Blk.mk false 3 1 (List.map eI (F.fOut
  z.snd.snd.snd.fst))), (1, Blk.mk true 0 0 [[(vI z.fst), (vI z.snd.fst), (vI z.snd.snd.fst), AV.sl (List.map eEnt z.snd.snd.snd.fst), (vB z.snd.snd.snd.snd.fst)]])])) fun
  (z : Int × Int × Int × List Ent × Bool × List Int × Int) => bif F.bwdB z.snd.snd.snd.fst z.snd.snd.snd.snd.snd.fst z.snd.snd.snd.snd.snd.snd && true then bif F.dOk
  z.snd.snd.snd.fst then some (AV.tup [AV.sl (List.map eI (List.map F.gd (F.datO z.snd.snd.snd.fst))), (vI (0 : Int))], []) else some (AV.tup [AV.sl [], (vI (1 : Int))], [])
  else none else some (AV.tup [AV.sl [], (vI (1 : Int))], []) else none else none := by kernel_rfl

def encDts1 (l : Lst) : List AV := [.agg (eLst l)]

def encDts (a : Lst) : List AV := encDts1 a

theorem encDts_inj (a a' : Lst) (h : encDts a = encDts a') : a = a' := by
  simp only [encDts, encDts1] at h
  try simp [strs_inj, ints_inj, ents_inj, eEnt_iff, eLst_iff] at h
  grind

theorem unDts (l : Lst) : unenc encDts ([AV.agg [(vI l.target), (vI l.first), (vI l.breaks), AV.sl (List.map eEnt l.entries), (vB l.ended)]]) = some (l) := unenc_of encDts_inj (l) rfl

theorem unDtsw (l_target : Int) (l_first : Int) (l_breaks : Int) (l_entries : List Ent) (l_ended : Bool) : unenc encDts ([AV.agg [(vI l_target), (vI l_first), (vI l_breaks), AV.sl (List.map eEnt l_entries), (vB l_ended)]]) = some ((Lst.mk l_target l_first l_breaks l_entries l_ended)) := unenc_of encDts_inj ((Lst.mk l_target l_first l_breaks l_entries l_ended)) rfl

def resDts1 (l : Lst) : AV × Heap := (.tup [.sl ((F.datesF l.entries).1.map eI), vI (F.datesF l.entries).2], [])

def preDts1 (l : Lst) : Bool := decide (F.check l = 0)

noncomputable def oDts : Orc := orc 34 false encDts (fun a => preDts1 a) fun a => resDts1 a

theorem okDts : OrcOK Tryz.prog noG oDts := by
  refine mk_ok Tryz.f34 (keep := false) (by kernel_rfl) (by kernel_rfl) enDts_ok mixed (two_loops (x0 := loopN Tryz.f34 0) (x1 := loopN Tryz.f34 1) (by kernel_rfl) (lpo_ok ?_) (lpo_ok ?_)) (by first | exact fun _ _ => ⟨rfl, rfl⟩ | (intro h; cases h)) ?_
  · rintro ⟨t, f, b, es, en, xs, k⟩ hp
    exact lpDy1_ok t f b es en xs k hp
  · rintro ⟨t, f, b, es, en, xs, z⟩ hp
    exact lpDy2_ok t f b es en xs z hp
  rintro l hpre hok
  show (runF enDts false _ (encDts1 _)).val = some (resDts1 _)
  unfold encDts1 resDts1
  rw [evDts]
  have hc : F.check l = 0 := of_decide_eq_true hpre
  have hg := F.goodD_of hc
  have hn := hg.1.1
  have hb1 : Nat.ble (l.entries.length * 8) 140737488355328 = true := ble_t (by omega)
  have p1 : F.fwdB l.entries (List.replicate l.entries.length 0) 0 = true := F.fwdB_iff.2 ⟨hg, F.FwdAt.zero (by simp), Nat.zero_le _⟩
  have hl : (F.fOut l.entries).length = l.entries.length := by unfold F.fOut; rw [List.length_map, F.forO_len]
  simp only [rep_ints]
  simp only [unstDy1, unstDy2, unstDy10, prlDy1, prlDy2, outDy1, outDy2, etaEnt, etaLst, etaSnd, etaStrm, etaMas, Option.bind_some, List.length_map, unStrs, unInts, unBools, unEnts, unItms, unTrns, cond_true, cond_false, Bool.and_true, Bool.true_and, hb1, ble_t (Nat.le_refl l.entries.length), Bool.and_self, p1, F.datesF_eq, hl]
  cases hf : F.fOk l.entries
  · rw [F.fOk_dOk hf]
    rfl
  · have hw : IntKind.i64.wrap ((l.entries.length : Int) - 2) = (l.entries.length : Int) - 2 := wrap_id (by omega) (by omega)
    have hA : F.FwdAt l.entries (F.fOut l.entries) l.entries.length := by
      refine ⟨hl, fun j d hj hd => ⟨by unfold F.fOut; rw [List.getElem?_map, hd]; rfl, fun x hx => ?_⟩⟩
      subst hx
      by_cases hx : x ≤ 253402300799999
      · exact hx
      · rw [F.fOk_no hd hx] at hf; cases hf
    have p2 : F.bwdB l.entries (F.fOut l.entries) ((l.entries.length : Int) - 2) = true := F.bwdB_iff.2 ⟨hg, F.BwdAt.start hg.1 hA, by omega, by omega⟩
    rw [hw]
    simp only [unstDy2, Option.bind_some, prlDy2, outDy2, p2, cond_true]
    cases F.dOk l.entries <;> rfl

end M
end Go.Proofs.YtajmdlpanlbnjaaGreatDoor

namespace Go.Proofs.YtajmdlpanlbnjaaGreatDoor
open Go Go.RowKit
set_option linter.unusedVariables false
set_option linter.unusedSimpArgs false
set_option maxHeartbeats 1000000

namespace F

noncomputable def rfB (es : List Ent) (xs : List Int) (ks : List Bool) (k : Nat) : Bool := @decide (GoodD es ∧ FwdR es xs ks k ∧ k ≤ es.length) (Classical.propDecidable _)

noncomputable def rbB (es : List Ent) (xs : List Int) (ks : List Bool) (z : Int) : Bool := @decide (GoodD es ∧ BwdR es xs ks z ∧ -2 ≤ z ∧ z ≤ (es.length : Int) - 2) (Classical.propDecidable _)

theorem rfB_iff {es : List Ent} {xs : List Int} {ks : List Bool} {k : Nat} : rfB es xs ks k = true ↔ GoodD es ∧ FwdR es xs ks k ∧ k ≤ es.length := by
  unfold rfB
  exact @decide_eq_true_iff _ (Classical.propDecidable _)

theorem rbB_iff {es : List Ent} {xs : List Int} {ks : List Bool} {z : Int} : rbB es xs ks z = true ↔ GoodD es ∧ BwdR es xs ks z ∧ -2 ≤ z ∧ z ≤ (es.length : Int) - 2 := by
  unfold rbB
  exact @decide_eq_true_iff _ (Classical.propDecidable _)

def kOut (es : List Ent) : List Bool := (forO es).map Option.isSome

def dOut (es : List Ent) : List Int := (datO es).map gd

def dKn (es : List Ent) : List Bool := (datO es).map Option.isSome

theorem map_at {α : Type} {g : Option Int → α} {ds : List (Option Int)} {xs : List α} (hl : xs.length = ds.length) (h : ∀ (j : Nat) (d : Option Int), ds[j]? = some d → xs[j]? = some (g d)) : xs = ds.map g := by
  apply List.ext_getElem?
  intro j
  rw [List.getElem?_map]
  cases hd : ds[j]? with
  | none =>
    have : xs.length ≤ j := by rw [hl]; exact List.getElem?_eq_none_iff.1 hd
    simp [List.getElem?_eq_none this]
  | some d => simp [h j d hd]

theorem FwdR.done {es : List Ent} {xs : List Int} {ks : List Bool} (h : FwdR es xs ks es.length) : xs = fOut es ∧ ks = kOut es := by
  have hl : ∀ (j : Nat) (d : Option Int), (forO es)[j]? = some d → j < es.length := fun j d hd => by rw [← forO_len es]; exact (List.getElem?_eq_some_iff.1 hd).1
  exact ⟨map_at (by rw [h.1, forO_len]) fun j d hd => (h.2.2.1 j d (hl j d hd) hd).1, map_at (by rw [h.2.1, forO_len]) fun j d hd => (h.2.2.1 j d (hl j d hd) hd).2⟩

theorem FwdR.back (es : List Ent) : FwdR es (fOut es) (kOut es) es.length := by
  refine ⟨by simp [fOut, forO_len], by simp [kOut, forO_len], fun j d hj hd => ⟨by simp [fOut, hd], by simp [kOut, hd]⟩, fun j h1 h2 => by omega⟩

theorem BwdR.fin {es : List Ent} {xs : List Int} {ks : List Bool} {z : Int} (h : BwdR es xs ks z) (hz : z < 0) : xs = dOut es ∧ ks = dKn es :=
  ⟨map_at (by rw [h.1, datO_len]) fun j d hd => (h.2.2.1 j d (by omega) hd).1, map_at (by rw [h.2.1, datO_len]) fun j d hd => (h.2.2.1 j d (by omega) hd).2⟩

theorem okD_out (x : Int) : okD (some x) = !F.out x 0 253402300799999 := by
  show (decide (0 ≤ x) && decide (x ≤ 253402300799999)) = !(decide (x < 0) || decide (253402300799999 < x))
  by_cases h1 : x < 0
  · rw [decide_eq_true h1, decide_eq_false (by omega : ¬ 0 ≤ x)]; rfl
  · rw [decide_eq_false h1, decide_eq_true (by omega : 0 ≤ x)]
    by_cases h2 : x ≤ 253402300799999
    · rw [decide_eq_true h2, decide_eq_false (by omega : ¬ 253402300799999 < x)]; rfl
    · rw [decide_eq_false h2, decide_eq_true (by omega : 253402300799999 < x)]; rfl

theorem zip_ok (ds : List (Option Int)) : (((ds.map gd).zip (ds.map Option.isSome)).all fun p => !p.2 || !F.out p.1 0 253402300799999) = ds.all okD := by
  induction ds with
  | nil => rfl
  | cons d ds ih =>
    simp only [List.map_cons, List.zip_cons_cons, List.all_cons, ih]
    congr 1
    cases d with
    | none => rfl
    | some x => rw [okD_out]; rfl

end F

namespace M

theorem rep_bools (n : Nat) : List.replicate n [vB false] = (List.replicate n false).map eB := by simp [eB]

theorem setBool (xs : List Bool) (i : Nat) (v : Bool) : (xs.map eB).set i [vB v] = (xs.set i v).map eB := by simp [eB, List.map_set]

theorem appInt (xs : List Int) (n : Int) : xs.map eI ++ [[vI n]] = (xs ++ [n]).map eI := by simp [eI]

def stRd1 (t : Int) (f : Int) (b : Int) (es : List Ent) (en : Bool) (xs : List Int) (ks : List Bool) (k : Nat) : St := ⟨[(6, vI k), (5, .own 14), (4, .own 4), (1, .ptr 1 0 0)], [(14, ⟨false, 4, 1, ks.map eB⟩), (4, ⟨false, 3, 1, xs.map eI⟩), (1, ⟨true, 0, 0, [[vI t, vI f, vI b, .sl (es.map eEnt), vB en]]⟩)]⟩

def stRd11 (a : Int × Int × Int × (List Ent) × Bool × (List Int) × (List Bool) × Nat) : St := stRd1 a.1 a.2.1 a.2.2.1 a.2.2.2.1 a.2.2.2.2.1 a.2.2.2.2.2.1 a.2.2.2.2.2.2.1 a.2.2.2.2.2.2.2

theorem stRd1_inj (a a' : Int × Int × Int × (List Ent) × Bool × (List Int) × (List Bool) × Nat) (h : stRd11 a = stRd11 a') : a = a' := by
  simp only [stRd11, stRd1] at h
  try simp [strs_inj, ints_inj, ents_inj, eEnt_iff, eLst_iff, bools_inj] at h
  grind

theorem unstRd1 (t : Int) (f : Int) (b : Int) (es : List Ent) (en : Bool) (xs : List Int) (ks : List Bool) (k : Nat) : unenc stRd11 (St.mk [(6, (vI (↑k : Int))), (5, .own 14), (4, .own 4), (1, .ptr 1 0 0)] [(14, Blk.mk false 4 1 (List.map eB ks)), (4, Blk.mk false 3 1 (List.map eI xs)), (1, Blk.mk true
  0 0 [[(vI t), (vI f), (vI b), AV.sl (List.map eEnt es), (vB en)]])]) = some (t, f, b, es, en, xs, ks, k) := unenc_of stRd1_inj (t, f, b, es, en, xs, ks, k) rfl

theorem unstRd10 (t : Int) (f : Int) (b : Int) (es : List Ent) (en : Bool) (ks : List Bool)  : unenc stRd11 (St.mk [(6, (vI (0 : Int))), (5, .own 14), (4, .own 4), (1, .ptr 1 0 0)] [(14, Blk.mk false 4 1 (List.map eB ks)), (4, Blk.mk false 3 1 []), (1, Blk.mk true 0 0 [[(vI t),
  (vI f), (vI b), AV.sl (List.map eEnt es), (vB en)]])]) = some (t, f, b, es, en, [], ks, 0) := unenc_of stRd1_inj (t, f, b, es, en, [], ks, 0) rfl

def outRd1 (t : Int) (f : Int) (b : Int) (es : List Ent) (en : Bool) (xs : List Int) (ks : List Bool) (k : Nat) : T (Ex × St) := .ret (.exit 0, ⟨[(5, .own 14), (4, .own 4), (1, .ptr 1 0 0)], [(14, ⟨false, 4, 1, (F.kOut es).map eB⟩), (4, ⟨false, 3, 1, (F.fOut es).map eI⟩), (1, ⟨true, 0, 0, [[vI t, vI f, vI b, .sl (es.map eEnt), vB en]]⟩)]⟩)

noncomputable def prlRd1 (t : Int) (f : Int) (b : Int) (es : List Ent) (en : Bool) (xs : List Int) (ks : List Bool) (k : Nat) : Bool := F.rfB es xs ks k

noncomputable def lpRd1 : Nat × (St → T (Ex × St)) := (4, lpo [6, 5, 4, 1] [14, 4, 1] stRd11 (fun a => prlRd1 a.1 a.2.1 a.2.2.1 a.2.2.2.1 a.2.2.2.2.1 a.2.2.2.2.2.1 a.2.2.2.2.2.2.1 a.2.2.2.2.2.2.2) fun a => outRd1 a.1 a.2.1 a.2.2.1 a.2.2.2.1 a.2.2.2.2.1 a.2.2.2.2.2.1 a.2.2.2.2.2.2.1 a.2.2.2.2.2.2.2)

def stRd2 (t : Int) (f : Int) (b : Int) (es : List Ent) (en : Bool) (xs : List Int) (ks : List Bool) (z : Int) : St := ⟨[(9, vI z), (5, .own 14), (4, .own 4), (1, .ptr 1 0 0)], [(14, ⟨false, 4, 1, ks.map eB⟩), (4, ⟨false, 3, 1, xs.map eI⟩), (1, ⟨true, 0, 0, [[vI t, vI f, vI b, .sl (es.map eEnt), vB en]]⟩)]⟩

def stRd21 (a : Int × Int × Int × (List Ent) × Bool × (List Int) × (List Bool) × Int) : St := stRd2 a.1 a.2.1 a.2.2.1 a.2.2.2.1 a.2.2.2.2.1 a.2.2.2.2.2.1 a.2.2.2.2.2.2.1 a.2.2.2.2.2.2.2

theorem stRd2_inj (a a' : Int × Int × Int × (List Ent) × Bool × (List Int) × (List Bool) × Int) (h : stRd21 a = stRd21 a') : a = a' := by
  simp only [stRd21, stRd2] at h
  try simp [strs_inj, ints_inj, ents_inj, eEnt_iff, eLst_iff, bools_inj] at h
  grind

theorem unstRd2 (t : Int) (f : Int) (b : Int) (es : List Ent) (en : Bool) (xs : List Int) (ks : List Bool) (z : Int) : unenc stRd21 (St.mk [(9, (vI z)), (5, .own 14), (4, .own 4), (1, .ptr 1 0 0)] [(14, Blk.mk false 4 1 (List.map eB ks)), (4, Blk.mk false 3 1 (List.map eI xs)), (1, Blk.mk true 0 0 [[(vI
  t), (vI f), (vI b), AV.sl (List.map eEnt es), (vB en)]])]) = some (t, f, b, es, en, xs, ks, z) := unenc_of stRd2_inj (t, f, b, es, en, xs, ks, z) rfl

def outRd2 (t : Int) (f : Int) (b : Int) (es : List Ent) (en : Bool) (xs : List Int) (ks : List Bool) (z : Int) : T (Ex × St) := .ret (.exit 2, ⟨[(5, .own 14), (4, .own 4)], [(14, ⟨false, 4, 1, (F.dKn es).map eB⟩), (4, ⟨false, 3, 1, (F.dOut es).map eI⟩)]⟩)

noncomputable def prlRd2 (t : Int) (f : Int) (b : Int) (es : List Ent) (en : Bool) (xs : List Int) (ks : List Bool) (z : Int) : Bool := F.rbB es xs ks z

noncomputable def lpRd2 : Nat × (St → T (Ex × St)) := (14, lpo [9, 5, 4, 1] [14, 4, 1] stRd21 (fun a => prlRd2 a.1 a.2.1 a.2.2.1 a.2.2.2.1 a.2.2.2.2.1 a.2.2.2.2.2.1 a.2.2.2.2.2.2.1 a.2.2.2.2.2.2.2) fun a => outRd2 a.1 a.2.1 a.2.2.1 a.2.2.2.1 a.2.2.2.2.1 a.2.2.2.2.2.1 a.2.2.2.2.2.2.1 a.2.2.2.2.2.2.2)

def stRd3 (xs : List Int) (ks : List Bool) (k : Nat) : St := ⟨[(10, vI k), (5, .own 14), (4, .own 4)], [(14, ⟨false, 4, 1, ks.map eB⟩), (4, ⟨false, 3, 1, xs.map eI⟩)]⟩

def stRd31 (a : (List Int) × (List Bool) × Nat) : St := stRd3 a.1 a.2.1 a.2.2

theorem stRd3_inj (a a' : (List Int) × (List Bool) × Nat) (h : stRd31 a = stRd31 a') : a = a' := by
  simp only [stRd31, stRd3] at h
  try simp [strs_inj, ints_inj, ents_inj, eEnt_iff, eLst_iff, bools_inj] at h
  grind

theorem unstRd3 (xs : List Int) (ks : List Bool) (k : Nat) : unenc stRd31 (St.mk [(10, (vI (↑k : Int))), (5, .own 14), (4, .own 4)] [(14, Blk.mk false 4 1 (List.map eB ks)), (4, Blk.mk false 3 1 (List.map eI xs))]) = some (xs, ks, k) := unenc_of stRd3_inj (xs, ks, k) rfl

theorem unstRd30 (xs : List Int) (ks : List Bool)  : unenc stRd31 (St.mk [(10, (vI (0 : Int))), (5, .own 14), (4, .own 4)] [(14, Blk.mk false 4 1 (List.map eB ks)), (4, Blk.mk false 3 1 (List.map eI xs))]) = some (xs, ks, 0) := unenc_of stRd3_inj (xs, ks, 0) rfl

def outRd3 (xs : List Int) (ks : List Bool) (k : Nat) : T (Ex × St) := .ifB (((xs.zip ks).drop k).all fun p => !p.2 || !F.out p.1 0 253402300799999) (.ret (.exit 4, ⟨[(4, .own 4)], [(4, ⟨false, 3, 1, xs.map eI⟩)]⟩)) (.ret (.ret, ⟨[(3, vI 1), (2, .own 2)], [(2, ⟨false, 3, 1, []⟩)]⟩))

noncomputable def prlRd3 (xs : List Int) (ks : List Bool) (k : Nat) : Bool := decide (ks.length = xs.length) && decide (xs.length ≤ 1000) && decide (k ≤ xs.length)

noncomputable def lpRd3 : Nat × (St → T (Ex × St)) := (19, lpo [10, 5, 4] [14, 4] stRd31 (fun a => prlRd3 a.1 a.2.1 a.2.2) fun a => outRd3 a.1 a.2.1 a.2.2)

noncomputable def enRdt : Env := envH ty noG lks [oWithin] [] [] [lpRd1, lpRd2, lpRd3]

theorem enRdt_ok : EnvOK Tryz.prog enRdt := by
  refine envH_ok lks_ok ty_ok ?_ ?_
  · simp only [List.forall_mem_cons]
    exact ⟨okWithin, by simp⟩
  · simp

theorem evRd1L (t : Int) (f : Int) (b : Int) (es : List Ent) (en : Bool) (xs : List Int) (ks : List Bool) (k : Nat) : ((exec enRdt (loopN Tryz.f35 0) (stRd1 t f b es en xs ks k)).bind (lessX ([6, 5, 4, 1], [14, 4, 1]) ([5, 4, 1], [14, 4, 1]) ([], []))).val =
  (fun (q : Bool) => (fun (q_1 : Option Nat) => (fun (q_2 : Blk) => (fun (q_3 : Blk) => (fun (q_4 : Nat) => (fun (q_5 : Bool) => (fun (q_6 : Ent) => (fun (q_7 : Bool) =>
  (fun (q_8 : Nat × Blk) => (fun (q_9 : List (Nat × AV)) => (fun (q_10 : List (Nat × AV)) => (fun (q_11 : List (Nat × Blk)) => (fun (q_12 : Option (Ex × St)) => bif decide
  ((↑k : Int) < (↑(List.length (List.map eEnt es)) : Int)) then Option.bind (unenc (List.map eEnt) (List.map eEnt es)) fun (z : List Ent) => (fun (q : Bool) => bif decide (k
  < List.length z) then bif decide ((0 : Int) ≤ (List.getD z k q_6).date) then bif q_7 then Option.bind (unenc (List.map eB) (List.map eB ks)) fun (z_1 : List Bool) => bif
  decide (k < List.length z_1) then bif q_5 then some (Ex.normal, St.mk q_10 (q_8 :: (4, Blk.mk false 3 1 (List.map eI xs ++ [[(vI (List.getD z k q_6).date)]])) :: q_11))
  else none else none else none else bif q then Option.bind q_1 fun (z : Nat) => bif decide (z < q_4) then bif q then Option.bind (unenc (List.map eB) (List.map eB ks)) fun
  (z_1 : List Bool) => bif decide (z < List.length z_1) then bif bif q then List.getD z_1 z false else false then Option.bind q_1 fun (z : Nat) => bif decide (z <
  List.length q_2.rows) then Option.bind (unenc (List.map eI) (List.map eI xs)) fun (z_2 : List Int) => bif decide (z < List.length z_2) then Option.bind q_1 fun (z_3 : Nat)
  => Option.bind (unenc (List.map eEnt) (List.map eEnt es)) fun (z_4 : List Ent) => bif decide (z_3 < List.length z_4) then bif q_7 then Option.bind (unenc (List.map eB)
  (List.map eB ks)) fun (z_5 : List Bool) => bif decide (k < List.length z_5) then bif q_5 then some (Ex.normal, St.mk q_10 (q_8 :: (4, Blk.mk false 3 1 (List.map eI xs ++
  [[(vI (IntKind.wrap IntKind.i64 (List.getD z_2 z (0 : Int) + (List.getD z_4 z_3 q_6).milli)))]])) :: q_11)) else none else none else none else none else none else none
  else q_12 else none else q_12 else none else bif q then none else q_12 else none) (bif q then !(List.getD z k q_6).brk else false) else some (Ex.exit (0 : Nat), St.mk q_9
  ((14, q_3) :: (4, q_2) :: q_11))) (bif q_5 then some (Ex.normal, St.mk q_10 ((14, q_3) :: (4, Blk.mk false 3 1 (List.map eI xs ++ [[(vI (-1 : Int))]])) :: q_11)) else
  none)) [(1, Blk.mk true 0 0 [[(vI t), (vI f), (vI b), AV.sl (List.map eEnt es), (vB en)]])]) ((6, (vI (IntKind.wrap IntKind.i64 ((↑k : Int) + (1 : Int))))) :: q_9)) [(5,
  .own 14), (4, .own 4), (1, .ptr 1 0 0)]) (14, Blk.mk false 4 1 (List.set (List.map eB ks) k [(vB true)]))) (decide (k < q_4))) (Ent.mk (ByteArray.mk (Array.mk [])) (0 :
  Int) false (0 : Int) (ByteArray.mk (Array.mk [])) false [])) (Nat.ble ((List.length (List.map eI xs) + (1 : Nat)) * (8 : Nat)) (140737488355328 : Nat) && true))
  (List.length q_3.rows)) (Blk.mk false 4 1 (List.map eB ks))) (Blk.mk false 3 1 (List.map eI xs))) (idx (IntKind.wrap IntKind.i64 ((↑k : Int) - (1 : Int))))) (decide ((0 :
  Int) < (↑k : Int))) := by kernel_rfl

theorem lpRd1_ok (t : Int) (f : Int) (b : Int) (es : List Ent) (en : Bool) (xs : List Int) (ks : List Bool) (k : Nat) (hp : prlRd1 t f b es en xs ks k = true) : ∀ ex s', (outRd1 t f b es en xs ks k).val = some (ex, s') → LoopOK enRdt (loopN Tryz.f35 0) (stRd1 t f b es en xs ks k) ex s' := by
  simp only [prlRd1, Bool.and_eq_true, decide_eq_true_eq] at hp
  obtain ⟨hg, hF, hk⟩ := F.rfB_iff.1 hp
  refine loop_gen (st := fun a : List Int × List Bool × Nat => stRd1 t f b es en a.1 a.2.1 a.2.2) (out := fun a => outRd1 t f b es en a.1 a.2.1 a.2.2) (I := fun a => F.FwdR es a.1 a.2.1 a.2.2 ∧ a.2.2 ≤ es.length) (n := ([6, 5, 4, 1], [14, 4, 1])) (e := ([5, 4, 1], [14, 4, 1])) (r := ([], [])) (fun a => es.length - a.2.2) ?_ (xs, ks, k) ⟨hF, hk⟩
  clear hF hk hp xs k ks
  rintro ⟨xs, ks, k⟩ ⟨hF, hk⟩
  simp only at hF hk
  have hn := hg.1.1
  by_cases hlt : k < es.length
  · have hy : es[k]? = some es[k] := List.getElem?_eq_getElem hlt
    have hgk := hg.2 es[k] (List.getElem_mem hlt)
    generalize es[k] = e at hy hgk
    have hxl := hF.1
    have hkl := hF.2.1
    have hkk : k < ks.length := by rw [hkl]; exact hlt
    have hN := next_at hlt (by omega : es.length ≤ 9223372036854775807)
    have hb8 : Nat.ble ((xs.length + 1) * 8) 140737488355328 = true := ble_t (by omega)
    have hj1 : ∀ j, j ≠ k → (ks.set k true)[j]? = ks[j]? := fun j hj => List.getElem?_set_ne (Ne.symm hj)
    have hs1 : (ks.set k true)[k]? = some true := List.getElem?_set_self hkk
    have hkf : ks[k]? = some false := hF.2.2.2 k (Nat.le_refl _) hlt
    by_cases hd : 0 ≤ e.date
    · right
      refine ⟨(xs ++ [e.date], ks.set k true, k + 1), ?_, rfl, ⟨hF.step hlt (F.forO_A hy hd) rfl (by simp) hj1 hs1, hlt⟩, by simp only; omega, rfl⟩
      rw [evRd1L]
      simp only [unWithin, preWithin1, unstRd1, unstRd2, unstRd3, unstRd10, unstRd30, prlRd1, prlRd2, prlRd3, outRd1, outRd2, outRd3, etaEnt, etaLst, etaSnd, etaStrm, etaMas, Option.bind_some, List.length_map, unStrs, unInts, unBools, unEnts, unItms, unTrns, cond_true, cond_false, Bool.and_true, Bool.true_and, cast_lt hlt, decide_eq_true hlt, decide_eq_true hkk, getD_at hy, decide_eq_true hd, setBool, hb8, appInt, hN]
      try rfl
    · have hdf : decide (0 ≤ e.date) = false := decide_eq_false hd
      by_cases hb : k = 0 ∨ e.brk = true
      · right
        refine ⟨(xs ++ [-1], ks, k + 1), ?_, rfl, ⟨hF.step hlt (F.forO_N hy hd hb) rfl rfl (fun _ _ => rfl) hkf, hlt⟩, by simp only; omega, rfl⟩
        have hc : (bif decide (0 < (k : Int)) then !e.brk else false) = false := by
          rcases hb with h | h
          · subst h; rfl
          · rw [h]; cases decide (0 < (k : Int)) <;> rfl
        rw [evRd1L]
        simp only [unWithin, preWithin1, unstRd1, unstRd2, unstRd3, unstRd10, unstRd30, prlRd1, prlRd2, prlRd3, outRd1, outRd2, outRd3, etaEnt, etaLst, etaSnd, etaStrm, etaMas, Option.bind_some, List.length_map, unStrs, unInts, unBools, unEnts, unItms, unTrns, cond_true, cond_false, Bool.and_true, Bool.true_and, cast_lt hlt, decide_eq_true hlt, getD_at hy, hdf, hc, hb8, appInt, hN]
        try rfl
      · obtain ⟨j, rfl⟩ : ∃ j, k = j + 1 := ⟨k - 1, by omega⟩
        have hbf : e.brk = false := by
          cases h : e.brk
          · rfl
          · exact absurd (.inr h) hb
        have hlj : j < es.length := by omega
        have hjx : j < xs.length := by omega
        have hjk : j < ks.length := by omega
        have hz : es[j]? = some es[j] := List.getElem?_eq_getElem hlj
        have hgj := hg.1.2 es[j] (List.getElem_mem hlj)
        generalize es[j] = y at hz hgj
        obtain ⟨p, hp⟩ := F.forO_at hlj
        have hD := F.forO_D hy hz hd hbf hp
        obtain ⟨q1, q2⟩ := hF.2.2.1 j p (by omega) hp
        have hpos : decide ((0 : Int) < ((j + 1 : Nat) : Int)) = true := decide_eq_true (by omega)
        have hi : idx (IntKind.i64.wrap (((j + 1 : Nat) : Int) - 1)) = some j := by
          have : IntKind.i64.wrap (((j + 1 : Nat) : Int) - 1) = ((j : Nat) : Int) := by rw [wrap_id (by omega) (by omega)]; omega
          rw [this]; rfl
        have g2 : ks.getD j false = p.isSome := getD_at q2
        cases p with
        | none =>
          have g2 : ks.getD j false = false := g2
          right
          refine ⟨(xs ++ [-1], ks, j + 1 + 1), ?_, rfl, ⟨hF.step hlt hD rfl rfl (fun _ _ => rfl) hkf, hlt⟩, by simp only; omega, rfl⟩
          rw [evRd1L]
          simp only [unWithin, preWithin1, unstRd1, unstRd2, unstRd3, unstRd10, unstRd30, prlRd1, prlRd2, prlRd3, outRd1, outRd2, outRd3, etaEnt, etaLst, etaSnd, etaStrm, etaMas, Option.bind_some, List.length_map, unStrs, unInts, unBools, unEnts, unItms, unTrns, cond_true, cond_false, Bool.and_true, Bool.true_and, cast_lt hlt, decide_eq_true hlt, decide_eq_true hjk, getD_at hy, hdf, hbf, hpos, hi, g2, hb8, appInt, hN, Bool.not_false]
          try rfl
        | some x =>
          have g2 : ks.getD j false = true := g2
          have g1 : xs.getD j 0 = x := getD_at q1
          have hx0 : 0 ≤ x := F.forO_pos hg.1 hp
          have hxM := F.forO_top hg hp
          have hw : IntKind.i64.wrap (x + y.milli) = x + y.milli := wrap_id (by omega) (by omega)
          right
          refine ⟨(xs ++ [x + y.milli], ks.set (j + 1) true, j + 1 + 1), ?_, rfl, ⟨hF.step hlt hD rfl (by simp) hj1 hs1, hlt⟩, by simp only; omega, rfl⟩
          rw [evRd1L]
          simp only [unWithin, preWithin1, unstRd1, unstRd2, unstRd3, unstRd10, unstRd30, prlRd1, prlRd2, prlRd3, outRd1, outRd2, outRd3, etaEnt, etaLst, etaSnd, etaStrm, etaMas, Option.bind_some, List.length_map, unStrs, unInts, unBools, unEnts, unItms, unTrns, cond_true, cond_false, Bool.and_true, Bool.true_and, cast_lt hlt, decide_eq_true hlt, decide_eq_true hlj, decide_eq_true hkk, decide_eq_true hjk, decide_eq_true hjx, getD_at hy, getD_at hz, hdf, hbf, hpos, hi, g1, g2, hw, hb8, setBool, appInt, hN, Bool.not_false]
          try rfl
  · have : k = es.length := by omega
    subst this
    obtain ⟨h1, h2⟩ := hF.done
    left
    refine ⟨(.exit 0, ⟨[(5, .own 14), (4, .own 4), (1, .ptr 1 0 0)], [(14, ⟨false, 4, 1, (F.kOut es).map eB⟩), (4, ⟨false, 3, 1, (F.fOut es).map eI⟩), (1, ⟨true, 0, 0, [[vI t, vI f, vI b, .sl (es.map eEnt), vB en]]⟩)]⟩), ?_, rfl, by simp, rfl⟩
    rw [evRd1L]
    simp only [unWithin, preWithin1, unstRd1, unstRd2, unstRd3, unstRd10, unstRd30, prlRd1, prlRd2, prlRd3, outRd1, outRd2, outRd3, etaEnt, etaLst, etaSnd, etaStrm, etaMas, Option.bind_some, List.length_map, unStrs, unInts, unBools, unEnts, unItms, unTrns, cond_true, cond_false, Bool.and_true, Bool.true_and, cast_ge, h1, h2]
    try rfl

theorem evRd2L (t : Int) (f : Int) (b : Int) (es : List Ent) (en : Bool) (xs : List Int) (ks : List Bool) (z : Int) : ((exec enRdt (loopN Tryz.f35 1) (stRd2 t f b es en xs ks z)).bind (lessX ([9, 5, 4, 1], [14, 4, 1]) ([5, 4], [14, 4]) ([], []))).val =
  (fun (q : Option Nat) => (fun (q_1 : Blk) => (fun (q_2 : Blk) => (fun (q_3 : Nat) => (fun (q_4 : Nat) => (fun (q_5 : Ent) => (fun (q_6 : List (Nat × AV)) => (fun (q_7 :
  List (Nat × Blk)) => (fun (q_8 : Option (Ex × St)) => bif decide ((0 : Int) ≤ z) then Option.bind (idx z) fun (z_1 : Nat) => bif decide (z_1 < q_3) then Option.bind (unenc
  (List.map eB) (List.map eB ks)) fun (z_2 : List Bool) => (fun (q_9 : Bool) => bif decide (z_1 < List.length z_2) then bif q_9 then bif q_9 then Option.bind q fun (z_3 :
  Nat) => bif decide (z_3 < q_3) then bif q_9 then Option.bind (unenc (List.map eB) (List.map eB ks)) fun (z_4 : List Bool) => (fun (q_10 : Bool) => (fun (q_11 : Option (Ex
  × St)) => bif decide (z_3 < List.length z_4) then bif q_10 then bif q_10 then Option.bind q fun (z_5 : Nat) => Option.bind (unenc (List.map eEnt) (List.map eEnt es)) fun
  (z_6 : List Ent) => bif decide (z_5 < List.length z_6) then bif bif q_10 then !(List.getD z_6 z_5 q_5).brk else false then Option.bind q fun (z_7 : Nat) => bif decide (z_7
  < q_4) then Option.bind (unenc (List.map eI) (List.map eI xs)) fun (z_8 : List Int) => bif decide (z_7 < List.length z_8) then Option.bind (idx z) fun (z_9 : Nat) =>
  Option.bind (unenc (List.map eEnt) (List.map eEnt es)) fun (z_10 : List Ent) => bif decide (z_9 < List.length z_10) then Option.bind (idx z) fun (z_11 : Nat) => bif decide
  (z_11 < q_4) then Option.bind (unenc (List.map eI) (List.map eI xs)) fun (z_12 : List Int) => bif decide (z_11 < List.length z_12) then Option.bind (idx z) fun (z : Nat)
  => bif decide (z < q_3) then Option.bind (unenc (List.map eB) (List.map eB ks)) fun (z_13 : List Bool) => bif decide (z < List.length z_13) then some (Ex.normal, St.mk q_6
  ((14, Blk.mk false 4 1 (List.set (List.map eB ks) z [(vB true)])) :: (4, Blk.mk false 3 1 (List.set (List.map eI xs) z_11 [(vI (IntKind.wrap IntKind.i64 (List.getD z_8 z_7
  (0 : Int) - (List.getD z_10 z_9 q_5).milli)))])) :: q_7)) else none else none else none else none else none else none else none else q_8 else none else q_11 else bif q_10
  then none else q_11 else none) (bif q_10 then none else bif q_10 then none else bif q_10 then none else q_8)) (bif q_9 then List.getD z_4 z_3 false else false) else q_8
  else none else bif q_9 then none else q_8 else bif q_9 then none else bif q_9 then none else q_8 else none) !List.getD z_2 z_1 false else none else some (Ex.exit (2 :
  Nat), St.mk [(5, .own 14), (4, .own 4)] [(14, q_2), (4, q_1)])) (some (Ex.normal, St.mk q_6 ((14, q_2) :: (4, q_1) :: q_7)))) [(1, Blk.mk true 0 0 [[(vI t), (vI f), (vI
  b), AV.sl (List.map eEnt es), (vB en)]])]) [(9, (vI (IntKind.wrap IntKind.i64 (z - (1 : Int))))), (5, .own 14), (4, .own 4), (1, .ptr 1 0 0)]) (Ent.mk (ByteArray.mk
  (Array.mk [])) (0 : Int) false (0 : Int) (ByteArray.mk (Array.mk [])) false [])) (List.length q_1.rows)) (List.length q_2.rows)) (Blk.mk false 4 1 (List.map eB ks)))
  (Blk.mk false 3 1 (List.map eI xs))) (idx (IntKind.wrap IntKind.i64 (z + (1 : Int)))) := by kernel_rfl

theorem lpRd2_ok (t : Int) (f : Int) (b : Int) (es : List Ent) (en : Bool) (xs : List Int) (ks : List Bool) (z : Int) (hp : prlRd2 t f b es en xs ks z = true) : ∀ ex s', (outRd2 t f b es en xs ks z).val = some (ex, s') → LoopOK enRdt (loopN Tryz.f35 1) (stRd2 t f b es en xs ks z) ex s' := by
  simp only [prlRd2, Bool.and_eq_true, decide_eq_true_eq] at hp
  obtain ⟨hg, hB, hz1, hz2⟩ := F.rbB_iff.1 hp
  refine loop_gen (st := fun a : List Int × List Bool × Int => stRd2 t f b es en a.1 a.2.1 a.2.2) (out := fun a => outRd2 t f b es en a.1 a.2.1 a.2.2) (I := fun a => F.BwdR es a.1 a.2.1 a.2.2 ∧ -2 ≤ a.2.2 ∧ a.2.2 ≤ (es.length : Int) - 2) (n := ([9, 5, 4, 1], [14, 4, 1])) (e := ([5, 4], [14, 4])) (r := ([], [])) (fun a => (a.2.2 + 2).toNat) ?_ (xs, ks, z) ⟨hB, hz1, hz2⟩
  clear hB hz1 hz2 hp xs z ks
  rintro ⟨xs, ks, z⟩ ⟨hB, hz1, hz2⟩
  simp only at hB hz1 hz2
  have hn := hg.1.1
  by_cases h0 : 0 ≤ z
  · obtain ⟨k, rfl⟩ := Int.eq_ofNat_of_zero_le h0
    have hlt : k < es.length := by omega
    have hlt1 : k + 1 < es.length := by omega
    have hkx : k < xs.length := by rw [hB.1]; exact hlt
    have hkx1 : k + 1 < xs.length := by rw [hB.1]; exact hlt1
    have hkk : k < ks.length := by rw [hB.2.1]; exact hlt
    have hkk1 : k + 1 < ks.length := by rw [hB.2.1]; exact hlt1
    have hy : es[k]? = some es[k] := List.getElem?_eq_getElem hlt
    have hgk := hg.1.2 es[k] (List.getElem_mem hlt)
    generalize es[k] = y at hy hgk
    have he : es[k + 1]? = some es[k + 1] := List.getElem?_eq_getElem hlt1
    generalize es[k + 1] = e at he
    obtain ⟨p, hp⟩ := F.forO_at hlt
    obtain ⟨d, hd⟩ : ∃ d, (F.datO es)[k + 1]? = some d := ⟨_, List.getElem?_eq_getElem (by rw [F.datO_len]; exact hlt1)⟩
    have q0 := hB.2.2.2 k p (by omega) hp
    obtain ⟨q2, q3⟩ := hB.2.2.1 (k + 1) d (by omega) hd
    have hi : idx ((k : Nat) : Int) = some k := rfl
    have hi1 : idx (IntKind.i64.wrap ((k : Int) + 1)) = some (k + 1) := by
      have : IntKind.i64.wrap ((k : Int) + 1) = ((k + 1 : Nat) : Int) := by rw [wrap_id (by omega) (by omega)]; omega
      rw [this]; rfl
    have hw1 : IntKind.i64.wrap ((k : Int) - 1) = (k : Int) - 1 := wrap_id (by omega) (by omega)
    have g1 : ks.getD k false = p.isSome := getD_at q0.2
    have g2 : ks.getD (k + 1) false = d.isSome := getD_at q3
    cases p with
    | some x =>
      have g1 : ks.getD k false = true := g1
      right
      refine ⟨(xs, ks, (k : Int) - 1), ?_, rfl, ⟨hB.step hlt (F.datO_some hp) q0, by simp only; omega, by simp only; omega⟩, by simp only; omega, rfl⟩
      rw [evRd2L]
      simp only [unWithin, preWithin1, unstRd1, unstRd2, unstRd3, unstRd10, unstRd30, prlRd1, prlRd2, prlRd3, outRd1, outRd2, outRd3, etaEnt, etaLst, etaSnd, etaStrm, etaMas, Option.bind_some, List.length_map, unStrs, unInts, unBools, unEnts, unItms, unTrns, cond_true, cond_false, Bool.and_true, Bool.true_and, decide_eq_true h0, hi, decide_eq_true hkk, g1, hw1, Bool.not_true]
      try rfl
    | none =>
      have g1 : ks.getD k false = false := g1
      have hDB := F.datO_B hy he hp hd
      cases d with
      | none =>
        have g2 : ks.getD (k + 1) false = false := g2
        have hnn : (F.datO es)[k]? = some none := by rw [hDB]; simp
        right
        refine ⟨(xs, ks, (k : Int) - 1), ?_, rfl, ⟨hB.step hlt hnn q0, by simp only; omega, by simp only; omega⟩, by simp only; omega, rfl⟩
        rw [evRd2L]
        simp only [unWithin, preWithin1, unstRd1, unstRd2, unstRd3, unstRd10, unstRd30, prlRd1, prlRd2, prlRd3, outRd1, outRd2, outRd3, etaEnt, etaLst, etaSnd, etaStrm, etaMas, Option.bind_some, List.length_map, unStrs, unInts, unBools, unEnts, unItms, unTrns, cond_true, cond_false, Bool.and_true, Bool.true_and, decide_eq_true h0, hi, hi1, decide_eq_true hkk, decide_eq_true hkk1, g1, g2, hw1, Bool.not_true, Bool.not_false]
        try rfl
      | some v =>
        have g2 : ks.getD (k + 1) false = true := g2
        have g3 : xs.getD (k + 1) 0 = v := getD_at q2
        have hvb := F.datO_low hg (es.length - 1 - (k + 1)) (k + 1) v (by omega) hd
        cases hb : e.brk
        · have hDv : (F.datO es)[k]? = some (some (v - y.milli)) := by rw [hDB, hb]; rfl
          have hw : IntKind.i64.wrap (v - y.milli) = v - y.milli := wrap_id (by omega) (by omega)
          right
          refine ⟨(xs.set k (v - y.milli), ks.set k true, (k : Int) - 1), ?_, rfl, ⟨hB.stepSet hlt hDv, by simp only; omega, by simp only; omega⟩, by simp only; omega, rfl⟩
          rw [evRd2L]
          simp only [unWithin, preWithin1, unstRd1, unstRd2, unstRd3, unstRd10, unstRd30, prlRd1, prlRd2, prlRd3, outRd1, outRd2, outRd3, etaEnt, etaLst, etaSnd, etaStrm, etaMas, Option.bind_some, List.length_map, unStrs, unInts, unBools, unEnts, unItms, unTrns, cond_true, cond_false, Bool.and_true, Bool.true_and, decide_eq_true h0, hi, hi1, decide_eq_true hkx, decide_eq_true hkx1, decide_eq_true hkk, decide_eq_true hkk1, decide_eq_true hlt, decide_eq_true hlt1, getD_at he, getD_at hy, g1, g2, g3, hb, hw1, hw, setInt, setBool, Bool.not_true, Bool.not_false]
          try rfl
        · have hnn : (F.datO es)[k]? = some none := by rw [hDB, hb]; rfl
          right
          refine ⟨(xs, ks, (k : Int) - 1), ?_, rfl, ⟨hB.step hlt hnn q0, by simp only; omega, by simp only; omega⟩, by simp only; omega, rfl⟩
          rw [evRd2L]
          simp only [unWithin, preWithin1, unstRd1, unstRd2, unstRd3, unstRd10, unstRd30, prlRd1, prlRd2, prlRd3, outRd1, outRd2, outRd3, etaEnt, etaLst, etaSnd, etaStrm, etaMas, Option.bind_some, List.length_map, unStrs, unInts, unBools, unEnts, unItms, unTrns, cond_true, cond_false, Bool.and_true, Bool.true_and, decide_eq_true h0, hi, hi1, decide_eq_true hkk, decide_eq_true hkk1, decide_eq_true hlt1, getD_at he, g1, g2, hb, hw1, Bool.not_true, Bool.not_false]
          try rfl
  · obtain ⟨h1, h2⟩ := hB.fin (by omega)
    left
    refine ⟨(.exit 2, ⟨[(5, .own 14), (4, .own 4)], [(14, ⟨false, 4, 1, (F.dKn es).map eB⟩), (4, ⟨false, 3, 1, (F.dOut es).map eI⟩)]⟩), ?_, rfl, by simp, rfl⟩
    rw [evRd2L]
    simp only [unWithin, preWithin1, unstRd1, unstRd2, unstRd3, unstRd10, unstRd30, prlRd1, prlRd2, prlRd3, outRd1, outRd2, outRd3, etaEnt, etaLst, etaSnd, etaStrm, etaMas, Option.bind_some, List.length_map, unStrs, unInts, unBools, unEnts, unItms, unTrns, cond_true, cond_false, Bool.and_true, Bool.true_and, decide_eq_false h0, ← h1, ← h2]
    try rfl

theorem evRd3L (xs : List Int) (ks : List Bool) (k : Nat) : ((exec enRdt (loopN Tryz.f35 2) (stRd3 xs ks k)).bind (lessX ([10, 5, 4], [14, 4]) ([4], [4]) ([3, 2], [2]))).val =
  (fun (q : Blk) => (fun (q_1 : Blk) => (fun (q_2 : List AV) => (fun (q_3 : Option (Int × Int × Int)) => (fun (q_4 : Option (Ex × St)) => (fun (q_5 : Option (Ex × St)) =>
  bif decide ((↑k : Int) < (↑(List.length (List.map eI xs)) : Int)) then bif decide (k < List.length q.rows) then Option.bind (unenc (List.map eB) (List.map eB ks)) fun (z :
  List Bool) => (fun (q : Option (Ex × St)) => bif decide (k < List.length z) then bif List.getD z k false then bif decide (k < List.length q_1.rows) then bif List.getD z k
  false then Option.bind (unenc (List.map eI) (List.map eI xs)) fun (z_1 : List Int) => bif decide (k < List.length z_1) then bif List.getD z k false then Option.bind (unenc
  encWithin ((vI (List.getD z_1 k (0 : Int))) :: q_2)) fun (z_2 : Int × Int × Int) => bif bif List.getD z k false then !F.within z_2.fst z_2.snd.fst z_2.snd.snd else false
  then q_4 else q_5 else bif List.getD z k false then none else q_5 else none else q else none else bif List.getD z k false then none else q else none) (bif List.getD z k
  false then Option.bind q_3 fun (z_1 : Int × Int × Int) => bif bif List.getD z k false then !F.within z_1.fst z_1.snd.fst z_1.snd.snd else false then q_4 else q_5 else bif
  List.getD z k false then none else q_5) else none else some (Ex.exit (4 : Nat), St.mk [(4, .own 4)] [(4, q_1)])) (some (Ex.normal, St.mk [(10, (vI (IntKind.wrap
  IntKind.i64 ((↑k : Int) + (1 : Int))))), (5, .own 14), (4, .own 4)] [(14, q), (4, q_1)]))) (some (Ex.ret, St.mk [(3, (vI (1 : Int))), (2, .own 2)] [(2, Blk.mk false 3 1
  [])]))) (unenc encWithin (AV.unk :: q_2))) [(vI (0 : Int)), (vI (253402300799999 : Int))]) (Blk.mk false 3 1 (List.map eI xs))) (Blk.mk false 4 1 (List.map eB ks)) := by kernel_rfl

theorem lpRd3_ok (xs : List Int) (ks : List Bool) (k : Nat) (hp : prlRd3 xs ks k = true) : ∀ ex s', (outRd3 xs ks k).val = some (ex, s') → LoopOK enRdt (loopN Tryz.f35 2) (stRd3 xs ks k) ex s' := by
  simp only [prlRd3, Bool.and_eq_true, decide_eq_true_eq] at hp
  obtain ⟨⟨h1, h2⟩, h3⟩ := hp
  have hz : (xs.zip ks).length = xs.length := by rw [List.length_zip]; omega
  refine loop_all (xs := xs.zip ks) (st := stRd3 xs ks) (p := fun p => !p.2 || !F.out p.1 0 253402300799999) (n := ([10, 5, 4], [14, 4])) (e := ([4], [4])) (r := ([3, 2], [2])) ?_ ⟨by simp, rfl⟩ ⟨by simp, rfl⟩ (fun _ => rfl) ?_ k (by omega)
  · rw [hz]; rw [evRd3L]; simp
  · intro k y hy
    rw [List.getElem?_zip_eq_some] at hy
    obtain ⟨ha, hb⟩ := hy
    have hlt := lt_at ha
    have hlt' := lt_at hb
    have hN := next_at hlt (by omega : xs.length ≤ 9223372036854775807)
    obtain ⟨x, q⟩ := y
    have g1 : xs.getD k 0 = x := getD_at ha
    have g2 : ks.getD k false = q := getD_at hb
    rw [evRd3L]
    simp only [unWithin, preWithin1, unstRd1, unstRd2, unstRd3, unstRd10, unstRd30, prlRd1, prlRd2, prlRd3, outRd1, outRd2, outRd3, etaEnt, etaLst, etaSnd, etaStrm, etaMas, Option.bind_some, List.length_map, unStrs, unInts, unBools, unEnts, unItms, unTrns, cond_true, cond_false, Bool.and_true, Bool.true_and, cast_lt hlt, decide_eq_true hlt, decide_eq_true hlt', hN, g1, g2, stRd3, F.within_eq, Bool.not_not]
    cases q
    · simp only [cond_false, Bool.not_false, Bool.true_or]
      try rfl
    · simp only [cond_true, Bool.not_true, Bool.false_or]
      cases F.out x 0 253402300799999 <;> rfl

theorem evRdt (l : Lst) : (runF enRdt false Tryz.f35 [.agg (eLst l)]).val =
  (fun (q : Nat) => (fun (q_1 : List (Nat × AV)) => bif Nat.ble q q && Nat.ble (q * (1 : Nat)) (140737488355328 : Nat) then Option.bind (unenc stRd11 (St.mk ((6, (vI (0 :
  Int))) :: q_1) [(14, Blk.mk false 4 1 (List.replicate q [(vB false)])), (4, Blk.mk false 3 1 []), (1, Blk.mk true 0 0 [[(vI l.target), (vI l.first), (vI l.breaks), AV.sl
  (List.map eEnt l.entries), (vB l.ended)]])])) fun (z : Int × Int × Int × List Ent × Bool × List Int × List Bool × Nat) => bif F.rfB z.snd.snd.snd.fst
  z.snd.snd.snd.snd.snd.fst z.snd.snd.snd.snd.snd.snd.fst z.snd.snd.snd.snd.snd.snd.snd && true then Option.bind (unenc stRd21 (St.mk ((9, (vI (IntKind.wrap IntKind.i64
  ((↑(List.length (List.map eI (F.fOut z.snd.snd.snd.fst))) : Int) - (2 : Int))))) :: q_1) [(14, Blk.mk false 4 1 (List.map eB (F.kOut z.snd.snd.snd.fst))), (4, Blk.mk false
  3 1 (List.map eI (F.fOut z.snd.snd.snd.fst))), (1, Blk.mk true 0 0 [[(vI z.fst), (vI z.snd.fst), (vI z.snd.snd.fst), AV.sl (List.map eEnt z.snd.snd.snd.fst), (vB
  z.snd.snd.snd.snd.fst)]])])) fun (z : Int × Int × Int × List Ent × Bool × List Int × List Bool × Int) => bif F.rbB z.snd.snd.snd.fst z.snd.snd.snd.snd.snd.fst
  z.snd.snd.snd.snd.snd.snd.fst z.snd.snd.snd.snd.snd.snd.snd && true then Option.bind (unenc stRd31 (St.mk [(10, (vI (0 : Int))), (5, .own 14), (4, .own 4)] [(14, Blk.mk
  false 4 1 (List.map eB (F.dKn z.snd.snd.snd.fst))), (4, Blk.mk false 3 1 (List.map eI (F.dOut z.snd.snd.snd.fst)))])) fun (z : List Int × List Bool × Nat) => bif decide
  (List.length z.snd.fst = List.length z.fst) && decide (List.length z.fst ≤ (1000 : Nat)) && decide (z.snd.snd ≤ List.length z.fst) && true then bif List.all (List.drop
  z.snd.snd (List.zip z.fst z.snd.fst)) fun (p : Int × Bool) => !p.snd || !F.out p.fst (0 : Int) (253402300799999 : Int) then some (AV.tup [AV.sl (List.map eI z.fst), (vI (0
  : Int))], []) else some (AV.tup [AV.sl [], (vI (1 : Int))], []) else none else none else none else none) [(5, .own 14), (4, .own 4), (1, .ptr 1 0 0)]) (List.length
  (List.map eEnt l.entries)) := by kernel_rfl

def encRdt1 (l : Lst) : List AV := [.agg (eLst l)]

def encRdt (a : Lst) : List AV := encRdt1 a

theorem encRdt_inj (a a' : Lst) (h : encRdt a = encRdt a') : a = a' := by
  simp only [encRdt, encRdt1] at h
  try simp [strs_inj, ints_inj, ents_inj, eEnt_iff, eLst_iff, bools_inj] at h
  grind

theorem unRdt (l : Lst) : unenc encRdt ([AV.agg [(vI l.target), (vI l.first), (vI l.breaks), AV.sl (List.map eEnt l.entries), (vB l.ended)]]) = some (l) := unenc_of encRdt_inj (l) rfl

theorem unRdtw (l_target : Int) (l_first : Int) (l_breaks : Int) (l_entries : List Ent) (l_ended : Bool) : unenc encRdt ([AV.agg [(vI l_target), (vI l_first), (vI l_breaks), AV.sl (List.map eEnt l_entries), (vB l_ended)]]) = some ((Lst.mk l_target l_first l_breaks l_entries l_ended)) := unenc_of encRdt_inj ((Lst.mk l_target l_first l_breaks l_entries l_ended)) rfl

def resRdt1 (l : Lst) : AV × Heap := (.tup [.sl ((F.datesF l.entries).1.map eI), vI (F.datesF l.entries).2], [])

def preRdt1 (l : Lst) : Bool := decide (F.check l = 0)

noncomputable def oRdt : Orc := orc 35 false encRdt (fun a => preRdt1 a) fun a => resRdt1 a

theorem okRdt : OrcOK Tryz.prog noG oRdt := by
  refine mk_ok Tryz.f35 (keep := false) (by kernel_rfl) (by kernel_rfl) enRdt_ok mixed (three_loops (x0 := loopN Tryz.f35 0) (x1 := loopN Tryz.f35 1) (x2 := loopN Tryz.f35 2) (by kernel_rfl) (lpo_ok ?_) (lpo_ok ?_) (lpo_ok ?_)) (by first | exact fun _ _ => ⟨rfl, rfl⟩ | (intro h; cases h)) ?_
  · rintro ⟨t, f, b, es, en, xs, ks, k⟩ hp
    exact lpRd1_ok t f b es en xs ks k hp
  · rintro ⟨t, f, b, es, en, xs, ks, z⟩ hp
    exact lpRd2_ok t f b es en xs ks z hp
  · rintro ⟨xs, ks, k⟩ hp
    exact lpRd3_ok xs ks k hp
  rintro l hpre hok
  show (runF enRdt false _ (encRdt1 _)).val = some (resRdt1 _)
  unfold encRdt1 resRdt1
  rw [evRdt]
  have hc : F.check l = 0 := of_decide_eq_true hpre
  have hg := F.goodD_of hc
  have hn := hg.1.1
  have hb1 : Nat.ble (l.entries.length * 1) 140737488355328 = true := ble_t (by omega)
  have p1 : F.rfB l.entries [] (List.replicate l.entries.length false) 0 = true := F.rfB_iff.2 ⟨hg, ⟨rfl, by simp, fun j d hj => absurd hj (by omega), fun j _ hj => by simp [hj]⟩, Nat.zero_le _⟩
  have hl : (F.fOut l.entries).length = l.entries.length := by unfold F.fOut; rw [List.length_map, F.forO_len]
  simp only [rep_bools]
  simp only [unWithin, preWithin1, unstRd1, unstRd2, unstRd3, unstRd10, unstRd30, prlRd1, prlRd2, prlRd3, outRd1, outRd2, outRd3, etaEnt, etaLst, etaSnd, etaStrm, etaMas, Option.bind_some, List.length_map, unStrs, unInts, unBools, unEnts, unItms, unTrns, cond_true, cond_false, Bool.and_true, Bool.true_and, hb1, ble_t (Nat.le_refl l.entries.length), Bool.and_self, p1, F.datesF_eq, hl, List.map_nil]
  have hw : IntKind.i64.wrap ((l.entries.length : Int) - 2) = (l.entries.length : Int) - 2 := wrap_id (by omega) (by omega)
  have p2 : F.rbB l.entries (F.fOut l.entries) (F.kOut l.entries) ((l.entries.length : Int) - 2) = true := F.rbB_iff.2 ⟨hg, F.BwdR.start (F.FwdR.back _), by omega, by omega⟩
  have hl2 : (F.dOut l.entries).length = l.entries.length := by unfold F.dOut; rw [List.length_map, F.datO_len]
  have hl3 : (F.dKn l.entries).length = l.entries.length := by unfold F.dKn; rw [List.length_map, F.datO_len]
  have hz : (((F.dOut l.entries).zip (F.dKn l.entries)).all fun p => !p.2 || !F.out p.1 0 253402300799999) = F.dOk l.entries := F.zip_ok _
  rw [hw]
  simp only [unstRd2, unstRd30, Option.bind_some, prlRd2, outRd2, prlRd3, outRd3, p2, cond_true, hl2, hl3, decide_true, decide_eq_true hn, Bool.and_self, Nat.zero_le, List.drop_zero, hz]
  unfold F.dOut
  cases F.dOk l.entries <;> rfl

end M
end Go.Proofs.YtajmdlpanlbnjaaGreatDoor

namespace Go.Proofs.YtajmdlpanlbnjaaGreatDoor
open Go Go.RowKit Go.Sort
set_option linter.unusedVariables false
set_option linter.unusedSimpArgs false

def F.itoa (n : Int) : ByteArray := ⟨(Lib.itoa n).toArray⟩

theorem F.itoa_size {n : Int} (h0 : -9223372036854775808 ≤ n) (h1 : n ≤ 9223372036854775807) : (F.itoa n).size ≤ 21 := by
  have := Lib.itoa_length_le n h0 h1
  show (Lib.itoa n).toArray.size ≤ 21
  simpa using this

namespace M

theorem below_grow (w : World) (k : Nat) (os : Array Obj) : Below w.heap.size w (grow (w.drewN k) os) :=
  ⟨rfl, rfl, rfl, by first | (simp [grow]; done) | (simp [grow]; omega), fun i hi => by
    show ((w.drewN k).heap ++ os)[i]? = _
    rw [Array.getElem?_append_left (by show i < w.heap.size; omega)]
    rfl⟩

def encIta1 (n : Int) : List AV := [vI n]

def encIta (a : Int) : List AV := encIta1 a

theorem encIta_inj (a a' : Int) (h : encIta a = encIta a') : a = a' := by
  simp only [encIta, encIta1] at h
  try simp [strs_inj, ents_inj, eEnt_iff, eLst_iff] at h
  grind

theorem unIta (n : Int) : unenc encIta ([(vI n)]) = some (n) := unenc_of encIta_inj (n) rfl

def resIta1 (n : Int) : AV × Heap := (vS (F.itoa n), [])

def preIta1 (n : Int) : Bool := decide (-9223372036854775808 ≤ n) && decide (n ≤ 9223372036854775807)

noncomputable def oIta : Orc := orc 39 true encIta (fun a => preIta1 a) fun a => resIta1 a

theorem okIta : OrcOK Tryz.prog noG oIta := by
  refine orc_ok ⟨Tryz.f39, by kernel_rfl, by kernel_rfl, by kernel_rfl⟩ (fun n hp _ => ?_) (fun _ _ => ⟨rfl, rfl⟩)
  simp only [preIta1, Bool.and_eq_true, decide_eq_true_eq] at hp
  have hz := F.itoa_size hp.1 hp.2
  refine SpecP.below1 (fun w S => rv_mk (by show (F.itoa n).size ≤ 9223372036854775807; omega)) fun _ w S hG => ?_
  have hg := hG 2 ⟨[], fun cs => cs = (Lib.pow10Tab.map fun z => Value.int .u64 z).toArray⟩ rfl
  obtain ⟨cs, ty, o, h1, h2⟩ := hg.cells
  have htab : Lib.TabIs Tryz.prog w "internal/strconv.uint64pow10" .u64 Lib.pow10Tab := by
    have hn : Tryz.prog.globalNamed "internal/strconv.uint64pow10" = some 2 := by kernel_rfl
    simp only [Lib.TabIs, World.var?, hn, Option.bind_some, h1]
    rw [h2]
  refine (Tryz.strconv_Itoa n hp.1 hp.2 w htab).mono ?_
  rintro e w' ⟨he, k, os, rfl⟩
  exact ⟨he, below_grow w k os⟩

end M
end Go.Proofs.YtajmdlpanlbnjaaGreatDoor

namespace Go.Proofs.YtajmdlpanlbnjaaGreatDoor
open Go Go.RowKit
set_option linter.unusedVariables false
set_option linter.unusedSimpArgs false

theorem F.dd_lt {n : Nat} (h : n < 10) : Lib.decDigits n = [UInt8.ofNat (48 + n)] := by rw [Lib.decDigits, dif_pos h]

theorem F.dd_ge {n : Nat} (h : ¬ n < 10) : Lib.decDigits n = Lib.decDigits (n / 10) ++ [UInt8.ofNat (48 + n % 10)] := by rw [Lib.decDigits, dif_neg h]

theorem F.u8_dg {n : Nat} (h : n < 10) : (UInt8.ofNat (48 + n)).toNat = 48 + n := by rw [UInt8.toNat_ofNat']; omega

theorem F.dd_ok (n : Nat) : (Lib.decDigits n).all F.dgB = true ∧ F.dvA 0 (Lib.decDigits n) = n ∧ Lib.decDigits n ≠ [] := by
  induction n using Nat.strongRecOn with
  | ind n ih =>
    by_cases h : n < 10
    · have hn := F.u8_dg h
      rw [F.dd_lt h]
      refine ⟨?_, ?_, by simp⟩
      · simp only [List.all_cons, List.all_nil, Bool.and_true, F.dgB, hn, Bool.and_eq_true, decide_eq_true_eq]; omega
      · rw [F.dvA_cons, F.dvA_nil, hn]; omega
    · obtain ⟨i1, i2, i3⟩ := ih (n / 10) (by omega)
      have hn := F.u8_dg (n := n % 10) (by omega)
      rw [F.dd_ge h]
      refine ⟨?_, ?_, by simp⟩
      · rw [List.all_append, i1]
        simp only [List.all_cons, List.all_nil, Bool.and_true, F.dgB, hn, Bool.and_eq_true, decide_eq_true_eq, Bool.true_and]; omega
      · rw [F.dvA_app, i2, F.dvA_cons, F.dvA_nil, hn]; omega

theorem F.dd_len : ∀ (k n : Nat), n < 10 ^ (k + 1) → (Lib.decDigits n).length ≤ k + 1
  | 0, n, h => by rw [F.dd_lt (by simpa using h)]; exact Nat.le_refl _
  | k + 1, n, h => by
    by_cases h1 : n < 10
    · rw [F.dd_lt h1, List.length_singleton]; omega
    · have := F.dd_len k (n / 10) (by rw [Nat.pow_succ] at h; omega)
      rw [F.dd_ge h1, List.length_append, List.length_singleton]; omega

theorem F.itoa_n (n : Nat) : F.bs (F.itoa (n : Int)) = Lib.decDigits n := by
  unfold F.bs F.itoa
  rw [Lib.itoa_nonneg]

end Go.Proofs.YtajmdlpanlbnjaaGreatDoor

namespace Go.Proofs.YtajmdlpanlbnjaaGreatDoor
open Go Go.RowKit
set_option linter.unusedVariables false
set_option linter.unusedSimpArgs false

namespace M

theorem drop_y {α : Type} {l : List α} {k : Nat} {y : α} (h : l[k]? = some y) : l.drop k = y :: l.drop (k + 1) := by
  obtain ⟨h1, rfl⟩ := List.getElem?_eq_some_iff.1 h
  exact List.drop_eq_getElem_cons h1

end M
end Go.Proofs.YtajmdlpanlbnjaaGreatDoor

namespace Go.Proofs.YtajmdlpanlbnjaaGreatDoor
open Go Go.RowKit
set_option linter.unusedVariables false
set_option linter.unusedSimpArgs false

theorem F.isD_le {s : ByteArray} (h : F.isD s = true) : F.dv s ≤ 9223372036854775807 := by
  unfold F.isD at h
  simp only [Bool.and_eq_true, decide_eq_true_eq] at h
  exact h.2

def F.dot : ByteArray := ⟨⟨[46]⟩⟩

namespace M

def encAto1 (s : ByteArray) : List AV := [vS s]

def encAto (a : ByteArray) : List AV := encAto1 a

theorem encAto_inj (a a' : ByteArray) (h : encAto a = encAto a') : a = a' := by
  simp only [encAto, encAto1] at h
  try simp [strs_inj, ints_inj, ents_inj, eEnt_iff, eLst_iff, eSnds_inj, eStrms_inj] at h
  grind

theorem unAto (s : ByteArray) : unenc encAto ([(vS s)]) = some (s) := unenc_of encAto_inj (s) rfl

def resAto1 (s : ByteArray) : AV × Heap := (.tup [vI (F.dv s : Nat), .v .nilIface], [])

def preAto1 (s : ByteArray) : Bool := F.isD s && decide (s.size ≤ 1000)

noncomputable def oAto : Orc := orc 132 true encAto (fun a => preAto1 a) fun a => resAto1 a

theorem okAto : OrcOK Tryz.prog noG oAto := by
  refine orc_ok ⟨Tryz.f132, by kernel_rfl, by kernel_rfl, by kernel_rfl⟩ (fun s hp _ => ?_) (fun _ _ => ⟨rfl, rfl⟩)
  simp only [preAto1, Bool.and_eq_true, decide_eq_true_eq] at hp
  have h1 := F.isD_ato hp.1
  have h2 := F.isD_le hp.1
  refine SpecP.below1 (rv := .tuple #[.int .i64 (F.dv s : Nat), .nilIface]) (fun w S => ⟨[_, _], rfl, R0.v (by simp only [okAtom, IntKind.min, IntKind.max, IntKind.signed, IntKind.bits]; simp; omega), R0.v trivial, trivial⟩) fun hk w S hG => ?_
  refine (Tryz.strconv_Atoi_ok s (by omega) (F.dv s : Nat) h1 w).mono ?_
  rintro e w' ⟨he, h | ⟨t, h⟩⟩
  · subst h; exact ⟨he, Below.refl _ _⟩
  · subst h; exact ⟨he, Lib.bytesWorld_below w _ _⟩

end M
end Go.Proofs.YtajmdlpanlbnjaaGreatDoor

namespace Go.Proofs.YtajmdlpanlbnjaaGreatDoor
open Go Go.RowKit
set_option linter.unusedVariables false
set_option linter.unusedSimpArgs false

def F.leap (y : Int) : Bool := bif (bif (y.tmod 4 == 0) then !(y.tmod 100 == 0) else false) then true else y.tmod 400 == 0

def F.mdays (y m : Int) : Int := bif m == 2 then (bif F.leap y then 29 else 28) else bif m == 4 || m == 6 || m == 9 || m == 11 then 30 else 31

def F.ydays (y : Int) : Int := 365 * (y - 1970) + ((y - 1).tdiv 4 - 492) - ((y - 1).tdiv 100 - 19) + ((y - 1).tdiv 400 - 4)

namespace M

theorem evLep (y : Int) : (runF en0 false Tryz.f96 [vI y]).val =
  bif Int.tmod y (4 : Int) == (0 : Int) then bif !Int.tmod y (100 : Int) != (0 : Int) then some ((vB (Int.tmod y (400 : Int) == (0 : Int))), []) else some ((vB true), [])
  else some ((vB (Int.tmod y (400 : Int) == (0 : Int))), []) := (runFR_val).symm.trans (by kernel_rfl)

def encLep1 (y : Int) : List AV := [vI y]

def encLep (a : Int) : List AV := encLep1 a

theorem encLep_inj (a a' : Int) (h : encLep a = encLep a') : a = a' := by
  simp only [encLep, encLep1] at h
  try simp [strs_inj, ints_inj, ents_inj, eEnt_iff, eLst_iff, eSnds_inj, eStrms_inj] at h
  grind

theorem unLep (y : Int) : unenc encLep ([(vI y)]) = some (y) := unenc_of encLep_inj (y) rfl

def resLep1 (y : Int) : AV × Heap := (vB (F.leap y), [])

def preLep1 (y : Int) : Bool := decide (0 ≤ y) && decide (y ≤ 100000)

noncomputable def oLep : Orc := orc 96 true encLep (fun a => preLep1 a) fun a => resLep1 a

theorem okLep : OrcOK Tryz.prog noG oLep := by
  refine mk_ok Tryz.f96 (keep := false) (by kernel_rfl) (by kernel_rfl) en0_ok mixed (no_loops (by kernel_rfl)) (by first | exact fun _ _ => ⟨rfl, rfl⟩ | (intro h; cases h)) ?_
  rintro y hpre hok
  show (runF en0 false _ (encLep1 _)).val = some (resLep1 _)
  unfold encLep1 resLep1
  rw [evLep]
  have hpre : (decide (0 ≤ y) && decide (y ≤ 100000)) = true := hpre
  simp only [Bool.and_eq_true, decide_eq_true_eq] at hpre
  simp only [etaEnt, etaLst, etaSnd, etaStrm, etaMas, Option.bind_some, List.length_map, unStrs, unInts, unBools, unEnts, unItms, unTrns, cond_true, cond_false, Bool.and_true, Bool.true_and, F.leap, bne]
  cases y.tmod 4 == 0 <;> cases y.tmod 100 == 0 <;> rfl

theorem evRLep (y : Int) : (runF en0 false Tryz.f101 [vI y]).val =
  bif Int.tmod y (4 : Int) == (0 : Int) then bif !Int.tmod y (100 : Int) != (0 : Int) then some ((vB (Int.tmod y (400 : Int) == (0 : Int))), []) else some ((vB true), [])
  else some ((vB (Int.tmod y (400 : Int) == (0 : Int))), []) := (runFR_val).symm.trans (by kernel_rfl)

def encRLep1 (y : Int) : List AV := [vI y]

def encRLep (a : Int) : List AV := encRLep1 a

theorem encRLep_inj (a a' : Int) (h : encRLep a = encRLep a') : a = a' := by
  simp only [encRLep, encRLep1] at h
  try simp [strs_inj, ints_inj, ents_inj, eEnt_iff, eLst_iff, eSnds_inj, eStrms_inj] at h
  grind

theorem unRLep (y : Int) : unenc encRLep ([(vI y)]) = some (y) := unenc_of encRLep_inj (y) rfl

def resRLep1 (y : Int) : AV × Heap := (vB (F.leap y), [])

def preRLep1 (y : Int) : Bool := decide (0 ≤ y) && decide (y ≤ 100000)

noncomputable def oRLep : Orc := orc 101 true encRLep (fun a => preRLep1 a) fun a => resRLep1 a

theorem okRLep : OrcOK Tryz.prog noG oRLep := by
  refine mk_ok Tryz.f101 (keep := false) (by kernel_rfl) (by kernel_rfl) en0_ok mixed (no_loops (by kernel_rfl)) (by first | exact fun _ _ => ⟨rfl, rfl⟩ | (intro h; cases h)) ?_
  rintro y hpre hok
  show (runF en0 false _ (encRLep1 _)).val = some (resRLep1 _)
  unfold encRLep1 resRLep1
  rw [evRLep]
  have hpre : (decide (0 ≤ y) && decide (y ≤ 100000)) = true := hpre
  simp only [Bool.and_eq_true, decide_eq_true_eq] at hpre
  simp only [etaEnt, etaLst, etaSnd, etaStrm, etaMas, Option.bind_some, List.length_map, unStrs, unInts, unBools, unEnts, unItms, unTrns, cond_true, cond_false, Bool.and_true, Bool.true_and, F.leap, bne]
  cases y.tmod 4 == 0 <;> cases y.tmod 100 == 0 <;> rfl

noncomputable def enMdy : Env := envH ty noG lks [oLep] [] [] []

theorem enMdy_ok : EnvOK Tryz.prog enMdy := by
  refine envH_ok lks_ok ty_ok ?_ ?_
  · simp only [List.forall_mem_cons]
    exact ⟨okLep, by simp⟩
  · simp

theorem evMdy (y : Int) (m : Int) : (runF enMdy false Tryz.f77 [vI y, vI m]).val =
  bif m == (2 : Int) then Option.bind (unenc encLep [(vI y)]) fun (z : Int) => bif decide ((0 : Int) ≤ z) && decide (z ≤ (100000 : Int)) then bif F.leap z then some ((vI (29
  : Int)), []) else some ((vI (28 : Int)), []) else none else bif m == (4 : Int) then bif m == (4 : Int) then some ((vI (30 : Int)), []) else some ((vI (31 : Int)), []) else
  bif m == (6 : Int) then bif m == (6 : Int) then some ((vI (30 : Int)), []) else some ((vI (31 : Int)), []) else bif m == (9 : Int) then bif m == (9 : Int) then some ((vI
  (30 : Int)), []) else some ((vI (31 : Int)), []) else bif m == (11 : Int) then some ((vI (30 : Int)), []) else some ((vI (31 : Int)), []) := (runFR_val).symm.trans (by kernel_rfl)

def encMdy1 (y : Int) (m : Int) : List AV := [vI y, vI m]

def encMdy (a : Int × Int) : List AV := encMdy1 a.1 a.2

theorem encMdy_inj (a a' : Int × Int) (h : encMdy a = encMdy a') : a = a' := by
  simp only [encMdy, encMdy1] at h
  try simp [strs_inj, ints_inj, ents_inj, eEnt_iff, eLst_iff, eSnds_inj, eStrms_inj] at h
  grind

theorem unMdy (y : Int) (m : Int) : unenc encMdy ([(vI y), (vI m)]) = some (y, m) := unenc_of encMdy_inj (y, m) rfl

def resMdy1 (y : Int) (m : Int) : AV × Heap := (vI (F.mdays y m), [])

def preMdy1 (y : Int) (m : Int) : Bool := decide (0 ≤ y) && decide (y ≤ 100000)

noncomputable def oMdy : Orc := orc 77 true encMdy (fun a => preMdy1 a.1 a.2) fun a => resMdy1 a.1 a.2

theorem okMdy : OrcOK Tryz.prog noG oMdy := by
  refine mk_ok Tryz.f77 (keep := false) (by kernel_rfl) (by kernel_rfl) enMdy_ok mixed (no_loops (by kernel_rfl)) (by first | exact fun _ _ => ⟨rfl, rfl⟩ | (intro h; cases h)) ?_
  rintro ⟨y, m⟩ hpre hok
  show (runF enMdy false _ (encMdy1 _ _)).val = some (resMdy1 _ _)
  unfold encMdy1 resMdy1
  rw [evMdy]
  have hpre : (decide (0 ≤ y) && decide (y ≤ 100000)) = true := hpre
  rw [Bool.and_eq_true] at hpre
  simp only [unLep, preLep1, etaEnt, etaLst, etaSnd, etaStrm, etaMas, Option.bind_some, List.length_map, unStrs, unInts, unBools, unEnts, unItms, unTrns, cond_true, cond_false, Bool.and_true, Bool.true_and, F.mdays, hpre.1, hpre.2]
  cases m == 2 <;> cases m == 4 <;> cases m == 6 <;> cases m == 9 <;> cases m == 11 <;> cases F.leap y <;> rfl

noncomputable def enRDy : Env := envH ty noG lks [oRLep] [] [] []

theorem enRDy_ok : EnvOK Tryz.prog enRDy := by
  refine envH_ok lks_ok ty_ok ?_ ?_
  · simp only [List.forall_mem_cons]
    exact ⟨okRLep, by simp⟩
  · simp

theorem evRDy (y : Int) (m : Int) : (runF enRDy false Tryz.f102 [vI y, vI m]).val =
  bif m == (2 : Int) then Option.bind (unenc encRLep [(vI y)]) fun (z : Int) => bif decide ((0 : Int) ≤ z) && decide (z ≤ (100000 : Int)) then bif F.leap z then some ((vI
  (29 : Int)), []) else some ((vI (28 : Int)), []) else none else bif m == (4 : Int) then bif m == (4 : Int) then some ((vI (30 : Int)), []) else some ((vI (31 : Int)), [])
  else bif m == (6 : Int) then bif m == (6 : Int) then some ((vI (30 : Int)), []) else some ((vI (31 : Int)), []) else bif m == (9 : Int) then bif m == (9 : Int) then some
  ((vI (30 : Int)), []) else some ((vI (31 : Int)), []) else bif m == (11 : Int) then some ((vI (30 : Int)), []) else some ((vI (31 : Int)), []) := (runFR_val).symm.trans (by kernel_rfl)

def encRDy1 (y : Int) (m : Int) : List AV := [vI y, vI m]

def encRDy (a : Int × Int) : List AV := encRDy1 a.1 a.2

theorem encRDy_inj (a a' : Int × Int) (h : encRDy a = encRDy a') : a = a' := by
  simp only [encRDy, encRDy1] at h
  try simp [strs_inj, ints_inj, ents_inj, eEnt_iff, eLst_iff, eSnds_inj, eStrms_inj] at h
  grind

theorem unRDy (y : Int) (m : Int) : unenc encRDy ([(vI y), (vI m)]) = some (y, m) := unenc_of encRDy_inj (y, m) rfl

def resRDy1 (y : Int) (m : Int) : AV × Heap := (vI (F.mdays y m), [])

def preRDy1 (y : Int) (m : Int) : Bool := decide (0 ≤ y) && decide (y ≤ 100000)

noncomputable def oRDy : Orc := orc 102 true encRDy (fun a => preRDy1 a.1 a.2) fun a => resRDy1 a.1 a.2

theorem okRDy : OrcOK Tryz.prog noG oRDy := by
  refine mk_ok Tryz.f102 (keep := false) (by kernel_rfl) (by kernel_rfl) enRDy_ok mixed (no_loops (by kernel_rfl)) (by first | exact fun _ _ => ⟨rfl, rfl⟩ | (intro h; cases h)) ?_
  rintro ⟨y, m⟩ hpre hok
  show (runF enRDy false _ (encRDy1 _ _)).val = some (resRDy1 _ _)
  unfold encRDy1 resRDy1
  rw [evRDy]
  have hpre : (decide (0 ≤ y) && decide (y ≤ 100000)) = true := hpre
  rw [Bool.and_eq_true] at hpre
  simp only [unRLep, preRLep1, etaEnt, etaLst, etaSnd, etaStrm, etaMas, Option.bind_some, List.length_map, unStrs, unInts, unBools, unEnts, unItms, unTrns, cond_true, cond_false, Bool.and_true, Bool.true_and, F.mdays, hpre.1, hpre.2]
  cases m == 2 <;> cases m == 4 <;> cases m == 6 <;> cases m == 9 <;> cases m == 11 <;> cases F.leap y <;> rfl

end M
end Go.Proofs.YtajmdlpanlbnjaaGreatDoor

namespace Go.Proofs.YtajmdlpanlbnjaaGreatDoor
open Go Go.RowKit
set_option linter.unusedVariables false
set_option linter.unusedSimpArgs false

namespace M

end M
end Go.Proofs.YtajmdlpanlbnjaaGreatDoor

namespace Go.Proofs.YtajmdlpanlbnjaaGreatDoor
open Go Go.RowKit
set_option linter.unusedVariables false
set_option linter.unusedSimpArgs false

namespace M

end M
end Go.Proofs.YtajmdlpanlbnjaaGreatDoor

namespace Go.Proofs.YtajmdlpanlbnjaaGreatDoor
open Go Go.RowKit
set_option linter.unusedVariables false
set_option linter.unusedSimpArgs false

def F.dForm : ByteArray := ⟨⟨[48, 48, 48, 48, 45, 48, 48, 45, 48, 48, 84, 48, 48, 58, 48, 48, 58, 48, 48, 46, 48, 48, 48, 90]⟩⟩

def F.dfB (c f : UInt8) : Bool := bif decide (f = 48) then F.dgB c else decide (c = f)

def F.dfP (s : ByteArray) : List (UInt8 × UInt8) := (F.bs s).zip (F.bs F.dForm)

def F.dfA (s : ByteArray) : Bool := (F.dfP s).all fun p => F.dfB p.1 p.2

def F.msum (y : Int) : Nat → Nat → Int
  | 0, _ => 0
  | n + 1, j => F.mdays y j + F.msum y n (j + 1)

theorem F.mdays_b (y m : Int) : 28 ≤ F.mdays y m ∧ F.mdays y m ≤ 31 := by
  unfold F.mdays
  cases m == 2 <;> cases F.leap y <;> cases m == 4 <;> cases m == 6 <;> cases m == 9 <;> cases m == 11 <;> decide

namespace M

end M
end Go.Proofs.YtajmdlpanlbnjaaGreatDoor

namespace Go.Proofs.YtajmdlpanlbnjaaGreatDoor
open Go Go.RowKit
set_option linter.unusedVariables false
set_option linter.unusedSimpArgs false

def F.dN (s : ByteArray) (a b : Nat) : Nat := F.dv (s.extract a b)

def F.dtB (y m d h i e : Int) : Bool := !(decide (y < 1970) || F.out m 1 12 || F.out d 1 (F.mdays y m) || decide (23 < h) || decide (59 < i) || decide (59 < e))

def F.dtOk (s : ByteArray) : Bool := decide (s.size = 24) && F.dfA s && F.dtB (F.dN s 0 4) (F.dN s 5 7) (F.dN s 8 10) (F.dN s 11 13) (F.dN s 14 16) (F.dN s 17 19)

def F.dtV (s : ByteArray) : Int := bif F.dtOk s then (F.ydays (F.dN s 0 4) + (F.dN s 8 10 : Nat) - 1 + F.msum (F.dN s 0 4) (F.dN s 5 7 - 1) 1) * 86400000 + (F.dN s 11 13 : Nat) * 3600000 + (F.dN s 14 16 : Nat) * 60000 + (F.dN s 17 19 : Nat) * 1000 + (F.dN s 20 23 : Nat) else 0

theorem F.sub_bs (s : ByteArray) (a b : Nat) : F.bs (s.extract a b) = ((F.bs s).drop a).take (b - a) := Lib.extract_data s a b

theorem F.msum_b (y : Int) : ∀ (n j : Nat), 0 ≤ F.msum y n j ∧ F.msum y n j ≤ 31 * n
  | 0, j => by simp [F.msum]
  | n + 1, j => by
    have h1 := F.mdays_b y j
    have h2 := F.msum_b y n (j + 1)
    rw [F.msum]
    omega

set_option maxHeartbeats 1000000

namespace M

end M
end Go.Proofs.YtajmdlpanlbnjaaGreatDoor

namespace Go.Proofs.YtajmdlpanlbnjaaGreatDoor
open Go Go.RowKit
set_option linter.unusedVariables false
set_option linter.unusedSimpArgs false

theorem F.ydays_one {y : Int} (h : 1 ≤ y) : F.ydays (y + 1) = F.ydays y + 365 + (bif F.leap y then 1 else 0) := by
  unfold F.ydays F.leap
  rw [show y + 1 - 1 = y by omega]
  simp only [Int.tdiv_eq_ediv_of_nonneg (show 0 ≤ y by omega), Int.tdiv_eq_ediv_of_nonneg (show 0 ≤ y - 1 by omega), Int.tmod_eq_emod_of_nonneg (show 0 ≤ y by omega)]
  have e : ∀ a : Int, (a == 0) = decide (a = 0) := fun a => by by_cases h : a = 0 <;> simp [h]
  simp only [e]
  by_cases h1 : y % 4 = 0 <;> by_cases h2 : y % 100 = 0 <;> by_cases h3 : y % 400 = 0 <;> simp only [h1, h2, h3, decide_true, decide_false, cond_true, cond_false, Bool.not_true, Bool.not_false] <;> omega

def F.ysum : Nat → Int → Int
  | 0, _ => 0
  | n + 1, y => 365 + (bif F.leap y then 1 else 0) + F.ysum n (y + 1)

theorem F.ysum_eq : ∀ (n : Nat) (y : Int), 1 ≤ y → F.ydays (y + n) = F.ydays y + F.ysum n y
  | 0, y, _ => by simp [F.ysum]
  | n + 1, y, h => by
    have h1 := F.ysum_eq n (y + 1) (by omega)
    have h2 := F.ydays_one h
    rw [F.ysum]
    rw [show y + ((n + 1 : Nat) : Int) = y + 1 + (n : Int) by omega, h1, h2]
    omega

theorem F.ydays_0 : F.ydays 1970 = 0 := by decide

theorem F.ysum_b : ∀ (n : Nat) (y : Int), 0 ≤ F.ysum n y ∧ F.ysum n y ≤ 366 * n
  | 0, y => by simp [F.ysum]
  | n + 1, y => by
    have h2 := F.ysum_b n (y + 1)
    rw [F.ysum]
    cases F.leap y
    · rw [cond_false]; omega
    · rw [cond_true]; omega

end Go.Proofs.YtajmdlpanlbnjaaGreatDoor

namespace Go.Proofs.YtajmdlpanlbnjaaGreatDoor
open Go Go.RowKit
set_option linter.unusedVariables false
set_option linter.unusedSimpArgs false
set_option maxHeartbeats 1000000

def F.zrs (k : Nat) : ByteArray := ⟨⟨List.replicate k 48⟩⟩

def F.pad (n : Int) (many : Nat) : ByteArray := F.zrs (many - (F.itoa n).size) ++ F.itoa n

theorem F.bs_zrs (k : Nat) : F.bs (F.zrs k) = List.replicate k 48 := rfl

theorem F.zrs_size (k : Nat) : (F.zrs k).size = k := by rw [← F.bs_len, F.bs_zrs, List.length_replicate]

theorem F.zrs_zero : F.zrs 0 = ⟨⟨[]⟩⟩ := rfl

theorem F.zrs_succ (k : Nat) (s : ByteArray) : F.zrs (k + 1) ++ s = F.zrs k ++ ((⟨⟨[48]⟩⟩ : ByteArray) ++ s) := by
  apply F.bsx
  rw [F.bs_app, F.bs_app, F.bs_app, F.bs_zrs, F.bs_zrs, List.replicate_succ', List.append_assoc]
  rfl

theorem F.bs_pad (k many : Nat) : F.bs (F.pad (k : Int) many) = List.replicate (many - (Lib.decDigits k).length) 48 ++ Lib.decDigits k := by
  unfold F.pad
  rw [F.bs_app, F.bs_zrs, F.itoa_n, ← F.bs_len, F.itoa_n]

theorem F.dvA_rep (k : Nat) (l : List UInt8) : F.dvA 0 (List.replicate k 48 ++ l) = F.dvA 0 l := by
  induction k with
  | zero => rfl
  | succ k ih =>
    rw [List.replicate_succ, List.cons_append, F.dvA_cons]
    exact ih

theorem F.pad_ok {k many : Nat} (h : k < 10 ^ many) (hm : 1 ≤ many) : (F.bs (F.pad (k : Int) many)).length = many ∧ (F.bs (F.pad (k : Int) many)).all F.dgB = true ∧ F.dvA 0 (F.bs (F.pad (k : Int) many)) = k := by
  obtain ⟨j, rfl⟩ : ∃ j, many = j + 1 := ⟨many - 1, by omega⟩
  obtain ⟨d1, d2, d3⟩ := F.dd_ok k
  have d4 := F.dd_len j k h
  rw [F.bs_pad]
  refine ⟨?_, ?_, ?_⟩
  · rw [List.length_append, List.length_replicate]; omega
  · rw [List.all_append, d1, Bool.and_true, List.all_eq_true]
    intro x hx
    rw [(List.mem_replicate.1 hx).2]
    rfl
  · rw [F.dvA_rep, d2]

theorem F.dv_inj : ∀ (k : Nat) (l l' : List UInt8), l.length = k → l'.length = k → l.all F.dgB = true → l'.all F.dgB = true → F.dvA 0 l = F.dvA 0 l' → l = l'
  | 0, l, l', h, h', _, _, _ => by rw [List.length_eq_zero_iff.1 h, List.length_eq_zero_iff.1 h']
  | k + 1, l, l', h, h', h1, h2, hv => by
    have n0 : l ≠ [] := fun e => by rw [e] at h; simp at h
    have n1 : l' ≠ [] := fun e => by rw [e] at h'; simp at h'
    obtain ⟨q, c, rfl⟩ : ∃ q c, l = q ++ [c] := ⟨l.dropLast, l.getLast n0, (List.dropLast_concat_getLast n0).symm⟩
    obtain ⟨m, d, rfl⟩ : ∃ m d, l' = m ++ [d] := ⟨l'.dropLast, l'.getLast n1, (List.dropLast_concat_getLast n1).symm⟩
    rw [List.all_append, Bool.and_eq_true] at h1 h2
    have hc := h1.2
    have hd := h2.2
    simp only [List.all_cons, List.all_nil, Bool.and_true, F.dgB, Bool.and_eq_true, decide_eq_true_eq] at hc hd
    rw [F.dvA_app, F.dvA_app, F.dvA_cons, F.dvA_cons, F.dvA_nil, F.dvA_nil] at hv
    rw [F.dv_inj k q m (by simpa using h) (by simpa using h') h1.1 h2.1 (by omega)]
    have : c = d := UInt8.toNat_inj.1 (by omega)
    rw [this]

def F.yrL : Nat → Int → Int → Int
  | 0, _, y => y
  | k + 1, d, y => bif decide (F.ydays (y + 1) ≤ d) then F.yrL k d (y + 1) else y

def F.moL : Nat → Int → Int → Int → Int × Int
  | 0, _, d, m => (m, d)
  | k + 1, y, d, m => bif decide (F.mdays y m ≤ d) then F.moL k y (d - F.mdays y m) (m + 1) else (m, d)

def F.dash1 : ByteArray := ⟨⟨[45]⟩⟩

def F.tee : ByteArray := ⟨⟨[84]⟩⟩

def F.colon : ByteArray := ⟨⟨[58]⟩⟩

def F.zed : ByteArray := ⟨⟨[90]⟩⟩

def F.dtP (y m d r : Int) : ByteArray :=
  F.pad y 4 ++ F.dash1 ++ F.pad m 2 ++ F.dash1 ++ F.pad d 2 ++ F.tee ++ F.pad (r.tdiv 3600000) 2 ++ F.colon ++ F.pad ((r.tdiv 60000).tmod 60) 2 ++ F.colon ++ F.pad ((r.tdiv 1000).tmod 60) 2 ++ F.dot ++ F.pad (r.tmod 1000) 3 ++ F.zed

def F.dtY (days : Int) : Int := F.yrL 10000 days (1970 + days.tdiv 366)

def F.dtM (days : Int) : Int × Int := F.moL 20 (F.dtY days) (days - F.ydays (F.dtY days)) 1

def F.dtS (n : Int) : ByteArray := F.dtP (F.dtY (n.tdiv 86400000)) (F.dtM (n.tdiv 86400000)).1 ((F.dtM (n.tdiv 86400000)).2 + 1) (n.tmod 86400000)

theorem F.ydays_mono {a b : Int} (h1 : 1 ≤ a) (h : a ≤ b) : F.ydays a ≤ F.ydays b := by
  have h2 := F.ysum_eq (b - a).toNat a h1
  have h3 := F.ysum_b (b - a).toNat a
  rw [show a + ((b - a).toNat : Nat) = b by omega] at h2
  omega

theorem F.ydays_up {a : Int} (h1 : 1 ≤ a) : F.ydays (a + 1) = F.ydays a + 365 + (bif F.leap a then 1 else 0) := by
  have h2 := F.ysum_eq 1 a h1
  rw [show a + ((1 : Nat) : Int) = a + 1 from rfl] at h2
  rw [h2]
  simp only [F.ysum]
  omega

theorem F.yrL_eq {Y d : Int} (hd1 : F.ydays Y ≤ d) (hd2 : d < F.ydays (Y + 1)) : ∀ (k : Nat) (y : Int), 1 ≤ y → y ≤ Y → Y - y ≤ k → F.yrL k d y = Y
  | 0, y, _, h2, h3 => by
    show y = Y
    omega
  | k + 1, y, h1, h2, h3 => by
    rw [F.yrL]
    by_cases hc : F.ydays (y + 1) ≤ d
    · rw [decide_eq_true hc, cond_true]
      have hne : y ≠ Y := fun e => by rw [e] at hc; omega
      exact F.yrL_eq hd1 hd2 k (y + 1) (by omega) (by omega) (by omega)
    · rw [decide_eq_false hc, cond_false]
      by_cases hy : y = Y
      · exact hy
      · have := F.ydays_mono (a := y + 1) (b := Y) (by omega) (by omega)
        omega

theorem F.yrL_ok {d : Int} : ∀ (k : Nat) (y : Int), 1 ≤ y → F.ydays y ≤ d → d < F.ydays (y + k + 1) → F.ydays (F.yrL k d y) ≤ d ∧ d < F.ydays (F.yrL k d y + 1) ∧ y ≤ F.yrL k d y
  | 0, y, h1, h2, h3 => ⟨h2, (by show d < F.ydays (y + 1); rw [show y + ((0 : Nat) : Int) + 1 = y + 1 by omega] at h3; exact h3), Int.le_refl _⟩
  | k + 1, y, h1, h2, h3 => by
    rw [F.yrL]
    by_cases hc : F.ydays (y + 1) ≤ d
    · rw [decide_eq_true hc, cond_true]
      obtain ⟨i1, i2, i3⟩ := F.yrL_ok k (y + 1) (by omega) hc (by rw [show y + 1 + (k : Int) + 1 = y + ((k + 1 : Nat) : Int) + 1 by omega]; exact h3)
      exact ⟨i1, i2, by omega⟩
    · rw [decide_eq_false hc, cond_false]
      exact ⟨h2, by omega, Int.le_refl _⟩

theorem F.moL_eq (y : Int) : ∀ (j k m : Nat) (D : Int), j ≤ k → 0 ≤ D → D < F.mdays y ((m + j : Nat) : Int) → F.moL k y (F.msum y j m + D) m = (((m + j : Nat) : Int), D)
  | 0, 0, m, D, _, _, _ => by
    show ((m : Int), F.msum y 0 m + D) = _
    rw [F.msum, Int.zero_add, Nat.add_zero]
  | 0, k + 1, m, D, _, h1, h2 => by
    rw [F.moL, F.msum, Int.zero_add]
    rw [Nat.add_zero] at h2 ⊢
    rw [decide_eq_false (by omega), cond_false]
  | j + 1, 0, m, D, h, _, _ => by omega
  | j + 1, k + 1, m, D, h, h1, h2 => by
    have hb := F.msum_b y j (m + 1)
    rw [F.moL, F.msum, decide_eq_true (by omega), cond_true, show F.mdays y m + F.msum y j (m + 1) + D - F.mdays y m = F.msum y j (m + 1) + D by omega, show ((m : Nat) : Int) + 1 = ((m + 1 : Nat) : Int) from rfl]
    rw [F.moL_eq y j k (m + 1) D (by omega) h1 (by rw [show m + 1 + j = m + (j + 1) by omega]; exact h2), show m + 1 + j = m + (j + 1) by omega]

theorem F.moL_ok (y : Int) : ∀ (j k m : Nat) (d : Int), j ≤ k → 0 ≤ d → d < F.msum y j m → ∃ i : Nat, i < j ∧ ∃ D : Int, 0 ≤ D ∧ D < F.mdays y ((m + i : Nat) : Int) ∧ d = F.msum y i m + D ∧ F.moL k y d m = (((m + i : Nat) : Int), D)
  | 0, k, m, d, _, h1, h2 => by
    rw [F.msum] at h2; omega
  | j + 1, 0, m, d, h, _, _ => by omega
  | j + 1, k + 1, m, d, h, h1, h2 => by
    rw [F.msum] at h2
    by_cases hc : F.mdays y m ≤ d
    · obtain ⟨i, i1, D, i2, i3, i4, i5⟩ := F.moL_ok y j k (m + 1) (d - F.mdays y m) (by omega) (by omega) (by omega)
      refine ⟨i + 1, by omega, D, i2, by rw [show m + (i + 1) = m + 1 + i by omega]; exact i3, by rw [F.msum]; omega, ?_⟩
      rw [F.moL, decide_eq_true hc, cond_true, show ((m : Nat) : Int) + 1 = ((m + 1 : Nat) : Int) from rfl, i5, show m + (i + 1) = m + 1 + i by omega]
    · refine ⟨0, by omega, d, h1, by rw [Nat.add_zero]; omega, by rw [F.msum]; omega, ?_⟩
      rw [F.moL, decide_eq_false hc, cond_false, Nat.add_zero]

theorem F.msum_12 (y : Int) : F.msum y 12 1 = 365 + (bif F.leap y then 1 else 0) := by
  simp only [F.msum, F.mdays]
  cases F.leap y <;> rfl

theorem F.sub_of' (y : Int) (h : 1970 ≤ y) : F.ydays y = F.ysum (y - 1970).toNat 1970 := by
  have := F.ysum_eq (y - 1970).toNat 1970 (by omega)
  rw [F.ydays_0, show (1970 : Int) + ((y - 1970).toNat : Nat) = y by omega] at this
  omega

theorem F.ydays_366 {y : Int} (h : 1970 ≤ y) : F.ydays y ≤ 366 * (y - 1970) := by
  have h1 := F.sub_of' y h
  have h2 := F.ysum_b (y - 1970).toNat 1970
  omega

def F.dayN (Y : Int) (M D : Nat) : Int := F.ydays Y + (D : Int) - 1 + F.msum Y (M - 1) 1

theorem F.dt_find {Y : Int} {M D : Nat} (h1 : 1970 ≤ Y) (h2 : Y ≤ 9999) (h3 : 1 ≤ M) (h4 : M ≤ 12) (h5 : 1 ≤ D) (h6 : (D : Int) ≤ F.mdays Y M) :
    F.dtY (F.dayN Y M D) = Y ∧ F.dtM (F.dayN Y M D) = ((M : Int), (D : Int) - 1) ∧ 0 ≤ F.dayN Y M D := by
  have hb := F.msum_b Y (M - 1) 1
  have hy := F.ydays_mono (a := 1970) (b := Y) (by omega) h1
  rw [F.ydays_0] at hy
  have hlt : F.msum Y (M - 1) 1 + (D : Int) ≤ F.msum Y 12 1 := by
    have hs : ∀ (a b j : Nat), F.msum Y (a + b) j = F.msum Y a j + F.msum Y b (j + a) := by
      intro a
      induction a with
      | zero => intro b j; rw [Nat.zero_add, F.msum]; simp
      | succ a ih => intro b j; rw [show a + 1 + b = a + b + 1 by omega, F.msum, F.msum, ih, show j + 1 + a = j + (a + 1) by omega]; omega
    have h7 := hs (M - 1) (12 - (M - 1)) 1
    have h9 : F.msum Y ((12 - M) + 1) M = F.mdays Y M + F.msum Y (12 - M) (M + 1) := rfl
    rw [show M - 1 + (12 - (M - 1)) = 12 by omega, show 12 - (M - 1) = (12 - M) + 1 by omega, show 1 + (M - 1) = M by omega, h9] at h7
    have h8 := F.msum_b Y (12 - M) (M + 1)
    omega
  rw [F.msum_12] at hlt
  have hup := F.ydays_up (a := Y) (by omega)
  have e0 : 0 ≤ F.dayN Y M D := by unfold F.dayN; omega
  have e1 : F.ydays Y ≤ F.dayN Y M D := by unfold F.dayN; omega
  have e2 : F.dayN Y M D < F.ydays (Y + 1) := by unfold F.dayN; omega
  have e3 : 1970 + (F.dayN Y M D).tdiv 366 ≤ Y := by
    have := F.ydays_366 (y := Y + 1) (by omega)
    rw [Int.tdiv_eq_ediv_of_nonneg e0]
    omega
  have hY : F.dtY (F.dayN Y M D) = Y := by
    unfold F.dtY
    refine F.yrL_eq e1 e2 10000 _ ?_ e3 ?_
    · rw [Int.tdiv_eq_ediv_of_nonneg e0]; omega
    · rw [Int.tdiv_eq_ediv_of_nonneg e0]; omega
  refine ⟨hY, ?_, e0⟩
  unfold F.dtM
  rw [hY, show F.dayN Y M D - F.ydays Y = F.msum Y (M - 1) 1 + ((D : Int) - 1) by unfold F.dayN; omega]
  have := F.moL_eq Y (M - 1) 20 1 ((D : Int) - 1) (by omega) (by omega) (by rw [show 1 + (M - 1) = M by omega]; omega)
  rw [show ((1 : Nat) : Int) = 1 from rfl, show 1 + (M - 1) = M by omega] at this
  exact this

theorem F.dt_has {d : Int} (h1 : 0 ≤ d) (h2 : d ≤ 2932896) : ∃ (Y : Int) (M D : Nat), 1970 ≤ Y ∧ Y ≤ 9999 ∧ 1 ≤ M ∧ M ≤ 12 ∧ 1 ≤ D ∧ (D : Int) ≤ F.mdays Y M ∧ d = F.dayN Y M D := by
  have y4 : F.ydays 10000 = 2932897 := by decide
  have hq : 0 ≤ d / 366 := by omega
  obtain ⟨i1, i2, i3⟩ := F.yrL_ok (d := d) 10000 (1970 + d / 366) (by omega) (by have := F.ydays_366 (y := 1970 + d / 366) (by omega); omega) (by
    have := F.ydays_mono (a := 10000) (b := 1970 + d / 366 + ((10000 : Nat) : Int) + 1) (by omega) (by omega)
    omega)
  generalize F.yrL 10000 d (1970 + d / 366) = Y at i1 i2 i3
  have hY : Y ≤ 9999 := by
    by_cases h : Y ≤ 9999
    · exact h
    · have := F.ydays_mono (a := 10000) (b := Y) (by omega) (by omega)
      omega
  have hup := F.ydays_up (a := Y) (by omega)
  obtain ⟨i, j1, D, j2, j3, j4, _⟩ := F.moL_ok Y 12 20 1 (d - F.ydays Y) (by omega) (by omega) (by rw [F.msum_12]; omega)
  refine ⟨Y, 1 + i, D.toNat + 1, by omega, hY, by omega, by omega, by omega, by omega, ?_⟩
  unfold F.dayN
  rw [show 1 + i - 1 = i by omega]
  omega

end Go.Proofs.YtajmdlpanlbnjaaGreatDoor

namespace Go.Proofs.YtajmdlpanlbnjaaGreatDoor
open Go Go.RowKit
set_option linter.unusedVariables false
set_option linter.unusedSimpArgs false
set_option maxHeartbeats 2000000
set_option maxRecDepth 100000

theorem F.l2 {α : Type} {l : List α} (h : l.length = 2) : ∃ x y, l = [x, y] := by
  obtain ⟨x, l0, h0⟩ := List.exists_cons_of_length_eq_add_one (l := l) (n := 1) h
  rw [h0] at h
  obtain ⟨y, l1, h1⟩ := List.exists_cons_of_length_eq_add_one (l := l0) (n := 0) (by simpa using h)
  rw [h1] at h
  have h2 : l1 = [] := List.length_eq_zero_iff.1 (by simpa using h)
  exact ⟨x, y, by rw [h0, h1, h2]⟩

theorem F.l3 {α : Type} {l : List α} (h : l.length = 3) : ∃ x y z, l = [x, y, z] := by
  obtain ⟨x, l0, h0⟩ := List.exists_cons_of_length_eq_add_one (l := l) (n := 2) h
  rw [h0] at h
  obtain ⟨y, z, h1⟩ := F.l2 (l := l0) (by simpa using h)
  exact ⟨x, y, z, by rw [h0, h1]⟩

theorem F.l4 {α : Type} {l : List α} (h : l.length = 4) : ∃ x y z w, l = [x, y, z, w] := by
  obtain ⟨x, l0, h0⟩ := List.exists_cons_of_length_eq_add_one (l := l) (n := 3) h
  rw [h0] at h
  obtain ⟨y, z, w, h1⟩ := F.l3 (l := l0) (by simpa using h)
  exact ⟨x, y, z, w, by rw [h0, h1]⟩

def F.dtQ (a b c d e f g : ByteArray) : ByteArray := a ++ F.dash1 ++ b ++ F.dash1 ++ c ++ F.tee ++ d ++ F.colon ++ e ++ F.colon ++ f ++ F.dot ++ g ++ F.zed

theorem F.bs_dtQ (a b c d e f g : ByteArray) : F.bs (F.dtQ a b c d e f g) = F.bs a ++ 45 :: (F.bs b ++ 45 :: (F.bs c ++ 84 :: (F.bs d ++ 58 :: (F.bs e ++ 58 :: (F.bs f ++ 46 :: (F.bs g ++ [90])))))) := by
  unfold F.dtQ
  simp only [F.bs_app, List.append_assoc, show F.bs F.dash1 = [45] from rfl, show F.bs F.tee = [84] from rfl, show F.bs F.colon = [58] from rfl, show F.bs F.dot = [46] from rfl, show F.bs F.zed = [90] from rfl, List.singleton_append, List.cons_append, List.nil_append]

theorem F.cut_at' {s : ByteArray} {l : List UInt8} (h : F.bs s = l) (a b : Nat) {x : ByteArray} (hx : F.bs x = (l.drop a).take (b - a)) : s.extract a b = x := by
  apply F.bsx
  rw [F.sub_bs, h, hx]

theorem F.dtQ_of {a b c d e f g : ByteArray} (ha : (F.bs a).length = 4) (hb : (F.bs b).length = 2) (hc : (F.bs c).length = 2) (hd : (F.bs d).length = 2) (he : (F.bs e).length = 2) (hf : (F.bs f).length = 2) (hg : (F.bs g).length = 3)
    (da : (F.bs a).all F.dgB = true) (db : (F.bs b).all F.dgB = true) (dc : (F.bs c).all F.dgB = true) (dd : (F.bs d).all F.dgB = true) (de : (F.bs e).all F.dgB = true) (df : (F.bs f).all F.dgB = true) (dg : (F.bs g).all F.dgB = true) :
    (F.dtQ a b c d e f g).size = 24 ∧ F.dfA (F.dtQ a b c d e f g) = true ∧ (F.dtQ a b c d e f g).extract 0 4 = a ∧ (F.dtQ a b c d e f g).extract 5 7 = b ∧ (F.dtQ a b c d e f g).extract 8 10 = c ∧ (F.dtQ a b c d e f g).extract 11 13 = d ∧ (F.dtQ a b c d e f g).extract 14 16 = e ∧ (F.dtQ a b c d e f g).extract 17 19 = f ∧ (F.dtQ a b c d e f g).extract 20 23 = g := by
  have hv := F.bs_dtQ a b c d e f g
  obtain ⟨a0, a1, a2, a3, ea⟩ := F.l4 ha
  obtain ⟨b0, b1, eb⟩ := F.l2 hb
  obtain ⟨c0, c1, ec⟩ := F.l2 hc
  obtain ⟨d0, d1, ed⟩ := F.l2 hd
  obtain ⟨e0, e1, ee⟩ := F.l2 he
  obtain ⟨f0, f1, ef⟩ := F.l2 hf
  obtain ⟨g0, g1, g2, eg⟩ := F.l3 hg
  rw [ea, eb, ec, ed, ee, ef, eg] at hv
  rw [ea] at da
  rw [eb] at db
  rw [ec] at dc
  rw [ed] at dd
  rw [ee] at de
  rw [ef] at df
  rw [eg] at dg
  simp only [List.all_cons, List.all_nil, Bool.and_true, Bool.and_eq_true] at da db dc dd de df dg
  refine ⟨?_, ?_, F.cut_at' hv _ _ (by rw [ea]; rfl), F.cut_at' hv _ _ (by rw [eb]; rfl), F.cut_at' hv _ _ (by rw [ec]; rfl), F.cut_at' hv _ _ (by rw [ed]; rfl), F.cut_at' hv _ _ (by rw [ee]; rfl), F.cut_at' hv _ _ (by rw [ef]; rfl), F.cut_at' hv _ _ (by rw [eg]; rfl)⟩
  · rw [← F.bs_len, hv]; rfl
  · unfold F.dfA F.dfP
    rw [hv]
    have hfm : F.bs F.dForm = [48, 48, 48, 48, 45, 48, 48, 45, 48, 48, 84, 48, 48, 58, 48, 48, 58, 48, 48, 46, 48, 48, 48, 90] := rfl
    rw [hfm]
    simp only [List.cons_append, List.nil_append, List.zip_cons_cons, List.zip_nil_left, List.all_cons, List.all_nil, F.dfB, (by decide : decide ((48 : UInt8) = 48) = true), (by decide : decide ((45 : UInt8) = 48) = false), (by decide : decide ((84 : UInt8) = 48) = false), (by decide : decide ((58 : UInt8) = 48) = false), (by decide : decide ((46 : UInt8) = 48) = false), (by decide : decide ((90 : UInt8) = 48) = false), cond_true, cond_false,
      da, db, dc, dd, de, df, dg, decide_true, Bool.and_self]

theorem F.dtS_q (n : Nat) : F.dtS (n : Int) = F.dtQ (F.pad (F.dtY ((n / 86400000 : Nat) : Int)) 4) (F.pad (F.dtM ((n / 86400000 : Nat) : Int)).1 2) (F.pad ((F.dtM ((n / 86400000 : Nat) : Int)).2 + 1) 2) (F.pad ((n % 86400000 / 3600000 : Nat) : Int) 2) (F.pad ((n % 86400000 / 60000 % 60 : Nat) : Int) 2) (F.pad ((n % 86400000 / 1000 % 60 : Nat) : Int) 2) (F.pad ((n % 86400000 % 1000 : Nat) : Int) 3) := rfl

theorem F.dtS_ok {n : Nat} (h : n ≤ 253402300799999) : F.dtOk (F.dtS (n : Int)) = true ∧ F.dtV (F.dtS (n : Int)) = (n : Int) := by
  obtain ⟨Y, M, D, h1, h2, h3, h4, h5, h6, hd⟩ := F.dt_has (d := ((n / 86400000 : Nat) : Int)) (by omega) (by omega)
  obtain ⟨k1, k2, k3⟩ := F.dt_find h1 h2 h3 h4 h5 h6
  rw [← hd] at k1 k2
  have hb := F.mdays_b Y M
  obtain ⟨y, rfl⟩ := Int.eq_ofNat_of_zero_le (show 0 ≤ Y by omega)
  rw [F.dtS_q, k1, k2, show (D : Int) - 1 + 1 = (D : Int) by omega]
  obtain ⟨a1, a2, a3⟩ := F.pad_ok (k := y) (many := 4) (by show y < 10000; omega) (by decide)
  obtain ⟨b1, b2, b3⟩ := F.pad_ok (k := M) (many := 2) (by show M < 100; omega) (by decide)
  obtain ⟨c1, c2, c3⟩ := F.pad_ok (k := D) (many := 2) (by show D < 100; omega) (by decide)
  obtain ⟨d1, d2, d3⟩ := F.pad_ok (k := n % 86400000 / 3600000) (many := 2) (by show _ < 100; omega) (by decide)
  obtain ⟨e1, e2, e3⟩ := F.pad_ok (k := n % 86400000 / 60000 % 60) (many := 2) (by show _ < 100; omega) (by decide)
  obtain ⟨f1, f2, f3⟩ := F.pad_ok (k := n % 86400000 / 1000 % 60) (many := 2) (by show _ < 100; omega) (by decide)
  obtain ⟨g1, g2, g3⟩ := F.pad_ok (k := n % 86400000 % 1000) (many := 3) (by show _ < 1000; omega) (by decide)
  obtain ⟨q1, q2, q3, q4, q5, q6, q7, q8, q9⟩ := F.dtQ_of a1 b1 c1 d1 e1 f1 g1 a2 b2 c2 d2 e2 f2 g2
  generalize hv : F.dtQ (F.pad (y : Int) 4) (F.pad (M : Int) 2) (F.pad (D : Int) 2) (F.pad ((n % 86400000 / 3600000 : Nat) : Int) 2) (F.pad ((n % 86400000 / 60000 % 60 : Nat) : Int) 2) (F.pad ((n % 86400000 / 1000 % 60 : Nat) : Int) 2) (F.pad ((n % 86400000 % 1000 : Nat) : Int) 3) = v at *
  have w1 : F.dN v 0 4 = y := by unfold F.dN; rw [q3]; exact a3
  have w2 : F.dN v 5 7 = M := by unfold F.dN; rw [q4]; exact b3
  have w3 : F.dN v 8 10 = D := by unfold F.dN; rw [q5]; exact c3
  have w4 : F.dN v 11 13 = n % 86400000 / 3600000 := by unfold F.dN; rw [q6]; exact d3
  have w5 : F.dN v 14 16 = n % 86400000 / 60000 % 60 := by unfold F.dN; rw [q7]; exact e3
  have w6 : F.dN v 17 19 = n % 86400000 / 1000 % 60 := by unfold F.dN; rw [q8]; exact f3
  have w7 : F.dN v 20 23 = n % 86400000 % 1000 := by unfold F.dN; rw [q9]; exact g3
  have hok : F.dtOk v = true := by
    unfold F.dtOk F.dtB F.out
    rw [q1, q2, w1, w2, w3, w4, w5, w6, decide_eq_false (by omega : ¬ (y : Int) < 1970), decide_eq_false (by omega : ¬ (M : Int) < 1), decide_eq_false (by omega : ¬ (12 : Int) < (M : Int)), decide_eq_false (by omega : ¬ (D : Int) < 1), decide_eq_false (by omega : ¬ F.mdays (y : Int) (M : Int) < (D : Int)), decide_eq_false (by omega : ¬ (23 : Int) < ((n % 86400000 / 3600000 : Nat) : Int)), decide_eq_false (by omega : ¬ (59 : Int) < ((n % 86400000 / 60000 % 60 : Nat) : Int)), decide_eq_false (by omega : ¬ (59 : Int) < ((n % 86400000 / 1000 % 60 : Nat) : Int))]
    rfl
  refine ⟨hok, ?_⟩
  unfold F.dtV
  rw [hok, cond_true, w1, w2, w3, w4, w5, w6, w7]
  unfold F.dayN at hd
  rw [← hd]
  omega

end Go.Proofs.YtajmdlpanlbnjaaGreatDoor

namespace Go.Proofs.YtajmdlpanlbnjaaGreatDoor
open Go Go.RowKit
set_option linter.unusedVariables false
set_option linter.unusedSimpArgs false
set_option maxHeartbeats 1000000

theorem F.yr_uniq {a b d : Int} (h1 : 1 ≤ a) (h2 : 1 ≤ b) (a1 : F.ydays a ≤ d) (a2 : d < F.ydays (a + 1)) (b1 : F.ydays b ≤ d) (b2 : d < F.ydays (b + 1)) : a = b := by
  rcases Int.lt_trichotomy a b with h | h | h
  · have := F.ydays_mono (a := a + 1) (b := b) (by omega) (by omega); omega
  · exact h
  · have := F.ydays_mono (a := b + 1) (b := a) (by omega) (by omega); omega

theorem F.yr_max {y d : Int} (h0 : 1970 ≤ y) (h2 : d ≤ 2932896) (h1 : F.ydays y ≤ d) : y ≤ 9999 := by
  have y4 : F.ydays 10000 = 2932897 := by decide
  by_cases h : y ≤ 9999
  · exact h
  · have := F.ydays_mono (a := 10000) (b := y) (by omega) (by omega)
    omega

theorem F.yr_end {y d : Int} (h0 : 1970 ≤ y) (h2 : d ≤ 2932896) : d < F.ydays (y + ((10000 : Nat) : Int) + 1) := by
  have y4 : F.ydays 10000 = 2932897 := by decide
  have := F.ydays_mono (a := 10000) (b := y + ((10000 : Nat) : Int) + 1) (by omega) (by omega)
  omega

theorem F.yr_step {y d : Int} (h0 : 1970 ≤ y) (h2 : d ≤ 2932896) (h1 : F.ydays y ≤ d) (h3 : F.ydays (y + 1) ≤ d) : F.yrL 10000 d y = F.yrL 10000 d (y + 1) := by
  obtain ⟨a1, a2, a3⟩ := F.yrL_ok (d := d) 10000 y (by omega) h1 (F.yr_end h0 h2)
  obtain ⟨b1, b2, b3⟩ := F.yrL_ok (d := d) 10000 (y + 1) (by omega) h3 (F.yr_end (by omega) h2)
  exact F.yr_uniq (by omega) (by omega) a1 a2 b1 b2

theorem F.yr_stop {y d : Int} (h3 : ¬ F.ydays (y + 1) ≤ d) : F.yrL 10000 d y = y := by
  show (bif decide (F.ydays (y + 1) ≤ d) then F.yrL 9999 d (y + 1) else y) = y
  rw [decide_eq_false h3]
  rfl

theorem F.mo_fuel {y d : Int} {j k k' m : Nat} (h1 : j ≤ k) (h2 : j ≤ k') (h3 : 0 ≤ d) (h4 : d < F.msum y j m) : F.moL k y d m = F.moL k' y d m := by
  obtain ⟨i, i1, D, i2, i3, i4, i5⟩ := F.moL_ok y j k m d h1 h3 h4
  rw [i5, i4, F.moL_eq y i k' m D (by omega) i2 i3]

theorem F.mo_step {y d : Int} {m : Nat} (h1 : 1 ≤ m) (h2 : m ≤ 12) (h3 : 0 ≤ d) (h4 : d < F.msum y (13 - m) m) (h5 : F.mdays y m ≤ d) : m + 1 ≤ 12 ∧ d - F.mdays y m < F.msum y (13 - (m + 1)) (m + 1) ∧ F.moL 20 y d m = F.moL 20 y (d - F.mdays y m) ((m + 1 : Nat) : Int) := by
  rw [show 13 - m = (13 - (m + 1)) + 1 by omega, F.msum] at h4
  have hm : m + 1 ≤ 12 := by
    by_cases h : m = 12
    · subst h
      have : F.msum y (13 - (12 + 1)) (12 + 1) = 0 := rfl
      omega
    · omega
  refine ⟨hm, by omega, ?_⟩
  have e : F.moL 20 y d m = F.moL 19 y (d - F.mdays y m) ((m + 1 : Nat) : Int) := by
    show (bif decide (F.mdays y m ≤ d) then F.moL 19 y (d - F.mdays y m) ((m : Int) + 1) else ((m : Int), d)) = _
    rw [decide_eq_true h5]
    rfl
  rw [e]
  exact F.mo_fuel (j := 13 - (m + 1)) (by omega) (by omega) (by omega) (by omega)

theorem F.mo_stop {y d : Int} {m : Nat} (h5 : ¬ F.mdays y m ≤ d) : F.moL 20 y d m = ((m : Int), d) := by
  show (bif decide (F.mdays y m ≤ d) then F.moL 19 y (d - F.mdays y m) ((m : Int) + 1) else ((m : Int), d)) = _
  rw [decide_eq_false h5]
  rfl

theorem F.pad_size {n : Int} (h0 : -9223372036854775808 ≤ n) (h1 : n ≤ 9223372036854775807) {m : Nat} (hm : m ≤ 10) : (F.pad n m).size ≤ 31 := by
  have := F.itoa_size h0 h1
  unfold F.pad
  rw [ByteArray.size_append, F.zrs_size]
  omega

namespace M

def stPad (many : Nat) (s : ByteArray) : St := ⟨[(5, vS s), (1, vI many)], []⟩

def stPad1 (a : Nat × ByteArray) : St := stPad a.1 a.2

theorem stPad_inj (a a' : Nat × ByteArray) (h : stPad1 a = stPad1 a') : a = a' := by
  simp only [stPad1, stPad] at h
  try simp [strs_inj, ints_inj, ents_inj, eEnt_iff, eLst_iff, eSnds_inj, eStrms_inj] at h
  grind

theorem unstPad (many : Nat) (s : ByteArray) : unenc stPad1 (St.mk [(5, (vS s)), (1, (vI (↑many : Int)))] []) = some (many, s) := unenc_of stPad_inj (many, s) rfl

def outPad (many : Nat) (s : ByteArray) : T (Ex × St) := .ret (.exit 0, ⟨[(5, vS (F.zrs (many - s.size) ++ s))], []⟩)

noncomputable def prlPad (many : Nat) (s : ByteArray) : Bool := decide (many ≤ 1000)

noncomputable def lpPad : Nat × (St → T (Ex × St)) := (2, lpo [5, 1] [] stPad1 (fun a => prlPad a.1 a.2) fun a => outPad a.1 a.2)

noncomputable def enPad : Env := envH ty noG lks [oIta] [] [] [lpPad]

theorem enPad_ok : EnvOK Tryz.prog enPad := by
  refine envH_ok lks_ok ty_ok ?_ ?_
  · simp only [List.forall_mem_cons]
    exact ⟨okIta, by simp⟩
  · simp

theorem evPadL (many : Nat) (s : ByteArray) : ((exec enPad (loopN Tryz.f78 0) (stPad many s)).bind (lessX ([5, 1], []) ([5], []) ([], []))).val =
  bif decide ((↑(ByteArray.size s) : Int) < (↑many : Int)) then bif Nat.ble (ByteArray.size (ByteArray.mk (Array.mk [(48 : UInt8)])) + ByteArray.size s) (9223372036854775807
  : Nat) then some (Ex.normal, St.mk [(5, (vS (ByteArray.mk (Array.mk [(48 : UInt8)]) ++ s))), (1, (vI (↑many : Int)))] []) else none else some (Ex.exit (0 : Nat), St.mk
  [(5, (vS s))] []) := (execR_bind _ _ _).symm.trans (by kernel_rfl)

theorem lpPad_ok (many : Nat) (s : ByteArray) (hp : prlPad many s = true) : ∀ ex s', (outPad many s).val = some (ex, s') → LoopOK enPad (loopN Tryz.f78 0) (stPad many s) ex s' := by
  simp only [prlPad, Bool.and_eq_true, decide_eq_true_eq] at hp
  refine loop_gen (st := fun s : ByteArray => stPad many s) (out := fun s => outPad many s) (I := fun _ => True) (n := ([5, 1], [])) (e := ([5], [])) (r := ([], [])) (fun s => many - s.size) ?_ s trivial
  intro s _
  by_cases h : s.size < many
  · right
    have e1 : ((⟨⟨[48]⟩⟩ : ByteArray) ++ s).size = s.size + 1 := by rw [ByteArray.size_append]; show 1 + s.size = _; omega
    refine ⟨⟨⟨[48]⟩⟩ ++ s, ?_, rfl, trivial, by omega, ?_⟩
    · rw [evPadL]
      simp only [unIta, preIta1, unstPad, prlPad, outPad, etaEnt, etaLst, etaSnd, etaStrm, etaMas, Option.bind_some, List.length_map, unStrs, unInts, unBools, unEnts, unItms, unTrns, cond_true, cond_false, Bool.and_true, Bool.true_and, decide_eq_true (show (s.size : Int) < (many : Int) by omega)]
      rw [ble_t (show (ByteArray.mk (Array.mk [48])).size + s.size ≤ 9223372036854775807 by show 1 + s.size ≤ _; omega)]
      rfl
    · have e2 : many - s.size = (many - (s.size + 1)) + 1 := by omega
      simp only [outPad, e1]
      rw [e2, F.zrs_succ]
  · left
    refine ⟨(.exit 0, ⟨[(5, vS s)], []⟩), ?_, ?_, by simp, rfl⟩
    · rw [evPadL]
      simp only [unIta, preIta1, unstPad, prlPad, outPad, etaEnt, etaLst, etaSnd, etaStrm, etaMas, Option.bind_some, List.length_map, unStrs, unInts, unBools, unEnts, unItms, unTrns, cond_true, cond_false, Bool.and_true, Bool.true_and, decide_eq_false (show ¬ (s.size : Int) < (many : Int) by omega)]
    · simp only [outPad]
      rw [show many - s.size = 0 by omega, F.zrs_zero]
      rfl

theorem evPad (n : Int) (many : Nat) : (runF enPad false Tryz.f78 [vI n, vI many]).val =
  Option.bind (unenc encIta [(vI n)]) fun (z : Int) => bif decide ((-9223372036854775808 : Int) ≤ z) && decide (z ≤ (9223372036854775807 : Int)) then Option.bind (unenc
  stPad1 (St.mk [(5, (vS (F.itoa z))), (1, (vI (↑many : Int)))] [])) fun (z : Nat × ByteArray) => bif decide (z.fst ≤ (1000 : Nat)) && true then some ((vS (F.zrs (z.fst -
  ByteArray.size z.snd) ++ z.snd)), []) else none else none := (runFR_val).symm.trans (by kernel_rfl)

def encPad1 (n : Int) (many : Nat) : List AV := [vI n, vI many]

def encPad (a : Int × Nat) : List AV := encPad1 a.1 a.2

theorem encPad_inj (a a' : Int × Nat) (h : encPad a = encPad a') : a = a' := by
  simp only [encPad, encPad1] at h
  try simp [strs_inj, ints_inj, ents_inj, eEnt_iff, eLst_iff, eSnds_inj, eStrms_inj] at h
  grind

theorem unPad (n : Int) (many : Nat) : unenc encPad ([(vI n), (vI (↑many : Int))]) = some (n, many) := unenc_of encPad_inj (n, many) rfl

def resPad1 (n : Int) (many : Nat) : AV × Heap := (vS (F.pad n many), [])

def prePad1 (n : Int) (many : Nat) : Bool := decide (-9223372036854775808 ≤ n) && decide (n ≤ 9223372036854775807) && decide (many ≤ 1000)

noncomputable def oPad : Orc := orc 78 true encPad (fun a => prePad1 a.1 a.2) fun a => resPad1 a.1 a.2

theorem okPad : OrcOK Tryz.prog noG oPad := by
  refine mk_ok Tryz.f78 (keep := false) (by kernel_rfl) (by kernel_rfl) enPad_ok mixed (one_loop (x0 := loopN Tryz.f78 0) (by kernel_rfl) (lpo_ok ?_)) (by first | exact fun _ _ => ⟨rfl, rfl⟩ | (intro h; cases h)) ?_
  · rintro ⟨many, s⟩ hp
    exact lpPad_ok many s hp
  rintro ⟨n, many⟩ hpre hok
  show (runF enPad false _ (encPad1 _ _)).val = some (resPad1 _ _)
  unfold encPad1 resPad1
  rw [evPad]
  simp only [prePad1, Bool.and_eq_true] at hpre
  simp only [unIta, preIta1, unstPad, prlPad, outPad, etaEnt, etaLst, etaSnd, etaStrm, etaMas, Option.bind_some, List.length_map, unStrs, unInts, unBools, unEnts, unItms, unTrns, cond_true, cond_false, Bool.and_true, Bool.true_and, hpre.1.1, hpre.1.2, hpre.2, F.pad]
  try rfl

theorem evYd2 (y : Int) : (runF en0 false Tryz.f76 [vI y]).val =
  some ((vI (IntKind.wrap IntKind.i64 (IntKind.wrap IntKind.i64 (IntKind.wrap IntKind.i64 (IntKind.wrap IntKind.i64 ((365 : Int) * IntKind.wrap IntKind.i64 (y - (1970 :
  Int))) + IntKind.wrap IntKind.i64 (IntKind.wrap IntKind.i64 (Int.tdiv (IntKind.wrap IntKind.i64 (y - (1 : Int))) (4 : Int)) - (492 : Int))) - IntKind.wrap IntKind.i64
  (IntKind.wrap IntKind.i64 (Int.tdiv (IntKind.wrap IntKind.i64 (y - (1 : Int))) (100 : Int)) - (19 : Int))) + IntKind.wrap IntKind.i64 (IntKind.wrap IntKind.i64 (Int.tdiv
  (IntKind.wrap IntKind.i64 (y - (1 : Int))) (400 : Int)) - (4 : Int))))), []) := (runFR_val).symm.trans (by kernel_rfl)

def encYd21 (y : Int) : List AV := [vI y]

def encYd2 (a : Int) : List AV := encYd21 a

theorem encYd2_inj (a a' : Int) (h : encYd2 a = encYd2 a') : a = a' := by
  simp only [encYd2, encYd21] at h
  try simp [strs_inj, ints_inj, ents_inj, eEnt_iff, eLst_iff, eSnds_inj, eStrms_inj] at h
  grind

theorem unYd2 (y : Int) : unenc encYd2 ([(vI y)]) = some (y) := unenc_of encYd2_inj (y) rfl

def resYd21 (y : Int) : AV × Heap := (vI (F.ydays y), [])

def preYd21 (y : Int) : Bool := decide (1970 ≤ y) && decide (y ≤ 20000)

noncomputable def oYd2 : Orc := orc 76 true encYd2 (fun a => preYd21 a) fun a => resYd21 a

theorem okYd2 : OrcOK Tryz.prog noG oYd2 := by
  refine mk_ok Tryz.f76 (keep := false) (by kernel_rfl) (by kernel_rfl) en0_ok mixed (no_loops (by kernel_rfl)) (by first | exact fun _ _ => ⟨rfl, rfl⟩ | (intro h; cases h)) ?_
  rintro y hpre hok
  show (runF en0 false _ (encYd21 _)).val = some (resYd21 _)
  unfold encYd21 resYd21
  rw [evYd2]
  have hpre : (decide (1970 ≤ y) && decide (y ≤ 20000)) = true := hpre
  simp only [Bool.and_eq_true, decide_eq_true_eq] at hpre
  have h1 : 0 ≤ (y - 1).tdiv 4 ∧ (y - 1).tdiv 4 ≤ 10000 := by rw [Int.tdiv_eq_ediv_of_nonneg (by omega)]; omega
  have h2 : 0 ≤ (y - 1).tdiv 100 ∧ (y - 1).tdiv 100 ≤ 10000 := by rw [Int.tdiv_eq_ediv_of_nonneg (by omega)]; omega
  have h3 : 0 ≤ (y - 1).tdiv 400 ∧ (y - 1).tdiv 400 ≤ 10000 := by rw [Int.tdiv_eq_ediv_of_nonneg (by omega)]; omega
  have w0 : IntKind.i64.wrap (y - 1) = y - 1 := wrap_id (by omega) (by omega)
  have w1 : IntKind.i64.wrap (y - 1970) = y - 1970 := wrap_id (by omega) (by omega)
  have w2 : IntKind.i64.wrap (365 * (y - 1970)) = 365 * (y - 1970) := wrap_id (by omega) (by omega)
  simp only [etaEnt, etaLst, etaSnd, etaStrm, etaMas, Option.bind_some, List.length_map, unStrs, unInts, unBools, unEnts, unItms, unTrns, cond_true, cond_false, Bool.and_true, Bool.true_and, w0, w1, w2, F.ydays]
  generalize (y - 1).tdiv 4 = a at *
  generalize (y - 1).tdiv 100 = b at *
  generalize (y - 1).tdiv 400 = c at *
  simp (disch := omega) only [wrap_id]

def stDt1 (y : Int) (r : Int) (d : Int) : St := ⟨[(6, vI y), (5, vI r), (4, vI d)], []⟩

def stDt11 (a : Int × Int × Int) : St := stDt1 a.1 a.2.1 a.2.2

theorem stDt1_inj (a a' : Int × Int × Int) (h : stDt11 a = stDt11 a') : a = a' := by
  simp only [stDt11, stDt1] at h
  try simp [strs_inj, ints_inj, ents_inj, eEnt_iff, eLst_iff, eSnds_inj, eStrms_inj] at h
  grind

theorem unstDt1 (y : Int) (r : Int) (d : Int) : unenc stDt11 (St.mk [(6, (vI y)), (5, (vI r)), (4, (vI d))] []) = some (y, r, d) := unenc_of stDt1_inj (y, r, d) rfl

def outDt1 (y : Int) (r : Int) (d : Int) : T (Ex × St) := .ret (.exit 0, ⟨[(6, vI (F.yrL 10000 d y)), (5, vI r), (4, vI d)], []⟩)

noncomputable def prlDt1 (y : Int) (r : Int) (d : Int) : Bool := decide (1970 ≤ y) && decide (0 ≤ d) && decide (d ≤ 2932896) && decide (F.ydays y ≤ d)

noncomputable def lpDt1 : Nat × (St → T (Ex × St)) := (5, lpo [6, 5, 4] [] stDt11 (fun a => prlDt1 a.1 a.2.1 a.2.2) fun a => outDt1 a.1 a.2.1 a.2.2)

def stDt2 (m : Nat) (y : Int) (r : Int) (d : Int) : St := ⟨[(7, vI m), (6, vI y), (5, vI r), (4, vI d)], []⟩

def stDt21 (a : Nat × Int × Int × Int) : St := stDt2 a.1 a.2.1 a.2.2.1 a.2.2.2

theorem stDt2_inj (a a' : Nat × Int × Int × Int) (h : stDt21 a = stDt21 a') : a = a' := by
  simp only [stDt21, stDt2] at h
  try simp [strs_inj, ints_inj, ents_inj, eEnt_iff, eLst_iff, eSnds_inj, eStrms_inj] at h
  grind

theorem unstDt2 (m : Nat) (y : Int) (r : Int) (d : Int) : unenc stDt21 (St.mk [(7, (vI (↑m : Int))), (6, (vI y)), (5, (vI r)), (4, (vI d))] []) = some (m, y, r, d) := unenc_of stDt2_inj (m, y, r, d) rfl

theorem unstDt20 (y : Int) (r : Int) (d : Int)  : unenc stDt21 (St.mk [(7, (vI (1 : Int))), (6, (vI y)), (5, (vI r)), (4, (vI d))] []) = some (1, y, r, d) := unenc_of stDt2_inj (1, y, r, d) rfl

def outDt2 (m : Nat) (y : Int) (r : Int) (d : Int) : T (Ex × St) := .ret (.exit 2, ⟨[(7, vI (F.moL 20 y d m).1), (6, vI y), (5, vI r), (4, vI (F.moL 20 y d m).2)], []⟩)

noncomputable def prlDt2 (m : Nat) (y : Int) (r : Int) (d : Int) : Bool := decide (0 ≤ y) && decide (y ≤ 100000) && decide (1 ≤ m) && decide (m ≤ 12) && decide (0 ≤ d) && decide (d < F.msum y (13 - m) m)

noncomputable def lpDt2 : Nat × (St → T (Ex × St)) := (9, lpo [7, 6, 5, 4] [] stDt21 (fun a => prlDt2 a.1 a.2.1 a.2.2.1 a.2.2.2) fun a => outDt2 a.1 a.2.1 a.2.2.1 a.2.2.2)

noncomputable def enDt : Env := envH ty noG lks [oOut, oYd2, oMdy, oPad] [] [] [lpDt1, lpDt2]

theorem enDt_ok : EnvOK Tryz.prog enDt := by
  refine envH_ok lks_ok ty_ok ?_ ?_
  · simp only [List.forall_mem_cons]
    exact ⟨okOut, okYd2, okMdy, okPad, by simp⟩
  · simp

theorem evDt1L (y : Int) (r : Int) (d : Int) : ((exec enDt (loopN Tryz.f52 0) (stDt1 y r d)).bind (lessX ([6, 5, 4], []) ([6, 5, 4], []) ([], []))).val =
  Option.bind (unenc encYd2 [(vI (IntKind.wrap IntKind.i64 (y + (1 : Int))))]) fun (z : Int) => bif decide ((1970 : Int) ≤ z) && decide (z ≤ (20000 : Int)) then bif decide
  (F.ydays z ≤ d) then some (Ex.normal, St.mk [(6, (vI (IntKind.wrap IntKind.i64 (y + (1 : Int))))), (5, (vI r)), (4, (vI d))] []) else some (Ex.exit (0 : Nat), St.mk [(6,
  (vI y)), (5, (vI r)), (4, (vI d))] []) else none := (execR_bind _ _ _).symm.trans (by kernel_rfl)

theorem lpDt1_ok (y : Int) (r : Int) (d : Int) (hp : prlDt1 y r d = true) : ∀ ex s', (outDt1 y r d).val = some (ex, s') → LoopOK enDt (loopN Tryz.f52 0) (stDt1 y r d) ex s' := by
  simp only [prlDt1, Bool.and_eq_true, decide_eq_true_eq] at hp
  obtain ⟨⟨⟨h1, h2⟩, h3⟩, h4⟩ := hp
  refine loop_gen (st := fun y : Int => stDt1 y r d) (out := fun y => outDt1 y r d) (I := fun y => 1970 ≤ y ∧ F.ydays y ≤ d) (n := ([6, 5, 4], [])) (e := ([6, 5, 4], [])) (r := ([], [])) (fun y => (10000 - y).toNat) ?_ y ⟨h1, h4⟩
  clear h1 h4
  intro y ⟨h1, h4⟩
  have hmx := F.yr_max h1 h3 h4
  have w1 : IntKind.i64.wrap (y + 1) = y + 1 := wrap_id (by omega) (by omega)
  have p1 : decide (1970 ≤ y + 1) = true := decide_eq_true (by omega)
  have p2 : decide (y + 1 ≤ 20000) = true := decide_eq_true (by omega)
  by_cases hc : F.ydays (y + 1) ≤ d
  · right
    refine ⟨y + 1, ?_, rfl, ⟨by omega, hc⟩, by omega, ?_⟩
    · rw [evDt1L]
      simp only [unOut, unYd2, unMdy, unPad, preOut1, preYd21, preMdy1, prePad1, unstDt1, unstDt2, unstDt20, prlDt1, prlDt2, outDt1, outDt2, etaEnt, etaLst, etaSnd, etaStrm, etaMas, Option.bind_some, List.length_map, unStrs, unInts, unBools, unEnts, unItms, unTrns, cond_true, cond_false, Bool.and_true, Bool.true_and, w1, p1, p2, decide_eq_true hc, stDt1]
      try rfl
    · simp only [outDt1, F.yr_step h1 h3 h4 hc]
  · left
    refine ⟨(.exit 0, ⟨[(6, vI y), (5, vI r), (4, vI d)], []⟩), ?_, ?_, by simp, rfl⟩
    · rw [evDt1L]
      simp only [unOut, unYd2, unMdy, unPad, preOut1, preYd21, preMdy1, prePad1, unstDt1, unstDt2, unstDt20, prlDt1, prlDt2, outDt1, outDt2, etaEnt, etaLst, etaSnd, etaStrm, etaMas, Option.bind_some, List.length_map, unStrs, unInts, unBools, unEnts, unItms, unTrns, cond_true, cond_false, Bool.and_true, Bool.true_and, w1, p1, p2, decide_eq_false hc]
      try rfl
    · simp only [outDt1, F.yr_stop hc]
      rfl

theorem evDt2L (m : Nat) (y : Int) (r : Int) (d : Int) : ((exec enDt (loopN Tryz.f52 1) (stDt2 m y r d)).bind (lessX ([7, 6, 5, 4], []) ([7, 6, 5, 4], []) ([], []))).val =
  Option.bind (unenc encMdy [(vI y), (vI (↑m : Int))]) fun (z : Int × Int) => bif decide ((0 : Int) ≤ z.fst) && decide (z.fst ≤ (100000 : Int)) then bif decide (F.mdays
  z.fst z.snd ≤ d) then Option.bind (unenc encMdy [(vI y), (vI (↑m : Int))]) fun (z : Int × Int) => bif decide ((0 : Int) ≤ z.fst) && decide (z.fst ≤ (100000 : Int)) then
  some (Ex.normal, St.mk [(7, (vI (IntKind.wrap IntKind.i64 ((↑m : Int) + (1 : Int))))), (6, (vI y)), (5, (vI r)), (4, (vI (IntKind.wrap IntKind.i64 (d - F.mdays z.fst
  z.snd))))] []) else none else some (Ex.exit (2 : Nat), St.mk [(7, (vI (↑m : Int))), (6, (vI y)), (5, (vI r)), (4, (vI d))] []) else none := (execR_bind _ _ _).symm.trans (by kernel_rfl)

theorem lpDt2_ok (m : Nat) (y : Int) (r : Int) (d : Int) (hp : prlDt2 m y r d = true) : ∀ ex s', (outDt2 m y r d).val = some (ex, s') → LoopOK enDt (loopN Tryz.f52 1) (stDt2 m y r d) ex s' := by
  simp only [prlDt2, Bool.and_eq_true, decide_eq_true_eq] at hp
  obtain ⟨⟨⟨⟨⟨h1, h2⟩, h3⟩, h4⟩, h5⟩, h6⟩ := hp
  have p1 : decide (0 ≤ y) = true := decide_eq_true h1
  have p2 : decide (y ≤ 100000) = true := decide_eq_true h2
  refine loop_gen (st := fun p : Nat × Int => stDt2 p.1 y r p.2) (out := fun p => outDt2 p.1 y r p.2) (I := fun p => 1 ≤ p.1 ∧ p.1 ≤ 12 ∧ 0 ≤ p.2 ∧ p.2 < F.msum y (13 - p.1) p.1) (n := ([7, 6, 5, 4], [])) (e := ([7, 6, 5, 4], [])) (r := ([], [])) (fun p => 13 - p.1) ?_ (m, d) ⟨h3, h4, h5, h6⟩
  clear h3 h4 h5 h6
  rintro ⟨m, d⟩ ⟨h3, h4, h5, h6⟩
  simp only at h3 h4 h5 h6
  have hb := F.mdays_b y m
  have hs := F.msum_b y (13 - m) m
  by_cases hc : F.mdays y m ≤ d
  · obtain ⟨k1, k2, k3⟩ := F.mo_step h3 h4 h5 h6 hc
    have w1 : IntKind.i64.wrap (d - F.mdays y m) = d - F.mdays y m := wrap_id (by omega) (by omega)
    have w2 : IntKind.i64.wrap ((m : Int) + 1) = ((m + 1 : Nat) : Int) := by rw [wrap_id (by omega) (by omega)]; rfl
    right
    refine ⟨(m + 1, d - F.mdays y m), ?_, rfl, ⟨by simp only; omega, k1, by simp only; omega, k2⟩, by simp only; omega, ?_⟩
    · rw [evDt2L]
      simp only [unOut, unYd2, unMdy, unPad, preOut1, preYd21, preMdy1, prePad1, unstDt1, unstDt2, unstDt20, prlDt1, prlDt2, outDt1, outDt2, etaEnt, etaLst, etaSnd, etaStrm, etaMas, Option.bind_some, List.length_map, unStrs, unInts, unBools, unEnts, unItms, unTrns, cond_true, cond_false, Bool.and_true, Bool.true_and, p1, p2, w1, w2, decide_eq_true hc, stDt2]
      try rfl
    · simp only [outDt2, k3]
  · left
    refine ⟨(.exit 2, ⟨[(7, vI m), (6, vI y), (5, vI r), (4, vI d)], []⟩), ?_, ?_, by simp, rfl⟩
    · rw [evDt2L]
      simp only [unOut, unYd2, unMdy, unPad, preOut1, preYd21, preMdy1, prePad1, unstDt1, unstDt2, unstDt20, prlDt1, prlDt2, outDt1, outDt2, etaEnt, etaLst, etaSnd, etaStrm, etaMas, Option.bind_some, List.length_map, unStrs, unInts, unBools, unEnts, unItms, unTrns, cond_true, cond_false, Bool.and_true, Bool.true_and, p1, p2, decide_eq_false hc]
      try rfl
    · simp only [outDt2, F.mo_stop hc]
      rfl

theorem evDte (n : Int) : (runF enDt false Tryz.f52 [vI n]).val =
  (fun (q : ByteArray) => (fun (q_1 : ByteArray) => (fun (q_2 : ByteArray) => (fun (q_3 : ByteArray) => (fun (q_4 : List AV) => Option.bind (unenc encOut [(vI n), (vI (0 :
  Int)), (vI (253402300799999 : Int))]) fun (z : Int × Int × Int) => bif F.out z.fst z.snd.fst z.snd.snd then some (AV.tup [(vS (ByteArray.mk (Array.mk []))), (vI (1 :
  Int))], []) else Option.bind (unenc stDt11 (St.mk [(6, (vI (IntKind.wrap IntKind.i64 ((1970 : Int) + IntKind.wrap IntKind.i64 (Int.tdiv (IntKind.wrap IntKind.i64 (Int.tdiv
  n (86400000 : Int))) (366 : Int)))))), (5, (vI (Int.tmod n (86400000 : Int)))), (4, (vI (IntKind.wrap IntKind.i64 (Int.tdiv n (86400000 : Int)))))] [])) fun (z : Int × Int
  × Int) => bif decide ((1970 : Int) ≤ z.fst) && decide ((0 : Int) ≤ z.snd.snd) && decide (z.snd.snd ≤ (2932896 : Int)) && decide (F.ydays z.fst ≤ z.snd.snd) && true then
  Option.bind (unenc encYd2 [(vI (F.yrL (10000 : Nat) z.snd.snd z.fst))]) fun (z_1 : Int) => bif decide ((1970 : Int) ≤ z_1) && decide (z_1 ≤ (20000 : Int)) then Option.bind
  (unenc stDt21 (St.mk [(7, (vI (1 : Int))), (6, (vI (F.yrL (10000 : Nat) z.snd.snd z.fst))), (5, (vI z.snd.fst)), (4, (vI (IntKind.wrap IntKind.i64 (z.snd.snd - F.ydays
  z_1))))] [])) fun (z : Nat × Int × Int × Int) => bif decide ((0 : Int) ≤ z.snd.fst) && decide (z.snd.fst ≤ (100000 : Int)) && decide ((1 : Nat) ≤ z.fst) && decide (z.fst ≤
  (12 : Nat)) && decide ((0 : Int) ≤ z.snd.snd.snd) && decide (z.snd.snd.snd < F.msum z.snd.fst ((13 : Nat) - z.fst) z.fst) && true then Option.bind (unenc encPad [(vI
  z.snd.fst), (vI (4 : Int))]) fun (z_2 : Int × Nat) => (fun (q_5 : ByteArray) => bif decide ((-9223372036854775808 : Int) ≤ z_2.fst) && decide (z_2.fst ≤
  (9223372036854775807 : Int)) && decide (z_2.snd ≤ (1000 : Nat)) then bif Nat.ble (ByteArray.size (F.pad z_2.fst z_2.snd) + ByteArray.size q_3) (9223372036854775807 : Nat)
  then Option.bind (unenc encPad ((vI (F.moL (20 : Nat) z.snd.fst z.snd.snd.snd (↑z.fst : Int)).fst) :: q_4)) fun (z_3 : Int × Nat) => (fun (q_6 : ByteArray) => bif decide
  ((-9223372036854775808 : Int) ≤ z_3.fst) && decide (z_3.fst ≤ (9223372036854775807 : Int)) && decide (z_3.snd ≤ (1000 : Nat)) then bif Nat.ble (ByteArray.size q_5 +
  ByteArray.size (F.pad z_3.fst z_3.snd)) (9223372036854775807 : Nat) then bif Nat.ble (ByteArray.size (q_5 ++ F.pad z_3.fst z_3.snd) + ByteArray.size q_3)
  (9223372036854775807 : Nat) then Option.bind (unenc encPad ((vI (IntKind.wrap IntKind.i64 ((F.moL (20 : Nat) z.snd.fst z.snd.snd.snd (↑z.fst : Int)).snd + (1 : Int)))) ::
  q_4)) fun (z_4 : Int × Nat) => (fun (q_7 : ByteArray) => bif decide ((-9223372036854775808 : Int) ≤ z_4.fst) && decide (z_4.fst ≤ (9223372036854775807 : Int)) && decide
  (z_4.snd ≤ (1000 : Nat)) then bif Nat.ble (ByteArray.size q_6 + ByteArray.size (F.pad z_4.fst z_4.snd)) (9223372036854775807 : Nat) then bif Nat.ble (ByteArray.size (q_6
  ++ F.pad z_4.fst z_4.snd) + ByteArray.size q_2) (9223372036854775807 : Nat) then Option.bind (unenc encPad ((vI (IntKind.wrap IntKind.i64 (Int.tdiv z.snd.snd.fst (3600000
  : Int)))) :: q_4)) fun (z_5 : Int × Nat) => (fun (q_8 : ByteArray) => bif decide ((-9223372036854775808 : Int) ≤ z_5.fst) && decide (z_5.fst ≤ (9223372036854775807 : Int))
  && decide (z_5.snd ≤ (1000 : Nat)) then bif Nat.ble (ByteArray.size q_7 + ByteArray.size (F.pad z_5.fst z_5.snd)) (9223372036854775807 : Nat) then bif Nat.ble
  (ByteArray.size (q_7 ++ F.pad z_5.fst z_5.snd) + ByteArray.size q) (9223372036854775807 : Nat) then Option.bind (unenc encPad ((vI (Int.tmod (IntKind.wrap IntKind.i64
  (Int.tdiv z.snd.snd.fst (60000 : Int))) (60 : Int))) :: q_4)) fun (z_6 : Int × Nat) => (fun (q_9 : ByteArray) => bif decide ((-9223372036854775808 : Int) ≤ z_6.fst) &&
  decide (z_6.fst ≤ (9223372036854775807 : Int)) && decide (z_6.snd ≤ (1000 : Nat)) then bif Nat.ble (ByteArray.size q_8 + ByteArray.size (F.pad z_6.fst z_6.snd))
  (9223372036854775807 : Nat) then bif Nat.ble (ByteArray.size (q_8 ++ F.pad z_6.fst z_6.snd) + ByteArray.size q) (9223372036854775807 : Nat) then Option.bind (unenc encPad
  ((vI (Int.tmod (IntKind.wrap IntKind.i64 (Int.tdiv z.snd.snd.fst (1000 : Int))) (60 : Int))) :: q_4)) fun (z_7 : Int × Nat) => bif decide ((-9223372036854775808 : Int) ≤
  z_7.fst) && decide (z_7.fst ≤ (9223372036854775807 : Int)) && decide (z_7.snd ≤ (1000 : Nat)) then bif Nat.ble (ByteArray.size q_9 + ByteArray.size (F.pad z_7.fst
  z_7.snd)) (9223372036854775807 : Nat) then bif Nat.ble (ByteArray.size (q_9 ++ F.pad z_7.fst z_7.snd) + ByteArray.size q_1) (9223372036854775807 : Nat) then Option.bind
  (unenc encPad [(vI (Int.tmod z.snd.snd.fst (1000 : Int))), (vI (3 : Int))]) fun (z : Int × Nat) => bif decide ((-9223372036854775808 : Int) ≤ z.fst) && decide (z.fst ≤
  (9223372036854775807 : Int)) && decide (z.snd ≤ (1000 : Nat)) then bif Nat.ble (ByteArray.size (q_9 ++ F.pad z_7.fst z_7.snd ++ q_1) + ByteArray.size (F.pad z.fst z.snd))
  (9223372036854775807 : Nat) then bif Nat.ble (ByteArray.size (q_9 ++ F.pad z_7.fst z_7.snd ++ q_1 ++ F.pad z.fst z.snd) + ByteArray.size (ByteArray.mk (Array.mk [(90 :
  UInt8)]))) (9223372036854775807 : Nat) then some (AV.tup [(vS (q_9 ++ F.pad z_7.fst z_7.snd ++ q_1 ++ F.pad z.fst z.snd ++ ByteArray.mk (Array.mk [(90 : UInt8)]))), (vI (0
  : Int))], []) else none else none else none else none else none else none else none else none else none) (q_8 ++ F.pad z_6.fst z_6.snd ++ q) else none else none else none)
  (q_7 ++ F.pad z_5.fst z_5.snd ++ q) else none else none else none) (q_6 ++ F.pad z_4.fst z_4.snd ++ q_2) else none else none else none) (q_5 ++ F.pad z_3.fst z_3.snd ++
  q_3) else none else none) (F.pad z_2.fst z_2.snd ++ q_3) else none else none else none) [(vI (2 : Int))]) (ByteArray.mk (Array.mk [(45 : UInt8)]))) (ByteArray.mk (Array.mk
  [(84 : UInt8)]))) (ByteArray.mk (Array.mk [(46 : UInt8)]))) (ByteArray.mk (Array.mk [(58 : UInt8)])) := (runFR_val).symm.trans (by kernel_rfl)

def encDte1 (n : Int) : List AV := [vI n]

def encDte (a : Int) : List AV := encDte1 a

theorem encDte_inj (a a' : Int) (h : encDte a = encDte a') : a = a' := by
  simp only [encDte, encDte1] at h
  try simp [strs_inj, ints_inj, ents_inj, eEnt_iff, eLst_iff, eSnds_inj, eStrms_inj] at h
  grind

theorem unDte (n : Int) : unenc encDte ([(vI n)]) = some (n) := unenc_of encDte_inj (n) rfl

def resDte1 (n : Int) : AV × Heap := (.tup [vS (F.dtS n), vI 0], [])

def preDte1 (n : Int) : Bool := decide (0 ≤ n) && decide (n ≤ 253402300799999)

noncomputable def oDte : Orc := orc 52 true encDte (fun a => preDte1 a) fun a => resDte1 a

theorem okDte : OrcOK Tryz.prog noG oDte := by
  refine mk_ok Tryz.f52 (keep := false) (by kernel_rfl) (by kernel_rfl) enDt_ok mixed (two_loops (x0 := loopN Tryz.f52 0) (x1 := loopN Tryz.f52 1) (by kernel_rfl) (lpo_ok ?_) (lpo_ok ?_)) (by first | exact fun _ _ => ⟨rfl, rfl⟩ | (intro h; cases h)) ?_
  · rintro ⟨y, r, d⟩ hp
    exact lpDt1_ok y r d hp
  · rintro ⟨m, y, r, d⟩ hp
    exact lpDt2_ok m y r d hp
  rintro n hpre hok
  show (runF enDt false _ (encDte1 _)).val = some (resDte1 _)
  unfold encDte1 resDte1
  rw [evDte]
  simp only [preDte1, Bool.and_eq_true, decide_eq_true_eq] at hpre
  obtain ⟨h1, h2⟩ := hpre
  have ho : F.out n 0 253402300799999 = false := by unfold F.out; rw [decide_eq_false (by omega), decide_eq_false (by omega)]; rfl
  obtain ⟨d, hd⟩ : ∃ d, n.tdiv 86400000 = d := ⟨_, rfl⟩
  obtain ⟨r, hr⟩ : ∃ r, n.tmod 86400000 = r := ⟨_, rfl⟩
  have hd1 : 0 ≤ d ∧ d ≤ 2932896 := by rw [← hd, Int.tdiv_eq_ediv_of_nonneg h1]; omega
  have hr1 : 0 ≤ r ∧ r < 86400000 := by rw [← hr, Int.tmod_eq_emod_of_nonneg h1]; omega
  have q1 : 0 ≤ d.tdiv 366 ∧ d.tdiv 366 ≤ d / 366 := by rw [Int.tdiv_eq_ediv_of_nonneg hd1.1]; omega
  have w1 : IntKind.i64.wrap d = d := wrap_id (by omega) (by omega)
  have w2 : IntKind.i64.wrap (d.tdiv 366) = d.tdiv 366 := wrap_id (by omega) (by omega)
  have w3 : IntKind.i64.wrap (1970 + d.tdiv 366) = 1970 + d.tdiv 366 := wrap_id (by omega) (by omega)
  have hs0 : F.ydays (1970 + d.tdiv 366) ≤ d := by have := F.ydays_366 (y := 1970 + d.tdiv 366) (by omega); omega
  obtain ⟨a1, a2, a3⟩ := F.yrL_ok (d := d) 10000 (1970 + d.tdiv 366) (by omega) hs0 (F.yr_end (by omega) hd1.2)
  obtain ⟨Y, hY⟩ : ∃ Y, F.yrL 10000 d (1970 + d.tdiv 366) = Y := ⟨_, rfl⟩
  rw [hY] at a1 a2 a3
  have hYm := F.yr_max (y := Y) (by omega) hd1.2 a1
  have hup := F.ydays_up (a := Y) (by omega)
  have hy0 := F.ydays_mono (a := 1970) (b := Y) (by omega) (by omega)
  rw [F.ydays_0] at hy0
  have h12 := F.msum_12 Y
  have w4 : IntKind.i64.wrap (d - F.ydays Y) = d - F.ydays Y := wrap_id (by omega) (by omega)
  obtain ⟨i, i1, D, i2, i3, i4, i5⟩ := F.moL_ok Y 12 20 1 (d - F.ydays Y) (by omega) (by omega) (by rw [h12]; omega)
  have hb := F.mdays_b Y ((1 + i : Nat) : Int)
  have i5 : F.moL 20 Y (d - F.ydays Y) 1 = (((1 + i : Nat) : Int), D) := i5
  have w5 : IntKind.i64.wrap (D + 1) = D + 1 := wrap_id (by omega) (by omega)
  have w6 : IntKind.i64.wrap (r.tdiv 3600000) = r.tdiv 3600000 := by rw [Int.tdiv_eq_ediv_of_nonneg hr1.1]; exact wrap_id (by omega) (by omega)
  have w7 : IntKind.i64.wrap (r.tdiv 60000) = r.tdiv 60000 := by rw [Int.tdiv_eq_ediv_of_nonneg hr1.1]; exact wrap_id (by omega) (by omega)
  have w8 : IntKind.i64.wrap (r.tdiv 1000) = r.tdiv 1000 := by rw [Int.tdiv_eq_ediv_of_nonneg hr1.1]; exact wrap_id (by omega) (by omega)
  have u2 : ∀ x : Int, unenc encPad [vI x, vI 2] = some (x, 2) := fun x => unenc_of encPad_inj (x, 2) rfl
  have u3 : ∀ x : Int, unenc encPad [vI x, vI 3] = some (x, 3) := fun x => unenc_of encPad_inj (x, 3) rfl
  have u4 : ∀ x : Int, unenc encPad [vI x, vI 4] = some (x, 4) := fun x => unenc_of encPad_inj (x, 4) rfl
  have g1 : decide (F.ydays (1970 + d.tdiv 366) ≤ d) = true := decide_eq_true hs0
  have g2 : decide (d - F.ydays Y < F.msum Y (13 - 1) 1) = true := decide_eq_true (by rw [show 13 - 1 = 12 from rfl, h12]; omega)
  have c1 : ((1 : Nat) : Int) = 1 := rfl
  simp only [unOut, unYd2, unMdy, unPad, preOut1, preYd21, preMdy1, prePad1, unstDt1, unstDt2, unstDt20, prlDt1, prlDt2, outDt1, outDt2, etaEnt, etaLst, etaSnd, etaStrm, etaMas, Option.bind_some, List.length_map, unStrs, unInts, unBools, unEnts, unItms, unTrns, cond_true, cond_false, Bool.and_true, Bool.true_and, ho, hd, hr, w1, w2, w3, hY, w4, c1, i5, w5, w6, w7, w8, u2, u3, u4, g1, g2]
  rw [decide_eq_true (by omega : 1970 ≤ 1970 + d.tdiv 366), decide_eq_true hd1.1, decide_eq_true hd1.2, decide_eq_true (by omega : 1970 ≤ Y), decide_eq_true (by omega : Y ≤ 20000), decide_eq_true (by omega : 0 ≤ Y), decide_eq_true (by omega : Y ≤ 100000), decide_eq_true (by omega : 0 ≤ d - F.ydays Y)]
  have hS : F.dtS n = F.dtP Y ((1 + i : Nat) : Int) (D + 1) r := by
    unfold F.dtS F.dtM
    have hYd : F.dtY d = Y := hY
    rw [hd, hr, hYd, i5]
  rw [hS]
  unfold F.dtP
  have b1 : 0 ≤ r.tdiv 3600000 ∧ r.tdiv 3600000 ≤ 100000000 := by rw [Int.tdiv_eq_ediv_of_nonneg hr1.1]; omega
  have b2 : 0 ≤ (r.tdiv 60000).tmod 60 ∧ (r.tdiv 60000).tmod 60 ≤ 100 := by
    rw [Int.tdiv_eq_ediv_of_nonneg hr1.1, Int.tmod_eq_emod_of_nonneg (by omega)]; omega
  have b3 : 0 ≤ (r.tdiv 1000).tmod 60 ∧ (r.tdiv 1000).tmod 60 ≤ 100 := by
    rw [Int.tdiv_eq_ediv_of_nonneg hr1.1, Int.tmod_eq_emod_of_nonneg (by omega)]; omega
  have b4 : 0 ≤ r.tmod 1000 ∧ r.tmod 1000 ≤ 1000 := by rw [Int.tmod_eq_emod_of_nonneg hr1.1]; omega
  have hx5 : 0 ≤ ((1 + i : Nat) : Int) ∧ ((1 + i : Nat) : Int) ≤ 100 := by omega
  have hx6 : 0 ≤ D + 1 ∧ D + 1 ≤ 100 := by omega
  clear hS hok ho hd hr w1 w2 w3 w4 w5 w6 w7 w8 u2 u3 u4 g1 g2 h12 hup hy0 i5 i4 i3 a1 a2 hs0 hY
  generalize r.tdiv 3600000 = x1 at *
  generalize (r.tdiv 60000).tmod 60 = x2 at *
  generalize (r.tdiv 1000).tmod 60 = x3 at *
  generalize r.tmod 1000 = x4 at *
  generalize ((1 + i : Nat) : Int) = x5 at *
  generalize D + 1 = x6 at *
  have s1 := F.pad_size (n := Y) (by omega) (by omega) (m := 4) (by decide)
  have s2 := F.pad_size (n := x5) (by omega) (by omega) (m := 2) (by decide)
  have s3 := F.pad_size (n := x6) (by omega) (by omega) (m := 2) (by decide)
  have s4 := F.pad_size (n := x1) (by omega) (by omega) (m := 2) (by decide)
  have s5 := F.pad_size (n := x2) (by omega) (by omega) (m := 2) (by decide)
  have s6 := F.pad_size (n := x3) (by omega) (by omega) (m := 2) (by decide)
  have s7 := F.pad_size (n := x4) (by omega) (by omega) (m := 3) (by decide)
  have e1 : (⟨⟨[45]⟩⟩ : ByteArray).size = 1 := rfl
  have e2 : (⟨⟨[84]⟩⟩ : ByteArray).size = 1 := rfl
  have e3 : (⟨⟨[58]⟩⟩ : ByteArray).size = 1 := rfl
  have e4 : (⟨⟨[46]⟩⟩ : ByteArray).size = 1 := rfl
  have e5 : (⟨⟨[90]⟩⟩ : ByteArray).size = 1 := rfl
  have d4 : decide ((4 : Nat) ≤ 1000) = true := rfl
  have d2 : decide ((2 : Nat) ≤ 1000) = true := rfl
  have d3 : decide ((3 : Nat) ≤ 1000) = true := rfl
  rw [decide_eq_true (by omega : -9223372036854775808 ≤ Y), decide_eq_true (by omega : Y ≤ 9223372036854775807), decide_eq_true (by omega : -9223372036854775808 ≤ x5), decide_eq_true (by omega : x5 ≤ 9223372036854775807), decide_eq_true (by omega : -9223372036854775808 ≤ x6), decide_eq_true (by omega : x6 ≤ 9223372036854775807), decide_eq_true (by omega : -9223372036854775808 ≤ x1), decide_eq_true (by omega : x1 ≤ 9223372036854775807), decide_eq_true (by omega : -9223372036854775808 ≤ x2), decide_eq_true (by omega : x2 ≤ 9223372036854775807), decide_eq_true (by omega : -9223372036854775808 ≤ x3), decide_eq_true (by omega : x3 ≤ 9223372036854775807), decide_eq_true (by omega : -9223372036854775808 ≤ x4), decide_eq_true (by omega : x4 ≤ 9223372036854775807), d4, d2, d3]
  generalize F.pad Y 4 = P1 at *
  generalize F.pad x5 2 = P2 at *
  generalize F.pad x6 2 = P3 at *
  generalize F.pad x1 2 = P4 at *
  generalize F.pad x2 2 = P5 at *
  generalize F.pad x3 2 = P6 at *
  generalize F.pad x4 3 = P7 at *
  simp (disch := omega) only [ByteArray.size_append, e1, e2, e3, e4, e5, ble_t, Bool.and_self, cond_true, decide_true, (by decide : decide ((1 : Nat) ≤ 1) = true), (by decide : decide ((1 : Nat) ≤ 12) = true)]
  rfl

end M
end Go.Proofs.YtajmdlpanlbnjaaGreatDoor

namespace Go.Proofs.YtajmdlpanlbnjaaGreatDoor
open Go Go.RowKit
set_option linter.unusedVariables false
set_option linter.unusedSimpArgs false
set_option maxHeartbeats 1000000

namespace M

def stXpd (many : Nat) (s : ByteArray) : St := ⟨[(5, vS s), (1, vI many)], []⟩

def stXpd1 (a : Nat × ByteArray) : St := stXpd a.1 a.2

theorem stXpd_inj (a a' : Nat × ByteArray) (h : stXpd1 a = stXpd1 a') : a = a' := by
  simp only [stXpd1, stXpd] at h
  try simp [strs_inj, ints_inj, ents_inj, eEnt_iff, eLst_iff, eSnds_inj, eStrms_inj] at h
  grind

theorem unstXpd (many : Nat) (s : ByteArray) : unenc stXpd1 (St.mk [(5, (vS s)), (1, (vI (↑many : Int)))] []) = some (many, s) := unenc_of stXpd_inj (many, s) rfl

def outXpd (many : Nat) (s : ByteArray) : T (Ex × St) := .ret (.exit 0, ⟨[(5, vS (F.zrs (many - s.size) ++ s))], []⟩)

noncomputable def prlXpd (many : Nat) (s : ByteArray) : Bool := decide (many ≤ 1000)

noncomputable def lpXpd : Nat × (St → T (Ex × St)) := (2, lpo [5, 1] [] stXpd1 (fun a => prlXpd a.1 a.2) fun a => outXpd a.1 a.2)

noncomputable def enXpd : Env := envH ty noG lks [oIta] [] [] [lpXpd]

theorem enXpd_ok : EnvOK Tryz.prog enXpd := by
  refine envH_ok lks_ok ty_ok ?_ ?_
  · simp only [List.forall_mem_cons]
    exact ⟨okIta, by simp⟩
  · simp

theorem evXpdL (many : Nat) (s : ByteArray) : ((exec enXpd (loopN Tryz.f103 0) (stXpd many s)).bind (lessX ([5, 1], []) ([5], []) ([], []))).val =
  bif decide ((↑(ByteArray.size s) : Int) < (↑many : Int)) then bif Nat.ble (ByteArray.size (ByteArray.mk (Array.mk [(48 : UInt8)])) + ByteArray.size s) (9223372036854775807
  : Nat) then some (Ex.normal, St.mk [(5, (vS (ByteArray.mk (Array.mk [(48 : UInt8)]) ++ s))), (1, (vI (↑many : Int)))] []) else none else some (Ex.exit (0 : Nat), St.mk
  [(5, (vS s))] []) := (execR_bind _ _ _).symm.trans (by kernel_rfl)

theorem lpXpd_ok (many : Nat) (s : ByteArray) (hp : prlXpd many s = true) : ∀ ex s', (outXpd many s).val = some (ex, s') → LoopOK enXpd (loopN Tryz.f103 0) (stXpd many s) ex s' := by
  simp only [prlXpd, Bool.and_eq_true, decide_eq_true_eq] at hp
  refine loop_gen (st := fun s : ByteArray => stXpd many s) (out := fun s => outXpd many s) (I := fun _ => True) (n := ([5, 1], [])) (e := ([5], [])) (r := ([], [])) (fun s => many - s.size) ?_ s trivial
  intro s _
  by_cases h : s.size < many
  · right
    have e1 : ((⟨⟨[48]⟩⟩ : ByteArray) ++ s).size = s.size + 1 := by rw [ByteArray.size_append]; show 1 + s.size = _; omega
    refine ⟨⟨⟨[48]⟩⟩ ++ s, ?_, rfl, trivial, by omega, ?_⟩
    · rw [evXpdL]
      simp only [unIta, preIta1, unstXpd, prlXpd, outXpd, etaEnt, etaLst, etaSnd, etaStrm, etaMas, Option.bind_some, List.length_map, unStrs, unInts, unBools, unEnts, unItms, unTrns, cond_true, cond_false, Bool.and_true, Bool.true_and, decide_eq_true (show (s.size : Int) < (many : Int) by omega)]
      rw [ble_t (show (ByteArray.mk (Array.mk [48])).size + s.size ≤ 9223372036854775807 by show 1 + s.size ≤ _; omega)]
      rfl
    · have e2 : many - s.size = (many - (s.size + 1)) + 1 := by omega
      simp only [outXpd, e1]
      rw [e2, F.zrs_succ]
  · left
    refine ⟨(.exit 0, ⟨[(5, vS s)], []⟩), ?_, ?_, by simp, rfl⟩
    · rw [evXpdL]
      simp only [unIta, preIta1, unstXpd, prlXpd, outXpd, etaEnt, etaLst, etaSnd, etaStrm, etaMas, Option.bind_some, List.length_map, unStrs, unInts, unBools, unEnts, unItms, unTrns, cond_true, cond_false, Bool.and_true, Bool.true_and, decide_eq_false (show ¬ (s.size : Int) < (many : Int) by omega)]
    · simp only [outXpd]
      rw [show many - s.size = 0 by omega, F.zrs_zero]
      rfl

theorem evXpd (n : Int) (many : Nat) : (runF enXpd false Tryz.f103 [vI n, vI many]).val =
  Option.bind (unenc encIta [(vI n)]) fun (z : Int) => bif decide ((-9223372036854775808 : Int) ≤ z) && decide (z ≤ (9223372036854775807 : Int)) then Option.bind (unenc
  stXpd1 (St.mk [(5, (vS (F.itoa z))), (1, (vI (↑many : Int)))] [])) fun (z : Nat × ByteArray) => bif decide (z.fst ≤ (1000 : Nat)) && true then some ((vS (F.zrs (z.fst -
  ByteArray.size z.snd) ++ z.snd)), []) else none else none := (runFR_val).symm.trans (by kernel_rfl)

def encXpd1 (n : Int) (many : Nat) : List AV := [vI n, vI many]

def encXpd (a : Int × Nat) : List AV := encXpd1 a.1 a.2

theorem encXpd_inj (a a' : Int × Nat) (h : encXpd a = encXpd a') : a = a' := by
  simp only [encXpd, encXpd1] at h
  try simp [strs_inj, ints_inj, ents_inj, eEnt_iff, eLst_iff, eSnds_inj, eStrms_inj] at h
  grind

theorem unXpd (n : Int) (many : Nat) : unenc encXpd ([(vI n), (vI (↑many : Int))]) = some (n, many) := unenc_of encXpd_inj (n, many) rfl

def resXpd1 (n : Int) (many : Nat) : AV × Heap := (vS (F.pad n many), [])

def preXpd1 (n : Int) (many : Nat) : Bool := decide (-9223372036854775808 ≤ n) && decide (n ≤ 9223372036854775807) && decide (many ≤ 1000)

noncomputable def oXpd : Orc := orc 103 true encXpd (fun a => preXpd1 a.1 a.2) fun a => resXpd1 a.1 a.2

theorem okXpd : OrcOK Tryz.prog noG oXpd := by
  refine mk_ok Tryz.f103 (keep := false) (by kernel_rfl) (by kernel_rfl) enXpd_ok mixed (one_loop (x0 := loopN Tryz.f103 0) (by kernel_rfl) (lpo_ok ?_)) (by first | exact fun _ _ => ⟨rfl, rfl⟩ | (intro h; cases h)) ?_
  · rintro ⟨many, s⟩ hp
    exact lpXpd_ok many s hp
  rintro ⟨n, many⟩ hpre hok
  show (runF enXpd false _ (encXpd1 _ _)).val = some (resXpd1 _ _)
  unfold encXpd1 resXpd1
  rw [evXpd]
  simp only [preXpd1, Bool.and_eq_true] at hpre
  simp only [unIta, preIta1, unstXpd, prlXpd, outXpd, etaEnt, etaLst, etaSnd, etaStrm, etaMas, Option.bind_some, List.length_map, unStrs, unInts, unBools, unEnts, unItms, unTrns, cond_true, cond_false, Bool.and_true, Bool.true_and, hpre.1.1, hpre.1.2, hpre.2, F.pad]
  try rfl

def stXy (y : Int) (r : Int) (d : Int) : St := ⟨[(7, vI 1), (6, vI y), (5, vI r), (4, vI d)], []⟩

def stXy1 (a : Int × Int × Int) : St := stXy a.1 a.2.1 a.2.2

theorem stXy_inj (a a' : Int × Int × Int) (h : stXy1 a = stXy1 a') : a = a' := by
  simp only [stXy1, stXy] at h
  try simp [strs_inj, ints_inj, ents_inj, eEnt_iff, eLst_iff, eSnds_inj, eStrms_inj] at h
  grind

theorem unstXy (y : Int) (r : Int) (d : Int) : unenc stXy1 (St.mk [(7, (vI (1 : Int))), (6, (vI y)), (5, (vI r)), (4, (vI d))] []) = some (y, r, d) := unenc_of stXy_inj (y, r, d) rfl

def outXy (y : Int) (r : Int) (d : Int) : T (Ex × St) := .ret (.exit 0, ⟨[(7, vI 1), (6, vI (F.yrL 10000 (d + F.ydays y) y)), (5, vI r), (4, vI (d + F.ydays y - F.ydays (F.yrL 10000 (d + F.ydays y) y)))], []⟩)

noncomputable def prlXy (y : Int) (r : Int) (d : Int) : Bool := decide (1970 ≤ y) && decide (0 ≤ d) && decide (d + F.ydays y ≤ 2932896)

noncomputable def lpXy : Nat × (St → T (Ex × St)) := (5, lpo [7, 6, 5, 4] [] stXy1 (fun a => prlXy a.1 a.2.1 a.2.2) fun a => outXy a.1 a.2.1 a.2.2)

def stXm (m : Nat) (y : Int) (r : Int) (d : Int) : St := ⟨[(7, vI m), (6, vI y), (5, vI r), (4, vI d)], []⟩

def stXm1 (a : Nat × Int × Int × Int) : St := stXm a.1 a.2.1 a.2.2.1 a.2.2.2

theorem stXm_inj (a a' : Nat × Int × Int × Int) (h : stXm1 a = stXm1 a') : a = a' := by
  simp only [stXm1, stXm] at h
  try simp [strs_inj, ints_inj, ents_inj, eEnt_iff, eLst_iff, eSnds_inj, eStrms_inj] at h
  grind

theorem unstXm (m : Nat) (y : Int) (r : Int) (d : Int) : unenc stXm1 (St.mk [(7, (vI (↑m : Int))), (6, (vI y)), (5, (vI r)), (4, (vI d))] []) = some (m, y, r, d) := unenc_of stXm_inj (m, y, r, d) rfl

theorem unstXm0 (y : Int) (r : Int) (d : Int)  : unenc stXm1 (St.mk [(7, (vI (1 : Int))), (6, (vI y)), (5, (vI r)), (4, (vI d))] []) = some (1, y, r, d) := unenc_of stXm_inj (1, y, r, d) rfl

def outXm (m : Nat) (y : Int) (r : Int) (d : Int) : T (Ex × St) := .ret (.exit 2, ⟨[(7, vI (F.moL 20 y d m).1), (6, vI y), (5, vI r), (4, vI (F.moL 20 y d m).2)], []⟩)

noncomputable def prlXm (m : Nat) (y : Int) (r : Int) (d : Int) : Bool := decide (0 ≤ y) && decide (y ≤ 100000) && decide (1 ≤ m) && decide (m ≤ 12) && decide (0 ≤ d) && decide (d < F.msum y (13 - m) m)

noncomputable def lpXm : Nat × (St → T (Ex × St)) := (11, lpo [7, 6, 5, 4] [] stXm1 (fun a => prlXm a.1 a.2.1 a.2.2.1 a.2.2.2) fun a => outXm a.1 a.2.1 a.2.2.1 a.2.2.2)

noncomputable def enXdt : Env := envH ty noG lks [oRLep, oRDy, oXpd] [] [] [lpXy, lpXm]

theorem enXdt_ok : EnvOK Tryz.prog enXdt := by
  refine envH_ok lks_ok ty_ok ?_ ?_
  · simp only [List.forall_mem_cons]
    exact ⟨okRLep, okRDy, okXpd, by simp⟩
  · simp

theorem evXyL (y : Int) (r : Int) (d : Int) : ((exec enXdt (loopN Tryz.f83 0) (stXy y r d)).bind (lessX ([7, 6, 5, 4], []) ([7, 6, 5, 4], []) ([], []))).val =
  Option.bind (unenc encRLep [(vI y)]) fun (z : Int) => bif decide ((0 : Int) ≤ z) && decide (z ≤ (100000 : Int)) then bif F.leap z then bif decide (d < (366 : Int)) then
  some (Ex.exit (0 : Nat), St.mk [(7, (vI (1 : Int))), (6, (vI y)), (5, (vI r)), (4, (vI d))] []) else some (Ex.normal, St.mk [(7, (vI (1 : Int))), (6, (vI (IntKind.wrap
  IntKind.i64 (y + (1 : Int))))), (5, (vI r)), (4, (vI (IntKind.wrap IntKind.i64 (d - (366 : Int)))))] []) else bif decide (d < (365 : Int)) then some (Ex.exit (0 : Nat),
  St.mk [(7, (vI (1 : Int))), (6, (vI y)), (5, (vI r)), (4, (vI d))] []) else some (Ex.normal, St.mk [(7, (vI (1 : Int))), (6, (vI (IntKind.wrap IntKind.i64 (y + (1 :
  Int))))), (5, (vI r)), (4, (vI (IntKind.wrap IntKind.i64 (d - (365 : Int)))))] []) else none := (execR_bind _ _ _).symm.trans (by kernel_rfl)

theorem lpXy_ok (y : Int) (r : Int) (d : Int) (hp : prlXy y r d = true) : ∀ ex s', (outXy y r d).val = some (ex, s') → LoopOK enXdt (loopN Tryz.f83 0) (stXy y r d) ex s' := by
  simp only [prlXy, Bool.and_eq_true, decide_eq_true_eq] at hp
  obtain ⟨⟨h1, h2⟩, h3⟩ := hp
  obtain ⟨D, hD⟩ : ∃ D, d + F.ydays y = D := ⟨_, rfl⟩
  have ed : d = D - F.ydays y := by omega
  have eo : outXy y r d = .ret (.exit 0, ⟨[(7, vI 1), (6, vI (F.yrL 10000 D y)), (5, vI r), (4, vI (D - F.ydays (F.yrL 10000 D y)))], []⟩) := by unfold outXy; rw [hD]
  rw [eo, ed]
  rw [hD] at h3
  have h4 : F.ydays y ≤ D := by omega
  clear hD ed eo h2
  refine loop_gen (st := fun y : Int => stXy y r (D - F.ydays y)) (out := fun y => .ret (.exit 0, ⟨[(7, vI 1), (6, vI (F.yrL 10000 D y)), (5, vI r), (4, vI (D - F.ydays (F.yrL 10000 D y)))], []⟩)) (I := fun y => 1970 ≤ y ∧ F.ydays y ≤ D) (n := ([7, 6, 5, 4], [])) (e := ([7, 6, 5, 4], [])) (r := ([], [])) (fun y => (10000 - y).toNat) ?_ y ⟨h1, h4⟩
  clear h1 h4
  intro y ⟨h1, h4⟩
  have hmx := F.yr_max h1 h3 h4
  have hup := F.ydays_up (a := y) (by omega)
  have hy0 := F.ydays_mono (a := 1970) (b := y) (by omega) (by omega)
  rw [F.ydays_0] at hy0
  have w1 : IntKind.i64.wrap (y + 1) = y + 1 := wrap_id (by omega) (by omega)
  have p1 : decide (0 ≤ y) = true := decide_eq_true (by omega)
  have p2 : decide (y ≤ 100000) = true := decide_eq_true (by omega)
  have wd : ∀ k : Int, 0 ≤ k → k ≤ 366 → IntKind.i64.wrap (D - F.ydays y - k) = D - F.ydays y - k := fun k _ _ => wrap_id (by omega) (by omega)
  by_cases hc : F.ydays (y + 1) ≤ D
  · right
    refine ⟨y + 1, ?_, rfl, ⟨by omega, hc⟩, by omega, ?_⟩
    · rw [evXyL]
      cases hl : F.leap y
      · rw [hl, cond_false] at hup
        simp only [unRLep, unRDy, unXpd, preRLep1, preRDy1, preXpd1, unstXy, unstXm, unstXm0, prlXy, prlXm, outXy, outXm, etaEnt, etaLst, etaSnd, etaStrm, etaMas, Option.bind_some, List.length_map, unStrs, unInts, unBools, unEnts, unItms, unTrns, cond_true, cond_false, Bool.and_true, Bool.true_and, hl, w1, p1, p2, decide_eq_false (show ¬ D - F.ydays y < 365 by omega), wd 365 (by omega) (by omega), stXy]
        rw [show D - F.ydays (y + 1) = D - F.ydays y - 365 by omega]
        try rfl
      · rw [hl, cond_true] at hup
        simp only [unRLep, unRDy, unXpd, preRLep1, preRDy1, preXpd1, unstXy, unstXm, unstXm0, prlXy, prlXm, outXy, outXm, etaEnt, etaLst, etaSnd, etaStrm, etaMas, Option.bind_some, List.length_map, unStrs, unInts, unBools, unEnts, unItms, unTrns, cond_true, cond_false, Bool.and_true, Bool.true_and, hl, w1, p1, p2, decide_eq_false (show ¬ D - F.ydays y < 366 by omega), wd 366 (by omega) (by omega), stXy]
        rw [show D - F.ydays (y + 1) = D - F.ydays y - 366 by omega]
        try rfl
    · simp only [F.yr_step h1 h3 h4 hc]
  · left
    refine ⟨(.exit 0, ⟨[(7, vI 1), (6, vI y), (5, vI r), (4, vI (D - F.ydays y))], []⟩), ?_, ?_, by simp, rfl⟩
    · rw [evXyL]
      cases hl : F.leap y
      · rw [hl, cond_false] at hup
        simp only [unRLep, unRDy, unXpd, preRLep1, preRDy1, preXpd1, unstXy, unstXm, unstXm0, prlXy, prlXm, outXy, outXm, etaEnt, etaLst, etaSnd, etaStrm, etaMas, Option.bind_some, List.length_map, unStrs, unInts, unBools, unEnts, unItms, unTrns, cond_true, cond_false, Bool.and_true, Bool.true_and, hl, p1, p2, decide_eq_true (show D - F.ydays y < 365 by omega)]
        try rfl
      · rw [hl, cond_true] at hup
        simp only [unRLep, unRDy, unXpd, preRLep1, preRDy1, preXpd1, unstXy, unstXm, unstXm0, prlXy, prlXm, outXy, outXm, etaEnt, etaLst, etaSnd, etaStrm, etaMas, Option.bind_some, List.length_map, unStrs, unInts, unBools, unEnts, unItms, unTrns, cond_true, cond_false, Bool.and_true, Bool.true_and, hl, p1, p2, decide_eq_true (show D - F.ydays y < 366 by omega)]
        try rfl
    · simp only [F.yr_stop hc]
      rfl

theorem evXmL (m : Nat) (y : Int) (r : Int) (d : Int) : ((exec enXdt (loopN Tryz.f83 1) (stXm m y r d)).bind (lessX ([7, 6, 5, 4], []) ([7, 6, 5, 4], []) ([], []))).val =
  Option.bind (unenc encRDy [(vI y), (vI (↑m : Int))]) fun (z : Int × Int) => bif decide ((0 : Int) ≤ z.fst) && decide (z.fst ≤ (100000 : Int)) then bif decide (F.mdays
  z.fst z.snd ≤ d) then Option.bind (unenc encRDy [(vI y), (vI (↑m : Int))]) fun (z : Int × Int) => bif decide ((0 : Int) ≤ z.fst) && decide (z.fst ≤ (100000 : Int)) then
  some (Ex.normal, St.mk [(7, (vI (IntKind.wrap IntKind.i64 ((↑m : Int) + (1 : Int))))), (6, (vI y)), (5, (vI r)), (4, (vI (IntKind.wrap IntKind.i64 (d - F.mdays z.fst
  z.snd))))] []) else none else some (Ex.exit (2 : Nat), St.mk [(7, (vI (↑m : Int))), (6, (vI y)), (5, (vI r)), (4, (vI d))] []) else none := (execR_bind _ _ _).symm.trans (by kernel_rfl)

theorem lpXm_ok (m : Nat) (y : Int) (r : Int) (d : Int) (hp : prlXm m y r d = true) : ∀ ex s', (outXm m y r d).val = some (ex, s') → LoopOK enXdt (loopN Tryz.f83 1) (stXm m y r d) ex s' := by
  simp only [prlXm, Bool.and_eq_true, decide_eq_true_eq] at hp
  obtain ⟨⟨⟨⟨⟨h1, h2⟩, h3⟩, h4⟩, h5⟩, h6⟩ := hp
  have p1 : decide (0 ≤ y) = true := decide_eq_true h1
  have p2 : decide (y ≤ 100000) = true := decide_eq_true h2
  refine loop_gen (st := fun p : Nat × Int => stXm p.1 y r p.2) (out := fun p => outXm p.1 y r p.2) (I := fun p => 1 ≤ p.1 ∧ p.1 ≤ 12 ∧ 0 ≤ p.2 ∧ p.2 < F.msum y (13 - p.1) p.1) (n := ([7, 6, 5, 4], [])) (e := ([7, 6, 5, 4], [])) (r := ([], [])) (fun p => 13 - p.1) ?_ (m, d) ⟨h3, h4, h5, h6⟩
  clear h3 h4 h5 h6
  rintro ⟨m, d⟩ ⟨h3, h4, h5, h6⟩
  simp only at h3 h4 h5 h6
  have hb := F.mdays_b y m
  have hs := F.msum_b y (13 - m) m
  by_cases hc : F.mdays y m ≤ d
  · obtain ⟨k1, k2, k3⟩ := F.mo_step h3 h4 h5 h6 hc
    have w1 : IntKind.i64.wrap (d - F.mdays y m) = d - F.mdays y m := wrap_id (by omega) (by omega)
    have w2 : IntKind.i64.wrap ((m : Int) + 1) = ((m + 1 : Nat) : Int) := by rw [wrap_id (by omega) (by omega)]; rfl
    right
    refine ⟨(m + 1, d - F.mdays y m), ?_, rfl, ⟨by simp only; omega, k1, by simp only; omega, k2⟩, by simp only; omega, ?_⟩
    · rw [evXmL]
      simp only [unRLep, unRDy, unXpd, preRLep1, preRDy1, preXpd1, unstXy, unstXm, unstXm0, prlXy, prlXm, outXy, outXm, etaEnt, etaLst, etaSnd, etaStrm, etaMas, Option.bind_some, List.length_map, unStrs, unInts, unBools, unEnts, unItms, unTrns, cond_true, cond_false, Bool.and_true, Bool.true_and, p1, p2, w1, w2, decide_eq_true hc, stXm]
      try rfl
    · simp only [outXm, k3]
  · left
    refine ⟨(.exit 2, ⟨[(7, vI m), (6, vI y), (5, vI r), (4, vI d)], []⟩), ?_, ?_, by simp, rfl⟩
    · rw [evXmL]
      simp only [unRLep, unRDy, unXpd, preRLep1, preRDy1, preXpd1, unstXy, unstXm, unstXm0, prlXy, prlXm, outXy, outXm, etaEnt, etaLst, etaSnd, etaStrm, etaMas, Option.bind_some, List.length_map, unStrs, unInts, unBools, unEnts, unItms, unTrns, cond_true, cond_false, Bool.and_true, Bool.true_and, p1, p2, decide_eq_false hc]
      try rfl
    · simp only [outXm, F.mo_stop hc]
      rfl

theorem evXdt (n : Int) : (runF enXdt false Tryz.f83 [vI n]).val =
  (fun (q : ByteArray) => (fun (q_1 : ByteArray) => (fun (q_2 : ByteArray) => (fun (q_3 : ByteArray) => (fun (q_4 : List AV) => bif bif decide (n < (0 : Int)) then true else
  decide ((253402300799999 : Int) < n) then some (AV.tup [(vS (ByteArray.mk (Array.mk []))), (vI (1 : Int))], []) else Option.bind (unenc stXy1 (St.mk [(7, (vI (1 : Int))),
  (6, (vI (1970 : Int))), (5, (vI (Int.tmod n (86400000 : Int)))), (4, (vI (IntKind.wrap IntKind.i64 (Int.tdiv n (86400000 : Int)))))] [])) fun (z : Int × Int × Int) => (fun
  (q_5 : Int) => bif decide ((1970 : Int) ≤ z.fst) && decide ((0 : Int) ≤ z.snd.snd) && decide (q_5 ≤ (2932896 : Int)) && true then Option.bind (unenc stXm1 (St.mk [(7, (vI
  (1 : Int))), (6, (vI (F.yrL (10000 : Nat) q_5 z.fst))), (5, (vI z.snd.fst)), (4, (vI (q_5 - F.ydays (F.yrL (10000 : Nat) q_5 z.fst))))] [])) fun (z : Nat × Int × Int ×
  Int) => bif decide ((0 : Int) ≤ z.snd.fst) && decide (z.snd.fst ≤ (100000 : Int)) && decide ((1 : Nat) ≤ z.fst) && decide (z.fst ≤ (12 : Nat)) && decide ((0 : Int) ≤
  z.snd.snd.snd) && decide (z.snd.snd.snd < F.msum z.snd.fst ((13 : Nat) - z.fst) z.fst) && true then Option.bind (unenc encXpd [(vI z.snd.fst), (vI (4 : Int))]) fun (z_1 :
  Int × Nat) => (fun (q_6 : ByteArray) => bif decide ((-9223372036854775808 : Int) ≤ z_1.fst) && decide (z_1.fst ≤ (9223372036854775807 : Int)) && decide (z_1.snd ≤ (1000 :
  Nat)) then bif Nat.ble (ByteArray.size (F.pad z_1.fst z_1.snd) + ByteArray.size q) (9223372036854775807 : Nat) then Option.bind (unenc encXpd ((vI (F.moL (20 : Nat)
  z.snd.fst z.snd.snd.snd (↑z.fst : Int)).fst) :: q_4)) fun (z_2 : Int × Nat) => (fun (q_7 : ByteArray) => bif decide ((-9223372036854775808 : Int) ≤ z_2.fst) && decide
  (z_2.fst ≤ (9223372036854775807 : Int)) && decide (z_2.snd ≤ (1000 : Nat)) then bif Nat.ble (ByteArray.size q_6 + ByteArray.size (F.pad z_2.fst z_2.snd))
  (9223372036854775807 : Nat) then bif Nat.ble (ByteArray.size (q_6 ++ F.pad z_2.fst z_2.snd) + ByteArray.size q) (9223372036854775807 : Nat) then Option.bind (unenc encXpd
  ((vI (IntKind.wrap IntKind.i64 ((F.moL (20 : Nat) z.snd.fst z.snd.snd.snd (↑z.fst : Int)).snd + (1 : Int)))) :: q_4)) fun (z_3 : Int × Nat) => (fun (q : ByteArray) => bif
  decide ((-9223372036854775808 : Int) ≤ z_3.fst) && decide (z_3.fst ≤ (9223372036854775807 : Int)) && decide (z_3.snd ≤ (1000 : Nat)) then bif Nat.ble (ByteArray.size q_7 +
  ByteArray.size (F.pad z_3.fst z_3.snd)) (9223372036854775807 : Nat) then bif Nat.ble (ByteArray.size (q_7 ++ F.pad z_3.fst z_3.snd) + ByteArray.size q_3)
  (9223372036854775807 : Nat) then Option.bind (unenc encXpd ((vI (IntKind.wrap IntKind.i64 (Int.tdiv z.snd.snd.fst (3600000 : Int)))) :: q_4)) fun (z_4 : Int × Nat) => (fun
  (q_8 : ByteArray) => bif decide ((-9223372036854775808 : Int) ≤ z_4.fst) && decide (z_4.fst ≤ (9223372036854775807 : Int)) && decide (z_4.snd ≤ (1000 : Nat)) then bif
  Nat.ble (ByteArray.size q + ByteArray.size (F.pad z_4.fst z_4.snd)) (9223372036854775807 : Nat) then bif Nat.ble (ByteArray.size (q ++ F.pad z_4.fst z_4.snd) +
  ByteArray.size q_1) (9223372036854775807 : Nat) then Option.bind (unenc encXpd ((vI (Int.tmod (IntKind.wrap IntKind.i64 (Int.tdiv z.snd.snd.fst (60000 : Int))) (60 :
  Int))) :: q_4)) fun (z_5 : Int × Nat) => (fun (q : ByteArray) => bif decide ((-9223372036854775808 : Int) ≤ z_5.fst) && decide (z_5.fst ≤ (9223372036854775807 : Int)) &&
  decide (z_5.snd ≤ (1000 : Nat)) then bif Nat.ble (ByteArray.size q_8 + ByteArray.size (F.pad z_5.fst z_5.snd)) (9223372036854775807 : Nat) then bif Nat.ble (ByteArray.size
  (q_8 ++ F.pad z_5.fst z_5.snd) + ByteArray.size q_1) (9223372036854775807 : Nat) then Option.bind (unenc encXpd ((vI (Int.tmod (IntKind.wrap IntKind.i64 (Int.tdiv
  z.snd.snd.fst (1000 : Int))) (60 : Int))) :: q_4)) fun (z_6 : Int × Nat) => bif decide ((-9223372036854775808 : Int) ≤ z_6.fst) && decide (z_6.fst ≤ (9223372036854775807 :
  Int)) && decide (z_6.snd ≤ (1000 : Nat)) then bif Nat.ble (ByteArray.size q + ByteArray.size (F.pad z_6.fst z_6.snd)) (9223372036854775807 : Nat) then bif Nat.ble
  (ByteArray.size (q ++ F.pad z_6.fst z_6.snd) + ByteArray.size q_2) (9223372036854775807 : Nat) then Option.bind (unenc encXpd [(vI (Int.tmod z.snd.snd.fst (1000 : Int))),
  (vI (3 : Int))]) fun (z : Int × Nat) => bif decide ((-9223372036854775808 : Int) ≤ z.fst) && decide (z.fst ≤ (9223372036854775807 : Int)) && decide (z.snd ≤ (1000 : Nat))
  then bif Nat.ble (ByteArray.size (q ++ F.pad z_6.fst z_6.snd ++ q_2) + ByteArray.size (F.pad z.fst z.snd)) (9223372036854775807 : Nat) then bif Nat.ble (ByteArray.size (q
  ++ F.pad z_6.fst z_6.snd ++ q_2 ++ F.pad z.fst z.snd) + ByteArray.size (ByteArray.mk (Array.mk [(90 : UInt8)]))) (9223372036854775807 : Nat) then some (AV.tup [(vS (q ++
  F.pad z_6.fst z_6.snd ++ q_2 ++ F.pad z.fst z.snd ++ ByteArray.mk (Array.mk [(90 : UInt8)]))), (vI (0 : Int))], []) else none else none else none else none else none else
  none else none else none else none) (q_8 ++ F.pad z_5.fst z_5.snd ++ q_1) else none else none else none) (q ++ F.pad z_4.fst z_4.snd ++ q_1) else none else none else none)
  (q_7 ++ F.pad z_3.fst z_3.snd ++ q_3) else none else none else none) (q_6 ++ F.pad z_2.fst z_2.snd ++ q) else none else none) (F.pad z_1.fst z_1.snd ++ q) else none else
  none) (z.snd.snd + F.ydays z.fst)) [(vI (2 : Int))]) (ByteArray.mk (Array.mk [(84 : UInt8)]))) (ByteArray.mk (Array.mk [(46 : UInt8)]))) (ByteArray.mk (Array.mk [(58 :
  UInt8)]))) (ByteArray.mk (Array.mk [(45 : UInt8)])) := (runFR_val).symm.trans (by kernel_rfl)

def encXdt1 (n : Int) : List AV := [vI n]

def encXdt (a : Int) : List AV := encXdt1 a

theorem encXdt_inj (a a' : Int) (h : encXdt a = encXdt a') : a = a' := by
  simp only [encXdt, encXdt1] at h
  try simp [strs_inj, ints_inj, ents_inj, eEnt_iff, eLst_iff, eSnds_inj, eStrms_inj] at h
  grind

theorem unXdt (n : Int) : unenc encXdt ([(vI n)]) = some (n) := unenc_of encXdt_inj (n) rfl

def resXdt1 (n : Int) : AV × Heap := (.tup [vS (F.dtS n), vI 0], [])

def preXdt1 (n : Int) : Bool := decide (0 ≤ n) && decide (n ≤ 253402300799999)

noncomputable def oXdt : Orc := orc 83 true encXdt (fun a => preXdt1 a) fun a => resXdt1 a

theorem okXdt : OrcOK Tryz.prog noG oXdt := by
  refine mk_ok Tryz.f83 (keep := false) (by kernel_rfl) (by kernel_rfl) enXdt_ok mixed (two_loops (x0 := loopN Tryz.f83 0) (x1 := loopN Tryz.f83 1) (by kernel_rfl) (lpo_ok ?_) (lpo_ok ?_)) (by first | exact fun _ _ => ⟨rfl, rfl⟩ | (intro h; cases h)) ?_
  · rintro ⟨y, r, d⟩ hp
    exact lpXy_ok y r d hp
  · rintro ⟨m, y, r, d⟩ hp
    exact lpXm_ok m y r d hp
  rintro n hpre hok
  show (runF enXdt false _ (encXdt1 _)).val = some (resXdt1 _)
  unfold encXdt1 resXdt1
  rw [evXdt]
  simp only [preXdt1, Bool.and_eq_true, decide_eq_true_eq] at hpre
  obtain ⟨h1, h2⟩ := hpre
  have o1 : decide (n < 0) = false := decide_eq_false (by omega)
  have o2 : decide (253402300799999 < n) = false := decide_eq_false (by omega)
  obtain ⟨d, hd⟩ : ∃ d, n.tdiv 86400000 = d := ⟨_, rfl⟩
  obtain ⟨r, hr⟩ : ∃ r, n.tmod 86400000 = r := ⟨_, rfl⟩
  have hd1 : 0 ≤ d ∧ d ≤ 2932896 := by rw [← hd, Int.tdiv_eq_ediv_of_nonneg h1]; omega
  have hr1 : 0 ≤ r ∧ r < 86400000 := by rw [← hr, Int.tmod_eq_emod_of_nonneg h1]; omega
  have q1 : 0 ≤ d.tdiv 366 ∧ d.tdiv 366 ≤ d / 366 := by rw [Int.tdiv_eq_ediv_of_nonneg hd1.1]; omega
  have w1 : IntKind.i64.wrap d = d := wrap_id (by omega) (by omega)
  have wr : IntKind.i64.wrap r = r := wrap_id (by omega) (by omega)
  have hs0 : F.ydays (1970 + d.tdiv 366) ≤ d := by have := F.ydays_366 (y := 1970 + d.tdiv 366) (by omega); omega
  obtain ⟨a1, a2, a3⟩ := F.yrL_ok (d := d) 10000 (1970 + d.tdiv 366) (by omega) hs0 (F.yr_end (by omega) hd1.2)
  have z0 : F.ydays 1970 ≤ d := by rw [F.ydays_0]; exact hd1.1
  obtain ⟨yb1, yb2, yb3⟩ := F.yrL_ok (d := d) 10000 1970 (by omega) z0 (F.yr_end (by omega) hd1.2)
  have hYY : F.dtY d = F.yrL 10000 d 1970 := F.yr_uniq (d := d) (by show 1 ≤ F.yrL 10000 d (1970 + d.tdiv 366); omega) (by omega) a1 a2 yb1 yb2
  have zd : d + F.ydays 1970 = d := by rw [F.ydays_0]; omega
  clear a1 a2 a3 yb2
  obtain ⟨Y, hY⟩ : ∃ Y, F.yrL 10000 d 1970 = Y := ⟨_, rfl⟩
  rw [hY] at yb1 yb3 hYY
  have a1 := yb1
  have yb2 : Y ≥ 1970 := by omega
  have bup : d < F.ydays (Y + 1) := by
    have := (F.yrL_ok (d := d) 10000 1970 (by omega) z0 (F.yr_end (by omega) hd1.2)).2.1
    rw [hY] at this
    exact this
  have hYm := F.yr_max (y := Y) (by omega) hd1.2 a1
  have hup := F.ydays_up (a := Y) (by omega)
  have hy0 := F.ydays_mono (a := 1970) (b := Y) (by omega) (by omega)
  rw [F.ydays_0] at hy0
  have h12 := F.msum_12 Y
  have w4 : IntKind.i64.wrap (d - F.ydays Y) = d - F.ydays Y := wrap_id (by omega) (by omega)
  obtain ⟨i, i1, D, i2, i3, i4, i5⟩ := F.moL_ok Y 12 20 1 (d - F.ydays Y) (by omega) (by omega) (by rw [h12]; omega)
  have hb := F.mdays_b Y ((1 + i : Nat) : Int)
  have i5 : F.moL 20 Y (d - F.ydays Y) 1 = (((1 + i : Nat) : Int), D) := i5
  have w5 : IntKind.i64.wrap (D + 1) = D + 1 := wrap_id (by omega) (by omega)
  have w6 : IntKind.i64.wrap (r.tdiv 3600000) = r.tdiv 3600000 := by rw [Int.tdiv_eq_ediv_of_nonneg hr1.1]; exact wrap_id (by omega) (by omega)
  have w7 : IntKind.i64.wrap (r.tdiv 60000) = r.tdiv 60000 := by rw [Int.tdiv_eq_ediv_of_nonneg hr1.1]; exact wrap_id (by omega) (by omega)
  have w8 : IntKind.i64.wrap (r.tdiv 1000) = r.tdiv 1000 := by rw [Int.tdiv_eq_ediv_of_nonneg hr1.1]; exact wrap_id (by omega) (by omega)
  have u2 : ∀ x : Int, unenc encXpd [vI x, vI 2] = some (x, 2) := fun x => unenc_of encXpd_inj (x, 2) rfl
  have u3 : ∀ x : Int, unenc encXpd [vI x, vI 3] = some (x, 3) := fun x => unenc_of encXpd_inj (x, 3) rfl
  have u4 : ∀ x : Int, unenc encXpd [vI x, vI 4] = some (x, 4) := fun x => unenc_of encXpd_inj (x, 4) rfl
  have g1 : decide (d + F.ydays 1970 ≤ 2932896) = true := decide_eq_true (by omega)
  have g2 : decide (d - F.ydays Y < F.msum Y (13 - 1) 1) = true := decide_eq_true (by rw [show 13 - 1 = 12 from rfl, h12]; omega)
  have c1 : ((1 : Nat) : Int) = 1 := rfl
  simp only [unRLep, unRDy, unXpd, preRLep1, preRDy1, preXpd1, unstXy, unstXm, unstXm0, prlXy, prlXm, outXy, outXm, etaEnt, etaLst, etaSnd, etaStrm, etaMas, Option.bind_some, List.length_map, unStrs, unInts, unBools, unEnts, unItms, unTrns, cond_true, cond_false, Bool.and_true, Bool.true_and, o1, o2, hd, hr, w1, wr, g1, zd, hY, w4, c1, i5, w5, w6, w7, w8, u2, u3, u4, g2]
  rw [decide_eq_true hd1.1, decide_eq_true hd1.2, decide_eq_true (by omega : 0 ≤ Y), decide_eq_true (by omega : Y ≤ 100000), decide_eq_true (by omega : 0 ≤ d - F.ydays Y)]
  have hS : F.dtS n = F.dtP Y ((1 + i : Nat) : Int) (D + 1) r := by
    unfold F.dtS F.dtM
    rw [hd, hr, hYY, i5]
  rw [hS]
  unfold F.dtP
  have b1 : 0 ≤ r.tdiv 3600000 ∧ r.tdiv 3600000 ≤ 100000000 := by rw [Int.tdiv_eq_ediv_of_nonneg hr1.1]; omega
  have b2 : 0 ≤ (r.tdiv 60000).tmod 60 ∧ (r.tdiv 60000).tmod 60 ≤ 100 := by
    rw [Int.tdiv_eq_ediv_of_nonneg hr1.1, Int.tmod_eq_emod_of_nonneg (by omega)]; omega
  have b3 : 0 ≤ (r.tdiv 1000).tmod 60 ∧ (r.tdiv 1000).tmod 60 ≤ 100 := by
    rw [Int.tdiv_eq_ediv_of_nonneg hr1.1, Int.tmod_eq_emod_of_nonneg (by omega)]; omega
  have b4 : 0 ≤ r.tmod 1000 ∧ r.tmod 1000 ≤ 1000 := by rw [Int.tmod_eq_emod_of_nonneg hr1.1]; omega
  have hx5 : 0 ≤ ((1 + i : Nat) : Int) ∧ ((1 + i : Nat) : Int) ≤ 100 := by omega
  have hx6 : 0 ≤ D + 1 ∧ D + 1 ≤ 100 := by omega
  clear hS hok o1 o2 hd hr w1 wr w4 w5 w6 w7 w8 u2 u3 u4 g1 g2 h12 hup hy0 i5 i4 i3 a1 yb1 yb3 bup hs0 hY hYY z0 zd
  generalize r.tdiv 3600000 = x1 at *
  generalize (r.tdiv 60000).tmod 60 = x2 at *
  generalize (r.tdiv 1000).tmod 60 = x3 at *
  generalize r.tmod 1000 = x4 at *
  generalize ((1 + i : Nat) : Int) = x5 at *
  generalize D + 1 = x6 at *
  have s1 := F.pad_size (n := Y) (by omega) (by omega) (m := 4) (by decide)
  have s2 := F.pad_size (n := x5) (by omega) (by omega) (m := 2) (by decide)
  have s3 := F.pad_size (n := x6) (by omega) (by omega) (m := 2) (by decide)
  have s4 := F.pad_size (n := x1) (by omega) (by omega) (m := 2) (by decide)
  have s5 := F.pad_size (n := x2) (by omega) (by omega) (m := 2) (by decide)
  have s6 := F.pad_size (n := x3) (by omega) (by omega) (m := 2) (by decide)
  have s7 := F.pad_size (n := x4) (by omega) (by omega) (m := 3) (by decide)
  have e1 : (⟨⟨[45]⟩⟩ : ByteArray).size = 1 := rfl
  have e2 : (⟨⟨[84]⟩⟩ : ByteArray).size = 1 := rfl
  have e3 : (⟨⟨[58]⟩⟩ : ByteArray).size = 1 := rfl
  have e4 : (⟨⟨[46]⟩⟩ : ByteArray).size = 1 := rfl
  have e5 : (⟨⟨[90]⟩⟩ : ByteArray).size = 1 := rfl
  have d4 : decide ((4 : Nat) ≤ 1000) = true := rfl
  have d2 : decide ((2 : Nat) ≤ 1000) = true := rfl
  have d3 : decide ((3 : Nat) ≤ 1000) = true := rfl
  rw [decide_eq_true (by omega : -9223372036854775808 ≤ Y), decide_eq_true (by omega : Y ≤ 9223372036854775807), decide_eq_true (by omega : -9223372036854775808 ≤ x5), decide_eq_true (by omega : x5 ≤ 9223372036854775807), decide_eq_true (by omega : -9223372036854775808 ≤ x6), decide_eq_true (by omega : x6 ≤ 9223372036854775807), decide_eq_true (by omega : -9223372036854775808 ≤ x1), decide_eq_true (by omega : x1 ≤ 9223372036854775807), decide_eq_true (by omega : -9223372036854775808 ≤ x2), decide_eq_true (by omega : x2 ≤ 9223372036854775807), decide_eq_true (by omega : -9223372036854775808 ≤ x3), decide_eq_true (by omega : x3 ≤ 9223372036854775807), decide_eq_true (by omega : -9223372036854775808 ≤ x4), decide_eq_true (by omega : x4 ≤ 9223372036854775807), d4, d2, d3]
  generalize F.pad Y 4 = P1 at *
  generalize F.pad x5 2 = P2 at *
  generalize F.pad x6 2 = P3 at *
  generalize F.pad x1 2 = P4 at *
  generalize F.pad x2 2 = P5 at *
  generalize F.pad x3 2 = P6 at *
  generalize F.pad x4 3 = P7 at *
  simp (disch := omega) only [ByteArray.size_append, e1, e2, e3, e4, e5, ble_t, Bool.and_self, cond_true, decide_true, (by decide : decide ((1 : Nat) ≤ 1) = true), (by decide : decide ((1 : Nat) ≤ 12) = true)]
  rfl

end M
end Go.Proofs.YtajmdlpanlbnjaaGreatDoor

namespace Go.Proofs.YtajmdlpanlbnjaaGreatDoor
open Go Go.RowKit
set_option linter.unusedVariables false
set_option linter.unusedSimpArgs false
set_option maxHeartbeats 1000000

def F.tmS (n : Int) : ByteArray := F.itoa (n.tdiv 1000) ++ F.dot ++ F.pad (n.tmod 1000) 3

end Go.Proofs.YtajmdlpanlbnjaaGreatDoor

namespace Go.Proofs.YtajmdlpanlbnjaaGreatDoor
open Go Go.RowKit
set_option linter.unusedVariables false
set_option linter.unusedSimpArgs false

def F.vl : List Int → Int
  | [] => 0
  | x :: l => x + 10000 * F.vl l

def F.lb (n : Nat) : List Int := if h : n = 0 then [] else ((n % 10000 : Nat) : Int) :: F.lb (n / 10000)
termination_by n
decreasing_by omega

def F.okL (l : List Int) : Prop := ∀ x ∈ l, 0 ≤ x ∧ x ≤ 9999

theorem F.lb_zero : F.lb 0 = [] := by rw [F.lb]; rfl

theorem F.lb_pos {n : Nat} (h : n ≠ 0) : F.lb n = ((n % 10000 : Nat) : Int) :: F.lb (n / 10000) := by rw [F.lb, dif_neg h]

theorem F.vl_lb (n : Nat) : F.vl (F.lb n) = n := by
  induction n using Nat.strongRecOn with
  | ind n ih =>
    by_cases h : n = 0
    · subst h; rw [F.lb_zero]; rfl
    · rw [F.lb_pos h, F.vl, ih (n / 10000) (by omega)]
      omega

theorem F.lb_ok (n : Nat) : F.okL (F.lb n) := by
  induction n using Nat.strongRecOn with
  | ind n ih =>
    by_cases h : n = 0
    · subst h; rw [F.lb_zero]; intro x hx; cases hx
    · rw [F.lb_pos h]
      intro x hx
      rcases List.mem_cons.1 hx with rfl | hx
      · omega
      · exact ih (n / 10000) (by omega) x hx

theorem F.vl_nn : ∀ {l : List Int}, F.okL l → 0 ≤ F.vl l
  | [], _ => Int.le_refl _
  | x :: l, h => by
    have h1 := h x (List.mem_cons_self ..)
    have h2 := F.vl_nn (l := l) fun y hy => h y (List.mem_cons_of_mem _ hy)
    rw [F.vl]; omega

def F.trimL : List Int → List Int
  | [] => []
  | x :: l => match F.trimL l with
    | [] => if x = 0 then [] else [x]
    | y :: r => x :: y :: r

theorem F.trimL_eq : ∀ {l : List Int}, F.okL l → F.trimL l = F.lb (F.vl l).toNat
  | [], _ => by rw [F.vl]; exact F.lb_zero.symm
  | x :: l, h => by
    have h1 := h x (List.mem_cons_self ..)
    have h2 : F.okL l := fun y hy => h y (List.mem_cons_of_mem _ hy)
    have h3 := F.vl_nn h2
    have ih := F.trimL_eq h2
    rw [F.trimL, ih, F.vl]
    by_cases hz : (F.vl l).toNat = 0
    · rw [hz, F.lb_zero]
      by_cases hx : x = 0
      · rw [if_pos hx, show (x + 10000 * F.vl l).toNat = 0 by omega, F.lb_zero]
      · rw [if_neg hx, F.lb_pos (by omega), show (x + 10000 * F.vl l).toNat / 10000 = 0 by omega, F.lb_zero]
        simp only [List.cons.injEq, and_true]
        omega
    · rw [F.lb_pos (n := (x + 10000 * F.vl l).toNat) (by omega), show (x + 10000 * F.vl l).toNat / 10000 = (F.vl l).toNat by omega]
      rw [F.lb_pos hz]
      simp only [List.cons.injEq, and_true]
      omega

theorem F.lb_len {k : Nat} : ∀ {n : Nat}, n < 10000 ^ k → (F.lb n).length ≤ k := by
  induction k with
  | zero => intro n h; have : n = 0 := by simpa using h
            subst this; rw [F.lb_zero]; exact Nat.le_refl _
  | succ k ih =>
    intro n h
    by_cases hz : n = 0
    · subst hz; rw [F.lb_zero]; exact Nat.zero_le _
    · rw [F.lb_pos hz, List.length_cons]
      have := ih (n := n / 10000) (by rw [Nat.pow_succ] at h; omega)
      omega

theorem F.lb_ge {k : Nat} : ∀ {n : Nat}, 10000 ^ k ≤ n → k < (F.lb n).length := by
  induction k with
  | zero => intro n h; rw [F.lb_pos (by have : 1 ≤ n := by simpa using h
                                        omega), List.length_cons]; omega
  | succ k ih =>
    intro n h
    have hp : 1 ≤ 10000 ^ k := Nat.one_le_pow _ _ (by decide)
    rw [Nat.pow_succ] at h
    rw [F.lb_pos (by omega), List.length_cons]
    have := ih (n := n / 10000) (by omega)
    omega

def F.addL : Int → List Int → List Int → List Int
  | c, [], [] => if 0 < c then [c] else []
  | c, x :: a, [] => (c + x) % 10000 :: F.addL ((c + x) / 10000) a []
  | c, [], y :: b => (c + y) % 10000 :: F.addL ((c + y) / 10000) [] b
  | c, x :: a, y :: b => (c + x + y) % 10000 :: F.addL ((c + x + y) / 10000) a b
termination_by _ a b => a.length + b.length

theorem F.addL_eq : ∀ (k m n c : Nat), m + n ≤ k → c ≤ 1 → F.addL c (F.lb m) (F.lb n) = F.lb (c + m + n) := by
  intro k
  induction k with
  | zero =>
    intro m n c hk hc
    have hm : m = 0 := by omega
    have hn : n = 0 := by omega
    subst hm; subst hn
    rw [F.lb_zero, F.addL]
    by_cases h : c = 0
    · subst h; simp [F.lb_zero]
    · have : c = 1 := by omega
      subst this
      rw [F.lb_pos (by omega), F.lb_zero]; simp
  | succ k ih =>
    intro m n c hk hc
    by_cases hm : m = 0
    · subst hm
      by_cases hn : n = 0
      · subst hn
        exact ih 0 0 c (by omega) hc
      · rw [F.lb_zero, F.lb_pos hn, F.addL]
        have h2 := ih 0 (n / 10000) ((c + n % 10000) / 10000) (by omega) (by omega)
        rw [F.lb_zero] at h2
        rw [F.lb_pos (n := c + 0 + n) (by omega), show (c + 0 + n) / 10000 = (c + n % 10000) / 10000 + 0 + n / 10000 by omega, ← h2]
        congr 1
        omega
    · by_cases hn : n = 0
      · subst hn
        rw [F.lb_zero, F.lb_pos hm, F.addL]
        have h2 := ih (m / 10000) 0 ((c + m % 10000) / 10000) (by omega) (by omega)
        rw [F.lb_zero] at h2
        rw [F.lb_pos (n := c + m + 0) (by omega), show (c + m + 0) / 10000 = (c + m % 10000) / 10000 + m / 10000 + 0 by omega, ← h2]
        congr 1
        omega
      · rw [F.lb_pos hm, F.lb_pos hn, F.addL]
        have h2 := ih (m / 10000) (n / 10000) ((c + m % 10000 + n % 10000) / 10000) (by omega) (by omega)
        rw [F.lb_pos (n := c + m + n) (by omega), show (c + m + n) / 10000 = (c + m % 10000 + n % 10000) / 10000 + m / 10000 + n / 10000 by omega, ← h2]
        congr 1
        omega

def F.subL : Int → List Int → List Int → List Int
  | _, [], _ => []
  | c, x :: a, [] => if x - c < 0 then (x - c + 10000) :: F.subL 1 a [] else (x - c) :: F.subL 0 a []
  | c, x :: a, y :: b => if x - c - y < 0 then (x - c - y + 10000) :: F.subL 1 a b else (x - c - y) :: F.subL 0 a b

theorem F.okL_cons {x : Int} {l : List Int} (h1 : 0 ≤ x ∧ x ≤ 9999) (h2 : F.okL l) : F.okL (x :: l) := fun y hy => by
  rcases List.mem_cons.1 hy with rfl | hy
  · exact h1
  · exact h2 y hy

theorem F.okL_nil : F.okL [] := fun y hy => by cases hy

theorem F.subL_eq : ∀ (a b : List Int) (c : Int), F.okL a → F.okL b → b.length ≤ a.length → (c = 0 ∨ c = 1) →
    F.okL (F.subL c a b) ∧ (F.vl (F.subL c a b) = F.vl a - F.vl b - c ∨ F.vl a - F.vl b - c < 0)
  | [], [], c, _, _, _, hc => ⟨by rw [F.subL]; exact F.okL_nil, by
      simp only [F.subL, F.vl]; omega⟩
  | [], y :: b, c, _, _, h, _ => by simp at h
  | x :: a, [], c, ha, hb, _, hc => by
    have h1 := ha x (List.mem_cons_self ..)
    have h2 : F.okL a := fun y hy => ha y (List.mem_cons_of_mem _ hy)
    rw [F.subL]
    by_cases hx : x - c < 0
    · rw [if_pos hx]
      obtain ⟨q1, q2⟩ := F.subL_eq a [] 1 h2 hb (by simp) (.inr rfl)
      refine ⟨F.okL_cons (by omega) q1, ?_⟩
      simp only [F.vl] at q2 ⊢
      omega
    · rw [if_neg hx]
      obtain ⟨q1, q2⟩ := F.subL_eq a [] 0 h2 hb (by simp) (.inl rfl)
      refine ⟨F.okL_cons (by omega) q1, ?_⟩
      simp only [F.vl] at q2 ⊢
      omega
  | x :: a, y :: b, c, ha, hb, h, hc => by
    have h1 := ha x (List.mem_cons_self ..)
    have h2 : F.okL a := fun y hy => ha y (List.mem_cons_of_mem _ hy)
    have h3 := hb y (List.mem_cons_self ..)
    have h4 : F.okL b := fun z hz => hb z (List.mem_cons_of_mem _ hz)
    rw [F.subL]
    by_cases hx : x - c - y < 0
    · rw [if_pos hx]
      obtain ⟨q1, q2⟩ := F.subL_eq a b 1 h2 h4 (by simpa using h) (.inr rfl)
      refine ⟨F.okL_cons (by omega) q1, ?_⟩
      simp only [F.vl] at q2 ⊢
      omega
    · rw [if_neg hx]
      obtain ⟨q1, q2⟩ := F.subL_eq a b 0 h2 h4 (by simpa using h) (.inl rfl)
      refine ⟨F.okL_cons (by omega) q1, ?_⟩
      simp only [F.vl] at q2 ⊢
      omega

theorem F.lb_mono {m n : Nat} (h : m ≤ n) : (F.lb m).length ≤ (F.lb n).length := by
  rcases Nat.eq_zero_or_pos (F.lb m).length with h0 | h0
  · omega
  · obtain ⟨k, hk⟩ : ∃ k, (F.lb m).length = k + 1 := ⟨(F.lb m).length - 1, by omega⟩
    rcases Nat.lt_or_ge m (10000 ^ k) with h1 | h1
    · have := F.lb_len h1; omega
    · have := F.lb_ge (Nat.le_trans h1 h); omega

theorem F.sub_lb {m n : Nat} (h : n ≤ m) : F.trimL (F.subL 0 (F.lb m) (F.lb n)) = F.lb (m - n) := by
  obtain ⟨q1, q2⟩ := F.subL_eq (F.lb m) (F.lb n) 0 (F.lb_ok m) (F.lb_ok n) (F.lb_mono h) (.inl rfl)
  rw [F.vl_lb, F.vl_lb] at q2
  rw [F.trimL_eq q1]
  congr 1
  omega

def F.cmpA : List Int → List Int → Int
  | x :: a, y :: b => if F.cmpA a b ≠ 0 then F.cmpA a b else if x < y then -1 else if y < x then 1 else 0
  | _, _ => 0

def F.cmpL (a b : List Int) : Int := if a.length < b.length then -1 else if b.length < a.length then 1 else F.cmpA a b

def F.sgn (a b : Int) : Int := if a < b then -1 else if b < a then 1 else 0

theorem F.sgn_step {x y p q : Int} (h1 : 0 ≤ x ∧ x ≤ 9999) (h3 : 0 ≤ y ∧ y ≤ 9999) :
    (if F.sgn p q ≠ 0 then F.sgn p q else if x < y then -1 else if y < x then 1 else 0) = F.sgn (x + 10000 * p) (y + 10000 * q) := by
  unfold F.sgn
  by_cases c1 : p < q
  · rw [if_pos c1, if_pos (by decide), if_pos (show x + 10000 * p < y + 10000 * q by omega)]
  · by_cases c2 : q < p
    · rw [if_neg c1, if_pos c2, if_pos (by decide), if_neg (show ¬ x + 10000 * p < y + 10000 * q by omega), if_pos (show y + 10000 * q < x + 10000 * p by omega)]
    · have : p = q := by omega
      subst this
      rw [if_neg c1, if_neg c1, if_neg (by decide)]
      by_cases d1 : x < y
      · rw [if_pos d1, if_pos (by omega)]
      · by_cases d2 : y < x
        · rw [if_neg d1, if_pos d2, if_neg (by omega), if_pos (by omega)]
        · rw [if_neg d1, if_neg d2, if_neg (by omega), if_neg (by omega)]

theorem F.cmpA_eq : ∀ {a b : List Int}, F.okL a → F.okL b → a.length = b.length → F.cmpA a b = F.sgn (F.vl a) (F.vl b)
  | [], [], _, _, _ => rfl
  | x :: a, y :: b, ha, hb, h => by
    have h1 := ha x (List.mem_cons_self ..)
    have h3 := hb y (List.mem_cons_self ..)
    have ih := F.cmpA_eq (a := a) (b := b) (fun z hz => ha z (List.mem_cons_of_mem _ hz)) (fun z hz => hb z (List.mem_cons_of_mem _ hz)) (by simpa using h)
    rw [F.cmpA, ih]
    exact F.sgn_step h1 h3
  | [], y :: b, _, _, h => by simp at h
  | x :: a, [], _, _, h => by simp at h

theorem F.cmp_lb (m n : Nat) : F.cmpL (F.lb m) (F.lb n) = F.sgn m n := by
  unfold F.cmpL
  by_cases h1 : (F.lb m).length < (F.lb n).length
  · have : m < n := Nat.lt_of_not_le fun h => by have := F.lb_mono h; omega
    rw [if_pos h1, F.sgn, if_pos (by omega)]
  · by_cases h2 : (F.lb n).length < (F.lb m).length
    · have : n < m := Nat.lt_of_not_le fun h => by have := F.lb_mono h; omega
      rw [if_neg h1, if_pos h2, F.sgn, if_neg (by omega), if_pos (by omega)]
    · rw [if_neg h1, if_neg h2, F.cmpA_eq (F.lb_ok m) (F.lb_ok n) (by omega), F.vl_lb, F.vl_lb]

def F.mrow (x : Int) : Int → List Int → List Int → List Int
  | c, o :: os, y :: b => (o + x * y + c) % 10000 :: F.mrow x ((o + x * y + c) / 10000) os b
  | c, o :: os, [] => (o + c) :: os
  | _, [], _ => []

theorem F.mul_bd {x y : Int} (hx : 0 ≤ x ∧ x ≤ 9999) (hy : 0 ≤ y ∧ y ≤ 9999) : 0 ≤ x * y ∧ x * y ≤ 99980001 := by
  refine ⟨Int.mul_nonneg hx.1 hy.1, ?_⟩
  have h1 : x * y ≤ 9999 * y := Int.mul_le_mul_of_nonneg_right hx.2 hy.1
  omega

theorem F.mrow_eq {x : Int} (hx : 0 ≤ x ∧ x ≤ 9999) : ∀ (b os : List Int) (c : Int), F.okL b → F.okL os → b.length < os.length → (0 ≤ c ∧ c ≤ 9999) →
    F.vl (F.mrow x c os b) = F.vl os + x * F.vl b + c ∧ (F.mrow x c os b).length = os.length
  | [], o :: os, c, _, _, _, _ => by
    rw [F.mrow]
    refine ⟨?_, rfl⟩
    simp only [F.vl, Int.mul_zero]
    omega
  | y :: b, o :: os, c, hb, ho2, h, hc => by
    have h3 := hb y (List.mem_cons_self ..)
    rw [F.mrow]
    have hm := F.mul_bd hx h3
    have ho := ho2 o (List.mem_cons_self ..)
    obtain ⟨q1, q2⟩ := F.mrow_eq hx b os ((o + x * y + c) / 10000) (fun z hz => hb z (List.mem_cons_of_mem _ hz)) (fun z hz => ho2 z (List.mem_cons_of_mem _ hz)) (by simpa using h) (by omega)
    refine ⟨?_, by rw [List.length_cons, q2, List.length_cons]⟩
    simp only [F.vl, q1, Int.mul_add]
    rw [show x * (10000 * F.vl b) = 10000 * (x * F.vl b) by rw [← Int.mul_assoc, Int.mul_comm x 10000, Int.mul_assoc]]
    omega
  | [], [], c, _, _, h, _ => by simp at h
  | y :: b, [], c, _, _, h, _ => by simp at h

def F.zeroFrom (k : Nat) (l : List Int) : Prop := ∀ z ∈ l.drop k, z = 0

theorem F.mrow_ok {x : Int} (hx : 0 ≤ x ∧ x ≤ 9999) : ∀ (b os : List Int) (c : Int), F.okL b → F.okL os → F.zeroFrom b.length os → (0 ≤ c ∧ c ≤ 9999) →
    F.okL (F.mrow x c os b) ∧ F.zeroFrom (b.length + 1) (F.mrow x c os b)
  | [], o :: os, c, _, ho, hz, hc => by
    have h0 : o = 0 := hz o (by simp)
    rw [F.mrow]
    refine ⟨F.okL_cons (by omega) fun z h => ho z (List.mem_cons_of_mem _ h), fun z h => hz z ?_⟩
    exact List.mem_cons_of_mem _ (by simpa using h)
  | y :: b, o :: os, c, hb, ho2, hz, hc => by
    have h3 := hb y (List.mem_cons_self ..)
    have hm := F.mul_bd hx h3
    have ho := ho2 o (List.mem_cons_self ..)
    rw [F.mrow]
    obtain ⟨q1, q2⟩ := F.mrow_ok hx b os ((o + x * y + c) / 10000) (fun z hz => hb z (List.mem_cons_of_mem _ hz)) (fun z hz => ho2 z (List.mem_cons_of_mem _ hz)) (fun z h => hz z (by simpa using h)) (by omega)
    exact ⟨F.okL_cons (by omega) q1, fun z h => q2 z (by simpa using h)⟩
  | [], [], c, _, _, _, _ => by
    rw [F.mrow]
    exact ⟨F.okL_nil, fun z h => by simp at h⟩
  | y :: b, [], c, _, _, _, _ => by
    rw [F.mrow]
    exact ⟨F.okL_nil, fun z h => by simp at h⟩

def F.mulR (b : List Int) : List Int → List Int → List Int
  | [], out => out
  | x :: a, out => match F.mrow x 0 out b with
    | [] => []
    | o :: os => o :: F.mulR b a os

theorem F.mulR_eq {b : List Int} (hb : F.okL b) : ∀ (a out : List Int), F.okL a → F.okL out → F.zeroFrom b.length out → a.length + b.length ≤ out.length →
    F.okL (F.mulR b a out) ∧ F.vl (F.mulR b a out) = F.vl out + F.vl a * F.vl b ∧ (F.mulR b a out).length = out.length
  | [], out, _, ho, _, _ => by
    rw [F.mulR]
    exact ⟨ho, by rw [F.vl, Int.zero_mul]; omega, rfl⟩
  | x :: a, out, ha, ho, hz, hl => by
    have h1 := ha x (List.mem_cons_self ..)
    rw [List.length_cons] at hl
    obtain ⟨q1, q2⟩ := F.mrow_eq h1 b out 0 hb ho (by omega) (by omega)
    obtain ⟨q3, q4⟩ := F.mrow_ok h1 b out 0 hb ho hz (by omega)
    rw [F.mulR]
    cases hr : F.mrow x 0 out b with
    | nil => rw [hr] at q2; simp at q2; omega
    | cons o os =>
      rw [hr] at q1 q2 q3 q4
      rw [List.length_cons] at q2
      obtain ⟨r1, r2, r3⟩ := F.mulR_eq hb a os (fun z h => ha z (List.mem_cons_of_mem _ h)) (fun z h => q3 z (List.mem_cons_of_mem _ h)) (fun z h => q4 z (by simpa using h)) (by omega)
      refine ⟨F.okL_cons (q3 o (List.mem_cons_self ..)) r1, ?_, by simp only [List.length_cons, r3]; omega⟩
      simp only [F.vl, r2] at q1 ⊢
      rw [Int.add_mul, Int.mul_assoc]
      omega

theorem F.mul_lb (m n : Nat) : F.trimL (F.mulR (F.lb n) (F.lb m) (List.replicate ((F.lb m).length + (F.lb n).length) 0)) = F.lb (m * n) := by
  have hz : ∀ k : Nat, F.vl (List.replicate k 0) = 0 := fun k => by
    induction k with
    | zero => rfl
    | succ k ih => rw [List.replicate_succ, F.vl, ih]; rfl
  obtain ⟨q1, q2, q3⟩ := F.mulR_eq (F.lb_ok n) (F.lb m) (List.replicate ((F.lb m).length + (F.lb n).length) 0) (F.lb_ok m)
    (fun x hx => by have := (List.mem_replicate.1 hx).2; omega) (fun x hx => (List.mem_replicate.1 (List.mem_of_mem_drop hx)).2) (by simp)
  rw [F.trimL_eq q1, q2, hz, F.vl_lb, F.vl_lb]
  congr 1
  have : (0 : Int) + (m : Int) * (n : Int) = ((m * n : Nat) : Int) := by rw [Int.natCast_mul]; omega
  rw [this]
  rfl

def F.nv (l : List Int) : Nat := (F.vl l).toNat

theorem F.nv_lb (n : Nat) : F.nv (F.lb n) = n := by unfold F.nv; rw [F.vl_lb]; rfl

def F.nk (k : Nat) (l : List Int) : Bool := decide (F.lb (F.nv l) = l) && decide (l.length ≤ k)

theorem F.nk_of {k : Nat} {l : List Int} (h : F.nk k l = true) : ∃ n, l = F.lb n ∧ n < 10000 ^ k := by
  unfold F.nk at h
  simp only [Bool.and_eq_true, decide_eq_true_eq] at h
  refine ⟨F.nv l, h.1.symm, ?_⟩
  rcases Nat.lt_or_ge (F.nv l) (10000 ^ k) with h1 | h1
  · exact h1
  · have := F.lb_ge h1
    rw [h.1] at this
    omega

theorem F.nk_lb {k n : Nat} (h : n < 10000 ^ k) : F.nk k (F.lb n) = true := by
  unfold F.nk
  rw [F.nv_lb, decide_eq_true rfl, decide_eq_true (F.lb_len h)]
  rfl

theorem F.nk_len {k : Nat} {l : List Int} (h : F.nk k l = true) : l.length ≤ k := by
  unfold F.nk at h
  simp only [Bool.and_eq_true, decide_eq_true_eq] at h
  exact h.2

theorem F.lb_nil {n : Nat} : F.lb n = [] ↔ n = 0 := by
  constructor
  · intro h
    have := congrArg F.nv h
    rw [F.nv_lb] at this
    exact this
  · rintro rfl; exact F.lb_zero

theorem F.lb_emp (n : Nat) : (F.lb n).length = 0 ↔ n = 0 := by rw [List.length_eq_zero_iff, F.lb_nil]

theorem F.lb_one : F.lb 1 = [1] := by rw [F.lb_pos (by decide), show (1 : Nat) / 10000 = 0 by decide, F.lb_zero]; rfl

theorem F.trimL_cons {x r : Nat} (hx : x ≤ 9999) : F.trimL ((x : Int) :: F.lb r) = F.lb (x + 10000 * r) := by
  rw [F.trimL_eq (F.okL_cons (by omega) (F.lb_ok r)), F.vl, F.vl_lb]
  congr 1

def F.dqo (b : Nat) : List Int → List Int × Nat
  | [] => ([], 0)
  | x :: l => ((((x.toNat + 10000 * (F.dqo b l).2) / b : Nat) : Int) :: (F.dqo b l).1, (x.toNat + 10000 * (F.dqo b l).2) % b)

theorem F.dqo_eq {b : Nat} (hb : 0 < b) : ∀ {l : List Int}, F.okL l →
    F.okL (F.dqo b l).1 ∧ F.vl (F.dqo b l).1 = ((F.nv l / b : Nat) : Int) ∧ (F.dqo b l).2 = F.nv l % b ∧ (F.dqo b l).1.length = l.length
  | [], _ => ⟨F.okL_nil, by rw [F.dqo, F.vl, show F.nv [] = 0 from rfl, Nat.zero_div]; rfl, by rw [F.dqo, show F.nv [] = 0 from rfl, Nat.zero_mod], rfl⟩
  | x :: l, h => by
    have h1 := h x (List.mem_cons_self ..)
    have h2 : F.okL l := fun y hy => h y (List.mem_cons_of_mem _ hy)
    obtain ⟨q1, q2, q3, q4⟩ := F.dqo_eq hb h2
    have h3 := F.vl_nn h2
    have hr : (F.dqo b l).2 < b := by rw [q3]; exact Nat.mod_lt _ hb
    have hv : F.nv (x :: l) = x.toNat + 10000 * F.nv l := by unfold F.nv; rw [F.vl]; omega
    have e1 := Nat.div_add_mod (F.nv l) b
    rw [← q3] at e1
    have hd : F.nv (x :: l) = (x.toNat + 10000 * (F.dqo b l).2) + b * (10000 * (F.nv l / b)) := by
      rw [hv, Nat.mul_left_comm]; omega
    have hlt : (x.toNat + 10000 * (F.dqo b l).2) / b < 10000 := by
      rw [Nat.div_lt_iff_lt_mul hb]; omega
    rw [F.dqo]
    refine ⟨F.okL_cons (by generalize (x.toNat + 10000 * (F.dqo b l).2) / b = q at hlt ⊢; omega) q1, ?_, ?_, by simp [q4]⟩
    · show F.vl (_ :: _) = _
      rw [F.vl, q2, hd, Nat.add_mul_div_left _ _ hb]
      omega
    · show _ % b = _
      rw [hd, Nat.add_mul_mod_self_left]

theorem F.dqo_lb {b : Nat} (hb : 0 < b) (a : Nat) : F.trimL (F.dqo b (F.lb a)).1 = F.lb (a / b) ∧ (F.dqo b (F.lb a)).2 = a % b := by
  obtain ⟨q1, q2, q3, q4⟩ := F.dqo_eq hb (F.lb_ok a)
  rw [F.nv_lb] at q2 q3
  refine ⟨?_, q3⟩
  rw [F.trimL_eq q1, q2]; rfl

theorem F.lb_lt {m k n : Nat} (h : n < 10000 ^ m) (hm : m ≤ k) : n < 10000 ^ k := Nat.lt_of_lt_of_le h (Nat.pow_le_pow_right (by decide) hm)

theorem F.mul_lt {m n j k : Nat} (h1 : m < 10000 ^ j) (h2 : n < 10000 ^ k) : m * n < 10000 ^ (j + k) := by
  rw [Nat.pow_add]; exact Nat.mul_lt_mul'' h1 h2

theorem F.add_lt {m n k : Nat} (h1 : m < 10000 ^ k) (h2 : n < 10000 ^ k) : m + n < 10000 ^ (k + 1) := by
  rw [Nat.pow_succ]; omega

theorem F.sgn_le (m n : Nat) : decide (F.sgn (m : Int) (n : Int) ≤ 0) = decide (m ≤ n) := by
  unfold F.sgn
  by_cases h : m ≤ n
  · rw [decide_eq_true h]
    by_cases h2 : m < n
    · rw [if_pos (by omega)]; rfl
    · rw [if_neg (by omega), if_neg (by omega)]; rfl
  · rw [decide_eq_false h, if_neg (by omega), if_pos (by omega)]; rfl

theorem F.sgn_ge (m n : Nat) : decide (0 ≤ F.sgn (m : Int) (n : Int)) = decide (n ≤ m) := by
  unfold F.sgn
  by_cases h : n ≤ m
  · rw [decide_eq_true h, if_neg (by omega)]
    by_cases h2 : n < m
    · rw [if_pos (by omega)]; rfl
    · rw [if_neg (by omega)]; rfl
  · rw [decide_eq_false h, if_pos (by omega)]; rfl

theorem F.sgn_eq (m n : Nat) : (F.sgn (m : Int) (n : Int) == 0) = decide (m = n) := by
  unfold F.sgn
  by_cases h : m = n
  · rw [decide_eq_true h, if_neg (by omega), if_neg (by omega)]; rfl
  · rw [decide_eq_false h]
    by_cases h2 : m < n
    · rw [if_pos (by omega)]; rfl
    · rw [if_neg (by omega), if_pos (by omega)]; rfl

theorem F.div_le {b R mid : Nat} (hb : 0 < b) : b * mid ≤ R ↔ mid ≤ R / b := by
  rw [Nat.le_div_iff_mul_le hb, Nat.mul_comm]

end Go.Proofs.YtajmdlpanlbnjaaGreatDoor

namespace Go.Proofs.YtajmdlpanlbnjaaGreatDoor
open Go Go.RowKit
set_option linter.unusedVariables false
set_option linter.unusedSimpArgs false

def F.trimN (l : List Int) : Nat → Nat
  | 0 => 0
  | n + 1 => bif l.getD n 0 == 0 then F.trimN l n else n + 1

theorem F.trimN_le (l : List Int) : ∀ n, F.trimN l n ≤ n
  | 0 => Nat.le_refl _
  | n + 1 => by
    have := F.trimN_le l n
    rw [F.trimN]
    cases l.getD n 0 == 0
    · exact Nat.le_refl _
    · exact Nat.le_succ_of_le this

theorem F.trimL_z : ∀ l : List Int, F.trimL (l ++ [0]) = F.trimL l
  | [] => rfl
  | x :: l => by
    have ih := F.trimL_z l
    rw [List.cons_append, F.trimL, ih, F.trimL]

theorem F.trimL_x {x : Int} (h : x ≠ 0) : ∀ l : List Int, F.trimL (l ++ [x]) = l ++ [x]
  | [] => by rw [List.nil_append, F.trimL, F.trimL]; simp [h]
  | y :: l => by
    have ih := F.trimL_x h l
    rw [List.cons_append, F.trimL, ih]
    cases l <;> rfl

theorem F.trimN_eq (l : List Int) : ∀ n, n ≤ l.length → l.take (F.trimN l n) = F.trimL (l.take n)
  | 0, _ => by rw [F.trimN, List.take_zero]; rfl
  | n + 1, h => by
    have hlt : n < l.length := h
    have ih := F.trimN_eq l n (by omega)
    have hg : l.getD n 0 = l[n] := by simp [List.getD, List.getElem?_eq_getElem hlt]
    rw [F.trimN, hg, List.take_succ_eq_append_getElem hlt]
    cases hc : l[n] == 0
    · have hx : l[n] ≠ 0 := by simpa using hc
      rw [F.trimL_x hx, cond_false, List.take_succ_eq_append_getElem hlt]
    · have hx : l[n] = 0 := by simpa using hc
      rw [hx, F.trimL_z, cond_true, ih]

namespace M

theorem idx_sub {j : Nat} (h : j + 1 ≤ 9223372036854775807) : idx (IntKind.i64.wrap (((j + 1 : Nat) : Int) - 1)) = some j := by
  have : IntKind.i64.wrap (((j + 1 : Nat) : Int) - 1) = ((j : Nat) : Int) := by rw [wrap_id (by omega) (by omega)]; omega
  rw [this]; rfl

theorem idx_n {j : Nat} (h : j + 1 ≤ 9223372036854775807) : idx (j : Int) = some j := by
  have hw : IntKind.i64.wrap (((j + 1 : Nat) : Int) - 1) = (j : Int) := by rw [wrap_id (by omega) (by omega)]; omega
  have := idx_sub h
  rw [hw] at this
  exact this

def stTrm (l : List Int) (n : Nat) : St := ⟨[(3, vI n), (0, .sl (l.map eI))], []⟩

def stTrm1 (a : (List Int) × Nat) : St := stTrm a.1 a.2

theorem stTrm_inj (a a' : (List Int) × Nat) (h : stTrm1 a = stTrm1 a') : a = a' := by
  simp only [stTrm1, stTrm] at h
  try simp [ints_inj, strs_inj, ents_inj, eEnt_iff, eLst_iff] at h
  grind

theorem unstTrm (l : List Int) (n : Nat) : unenc stTrm1 (St.mk [(3, (vI (↑n : Int))), (0, AV.sl (List.map eI l))] []) = some (l, n) := unenc_of stTrm_inj (l, n) rfl

def outTrm (l : List Int) (n : Nat) : T (Ex × St) := .ret (.exit 0, ⟨[(3, vI (F.trimN l n)), (0, .sl (l.map eI))], []⟩)

noncomputable def prlTrm (l : List Int) (n : Nat) : Bool := decide (l.length ≤ 100000) && decide (n ≤ l.length)

noncomputable def lpTrm : Nat × (St → T (Ex × St)) := (2, lpo [3, 0] [] stTrm1 (fun a => prlTrm a.1 a.2) fun a => outTrm a.1 a.2)

noncomputable def enTrm : Env := envH ty noG lks [] [] [] [lpTrm]

theorem enTrm_ok : EnvOK Tryz.prog enTrm := by
  refine envH_ok lks_ok ty_ok ?_ ?_
  · simp
  · simp

theorem evTrmL (l : List Int) (n : Nat) : ((exec enTrm (loopN Tryz.f133 0) (stTrm l n)).bind (lessX ([3, 0], []) ([3, 0], []) ([], []))).val =
  bif decide ((0 : Int) < (↑n : Int)) then Option.bind (idx (IntKind.wrap IntKind.i64 ((↑n : Int) - (1 : Int)))) fun (z : Nat) => Option.bind (unenc (List.map eI) (List.map
  eI l)) fun (z_1 : List Int) => bif decide (z < List.length z_1) then bif List.getD z_1 z (0 : Int) == (0 : Int) then some (Ex.normal, St.mk [(3, (vI (IntKind.wrap
  IntKind.i64 ((↑n : Int) - (1 : Int))))), (0, AV.sl (List.map eI l))] []) else some (Ex.exit (0 : Nat), St.mk [(3, (vI (↑n : Int))), (0, AV.sl (List.map eI l))] []) else
  none else some (Ex.exit (0 : Nat), St.mk [(3, (vI (↑n : Int))), (0, AV.sl (List.map eI l))] []) := (execR_bind _ _ _).symm.trans (by kernel_rfl)

theorem lpTrm_ok (l : List Int) (n : Nat) (hp : prlTrm l n = true) : ∀ ex s', (outTrm l n).val = some (ex, s') → LoopOK enTrm (loopN Tryz.f133 0) (stTrm l n) ex s' := by
  simp only [prlTrm, Bool.and_eq_true, decide_eq_true_eq] at hp
  refine loop_gen (st := fun n => stTrm l n) (out := fun n => outTrm l n) (I := fun n => n ≤ l.length) (n := ([3, 0], [])) (e := ([3, 0], [])) (r := ([], [])) (fun n => n) ?_ n hp.2
  intro n hn
  have h1 := hp.1
  cases n with
  | zero =>
    left
    refine ⟨(.exit 0, ⟨[(3, vI 0), (0, .sl (l.map eI))], []⟩), ?_, rfl, by simp, rfl⟩
    rw [evTrmL]
    simp
  | succ j =>
    have hlt : j < l.length := hn
    have hy : l[j]? = some l[j] := List.getElem?_eq_getElem hlt
    have hg : l.getD j 0 = l[j] := by simp [hy]
    generalize l[j] = y at hy hg
    have hz : decide ((0 : Int) < ((j + 1 : Nat) : Int)) = true := decide_eq_true (by omega)
    have hw : IntKind.i64.wrap (((j + 1 : Nat) : Int) - 1) = (j : Int) := by rw [wrap_id (by omega) (by omega)]; omega
    have hi : idx ((j : Nat) : Int) = some j := by
      have := idx_sub (j := j) (by omega)
      rw [hw] at this
      exact this
    cases hc : (y == 0)
    · left
      refine ⟨(.exit 0, ⟨[(3, vI (j + 1 : Nat)), (0, .sl (l.map eI))], []⟩), ?_, ?_, by simp, rfl⟩
      · rw [evTrmL]
        simp only [unstTrm, prlTrm, outTrm, etaEnt, etaLst, etaSnd, etaStrm, etaMas, Option.bind_some, List.length_map, unStrs, unInts, unBools, unEnts, unItms, unTrns, cond_true, cond_false, Bool.and_true, Bool.true_and, hz, idx_sub (by omega : j + 1 ≤ 9223372036854775807), decide_eq_true hlt, getD_at hy, hc]
      · simp only [outTrm, F.trimN, hg, hc]
        rfl
    · right
      refine ⟨j, ?_, rfl, by omega, by omega, ?_⟩
      · rw [evTrmL]
        simp only [unstTrm, prlTrm, outTrm, etaEnt, etaLst, etaSnd, etaStrm, etaMas, Option.bind_some, List.length_map, unStrs, unInts, unBools, unEnts, unItms, unTrns, cond_true, cond_false, Bool.and_true, Bool.true_and, hz, hw, hi, decide_eq_true hlt, getD_at hy, hc, stTrm]
      · simp only [outTrm, F.trimN, hg, hc, cond_true]

theorem evTrm (l : List Int) : (runF enTrm false Tryz.f133 [.sl (l.map eI)]).val =
  Option.bind (unenc stTrm1 (St.mk [(3, (vI (↑(List.length (List.map eI l)) : Int))), (0, AV.sl (List.map eI l))] [])) fun (z : List Int × Nat) => bif decide (List.length
  z.fst ≤ (100000 : Nat)) && decide (z.snd ≤ List.length z.fst) && true then bif Nat.ble (0 : Nat) (F.trimN z.fst z.snd) && Nat.ble (F.trimN z.fst z.snd) (List.length
  (List.map eI z.fst)) && List.all (List.map eI z.fst) fun (r : Row) => Nat.beq (List.length r) (1 : Nat) then some (AV.sl (List.take (F.trimN z.fst z.snd) (List.map eI
  z.fst)), []) else none else none := (runFR_val).symm.trans (by kernel_rfl)

def encTrm1 (l : List Int) : List AV := [.sl (l.map eI)]

def encTrm (a : (List Int)) : List AV := encTrm1 a

theorem encTrm_inj (a a' : (List Int)) (h : encTrm a = encTrm a') : a = a' := by
  simp only [encTrm, encTrm1] at h
  try simp [ints_inj, strs_inj, ents_inj, eEnt_iff, eLst_iff] at h
  grind

theorem unTrm (l : List Int) : unenc encTrm ([AV.sl (List.map eI l)]) = some (l) := unenc_of encTrm_inj (l) rfl

def resTrm1 (l : List Int) : AV × Heap := (.sl ((F.trimL l).map eI), [])

def preTrm1 (l : List Int) : Bool := decide (l.length ≤ 100000)

noncomputable def oTrm : Orc := orc 133 false encTrm (fun a => preTrm1 a) fun a => resTrm1 a

theorem okTrm : OrcOK Tryz.prog noG oTrm := by
  refine mk_ok Tryz.f133 (keep := false) (by kernel_rfl) (by kernel_rfl) enTrm_ok mixed (one_loop (x0 := loopN Tryz.f133 0) (by kernel_rfl) (lpo_ok ?_)) (by first | exact fun _ _ => ⟨rfl, rfl⟩ | (intro h; cases h)) ?_
  · rintro ⟨l, n⟩ hp
    exact lpTrm_ok l n hp
  rintro l hpre hok
  show (runF enTrm false _ (encTrm1 _)).val = some (resTrm1 _)
  unfold encTrm1 resTrm1
  rw [evTrm]
  have hx : l.length ≤ 100000 := of_decide_eq_true hpre
  have ht := F.trimN_le l l.length
  have e := F.trimN_eq l l.length (Nat.le_refl _)
  rw [List.take_length] at e
  simp only [unstTrm, prlTrm, outTrm, etaEnt, etaLst, etaSnd, etaStrm, etaMas, Option.bind_some, List.length_map, unStrs, unInts, unBools, unEnts, unItms, unTrns, cond_true, cond_false, Bool.and_true, Bool.true_and, hx, Nat.le_refl, decide_true]
  have h3 : ((l.map eI).all fun r => (List.length r).beq 1) = true := List.all_eq_true.2 fun r hr => by
    obtain ⟨x, _, rfl⟩ := List.mem_map.1 hr
    rfl
  rw [ble_t (Nat.zero_le _), ble_t ht, h3, ← List.map_take, e]
  rfl

end M
end Go.Proofs.YtajmdlpanlbnjaaGreatDoor

namespace Go.Proofs.YtajmdlpanlbnjaaGreatDoor
open Go Go.RowKit
set_option linter.unusedVariables false
set_option linter.unusedSimpArgs false

def F.cmpK (a b : List Int) : Nat → Int
  | 0 => 0
  | k + 1 => bif decide (a.getD k 0 < b.getD k 0) then -1 else bif decide (b.getD k 0 < a.getD k 0) then 1 else F.cmpK a b k

theorem F.cmpA_app : ∀ (a b : List Int) (x y : Int), a.length = b.length → F.cmpA (a ++ [x]) (b ++ [y]) = if x < y then -1 else if y < x then 1 else F.cmpA a b
  | [], [], x, y, _ => by simp [F.cmpA]
  | p :: a, q :: b, x, y, h => by
    have ih := F.cmpA_app a b x y (by simpa using h)
    rw [List.cons_append, List.cons_append, F.cmpA, ih, F.cmpA]
    by_cases h1 : x < y
    · simp [h1]
    · by_cases h2 : y < x
      · simp [h1, h2]
      · simp [h1, h2]

theorem F.cmpK_eq {a b : List Int} (h : a.length = b.length) : ∀ k, k ≤ a.length → F.cmpK a b k = F.cmpA (a.take k) (b.take k)
  | 0, _ => rfl
  | k + 1, hk => by
    have h1 : k < a.length := hk
    have h2 : k < b.length := by omega
    have ih := F.cmpK_eq h k (by omega)
    rw [List.take_succ_eq_append_getElem h1, List.take_succ_eq_append_getElem h2, F.cmpA_app _ _ _ _ (by simp; omega), F.cmpK, ih]
    simp only [List.getD, List.getElem?_eq_getElem h1, List.getElem?_eq_getElem h2, Option.getD_some, Bool.cond_decide]

theorem F.cmpK_all {a b : List Int} (h : a.length = b.length) : F.cmpK a b a.length = F.cmpL a b := by
  rw [F.cmpK_eq h _ (Nat.le_refl _), List.take_length, h, List.take_length]
  unfold F.cmpL
  rw [if_neg (by omega), if_neg (by omega)]

namespace M

def stCpr (a : List Int) (b : List Int) (i : Int) : St := ⟨[(5, vI i), (1, .sl (b.map eI)), (0, .sl (a.map eI))], []⟩

def stCpr1 (a : (List Int) × (List Int) × Int) : St := stCpr a.1 a.2.1 a.2.2

theorem stCpr_inj (a a' : (List Int) × (List Int) × Int) (h : stCpr1 a = stCpr1 a') : a = a' := by
  simp only [stCpr1, stCpr] at h
  try simp [ints_inj, strs_inj, ents_inj, eEnt_iff, eLst_iff] at h
  grind

theorem unstCpr (a : List Int) (b : List Int) (i : Int) : unenc stCpr1 (St.mk [(5, (vI i)), (1, AV.sl (List.map eI b)), (0, AV.sl (List.map eI a))] []) = some (a, b, i) := unenc_of stCpr_inj (a, b, i) rfl

def outCpr (a : List Int) (b : List Int) (i : Int) : T (Ex × St) := .ifB (F.cmpK a b (i + 1).toNat == 0) (.ret (.exit 0, ⟨[], []⟩)) (.ret (.ret, ⟨[(4, vI (F.cmpK a b (i + 1).toNat))], []⟩))

noncomputable def prlCpr (a : List Int) (b : List Int) (i : Int) : Bool := decide (a.length ≤ 1000) && decide (a.length = b.length) && decide (-1 ≤ i) && decide (i < a.length)

noncomputable def lpCpr : Nat × (St → T (Ex × St)) := (6, lpo [5, 1, 0] [] stCpr1 (fun a => prlCpr a.1 a.2.1 a.2.2) fun a => outCpr a.1 a.2.1 a.2.2)

noncomputable def enCpr : Env := envH ty noG lks [] [] [] [lpCpr]

theorem enCpr_ok : EnvOK Tryz.prog enCpr := by
  refine envH_ok lks_ok ty_ok ?_ ?_
  · simp
  · simp

theorem evCprL (a : List Int) (b : List Int) (i : Int) : ((exec enCpr (loopN Tryz.f119 0) (stCpr a b i)).bind (lessX ([5, 1, 0], []) ([], []) ([4], []))).val =
  bif decide ((0 : Int) ≤ i) then Option.bind (idx i) fun (z : Nat) => Option.bind (unenc (List.map eI) (List.map eI a)) fun (z_1 : List Int) => bif decide (z < List.length
  z_1) then Option.bind (idx i) fun (z_2 : Nat) => Option.bind (unenc (List.map eI) (List.map eI b)) fun (z_3 : List Int) => bif decide (z_2 < List.length z_3) then bif
  decide (List.getD z_1 z (0 : Int) < List.getD z_3 z_2 (0 : Int)) then some (Ex.ret, St.mk [(4, (vI (-1 : Int)))] []) else Option.bind (idx i) fun (z : Nat) => Option.bind
  (unenc (List.map eI) (List.map eI a)) fun (z_4 : List Int) => bif decide (z < List.length z_4) then Option.bind (idx i) fun (z_5 : Nat) => Option.bind (unenc (List.map eI)
  (List.map eI b)) fun (z_6 : List Int) => bif decide (z_5 < List.length z_6) then bif decide (List.getD z_6 z_5 (0 : Int) < List.getD z_4 z (0 : Int)) then some (Ex.ret,
  St.mk [(4, (vI (1 : Int)))] []) else some (Ex.normal, St.mk [(5, (vI (IntKind.wrap IntKind.i64 (i - (1 : Int))))), (1, AV.sl (List.map eI b)), (0, AV.sl (List.map eI a))]
  []) else none else none else none else none else some (Ex.exit (0 : Nat), St.mk [] []) := (execR_bind _ _ _).symm.trans (by kernel_rfl)

theorem lpCpr_ok (a : List Int) (b : List Int) (i : Int) (hp : prlCpr a b i = true) : ∀ ex s', (outCpr a b i).val = some (ex, s') → LoopOK enCpr (loopN Tryz.f119 0) (stCpr a b i) ex s' := by
  simp only [prlCpr, Bool.and_eq_true, decide_eq_true_eq] at hp
  obtain ⟨⟨⟨h1, h2⟩, h3⟩, h4⟩ := hp
  obtain ⟨n, rfl⟩ : ∃ n : Nat, i = (n : Int) - 1 := ⟨(i + 1).toNat, by omega⟩
  refine loop_gen (st := fun n : Nat => stCpr a b ((n : Int) - 1)) (out := fun n : Nat => outCpr a b ((n : Int) - 1)) (I := fun n => n ≤ a.length) (n := ([5, 1, 0], [])) (e := ([], [])) (r := ([4], [])) (fun n => n) ?_ n (by omega)
  intro n hn
  have e : ((n : Int) - 1 + 1).toNat = n := by omega
  cases n with
  | zero =>
    left
    refine ⟨(.exit 0, ⟨[], []⟩), ?_, ?_, by simp, rfl⟩
    · rw [evCprL]; simp
    · simp only [outCpr, e]; rfl
  | succ j =>
    have hlt : j < a.length := hn
    have hlt2 : j < b.length := by omega
    have hy : a[j]? = some a[j] := List.getElem?_eq_getElem hlt
    have hz : b[j]? = some b[j] := List.getElem?_eq_getElem hlt2
    have hg : a.getD j 0 = a[j] := by simp [hy]
    have hg2 : b.getD j 0 = b[j] := by simp [hz]
    generalize a[j] = y at hy hg
    generalize b[j] = z at hz hg2
    have hj : (((j + 1 : Nat) : Int) - 1) = (j : Int) := by omega
    have hw : IntKind.i64.wrap ((j : Int) - 1) = (j : Int) - 1 := wrap_id (by omega) (by omega)
    rw [hj] at e ⊢
    have hi : idx ((j : Nat) : Int) = some j := idx_n (by omega)
    have h0 : decide ((0 : Int) ≤ (j : Int)) = true := decide_eq_true (by omega)
    by_cases c1 : y < z
    · left
      refine ⟨(.ret, ⟨[(4, vI (-1))], []⟩), ?_, ?_, by simp, rfl⟩
      · rw [evCprL]
        simp only [unstCpr, prlCpr, outCpr, etaEnt, etaLst, etaSnd, etaStrm, etaMas, Option.bind_some, List.length_map, unStrs, unInts, unBools, unEnts, unItms, unTrns, cond_true, cond_false, Bool.and_true, Bool.true_and, hi, h0, decide_eq_true hlt, decide_eq_true hlt2, getD_at hy, getD_at hz, decide_eq_true c1]
      · simp only [outCpr, e, F.cmpK, hg, hg2, decide_eq_true c1]; rfl
    · by_cases c2 : z < y
      · left
        refine ⟨(.ret, ⟨[(4, vI 1)], []⟩), ?_, ?_, by simp, rfl⟩
        · rw [evCprL]
          simp only [unstCpr, prlCpr, outCpr, etaEnt, etaLst, etaSnd, etaStrm, etaMas, Option.bind_some, List.length_map, unStrs, unInts, unBools, unEnts, unItms, unTrns, cond_true, cond_false, Bool.and_true, Bool.true_and, hi, h0, decide_eq_true hlt, decide_eq_true hlt2, getD_at hy, getD_at hz, decide_eq_false c1, decide_eq_true c2]
        · simp only [outCpr, e, F.cmpK, hg, hg2, decide_eq_false c1, decide_eq_true c2]; rfl
      · right
        refine ⟨j, ?_, rfl, by omega, by omega, ?_⟩
        · rw [evCprL]
          simp only [unstCpr, prlCpr, outCpr, etaEnt, etaLst, etaSnd, etaStrm, etaMas, Option.bind_some, List.length_map, unStrs, unInts, unBools, unEnts, unItms, unTrns, cond_true, cond_false, Bool.and_true, Bool.true_and, hi, h0, decide_eq_true hlt, decide_eq_true hlt2, getD_at hy, getD_at hz, decide_eq_false c1, decide_eq_false c2, hw, stCpr]
        · have e2 : ((j : Int) - 1 + 1).toNat = j := by omega
          simp only [outCpr, e, e2, F.cmpK, hg, hg2, decide_eq_false c1, decide_eq_false c2, cond_false]

theorem evCpr (a : List Int) (b : List Int) : (runF enCpr false Tryz.f119 [.sl (a.map eI), .sl (b.map eI)]).val =
  bif (↑(List.length (List.map eI a)) : Int) != (↑(List.length (List.map eI b)) : Int) then bif decide ((↑(List.length (List.map eI a)) : Int) < (↑(List.length (List.map eI
  b)) : Int)) then some ((vI (-1 : Int)), []) else some ((vI (1 : Int)), []) else Option.bind (unenc stCpr1 (St.mk [(5, (vI (IntKind.wrap IntKind.i64 ((↑(List.length
  (List.map eI a)) : Int) - (1 : Int))))), (1, AV.sl (List.map eI b)), (0, AV.sl (List.map eI a))] [])) fun (z : List Int × List Int × Int) => bif decide (List.length z.fst
  ≤ (1000 : Nat)) && decide (List.length z.fst = List.length z.snd.fst) && decide ((-1 : Int) ≤ z.snd.snd) && decide (z.snd.snd < (↑(List.length z.fst) : Int)) && true then
  bif F.cmpK z.fst z.snd.fst (Int.toNat (z.snd.snd + (1 : Int))) == (0 : Int) then some ((vI (0 : Int)), []) else some ((vI (F.cmpK z.fst z.snd.fst (Int.toNat (z.snd.snd +
  (1 : Int))))), []) else none := (runFR_val).symm.trans (by kernel_rfl)

def encCpr1 (a : List Int) (b : List Int) : List AV := [.sl (a.map eI), .sl (b.map eI)]

def encCpr (a : (List Int) × (List Int)) : List AV := encCpr1 a.1 a.2

theorem encCpr_inj (a a' : (List Int) × (List Int)) (h : encCpr a = encCpr a') : a = a' := by
  simp only [encCpr, encCpr1] at h
  try simp [ints_inj, strs_inj, ents_inj, eEnt_iff, eLst_iff] at h
  grind

theorem unCpr (a : List Int) (b : List Int) : unenc encCpr ([AV.sl (List.map eI a), AV.sl (List.map eI b)]) = some (a, b) := unenc_of encCpr_inj (a, b) rfl

def resCpr1 (a : List Int) (b : List Int) : AV × Heap := (vI (F.sgn (F.nv a) (F.nv b)), [])

def preCpr1 (a : List Int) (b : List Int) : Bool := F.nk 1000 a && F.nk 1000 b

noncomputable def oCpr : Orc := orc 119 true encCpr (fun a => preCpr1 a.1 a.2) fun a => resCpr1 a.1 a.2

theorem okCpr : OrcOK Tryz.prog noG oCpr := by
  refine mk_ok Tryz.f119 (keep := false) (by kernel_rfl) (by kernel_rfl) enCpr_ok mixed (one_loop (x0 := loopN Tryz.f119 0) (by kernel_rfl) (lpo_ok ?_)) (by first | exact fun _ _ => ⟨rfl, rfl⟩ | (intro h; cases h)) ?_
  · rintro ⟨a, b, i⟩ hp
    exact lpCpr_ok a b i hp
  rintro ⟨a, b⟩ hpre hok
  show (runF enCpr false _ (encCpr1 _ _)).val = some (resCpr1 _ _)
  unfold encCpr1 resCpr1
  rw [evCpr]
  have hpre : (F.nk 1000 a && F.nk 1000 b) = true := hpre
  rw [Bool.and_eq_true] at hpre
  have l1 := F.nk_len hpre.1
  have l2 := F.nk_len hpre.2
  have hres : F.sgn ((F.nv a : Nat) : Int) ((F.nv b : Nat) : Int) = F.cmpL a b := by
    obtain ⟨m, hm1, hm⟩ := F.nk_of hpre.1
    obtain ⟨n, hn1, hn⟩ := F.nk_of hpre.2
    rw [hm1, hn1, F.nv_lb, F.nv_lb, F.cmp_lb]
  have hw : IntKind.i64.wrap ((a.length : Int) - 1) = (a.length : Int) - 1 := wrap_id (by omega) (by omega)
  by_cases h : a.length = b.length
  · have e : (((a.length : Int) - 1) + 1).toNat = a.length := by omega
    have hk := F.cmpK_all h
    have hb : ((a.length : Int) != (b.length : Int)) = false := by rw [h]; simp
    simp only [unstCpr, prlCpr, outCpr, etaEnt, etaLst, etaSnd, etaStrm, etaMas, Option.bind_some, List.length_map, unStrs, unInts, unBools, unEnts, unItms, unTrns, cond_true, cond_false, Bool.and_true, Bool.true_and, hw, hb, e, hk, hres, decide_eq_true h, decide_eq_true l1, decide_eq_true (by omega : (-1 : Int) ≤ (a.length : Int) - 1), decide_eq_true (by omega : (a.length : Int) - 1 < (a.length : Int))]
    cases hc : F.cmpL a b == 0
    · rfl
    · have : F.cmpL a b = 0 := by simpa using hc
      rw [this]; rfl
  · have hb : ((a.length : Int) != (b.length : Int)) = true := by simp; omega
    simp only [unstCpr, prlCpr, outCpr, etaEnt, etaLst, etaSnd, etaStrm, etaMas, Option.bind_some, List.length_map, unStrs, unInts, unBools, unEnts, unItms, unTrns, cond_true, cond_false, Bool.and_true, Bool.true_and, hb, hres]
    unfold F.cmpL
    by_cases c : a.length < b.length
    · rw [decide_eq_true (by omega : (a.length : Int) < (b.length : Int)), if_pos c]; rfl
    · rw [decide_eq_false (by omega : ¬ (a.length : Int) < (b.length : Int)), if_neg c, if_pos (by omega)]; rfl

end M
end Go.Proofs.YtajmdlpanlbnjaaGreatDoor

namespace Go.Proofs.YtajmdlpanlbnjaaGreatDoor
open Go Go.RowKit
set_option linter.unusedVariables false
set_option linter.unusedSimpArgs false

def F.at0 (a : List Int) (k : Nat) : Int := bif decide (k < a.length) then a.getD k 0 else 0

def F.addR (a b : List Int) : Nat → Nat → Int → List Int × Int
  | 0, _, c => ([], c)
  | n + 1, k, c => ((c + F.at0 a k + F.at0 b k) % 10000 :: (F.addR a b n (k + 1) ((c + F.at0 a k + F.at0 b k) / 10000)).1, (F.addR a b n (k + 1) ((c + F.at0 a k + F.at0 b k) / 10000)).2)

theorem F.at0_nil (k : Nat) : F.at0 [] k = 0 := rfl

theorem F.at0_z (x : Int) (a : List Int) : F.at0 (x :: a) 0 = x := by simp [F.at0]

theorem F.at0_s (x : Int) (a : List Int) (k : Nat) : F.at0 (x :: a) (k + 1) = F.at0 a k := by
  unfold F.at0
  by_cases h : k < a.length
  · simp [h]
  · simp [h]

theorem F.addR_ss (x y : Int) (a b : List Int) : ∀ n k c, F.addR (x :: a) (y :: b) n (k + 1) c = F.addR a b n k c
  | 0, k, c => rfl
  | n + 1, k, c => by rw [F.addR, F.addR, F.at0_s, F.at0_s, F.addR_ss]

theorem F.addR_sn (x : Int) (a : List Int) : ∀ n k c, F.addR (x :: a) [] n (k + 1) c = F.addR a [] n k c
  | 0, k, c => rfl
  | n + 1, k, c => by rw [F.addR, F.addR, F.at0_s, F.at0_nil, F.at0_nil, F.addR_sn]

theorem F.addR_ns (y : Int) (b : List Int) : ∀ n k c, F.addR [] (y :: b) n (k + 1) c = F.addR [] b n k c
  | 0, k, c => rfl
  | n + 1, k, c => by rw [F.addR, F.addR, F.at0_s, F.at0_nil, F.at0_nil, F.addR_ns]

theorem F.addL_R : ∀ (c : Int) (a b : List Int), F.addL c a b = (F.addR a b (max a.length b.length) 0 c).1 ++ (if 0 < (F.addR a b (max a.length b.length) 0 c).2 then [(F.addR a b (max a.length b.length) 0 c).2] else [])
  | c, [], [] => by rw [F.addL]; rfl
  | c, x :: a, [] => by
    have ih := F.addL_R ((c + x) / 10000) a []
    have e : max (x :: a).length ([] : List Int).length = max a.length ([] : List Int).length + 1 := by simp
    rw [F.addL, ih, e, F.addR, F.at0_z, F.at0_nil, Int.add_zero, F.addR_sn]
    rfl
  | c, [], y :: b => by
    have ih := F.addL_R ((c + y) / 10000) [] b
    have e : max ([] : List Int).length (y :: b).length = max ([] : List Int).length b.length + 1 := by simp
    rw [F.addL, ih, e, F.addR, F.at0_z, F.at0_nil, Int.add_zero, F.addR_ns]
    rfl
  | c, x :: a, y :: b => by
    have ih := F.addL_R ((c + x + y) / 10000) a b
    have e : max (x :: a).length (y :: b).length = max a.length b.length + 1 := by simp only [List.length_cons]; omega
    rw [F.addL, ih, e, F.addR, F.at0_z, F.at0_z, F.addR_ss]
    rfl
termination_by _ a b => a.length + b.length

theorem F.addR_len (a b : List Int) : ∀ n k c, (F.addR a b n k c).1.length = n
  | 0, k, c => rfl
  | n + 1, k, c => by rw [F.addR]; simp only [List.length_cons, F.addR_len]

theorem F.at0_ok {a : List Int} (h : F.okL a) (k : Nat) : 0 ≤ F.at0 a k ∧ F.at0 a k ≤ 9999 := by
  unfold F.at0
  by_cases hk : k < a.length
  · simp only [decide_eq_true hk, cond_true, List.getD, List.getElem?_eq_getElem hk, Option.getD_some]
    exact h _ (List.getElem_mem hk)
  · rw [decide_eq_false hk]; simp

theorem F.nk_ok {k : Nat} {a : List Int} (h : F.nk k a = true) : F.okL a := by
  obtain ⟨m, rfl, _⟩ := F.nk_of h
  exact F.lb_ok m

theorem F.addR_c {a b : List Int} (ha : F.okL a) (hb : F.okL b) : ∀ n k c, 0 ≤ c ∧ c ≤ 1 → 0 ≤ (F.addR a b n k c).2 ∧ (F.addR a b n k c).2 ≤ 1
  | 0, k, c, h => h
  | n + 1, k, c, h => by
    rw [F.addR]
    have h1 := F.at0_ok ha k
    have h2 := F.at0_ok hb k
    exact F.addR_c ha hb n (k + 1) _ (by omega)

namespace M

def stLad (a : List Int) (b : List Int) (acc : List Int) (c : Int) (k : Nat) : St := ⟨[(7, vI k), (6, vI c), (5, .own 5), (1, .sl (b.map eI)), (0, .sl (a.map eI))], [(5, ⟨false, 3, 1, acc.map eI⟩)]⟩

def stLad1 (a : (List Int) × (List Int) × (List Int) × Int × Nat) : St := stLad a.1 a.2.1 a.2.2.1 a.2.2.2.1 a.2.2.2.2

theorem stLad_inj (a a' : (List Int) × (List Int) × (List Int) × Int × Nat) (h : stLad1 a = stLad1 a') : a = a' := by
  simp only [stLad1, stLad] at h
  try simp [ints_inj, strs_inj, ents_inj, eEnt_iff, eLst_iff] at h
  grind

theorem unstLad (a : List Int) (b : List Int) (acc : List Int) (c : Int) (k : Nat) : unenc stLad1 (St.mk [(7, (vI (↑k : Int))), (6, (vI c)), (5, .own 5), (1, AV.sl (List.map eI b)), (0, AV.sl (List.map eI a))] [(5, Blk.mk false 3 1 (List.map eI acc))]) = some (a, b, acc, c, k) := unenc_of stLad_inj (a, b, acc, c, k) rfl

theorem unstLad0 (a : List Int) (b : List Int)  : unenc stLad1 (St.mk [(7, (vI (0 : Int))), (6, (vI (0 : Int))), (5, .own 5), (1, AV.sl (List.map eI b)), (0, AV.sl (List.map eI a))] [(5, Blk.mk false 3 1 [])]) = some (a, b, [], 0, 0) := unenc_of stLad_inj (a, b, [], 0, 0) rfl

def outLad (a : List Int) (b : List Int) (acc : List Int) (c : Int) (k : Nat) : T (Ex × St) := .ret (.exit 0, ⟨[(6, vI (F.addR a b (max a.length b.length - k) k c).2), (5, .own 5)], [(5, ⟨false, 3, 1, (acc ++ (F.addR a b (max a.length b.length - k) k c).1).map eI⟩)]⟩)

noncomputable def prlLad (a : List Int) (b : List Int) (acc : List Int) (c : Int) (k : Nat) : Bool := F.nk 1000 a && F.nk 1000 b && decide (0 ≤ c) && decide (c ≤ 1) && decide (acc.length ≤ k) && decide (k ≤ max a.length b.length)

noncomputable def lpLad : Nat × (St → T (Ex × St)) := (4, lpo [7, 6, 5, 1, 0] [5] stLad1 (fun a => prlLad a.1 a.2.1 a.2.2.1 a.2.2.2.1 a.2.2.2.2) fun a => outLad a.1 a.2.1 a.2.2.1 a.2.2.2.1 a.2.2.2.2)

noncomputable def enLad : Env := envH ty noG lks [] [] [] [lpLad]

theorem enLad_ok : EnvOK Tryz.prog enLad := by
  refine envH_ok lks_ok ty_ok ?_ ?_
  · simp
  · simp

theorem evLadL (a : List Int) (b : List Int) (acc : List Int) (c : Int) (k : Nat) : ((exec enLad (loopN Tryz.f120 0) (stLad a b acc c k)).bind (lessX ([7, 6, 5, 1, 0], [5]) ([6, 5], [5]) ([], []))).val =
  (fun (q : Bool) => (fun (q_1 : Nat × AV) => (fun (q_2 : Bool) => (fun (q_3 : List (Nat × AV)) => bif bif decide ((↑k : Int) < (↑(List.length (List.map eI a)) : Int)) then
  true else q then bif decide ((↑k : Int) < (↑(List.length (List.map eI a)) : Int)) then Option.bind (unenc (List.map eI) (List.map eI a)) fun (z : List Int) => (fun (q_4 :
  Int) => bif decide (k < List.length z) then bif q then Option.bind (unenc (List.map eI) (List.map eI b)) fun (z : List Int) => bif decide (k < List.length z) then bif q_2
  then some (Ex.normal, St.mk (q_1 :: (6, (vI (IntKind.wrap IntKind.i64 (Int.tdiv (IntKind.wrap IntKind.i64 (q_4 + List.getD z k (0 : Int))) (10000 : Int))))) :: q_3) [(5,
  Blk.mk false 3 1 (List.map eI acc ++ [[(vI (Int.tmod (IntKind.wrap IntKind.i64 (q_4 + List.getD z k (0 : Int))) (10000 : Int)))]]))]) else none else none else bif q_2 then
  some (Ex.normal, St.mk (q_1 :: (6, (vI (IntKind.wrap IntKind.i64 (Int.tdiv q_4 (10000 : Int))))) :: q_3) [(5, Blk.mk false 3 1 (List.map eI acc ++ [[(vI (Int.tmod q_4
  (10000 : Int)))]]))]) else none else none) (IntKind.wrap IntKind.i64 (c + List.getD z k (0 : Int))) else bif q then Option.bind (unenc (List.map eI) (List.map eI b)) fun
  (z : List Int) => bif decide (k < List.length z) then bif q_2 then some (Ex.normal, St.mk (q_1 :: (6, (vI (IntKind.wrap IntKind.i64 (Int.tdiv (IntKind.wrap IntKind.i64 (c
  + List.getD z k (0 : Int))) (10000 : Int))))) :: q_3) [(5, Blk.mk false 3 1 (List.map eI acc ++ [[(vI (Int.tmod (IntKind.wrap IntKind.i64 (c + List.getD z k (0 : Int)))
  (10000 : Int)))]]))]) else none else none else bif q_2 then some (Ex.normal, St.mk (q_1 :: (6, (vI (IntKind.wrap IntKind.i64 (Int.tdiv c (10000 : Int))))) :: q_3) [(5,
  Blk.mk false 3 1 (List.map eI acc ++ [[(vI (Int.tmod c (10000 : Int)))]]))]) else none else some (Ex.exit (0 : Nat), St.mk [(6, (vI c)), (5, .own 5)] [(5, Blk.mk false 3 1
  (List.map eI acc))])) [(5, .own 5), (1, AV.sl (List.map eI b)), (0, AV.sl (List.map eI a))]) (Nat.ble ((List.length (List.map eI acc) + (1 : Nat)) * (8 : Nat))
  (140737488355328 : Nat) && true)) (7, (vI (IntKind.wrap IntKind.i64 ((↑k : Int) + (1 : Int)))))) (decide ((↑k : Int) < (↑(List.length (List.map eI b)) : Int))) := (execR_bind _ _ _).symm.trans (by kernel_rfl)

theorem lpLad_ok (a : List Int) (b : List Int) (acc : List Int) (c : Int) (k : Nat) (hp : prlLad a b acc c k = true) : ∀ ex s', (outLad a b acc c k).val = some (ex, s') → LoopOK enLad (loopN Tryz.f120 0) (stLad a b acc c k) ex s' := by
  simp only [prlLad, Bool.and_eq_true, decide_eq_true_eq] at hp
  obtain ⟨⟨⟨⟨⟨h1, h2⟩, h3⟩, h4⟩, h5⟩, h6⟩ := hp
  have l1 := F.nk_len h1
  have l2 := F.nk_len h2
  have o1 := F.nk_ok h1
  have o2 := F.nk_ok h2
  clear h1 h2
  refine loop_gen (st := fun p : List Int × Int × Nat => stLad a b p.1 p.2.1 p.2.2) (out := fun p => outLad a b p.1 p.2.1 p.2.2) (I := fun p => (0 ≤ p.2.1 ∧ p.2.1 ≤ 1) ∧ p.1.length ≤ p.2.2 ∧ p.2.2 ≤ max a.length b.length) (n := ([7, 6, 5, 1, 0], [5])) (e := ([6, 5], [5])) (r := ([], [])) (fun p => max a.length b.length - p.2.2) ?_ (acc, c, k) ⟨⟨h3, h4⟩, h5, h6⟩
  rintro ⟨acc, c, k⟩ ⟨⟨g1, g2⟩, g3, g4⟩
  simp only at g1 g2 g3 g4
  by_cases hlt : k < max a.length b.length
  · right
    have hb : Nat.ble ((acc.length + 1) * 8) 140737488355328 = true := ble_t (by omega)
    have q1 := F.at0_ok o1 k
    have q2 := F.at0_ok o2 k
    have hs : (0 ≤ c + F.at0 a k + F.at0 b k) ∧ c + F.at0 a k + F.at0 b k < 20000 := by omega
    have hn : max a.length b.length - k = (max a.length b.length - (k + 1)) + 1 := by omega
    have hw : IntKind.i64.wrap ((k : Int) + 1) = ((k + 1 : Nat) : Int) := by rw [wrap_id (by omega) (by omega)]; rfl
    have hm : (c + F.at0 a k + F.at0 b k).tmod 10000 = (c + F.at0 a k + F.at0 b k) % 10000 := Int.tmod_eq_emod_of_nonneg hs.1
    have hd : (c + F.at0 a k + F.at0 b k).tdiv 10000 = (c + F.at0 a k + F.at0 b k) / 10000 := Int.tdiv_eq_ediv_of_nonneg hs.1
    refine ⟨(acc ++ [(c + F.at0 a k + F.at0 b k) % 10000], (c + F.at0 a k + F.at0 b k) / 10000, k + 1), ?_, rfl, ⟨by simp only; omega, by simp only [List.length_append, List.length_singleton]; omega, by simp only; omega⟩, by simp only; omega, ?_⟩
    · have hi : idx (k : Int) = some k := idx_n (by omega)
      by_cases ca : k < a.length
      · have hy : a[k]? = some a[k] := List.getElem?_eq_getElem ca
        have ea : F.at0 a k = a[k] := by simp [F.at0, ca]
        rw [ea] at q1 hs hm hd ⊢
        generalize a[k] = x at hy ea q1 hs hm hd ⊢
        have w1 : IntKind.i64.wrap (c + x) = c + x := wrap_id (by omega) (by omega)
        by_cases cb : k < b.length
        · have hz : b[k]? = some b[k] := List.getElem?_eq_getElem cb
          have eb : F.at0 b k = b[k] := by simp [F.at0, cb]
          rw [eb] at q2 hs hm hd ⊢
          generalize b[k] = y at hz eb q2 hs hm hd ⊢
          have w2 : IntKind.i64.wrap (c + x + y) = c + x + y := wrap_id (by omega) (by omega)
          have w3 : IntKind.i64.wrap ((c + x + y) % 10000) = (c + x + y) % 10000 := wrap_id (by omega) (by omega)
          have w4 : IntKind.i64.wrap ((c + x + y) / 10000) = (c + x + y) / 10000 := wrap_id (by omega) (by omega)
          rw [evLadL]
          simp only [unstLad, unstLad0, prlLad, outLad, etaEnt, etaLst, etaSnd, etaStrm, etaMas, Option.bind_some, List.length_map, unStrs, unInts, unBools, unEnts, unItms, unTrns, cond_true, cond_false, Bool.and_true, Bool.true_and, cast_lt ca, cast_lt cb, decide_eq_true ca, decide_eq_true cb, hi, hw, getD_at hy, getD_at hz, w1, w2, hm, hd, w3, w4, hb, stLad, Bool.true_or]
          rw [List.map_append]
          rfl
        · have eb : F.at0 b k = 0 := by simp [F.at0, cb]
          rw [eb, Int.add_zero] at hs hm hd ⊢
          have w3 : IntKind.i64.wrap ((c + x) % 10000) = (c + x) % 10000 := wrap_id (by omega) (by omega)
          have w4 : IntKind.i64.wrap ((c + x) / 10000) = (c + x) / 10000 := wrap_id (by omega) (by omega)
          have cb2 : ¬ (k : Int) < (b.length : Int) := by omega
          rw [evLadL]
          simp only [unstLad, unstLad0, prlLad, outLad, etaEnt, etaLst, etaSnd, etaStrm, etaMas, Option.bind_some, List.length_map, unStrs, unInts, unBools, unEnts, unItms, unTrns, cond_true, cond_false, Bool.and_true, Bool.true_and, cast_lt ca, decide_eq_false cb2, decide_eq_true ca, hi, hw, getD_at hy, w1, hm, hd, w3, w4, hb, stLad, Bool.true_or]
          rw [List.map_append]
          rfl
      · have ea : F.at0 a k = 0 := by simp [F.at0, ca]
        have ca2 : ¬ (k : Int) < (a.length : Int) := by omega
        have cb : k < b.length := by omega
        have hz : b[k]? = some b[k] := List.getElem?_eq_getElem cb
        have eb : F.at0 b k = b[k] := by simp [F.at0, cb]
        rw [ea, eb, Int.add_zero] at hs hm hd ⊢
        rw [eb] at q2
        generalize b[k] = y at hz eb q2 hs hm hd ⊢
        have w2 : IntKind.i64.wrap (c + y) = c + y := wrap_id (by omega) (by omega)
        have w3 : IntKind.i64.wrap ((c + y) % 10000) = (c + y) % 10000 := wrap_id (by omega) (by omega)
        have w4 : IntKind.i64.wrap ((c + y) / 10000) = (c + y) / 10000 := wrap_id (by omega) (by omega)
        rw [evLadL]
        simp only [unstLad, unstLad0, prlLad, outLad, etaEnt, etaLst, etaSnd, etaStrm, etaMas, Option.bind_some, List.length_map, unStrs, unInts, unBools, unEnts, unItms, unTrns, cond_true, cond_false, Bool.and_true, Bool.true_and, decide_eq_false ca2, cast_lt cb, decide_eq_true cb, hi, hw, getD_at hz, w2, hm, hd, w3, w4, hb, stLad, Bool.false_or]
        rw [List.map_append]
        rfl
    · simp only [outLad, hn, F.addR, Nat.add_sub_cancel, List.append_assoc, List.singleton_append]
      done
  · have hk : k = max a.length b.length := by omega
    left
    refine ⟨(.exit 0, ⟨[(6, vI c), (5, .own 5)], [(5, ⟨false, 3, 1, acc.map eI⟩)]⟩), ?_, ?_, by simp, rfl⟩
    · have ca2 : ¬ (k : Int) < (a.length : Int) := by omega
      have cb2 : ¬ (k : Int) < (b.length : Int) := by omega
      rw [evLadL]
      simp only [unstLad, unstLad0, prlLad, outLad, etaEnt, etaLst, etaSnd, etaStrm, etaMas, Option.bind_some, List.length_map, unStrs, unInts, unBools, unEnts, unItms, unTrns, cond_true, cond_false, Bool.and_true, Bool.true_and, decide_eq_false ca2, decide_eq_false cb2]
    · have hn : max a.length b.length - k = 0 := by omega
      simp only [outLad, hn, F.addR, List.append_nil]
      rfl

theorem evLad (a : List Int) (b : List Int) : (runF enLad false Tryz.f120 [.sl (a.map eI), .sl (b.map eI)]).val =
  Option.bind (unenc stLad1 (St.mk [(7, (vI (0 : Int))), (6, (vI (0 : Int))), (5, .own 5), (1, AV.sl (List.map eI b)), (0, AV.sl (List.map eI a))] [(5, Blk.mk false 3 1
  [])])) fun (z : List Int × List Int × List Int × Int × Nat) => bif F.nk (1000 : Nat) z.fst && F.nk (1000 : Nat) z.snd.fst && decide ((0 : Int) ≤ z.snd.snd.snd.fst) &&
  decide (z.snd.snd.snd.fst ≤ (1 : Int)) && decide (List.length z.snd.snd.fst ≤ z.snd.snd.snd.snd) && decide (z.snd.snd.snd.snd ≤ max (List.length z.fst) (List.length
  z.snd.fst)) && true then bif decide ((0 : Int) < (F.addR z.fst z.snd.fst (max (List.length z.fst) (List.length z.snd.fst) - z.snd.snd.snd.snd) z.snd.snd.snd.snd
  z.snd.snd.snd.fst).snd) then bif Nat.ble ((List.length (List.map eI (z.snd.snd.fst ++ (F.addR z.fst z.snd.fst (max (List.length z.fst) (List.length z.snd.fst) -
  z.snd.snd.snd.snd) z.snd.snd.snd.snd z.snd.snd.snd.fst).fst)) + (1 : Nat)) * (8 : Nat)) (140737488355328 : Nat) && true then some (AV.sl (List.map eI (z.snd.snd.fst ++
  (F.addR z.fst z.snd.fst (max (List.length z.fst) (List.length z.snd.fst) - z.snd.snd.snd.snd) z.snd.snd.snd.snd z.snd.snd.snd.fst).fst) ++ [[(vI (F.addR z.fst z.snd.fst
  (max (List.length z.fst) (List.length z.snd.fst) - z.snd.snd.snd.snd) z.snd.snd.snd.snd z.snd.snd.snd.fst).snd)]]), []) else none else some (AV.sl (List.map eI
  (z.snd.snd.fst ++ (F.addR z.fst z.snd.fst (max (List.length z.fst) (List.length z.snd.fst) - z.snd.snd.snd.snd) z.snd.snd.snd.snd z.snd.snd.snd.fst).fst)), []) else none := (runFR_val).symm.trans (by kernel_rfl)

def encLad1 (a : List Int) (b : List Int) : List AV := [.sl (a.map eI), .sl (b.map eI)]

def encLad (a : (List Int) × (List Int)) : List AV := encLad1 a.1 a.2

theorem encLad_inj (a a' : (List Int) × (List Int)) (h : encLad a = encLad a') : a = a' := by
  simp only [encLad, encLad1] at h
  try simp [ints_inj, strs_inj, ents_inj, eEnt_iff, eLst_iff] at h
  grind

theorem unLad (a : List Int) (b : List Int) : unenc encLad ([AV.sl (List.map eI a), AV.sl (List.map eI b)]) = some (a, b) := unenc_of encLad_inj (a, b) rfl

def resLad1 (a : List Int) (b : List Int) : AV × Heap := (.sl ((F.lb (F.nv a + F.nv b)).map eI), [])

def preLad1 (a : List Int) (b : List Int) : Bool := F.nk 1000 a && F.nk 1000 b

noncomputable def oLad : Orc := orc 120 false encLad (fun a => preLad1 a.1 a.2) fun a => resLad1 a.1 a.2

theorem okLad : OrcOK Tryz.prog noG oLad := by
  refine mk_ok Tryz.f120 (keep := false) (by kernel_rfl) (by kernel_rfl) enLad_ok mixed (one_loop (x0 := loopN Tryz.f120 0) (by kernel_rfl) (lpo_ok ?_)) (by first | exact fun _ _ => ⟨rfl, rfl⟩ | (intro h; cases h)) ?_
  · rintro ⟨a, b, acc, c, k⟩ hp
    exact lpLad_ok a b acc c k hp
  rintro ⟨a, b⟩ hpre hok
  show (runF enLad false _ (encLad1 _ _)).val = some (resLad1 _ _)
  unfold encLad1 resLad1
  rw [evLad]
  have hpre : (F.nk 1000 a && F.nk 1000 b) = true := hpre
  have hpre2 := hpre
  rw [Bool.and_eq_true] at hpre2
  have l1 := F.nk_len hpre2.1
  have l2 := F.nk_len hpre2.2
  have hres : F.lb (F.nv a + F.nv b) = F.addL 0 a b := by
    obtain ⟨m, hm1, hm⟩ := F.nk_of hpre2.1
    obtain ⟨n, hn1, hn⟩ := F.nk_of hpre2.2
    have := F.addL_eq (m + n) m n 0 (Nat.le_refl _) (by decide)
    rw [Nat.zero_add] at this
    rw [hm1, hn1, F.nv_lb, F.nv_lb, ← this]
    rfl
  have hc := F.addR_c (F.nk_ok hpre2.1) (F.nk_ok hpre2.2) (max a.length b.length) 0 0 (by decide)
  have hl := F.addR_len a b (max a.length b.length) 0 0
  have hR := F.addL_R 0 a b
  have hb : Nat.ble (((F.addR a b (max a.length b.length) 0 0).1.length + 1) * 8) 140737488355328 = true := ble_t (by omega)
  simp only [unstLad, unstLad0, prlLad, outLad, etaEnt, etaLst, etaSnd, etaStrm, etaMas, Option.bind_some, List.length_map, unStrs, unInts, unBools, unEnts, unItms, unTrns, cond_true, cond_false, Bool.and_true, Bool.true_and, hpre, hres, hR, decide_true, Nat.zero_le, Nat.sub_zero, List.nil_append, List.length_nil, Int.le_refl, hb, (by decide : decide ((0 : Int) ≤ 1) = true)]
  cases hq : decide (0 < (F.addR a b (max a.length b.length) 0 0).2)
  · have hq := of_decide_eq_false hq
    simp [if_neg hq]
  · have hq := of_decide_eq_true hq
    simp [if_pos hq]
    rfl

end M

def F.subV (v : Int) : Int := bif decide (v < 0) then v + 10000 else v

def F.subC (v : Int) : Int := bif decide (v < 0) then 1 else 0

def F.subR (a b : List Int) : Nat → Nat → Int → List Int
  | 0, _, _ => []
  | n + 1, k, c => F.subV (F.at0 a k - c - F.at0 b k) :: F.subR a b n (k + 1) (F.subC (F.at0 a k - c - F.at0 b k))

theorem F.subR_ss (x y : Int) (a b : List Int) : ∀ n k c, F.subR (x :: a) (y :: b) n (k + 1) c = F.subR a b n k c
  | 0, k, c => rfl
  | n + 1, k, c => by rw [F.subR, F.subR, F.at0_s, F.at0_s, F.subR_ss]

theorem F.subR_sn (x : Int) (a : List Int) : ∀ n k c, F.subR (x :: a) [] n (k + 1) c = F.subR a [] n k c
  | 0, k, c => rfl
  | n + 1, k, c => by rw [F.subR, F.subR, F.at0_s, F.at0_nil, F.at0_nil, F.subR_sn]

theorem F.subL_R : ∀ (c : Int) (a b : List Int), F.subL c a b = F.subR a b a.length 0 c
  | c, [], b => by cases b <;> rfl
  | c, x :: a, [] => by
    rw [F.subL, List.length_cons, F.subR, F.at0_z, F.at0_nil, Int.sub_zero, F.subR_sn, ← F.subL_R]
    unfold F.subV F.subC
    by_cases h : x - c < 0
    · simp [h]
    · simp [h]
  | c, x :: a, y :: b => by
    rw [F.subL, List.length_cons, F.subR, F.at0_z, F.at0_z, F.subR_ss, ← F.subL_R]
    unfold F.subV F.subC
    by_cases h : x - c - y < 0
    · simp [h]
    · simp [h]

theorem F.subR_len (a b : List Int) : ∀ n k c, (F.subR a b n k c).length = n
  | 0, k, c => rfl
  | n + 1, k, c => by rw [F.subR]; simp only [List.length_cons, F.subR_len]

namespace M

def stLes (a : List Int) (b : List Int) (acc : List Int) (c : Int) (k : Nat) : St := ⟨[(7, vI k), (6, vI c), (5, .own 5), (1, .sl (b.map eI)), (0, .sl (a.map eI))], [(5, ⟨false, 3, 1, acc.map eI⟩)]⟩

def stLes1 (a : (List Int) × (List Int) × (List Int) × Int × Nat) : St := stLes a.1 a.2.1 a.2.2.1 a.2.2.2.1 a.2.2.2.2

theorem stLes_inj (a a' : (List Int) × (List Int) × (List Int) × Int × Nat) (h : stLes1 a = stLes1 a') : a = a' := by
  simp only [stLes1, stLes] at h
  try simp [ints_inj, strs_inj, ents_inj, eEnt_iff, eLst_iff] at h
  grind

theorem unstLes (a : List Int) (b : List Int) (acc : List Int) (c : Int) (k : Nat) : unenc stLes1 (St.mk [(7, (vI (↑k : Int))), (6, (vI c)), (5, .own 5), (1, AV.sl (List.map eI b)), (0, AV.sl (List.map eI a))] [(5, Blk.mk false 3 1 (List.map eI acc))]) = some (a, b, acc, c, k) := unenc_of stLes_inj (a, b, acc, c, k) rfl

theorem unstLes0 (a : List Int) (b : List Int)  : unenc stLes1 (St.mk [(7, (vI (0 : Int))), (6, (vI (0 : Int))), (5, .own 5), (1, AV.sl (List.map eI b)), (0, AV.sl (List.map eI a))] [(5, Blk.mk false 3 1 [])]) = some (a, b, [], 0, 0) := unenc_of stLes_inj (a, b, [], 0, 0) rfl

def outLes (a : List Int) (b : List Int) (acc : List Int) (c : Int) (k : Nat) : T (Ex × St) := .ret (.exit 0, ⟨[(5, .own 5)], [(5, ⟨false, 3, 1, (acc ++ F.subR a b (a.length - k) k c).map eI⟩)]⟩)

noncomputable def prlLes (a : List Int) (b : List Int) (acc : List Int) (c : Int) (k : Nat) : Bool := F.nk 1000 a && F.nk 1000 b && decide (0 ≤ c) && decide (c ≤ 1) && decide (acc.length ≤ k) && decide (k ≤ a.length)

noncomputable def lpLes : Nat × (St → T (Ex × St)) := (4, lpo [7, 6, 5, 1, 0] [5] stLes1 (fun a => prlLes a.1 a.2.1 a.2.2.1 a.2.2.2.1 a.2.2.2.2) fun a => outLes a.1 a.2.1 a.2.2.1 a.2.2.2.1 a.2.2.2.2)

noncomputable def enLes : Env := envH ty noG lks [oTrm] [] [] [lpLes]

theorem enLes_ok : EnvOK Tryz.prog enLes := by
  refine envH_ok lks_ok ty_ok ?_ ?_
  · simp only [List.forall_mem_cons]
    exact ⟨okTrm, by simp⟩
  · simp

theorem evLesL (a : List Int) (b : List Int) (acc : List Int) (c : Int) (k : Nat) : ((exec enLes (loopN Tryz.f135 0) (stLes a b acc c k)).bind (lessX ([7, 6, 5, 1, 0], [5]) ([5], [5]) ([], []))).val =
  (fun (q : Nat × AV) => (fun (q_1 : Bool) => (fun (q_2 : List (Nat × AV)) => (fun (q_3 : List (Nat × AV)) => (fun (q : List (Nat × AV)) => bif decide ((↑k : Int) <
  (↑(List.length (List.map eI a)) : Int)) then Option.bind (unenc (List.map eI) (List.map eI a)) fun (z : List Int) => (fun (q_4 : Int) => bif decide (k < List.length z)
  then bif decide ((↑k : Int) < (↑(List.length (List.map eI b)) : Int)) then Option.bind (unenc (List.map eI) (List.map eI b)) fun (z : List Int) => (fun (q_5 : Int) => bif
  decide (k < List.length z) then bif decide (q_5 < (0 : Int)) then bif q_1 then some (Ex.normal, St.mk q_3 [(5, Blk.mk false 3 1 (List.map eI acc ++ [[(vI (IntKind.wrap
  IntKind.i64 (q_5 + (10000 : Int))))]]))]) else none else bif q_1 then some (Ex.normal, St.mk q [(5, Blk.mk false 3 1 (List.map eI acc ++ [[(vI q_5)]]))]) else none else
  none) (IntKind.wrap IntKind.i64 (q_4 - List.getD z k (0 : Int))) else bif decide (q_4 < (0 : Int)) then bif q_1 then some (Ex.normal, St.mk q_3 [(5, Blk.mk false 3 1
  (List.map eI acc ++ [[(vI (IntKind.wrap IntKind.i64 (q_4 + (10000 : Int))))]]))]) else none else bif q_1 then some (Ex.normal, St.mk q [(5, Blk.mk false 3 1 (List.map eI
  acc ++ [[(vI q_4)]]))]) else none else none) (IntKind.wrap IntKind.i64 (List.getD z k (0 : Int) - c)) else some (Ex.exit (0 : Nat), St.mk [(5, .own 5)] [(5, Blk.mk false 3
  1 (List.map eI acc))])) (q :: (6, (vI (0 : Int))) :: q_2)) (q :: (6, (vI (1 : Int))) :: q_2)) [(5, .own 5), (1, AV.sl (List.map eI b)), (0, AV.sl (List.map eI a))])
  (Nat.ble ((List.length (List.map eI acc) + (1 : Nat)) * (8 : Nat)) (140737488355328 : Nat) && true)) (7, (vI (IntKind.wrap IntKind.i64 ((↑k : Int) + (1 : Int))))) := (execR_bind _ _ _).symm.trans (by kernel_rfl)

theorem lpLes_ok (a : List Int) (b : List Int) (acc : List Int) (c : Int) (k : Nat) (hp : prlLes a b acc c k = true) : ∀ ex s', (outLes a b acc c k).val = some (ex, s') → LoopOK enLes (loopN Tryz.f135 0) (stLes a b acc c k) ex s' := by
  simp only [prlLes, Bool.and_eq_true, decide_eq_true_eq] at hp
  obtain ⟨⟨⟨⟨⟨h1, h2⟩, h3⟩, h4⟩, h5⟩, h6⟩ := hp
  have l1 := F.nk_len h1
  have l2 := F.nk_len h2
  have o1 := F.nk_ok h1
  have o2 := F.nk_ok h2
  clear h1 h2
  refine loop_gen (st := fun p : List Int × Int × Nat => stLes a b p.1 p.2.1 p.2.2) (out := fun p => outLes a b p.1 p.2.1 p.2.2) (I := fun p => (0 ≤ p.2.1 ∧ p.2.1 ≤ 1) ∧ p.1.length ≤ p.2.2 ∧ p.2.2 ≤ a.length) (n := ([7, 6, 5, 1, 0], [5])) (e := ([5], [5])) (r := ([], [])) (fun p => a.length - p.2.2) ?_ (acc, c, k) ⟨⟨h3, h4⟩, h5, h6⟩
  rintro ⟨acc, c, k⟩ ⟨⟨g1, g2⟩, g3, g4⟩
  simp only at g1 g2 g3 g4
  by_cases hlt : k < a.length
  · right
    have hb : Nat.ble ((acc.length + 1) * 8) 140737488355328 = true := ble_t (by omega)
    have q1 := F.at0_ok o1 k
    have q2 := F.at0_ok o2 k
    have hn : a.length - k = (a.length - (k + 1)) + 1 := by omega
    have hw : IntKind.i64.wrap ((k : Int) + 1) = ((k + 1 : Nat) : Int) := by rw [wrap_id (by omega) (by omega)]; rfl
    have hcc : 0 ≤ F.subC (F.at0 a k - c - F.at0 b k) ∧ F.subC (F.at0 a k - c - F.at0 b k) ≤ 1 := by
      unfold F.subC
      cases decide (F.at0 a k - c - F.at0 b k < 0) <;> simp
    refine ⟨(acc ++ [F.subV (F.at0 a k - c - F.at0 b k)], F.subC (F.at0 a k - c - F.at0 b k), k + 1), ?_, rfl, ⟨hcc, by simp only [List.length_append, List.length_singleton]; omega, by simp only; omega⟩, by simp only; omega, ?_⟩
    · have hi : idx (k : Int) = some k := idx_n (by omega)
      have hy : a[k]? = some a[k] := List.getElem?_eq_getElem hlt
      have ea : F.at0 a k = a[k] := by simp [F.at0, hlt]
      rw [ea] at q1 ⊢
      generalize a[k] = x at hy ea q1 ⊢
      have w1 : IntKind.i64.wrap (x - c) = x - c := wrap_id (by omega) (by omega)
      by_cases cb : k < b.length
      · have hz : b[k]? = some b[k] := List.getElem?_eq_getElem cb
        have eb : F.at0 b k = b[k] := by simp [F.at0, cb]
        rw [eb] at q2 ⊢
        generalize b[k] = y at hz eb q2 ⊢
        have w2 : IntKind.i64.wrap (x - c - y) = x - c - y := wrap_id (by omega) (by omega)
        have w3 : IntKind.i64.wrap (x - c - y + 10000) = x - c - y + 10000 := wrap_id (by omega) (by omega)
        rw [evLesL]
        simp only [unTrm, preTrm1, unstLes, unstLes0, prlLes, outLes, etaEnt, etaLst, etaSnd, etaStrm, etaMas, Option.bind_some, List.length_map, unStrs, unInts, unBools, unEnts, unItms, unTrns, cond_true, cond_false, Bool.and_true, Bool.true_and, cast_lt hlt, cast_lt cb, decide_eq_true hlt, decide_eq_true cb, hi, hw, getD_at hy, getD_at hz, w1, w2, w3, hb, stLes, F.subV, F.subC]
        rw [List.map_append]
        cases decide (x - c - y < 0) <;> rfl
      · have eb : F.at0 b k = 0 := by simp [F.at0, cb]
        rw [eb, Int.sub_zero]
        have w3 : IntKind.i64.wrap (x - c + 10000) = x - c + 10000 := wrap_id (by omega) (by omega)
        have cb2 : ¬ (k : Int) < (b.length : Int) := by omega
        rw [evLesL]
        simp only [unTrm, preTrm1, unstLes, unstLes0, prlLes, outLes, etaEnt, etaLst, etaSnd, etaStrm, etaMas, Option.bind_some, List.length_map, unStrs, unInts, unBools, unEnts, unItms, unTrns, cond_true, cond_false, Bool.and_true, Bool.true_and, cast_lt hlt, decide_eq_false cb2, decide_eq_true hlt, hi, hw, getD_at hy, w1, w3, hb, stLes, F.subV, F.subC]
        rw [List.map_append]
        cases decide (x - c < 0) <;> rfl
    · simp only [outLes, hn, F.subR, Nat.add_sub_cancel, List.append_assoc, List.singleton_append]
  · have hk : k = a.length := by omega
    left
    refine ⟨(.exit 0, ⟨[(5, .own 5)], [(5, ⟨false, 3, 1, acc.map eI⟩)]⟩), ?_, ?_, by simp, rfl⟩
    · have ca2 : ¬ (k : Int) < (a.length : Int) := by omega
      rw [evLesL]
      simp only [unTrm, preTrm1, unstLes, unstLes0, prlLes, outLes, etaEnt, etaLst, etaSnd, etaStrm, etaMas, Option.bind_some, List.length_map, unStrs, unInts, unBools, unEnts, unItms, unTrns, cond_true, cond_false, Bool.and_true, Bool.true_and, decide_eq_false ca2]
    · have hn : a.length - k = 0 := by omega
      simp only [outLes, hn, F.subR, List.append_nil]
      rfl

theorem evLes (a : List Int) (b : List Int) : (runF enLes false Tryz.f135 [.sl (a.map eI), .sl (b.map eI)]).val =
  Option.bind (unenc stLes1 (St.mk [(7, (vI (0 : Int))), (6, (vI (0 : Int))), (5, .own 5), (1, AV.sl (List.map eI b)), (0, AV.sl (List.map eI a))] [(5, Blk.mk false 3 1
  [])])) fun (z : List Int × List Int × List Int × Int × Nat) => bif F.nk (1000 : Nat) z.fst && F.nk (1000 : Nat) z.snd.fst && decide ((0 : Int) ≤ z.snd.snd.snd.fst) &&
  decide (z.snd.snd.snd.fst ≤ (1 : Int)) && decide (List.length z.snd.snd.fst ≤ z.snd.snd.snd.snd) && decide (z.snd.snd.snd.snd ≤ List.length z.fst) && true then Option.bind
  (unenc encTrm [AV.sl (List.map eI (z.snd.snd.fst ++ F.subR z.fst z.snd.fst (List.length z.fst - z.snd.snd.snd.snd) z.snd.snd.snd.snd z.snd.snd.snd.fst))]) fun (z : List
  Int) => bif decide (List.length z ≤ (100000 : Nat)) then some (AV.sl (List.map eI (F.trimL z)), []) else none else none := (runFR_val).symm.trans (by kernel_rfl)

def encLes1 (a : List Int) (b : List Int) : List AV := [.sl (a.map eI), .sl (b.map eI)]

def encLes (a : (List Int) × (List Int)) : List AV := encLes1 a.1 a.2

theorem encLes_inj (a a' : (List Int) × (List Int)) (h : encLes a = encLes a') : a = a' := by
  simp only [encLes, encLes1] at h
  try simp [ints_inj, strs_inj, ents_inj, eEnt_iff, eLst_iff] at h
  grind

theorem unLes (a : List Int) (b : List Int) : unenc encLes ([AV.sl (List.map eI a), AV.sl (List.map eI b)]) = some (a, b) := unenc_of encLes_inj (a, b) rfl

def resLes1 (a : List Int) (b : List Int) : AV × Heap := (.sl ((F.lb (F.nv a - F.nv b)).map eI), [])

def preLes1 (a : List Int) (b : List Int) : Bool := F.nk 1000 a && F.nk 1000 b && decide (F.nv b ≤ F.nv a)

noncomputable def oLes : Orc := orc 135 false encLes (fun a => preLes1 a.1 a.2) fun a => resLes1 a.1 a.2

theorem okLes : OrcOK Tryz.prog noG oLes := by
  refine mk_ok Tryz.f135 (keep := false) (by kernel_rfl) (by kernel_rfl) enLes_ok mixed (one_loop (x0 := loopN Tryz.f135 0) (by kernel_rfl) (lpo_ok ?_)) (by first | exact fun _ _ => ⟨rfl, rfl⟩ | (intro h; cases h)) ?_
  · rintro ⟨a, b, acc, c, k⟩ hp
    exact lpLes_ok a b acc c k hp
  rintro ⟨a, b⟩ hpre hok
  show (runF enLes false _ (encLes1 _ _)).val = some (resLes1 _ _)
  unfold encLes1 resLes1
  rw [evLes]
  have hpre : (F.nk 1000 a && F.nk 1000 b && decide (F.nv b ≤ F.nv a)) = true := hpre
  have hpre2 := hpre
  rw [Bool.and_eq_true, Bool.and_eq_true, decide_eq_true_eq] at hpre2
  obtain ⟨⟨p1, p2⟩, p3⟩ := hpre2
  have l1 := F.nk_len p1
  have l2 := F.nk_len p2
  have hres : F.trimL (F.subR a b a.length 0 0) = F.lb (F.nv a - F.nv b) := by
    obtain ⟨m, hm1, hm⟩ := F.nk_of p1
    obtain ⟨n, hn1, hn⟩ := F.nk_of p2
    rw [← F.subL_R]
    rw [hm1, hn1, F.nv_lb, F.nv_lb] at p3 ⊢
    exact F.sub_lb p3
  have hl := F.subR_len a b a.length 0 0
  have hb : decide ((F.subR a b a.length 0 0).length ≤ 100000) = true := decide_eq_true (by omega)
  simp only [unTrm, preTrm1, unstLes, unstLes0, prlLes, outLes, etaEnt, etaLst, etaSnd, etaStrm, etaMas, Option.bind_some, List.length_map, unStrs, unInts, unBools, unEnts, unItms, unTrns, cond_true, cond_false, Bool.and_true, Bool.true_and, p1, p2, decide_true, Nat.zero_le, Nat.sub_zero, List.nil_append, List.length_nil, Int.le_refl, hb, hres, (by decide : decide ((0 : Int) ≤ 1) = true)]
  done

end M

end Go.Proofs.YtajmdlpanlbnjaaGreatDoor

namespace Go.Proofs.YtajmdlpanlbnjaaGreatDoor
open Go Go.RowKit
set_option linter.unusedVariables false
set_option linter.unusedSimpArgs false

def F.rowD (x : Int) : Int → List Int → List Int → List Int × Int
  | c, o :: os, y :: b => ((o + x * y + c) % 10000 :: (F.rowD x ((o + x * y + c) / 10000) os b).1, (F.rowD x ((o + x * y + c) / 10000) os b).2)
  | c, os, [] => (os, c)
  | c, [], _ :: _ => ([], c)

theorem F.rowD_nil (x c : Int) (os : List Int) : F.rowD x c os [] = (os, c) := by cases os <;> rfl

theorem F.mrow_D (x : Int) : ∀ (b os : List Int) (c : Int), b.length < os.length → F.mrow x c os b = (F.rowD x c os b).1.set b.length ((F.rowD x c os b).1.getD b.length 0 + (F.rowD x c os b).2)
  | [], o :: os, c, _ => by rw [F.mrow, F.rowD_nil]; rfl
  | y :: b, o :: os, c, h => by
    have ih := F.mrow_D x b os ((o + x * y + c) / 10000) (by simpa using h)
    rw [F.mrow, ih, F.rowD]
    rfl
  | [], [], c, h => by simp at h
  | y :: b, [], c, h => by simp at h

theorem F.rowD_len (x : Int) : ∀ (b os : List Int) (c : Int), (F.rowD x c os b).1.length = os.length
  | [], os, c => by rw [F.rowD_nil]
  | y :: b, o :: os, c => by rw [F.rowD]; simp only [List.length_cons, F.rowD_len]
  | y :: b, [], c => rfl

theorem F.rowD_ok {x : Int} (hx : 0 ≤ x ∧ x ≤ 9999) : ∀ (b os : List Int) (c : Int), F.okL b → F.okL os → (0 ≤ c ∧ c ≤ 9999) → F.okL (F.rowD x c os b).1 ∧ 0 ≤ (F.rowD x c os b).2 ∧ (F.rowD x c os b).2 ≤ 9999
  | [], os, c, _, ho, hc => by rw [F.rowD_nil]; exact ⟨ho, hc⟩
  | y :: b, o :: os, c, hb, ho2, hc => by
    have h3 := hb y (List.mem_cons_self ..)
    have hm := F.mul_bd hx h3
    have ho := ho2 o (List.mem_cons_self ..)
    obtain ⟨q1, q2⟩ := F.rowD_ok hx b os ((o + x * y + c) / 10000) (fun z hz => hb z (List.mem_cons_of_mem _ hz)) (fun z hz => ho2 z (List.mem_cons_of_mem _ hz)) (by omega)
    rw [F.rowD]
    exact ⟨F.okL_cons (by omega) q1, q2⟩
  | y :: b, [], c, _, _, hc => ⟨F.okL_nil, hc⟩

theorem F.rowD_z {x : Int} : ∀ (b os : List Int) (c : Int), b.length < os.length → F.zeroFrom b.length os → (F.rowD x c os b).1.getD b.length 0 = 0
  | [], o :: os, c, _, hz => by rw [F.rowD_nil]; exact hz o (by simp)
  | y :: b, o :: os, c, h, hz => by
    have := F.rowD_z (x := x) b os ((o + x * y + c) / 10000) (by simpa using h) (fun z h => hz z (by simpa using h))
    rw [F.rowD]
    simpa using this
  | [], [], c, h, _ => by simp at h
  | y :: b, [], c, h, _ => by simp at h

def F.okB (l : List Int) : Bool := l.all fun x => decide (0 ≤ x) && decide (x ≤ 9999)

theorem F.okB_iff {l : List Int} : F.okB l = true ↔ F.okL l := by
  unfold F.okB F.okL
  rw [List.all_eq_true]
  constructor
  · intro h x hx; have := h x hx; simpa using this
  · intro h x hx; have := h x hx; simpa using this

def F.zB (k : Nat) (l : List Int) : Bool := (l.drop k).all fun x => x == 0

theorem F.zB_iff {k : Nat} {l : List Int} : F.zB k l = true ↔ F.zeroFrom k l := by
  unfold F.zB F.zeroFrom
  rw [List.all_eq_true]
  constructor
  · intro h x hx; have := h x hx; simpa using this
  · intro h x hx; have := h x hx; simpa using this

theorem F.okL_app {a b : List Int} (h1 : F.okL a) (h2 : F.okL b) : F.okL (a ++ b) := fun x hx => by
  rcases List.mem_append.1 hx with h | h
  · exact h1 x h
  · exact h2 x h

theorem F.okL_drop {a : List Int} (k : Nat) (h : F.okL a) : F.okL (a.drop k) := fun x hx => h x (List.mem_of_mem_drop hx)

theorem F.okL_take {a : List Int} (k : Nat) (h : F.okL a) : F.okL (a.take k) := fun x hx => h x (List.mem_of_mem_take hx)

def F.row1 (x : Int) (b : List Int) (i : Nat) (out : List Int) : List Int := out.take i ++ F.mrow x 0 (out.drop i) b

namespace M

def stTin (a : List Int) (b : List Int) (i : Nat) (out : List Int) (c : Int) (k : Nat) : St := ⟨[(8, vI k), (7, vI c), (6, vI i), (5, .own 15), (1, .sl (b.map eI)), (0, .sl (a.map eI))], [(15, ⟨false, 3, 1, out.map eI⟩)]⟩

def stTin1 (a : (List Int) × (List Int) × Nat × (List Int) × Int × Nat) : St := stTin a.1 a.2.1 a.2.2.1 a.2.2.2.1 a.2.2.2.2.1 a.2.2.2.2.2

theorem stTin_inj (a a' : (List Int) × (List Int) × Nat × (List Int) × Int × Nat) (h : stTin1 a = stTin1 a') : a = a' := by
  simp only [stTin1, stTin] at h
  try simp [ints_inj, strs_inj, ents_inj, eEnt_iff, eLst_iff] at h
  grind

theorem unstTin (a : List Int) (b : List Int) (i : Nat) (out : List Int) (c : Int) (k : Nat) : unenc stTin1 (St.mk [(8, (vI (↑k : Int))), (7, (vI c)), (6, (vI (↑i : Int))), (5, .own 15), (1, AV.sl (List.map eI b)), (0, AV.sl (List.map eI a))] [(15, Blk.mk false 3 1 (List.map eI
  out))]) = some (a, b, i, out, c, k) := unenc_of stTin_inj (a, b, i, out, c, k) rfl

theorem unstTin0 (a : List Int) (b : List Int) (i : Nat) (out : List Int)  : unenc stTin1 (St.mk [(8, (vI (0 : Int))), (7, (vI (0 : Int))), (6, (vI (↑i : Int))), (5, .own 15), (1, AV.sl (List.map eI b)), (0, AV.sl (List.map eI a))] [(15, Blk.mk false 3 1
  (List.map eI out))]) = some (a, b, i, out, 0, 0) := unenc_of stTin_inj (a, b, i, out, 0, 0) rfl

def outTin (a : List Int) (b : List Int) (i : Nat) (out : List Int) (c : Int) (k : Nat) : T (Ex × St) := .ret (.exit 2, ⟨[(7, vI (F.rowD (a.getD i 0) c (out.drop (i + k)) (b.drop k)).2), (6, vI i), (5, .own 15), (1, .sl (b.map eI)), (0, .sl (a.map eI))], [(15, ⟨false, 3, 1, (out.take (i + k) ++ (F.rowD (a.getD i 0) c (out.drop (i + k)) (b.drop k)).1).map eI⟩)]⟩)

noncomputable def prlTin (a : List Int) (b : List Int) (i : Nat) (out : List Int) (c : Int) (k : Nat) : Bool := F.nk 400 a && F.nk 400 b && F.okB out && decide (0 ≤ c) && decide (c ≤ 9999) && decide (k ≤ b.length) && decide (i < a.length) && decide (out.length = a.length + b.length)

noncomputable def lpTin : Nat × (St → T (Ex × St)) := (7, lpo [8, 7, 6, 5, 1, 0] [15] stTin1 (fun a => prlTin a.1 a.2.1 a.2.2.1 a.2.2.2.1 a.2.2.2.2.1 a.2.2.2.2.2) fun a => outTin a.1 a.2.1 a.2.2.1 a.2.2.2.1 a.2.2.2.2.1 a.2.2.2.2.2)

def stTmz (a : List Int) (b : List Int) (out : List Int) (i : Nat) : St := ⟨[(6, vI i), (5, .own 15), (1, .sl (b.map eI)), (0, .sl (a.map eI))], [(15, ⟨false, 3, 1, out.map eI⟩)]⟩

def stTmz1 (a : (List Int) × (List Int) × (List Int) × Nat) : St := stTmz a.1 a.2.1 a.2.2.1 a.2.2.2

theorem stTmz_inj (a a' : (List Int) × (List Int) × (List Int) × Nat) (h : stTmz1 a = stTmz1 a') : a = a' := by
  simp only [stTmz1, stTmz] at h
  try simp [ints_inj, strs_inj, ents_inj, eEnt_iff, eLst_iff] at h
  grind

theorem unstTmz (a : List Int) (b : List Int) (out : List Int) (i : Nat) : unenc stTmz1 (St.mk [(6, (vI (↑i : Int))), (5, .own 15), (1, AV.sl (List.map eI b)), (0, AV.sl (List.map eI a))] [(15, Blk.mk false 3 1 (List.map eI out))]) = some (a, b, out, i) := unenc_of stTmz_inj (a, b, out, i) rfl

theorem unstTmz0 (a : List Int) (b : List Int) (out : List Int)  : unenc stTmz1 (St.mk [(6, (vI (0 : Int))), (5, .own 15), (1, AV.sl (List.map eI b)), (0, AV.sl (List.map eI a))] [(15, Blk.mk false 3 1 (List.map eI out))]) = some (a, b, out, 0) := unenc_of stTmz_inj (a, b, out, 0) rfl

def outTmz (a : List Int) (b : List Int) (out : List Int) (i : Nat) : T (Ex × St) := .ret (.exit 0, ⟨[(5, .own 15)], [(15, ⟨false, 3, 1, (out.take i ++ F.mulR b (a.drop i) (out.drop i)).map eI⟩)]⟩)

noncomputable def prlTmz (a : List Int) (b : List Int) (out : List Int) (i : Nat) : Bool := F.nk 400 a && F.nk 400 b && F.okB out && F.zB (i + b.length) out && decide (i ≤ a.length) && decide (out.length = a.length + b.length)

noncomputable def lpTmz : Nat × (St → T (Ex × St)) := (3, lpo [6, 5, 1, 0] [15] stTmz1 (fun a => prlTmz a.1 a.2.1 a.2.2.1 a.2.2.2) fun a => outTmz a.1 a.2.1 a.2.2.1 a.2.2.2)

noncomputable def enTmz : Env := envH ty noG lks [oTrm] [] [] [lpTmz, lpTin]

theorem enTmz_ok : EnvOK Tryz.prog enTmz := by
  refine envH_ok lks_ok ty_ok ?_ ?_
  · simp only [List.forall_mem_cons]
    exact ⟨okTrm, by simp⟩
  · simp

theorem evTinL (a : List Int) (b : List Int) (i : Nat) (out : List Int) (c : Int) (k : Nat) : ((exec enTmz (loopN Tryz.f137 1) (stTin a b i out c k)).bind (lessX ([8, 7, 6, 5, 1, 0], [15]) ([7, 6, 5, 1, 0], [15]) ([], []))).val =
  bif decide ((↑k : Int) < (↑(List.length (List.map eI b)) : Int)) then Option.bind (idx (IntKind.wrap IntKind.i64 ((↑i : Int) + (↑k : Int)))) fun (z : Nat) => bif decide (z
  < List.length (Blk.mk false 3 1 (List.map eI out)).rows) then Option.bind (unenc (List.map eI) (List.map eI out)) fun (z_1 : List Int) => bif decide (z < List.length z_1)
  then Option.bind (unenc (List.map eI) (List.map eI a)) fun (z_2 : List Int) => bif decide (i < List.length z_2) then Option.bind (unenc (List.map eI) (List.map eI b)) fun
  (z_3 : List Int) => bif decide (k < List.length z_3) then Option.bind (idx (IntKind.wrap IntKind.i64 ((↑i : Int) + (↑k : Int)))) fun (z_4 : Nat) => bif decide (z_4 <
  List.length (Blk.mk false 3 1 (List.map eI out)).rows) then Option.bind (unenc (List.map eI) (List.map eI out)) fun (z_5 : List Int) => bif decide (z_4 < List.length z_5)
  then some (Ex.normal, St.mk [(8, (vI (IntKind.wrap IntKind.i64 ((↑k : Int) + (1 : Int))))), (7, (vI (IntKind.wrap IntKind.i64 (Int.tdiv (IntKind.wrap IntKind.i64
  (IntKind.wrap IntKind.i64 (List.getD z_1 z (0 : Int) + IntKind.wrap IntKind.i64 (List.getD z_2 i (0 : Int) * List.getD z_3 k (0 : Int))) + c)) (10000 : Int))))), (6, (vI
  (↑i : Int))), (5, .own 15), (1, AV.sl (List.map eI b)), (0, AV.sl (List.map eI a))] [(15, Blk.mk false 3 1 (List.set (List.map eI out) z_4 [(vI (Int.tmod (IntKind.wrap
  IntKind.i64 (IntKind.wrap IntKind.i64 (List.getD z_1 z (0 : Int) + IntKind.wrap IntKind.i64 (List.getD z_2 i (0 : Int) * List.getD z_3 k (0 : Int))) + c)) (10000 :
  Int)))]))]) else none else none else none else none else none else none else some (Ex.exit (2 : Nat), St.mk [(7, (vI c)), (6, (vI (↑i : Int))), (5, .own 15), (1, AV.sl
  (List.map eI b)), (0, AV.sl (List.map eI a))] [(15, Blk.mk false 3 1 (List.map eI out))]) := (execR_bind _ _ _).symm.trans (by kernel_rfl)

theorem lpTin_ok (a : List Int) (b : List Int) (i : Nat) (out : List Int) (c : Int) (k : Nat) (hp : prlTin a b i out c k = true) : ∀ ex s', (outTin a b i out c k).val = some (ex, s') → LoopOK enTmz (loopN Tryz.f137 1) (stTin a b i out c k) ex s' := by
  simp only [prlTin, Bool.and_eq_true, decide_eq_true_eq] at hp
  obtain ⟨⟨⟨⟨⟨⟨⟨h1, h2⟩, h3⟩, h4⟩, h5⟩, h6⟩, h7⟩, h8⟩ := hp
  have l1 := F.nk_len h1
  have l2 := F.nk_len h2
  have o1 := F.nk_ok h1
  have o2 := F.nk_ok h2
  have h3 := F.okB_iff.1 h3
  have hx : a[i]? = some a[i] := List.getElem?_eq_getElem h7
  have hxg : a.getD i 0 = a[i] := by simp [hx]
  have hxo := o1 _ (List.getElem_mem h7)
  clear h1 h2
  refine loop_gen (st := fun p : List Int × Int × Nat => stTin a b i p.1 p.2.1 p.2.2) (out := fun p => outTin a b i p.1 p.2.1 p.2.2) (I := fun p => F.okL p.1 ∧ (0 ≤ p.2.1 ∧ p.2.1 ≤ 9999) ∧ p.2.2 ≤ b.length ∧ p.1.length = a.length + b.length) (n := ([8, 7, 6, 5, 1, 0], [15])) (e := ([7, 6, 5, 1, 0], [15])) (r := ([], [])) (fun p => b.length - p.2.2) ?_ (out, c, k) ⟨h3, ⟨h4, h5⟩, h6, h8⟩
  rintro ⟨out, c, k⟩ ⟨g0, ⟨g1, g2⟩, g3, g4⟩
  simp only at g0 g1 g2 g3 g4
  generalize hxe : a[i] = x at hx hxg hxo
  by_cases hlt : k < b.length
  · right
    have hy : b[k]? = some b[k] := List.getElem?_eq_getElem hlt
    have hyo := o2 _ (List.getElem_mem hlt)
    have hq : i + k < out.length := by omega
    have ho : out[i + k]? = some out[i + k] := List.getElem?_eq_getElem hq
    have hoo := g0 _ (List.getElem_mem hq)
    generalize b[k] = y at hy hyo
    generalize out[i + k] = o at ho hoo
    have hm := F.mul_bd hxo hyo
    have w0 : IntKind.i64.wrap ((i : Int) + (k : Int)) = ((i + k : Nat) : Int) := by rw [wrap_id (by omega) (by omega)]; rfl
    have w1 : IntKind.i64.wrap (x * y) = x * y := wrap_id (by omega) (by omega)
    have w2 : IntKind.i64.wrap (o + x * y) = o + x * y := wrap_id (by omega) (by omega)
    have w3 : IntKind.i64.wrap (o + x * y + c) = o + x * y + c := wrap_id (by omega) (by omega)
    have hs : (0 : Int) ≤ o + x * y + c := by omega
    have w4 : IntKind.i64.wrap ((o + x * y + c) % 10000) = (o + x * y + c) % 10000 := wrap_id (by omega) (by omega)
    have w5 : IntKind.i64.wrap ((o + x * y + c) / 10000) = (o + x * y + c) / 10000 := wrap_id (by omega) (by omega)
    have m1 : (o + x * y + c).tmod 10000 = (o + x * y + c) % 10000 := Int.tmod_eq_emod_of_nonneg hs
    have m2 : (o + x * y + c).tdiv 10000 = (o + x * y + c) / 10000 := Int.tdiv_eq_ediv_of_nonneg hs
    have hw : IntKind.i64.wrap ((k : Int) + 1) = ((k + 1 : Nat) : Int) := by rw [wrap_id (by omega) (by omega)]; rfl
    have i1 : idx (k : Int) = some k := idx_n (by omega)
    have i2 : idx (i : Int) = some i := idx_n (by omega)
    have i3 : idx ((i + k : Nat) : Int) = some (i + k) := idx_n (by omega)
    have hd := drop_y hy
    have hod := drop_y ho
    refine ⟨(out.set (i + k) ((o + x * y + c) % 10000), (o + x * y + c) / 10000, k + 1), ?_, rfl, ⟨?_, by simp only; omega, by simp only; omega, by simp only [List.length_set]; omega⟩, by simp only; omega, ?_⟩
    · rw [evTinL]
      simp only [unTrm, preTrm1, unstTmz, unstTin, unstTmz0, unstTin0, prlTmz, prlTin, outTmz, outTin, etaEnt, etaLst, etaSnd, etaStrm, etaMas, Option.bind_some, List.length_map, unStrs, unInts, unBools, unEnts, unItms, unTrns, cond_true, cond_false, Bool.and_true, Bool.true_and, cast_lt hlt, decide_eq_true hlt, decide_eq_true h7, decide_eq_true hq, i1, i2, w0, i3, hw, getD_at hx, getD_at hy, getD_at ho, w1, w2, w3, m1, m2, w4, w5, stTin]
      rw [List.map_set]
      rfl
    · intro z hz
      rcases List.mem_or_eq_of_mem_set hz with h | rfl
      · exact g0 z h
      · omega
    · have e1 : (out.set (i + k) ((o + x * y + c) % 10000)).drop (i + (k + 1)) = out.drop (i + k + 1) := by
        rw [List.drop_set_of_lt (by omega)]
        rfl
      have e2 : (out.set (i + k) ((o + x * y + c) % 10000)).take (i + (k + 1)) = out.take (i + k) ++ [(o + x * y + c) % 10000] := by
        rw [show i + (k + 1) = i + k + 1 from rfl, List.take_succ_eq_append_getElem (by simpa using hq), List.take_set_of_le (Nat.le_refl _), List.getElem_set_self]
      simp only [outTin, hxg, e1, e2, hd, hod, F.rowD, List.append_assoc, List.singleton_append]
  · have hk : k = b.length := by omega
    left
    refine ⟨(.exit 2, ⟨[(7, vI c), (6, vI i), (5, .own 15), (1, .sl (b.map eI)), (0, .sl (a.map eI))], [(15, ⟨false, 3, 1, out.map eI⟩)]⟩), ?_, ?_, by simp, rfl⟩
    · have c2 : ¬ (k : Int) < (b.length : Int) := by omega
      rw [evTinL]
      simp only [unTrm, preTrm1, unstTmz, unstTin, unstTmz0, unstTin0, prlTmz, prlTin, outTmz, outTin, etaEnt, etaLst, etaSnd, etaStrm, etaMas, Option.bind_some, List.length_map, unStrs, unInts, unBools, unEnts, unItms, unTrns, cond_true, cond_false, Bool.and_true, Bool.true_and, decide_eq_false c2]
    · simp only [outTin, hk, List.drop_length, F.rowD_nil, List.take_append_drop]
      rfl

end M
end Go.Proofs.YtajmdlpanlbnjaaGreatDoor
