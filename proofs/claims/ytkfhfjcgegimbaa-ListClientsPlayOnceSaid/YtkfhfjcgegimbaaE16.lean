/- What is proved here: copies of clients, Play, and how a client takes a list, on plain data (no statement of the seat). -/
import Derived.Test.YtkfhfjcgegimbaaE15
namespace Go.Proofs.Ytkfhfjcgegimbaa
open Go Go.RowKit
set_option linter.unusedVariables false
set_option linter.unusedSimpArgs false

/-- There is room for a copy of a client's queue. -/
def F.qOK (l : List Itm) : Bool := l.all fun x => decide (x.entry.extra.length * 16 ≤ 140737488355328)

def F.noL : Lst := ⟨0, 0, 0, [], false⟩

/-- The fault of a client that takes a list, and with which number it goes on. -/
def F.begin (c : Cli) (l : Lst) (b : Int) : Int × Int :=
  bif F.cliF c b != 0 then (0, F.cliF c b) else
  bif c.begun then (bif F.check c.last != 0 then (0, F.check c.last) else (c.next, F.fol c.last l)) else
  bif (c.next != 0) || (c.lost != 0) || F.lt 0 c.queue.length || !F.sameL c.last F.noL then (0, 3) else (IntKind.i64.wrap (l.first + (F.start l b).1), (F.start l b).2.2)

/-- Clients are alike. -/
def F.sameI (a b : Itm) : Bool := (a.number == b.number) && F.sameE a.entry b.entry

def F.sameQ (l : List (Itm × Itm)) : Bool := l.all fun p => F.sameI p.1 p.2

def F.sameC (a b : Cli) : Bool := (a.begun == b.begun) && (a.next == b.next) && (a.lost == b.lost) && decide (a.queue.length = b.queue.length) && F.sameL a.last b.last && F.sameQ (a.queue.zip b.queue)

theorem F.sameI_refl (a : Itm) : F.sameI a a = true := by simp [F.sameI, F.sameE_refl]

theorem F.sameC_refl (a : Cli) : F.sameC a a = true := by
  simp only [F.sameC, F.sameL_refl, F.sameQ, F.zip_all F.sameI F.sameI_refl]
  simp

attribute [grind ext] Cli Lst

namespace M


theorem all_itms (xs : List Itm) : ((xs.map eItm).all fun r => Nat.beq (List.length r) 8) = true := by simp [eItm]

theorem appItms' (xs : List Itm) (n : Int) (e : Ent) : xs.map eItm ++ [[vI n, vS e.uri, vI e.milli, vB e.brk, vI e.date, vS e.key, vB e.gap, .sl (e.extra.map eStr)]] = (xs ++ [(⟨n, e⟩ : Itm)]).map eItm := by simp [eItm]

def stCpC (c : Cli) (acc : List Itm) (k : Nat) : St := ⟨[(13, vI k), (12, vI c.queue.length), (11, .sl (c.queue.map eItm)), (3, .own 3), (2, .ptr 2 0 0), (1, .ptr 1 0 0)], [(9000, ⟨false, 32, 7, c.last.entries.map eEnt⟩), (3, ⟨false, 61, 8, acc.map eItm⟩), (2, ⟨true, 0, 0, [[vB false, vI 0, vI 0, vI 0, vI 0, .e0, vB false, .e0, vI 0]]⟩), (1, ⟨true, 0, 0, [[vB c.begun, vI c.next, vI c.last.target, vI c.last.first, vI c.last.breaks, .own 9000, vB c.last.ended, .sl (c.queue.map eItm), vI c.lost]]⟩)]⟩

def stCpC1 (a : Cli × (List Itm) × Nat) : St := stCpC a.1 a.2.1 a.2.2

theorem stCpC_inj (a a' : Cli × (List Itm) × Nat) (h : stCpC1 a = stCpC1 a') : a = a' := by
  simp only [stCpC1, stCpC] at h
  try simp [strs_inj, ents_inj, eEnt_iff, eLst_iff, ints_inj, eTrn_iff, itms_inj, eCli_iff, eItm_iff] at h
  grind

theorem unstCpC (c : Cli) (acc : List Itm) (k : Nat) : unenc stCpC1 (St.mk [(13, (vI (↑k : Int))), (12, (vI (↑(List.length c.queue) : Int))), (11, AV.sl (List.map eItm c.queue)), (3, .own 3), (2, .ptr 2 0 0), (1, .ptr 1 0 0)] [(9000, Blk.mk
  false 32 7 (List.map eEnt c.last.entries)), (3, Blk.mk false 61 8 (List.map eItm acc)), (2, Blk.mk true 0 0 [[(vB false), (vI (0 : Int)), (vI (0 : Int)), (vI (0 : Int)),
  (vI (0 : Int)), AV.e0, (vB false), AV.e0, (vI (0 : Int))]]), (1, Blk.mk true 0 0 [[(vB c.begun), (vI c.next), (vI c.last.target), (vI c.last.first), (vI c.last.breaks),
  .own 9000, (vB c.last.ended), AV.sl (List.map eItm c.queue), (vI c.lost)]])]) = some (c, acc, k) := unenc_of stCpC_inj (c, acc, k) rfl

theorem unstCpC0 (c : Cli) : unenc stCpC1 (St.mk [(13, (vI (0 : Int))), (12, (vI (↑(List.length c.queue) : Int))), (11, AV.sl (List.map eItm c.queue)), (3, .own 3), (2, .ptr 2 0 0), (1, .ptr 1 0 0)] [(9000, Blk.mk
  false 32 7 (List.map eEnt c.last.entries)), (3, Blk.mk false 61 8 []), (2, Blk.mk true 0 0 [[(vB false), (vI (0 : Int)), (vI (0 : Int)), (vI (0 : Int)), (vI (0 : Int)),
  AV.e0, (vB false), AV.e0, (vI (0 : Int))]]), (1, Blk.mk true 0 0 [[(vB c.begun), (vI c.next), (vI c.last.target), (vI c.last.first), (vI c.last.breaks), .own 9000, (vB
  c.last.ended), AV.sl (List.map eItm c.queue), (vI c.lost)]])]) = some (c, [], 0) := unenc_of stCpC_inj (c, [], 0) rfl

def outCpC (c : Cli) (acc : List Itm) (k : Nat) : T (Ex × St) := .ret (.exit 0, ⟨[(3, .own 3), (2, .ptr 2 0 0), (1, .ptr 1 0 0)], [(9000, ⟨false, 32, 7, c.last.entries.map eEnt⟩), (3, ⟨false, 61, 8, (acc ++ c.queue.drop k).map eItm⟩), (2, ⟨true, 0, 0, [[vB false, vI 0, vI 0, vI 0, vI 0, .e0, vB false, .e0, vI 0]]⟩), (1, ⟨true, 0, 0, [[vB c.begun, vI c.next, vI c.last.target, vI c.last.first, vI c.last.breaks, .own 9000, vB c.last.ended, .sl (c.queue.map eItm), vI c.lost]]⟩)]⟩)

noncomputable def prlCpC (c : Cli) (acc : List Itm) (k : Nat) : Bool := decide (c.queue.length ≤ 100000) && decide (k ≤ c.queue.length) && decide (acc.length = k) && F.qOK c.queue

noncomputable def lpCpC : Nat × (St → T (Ex × St)) := (4, lpo [13, 12, 11, 3, 2, 1] [9000, 3, 2, 1] stCpC1 (fun a => prlCpC a.1 a.2.1 a.2.2) fun a => outCpC a.1 a.2.1 a.2.2)

noncomputable def enCpC : Env := envH ty noG lks [oCpL, oCpE] [] [] [lpCpC]

theorem enCpC_ok : EnvOK Try.prog enCpC := by
  refine envH_ok lks_ok ty_ok ?_ ?_
  · simp only [List.forall_mem_cons]
    exact ⟨okCpL, okCpE, by simp⟩
  · simp

theorem evCpCL (c : Cli) (acc : List Itm) (k : Nat) : ((exec enCpC (loopN Try.f61 0) (stCpC c acc k)).bind (lessX ([13, 12, 11, 3, 2, 1], [9000, 3, 2, 1]) ([3, 2, 1], [9000, 3, 2, 1]) ([], []))).val =
  bif decide ((↑k : Int) < (↑(List.length c.queue) : Int)) then Option.bind (unenc (List.map eItm) (List.map eItm c.queue)) fun (z : List Itm) => bif decide (k < List.length
  z) then Option.bind (unenc encCpE [AV.agg [(vS (List.getD z k (Itm.mk (0 : Int) (Ent.mk (ByteArray.mk (Array.mk [])) (0 : Int) false (0 : Int) (ByteArray.mk (Array.mk []))
  false []))).entry.uri), (vI (List.getD z k (Itm.mk (0 : Int) (Ent.mk (ByteArray.mk (Array.mk [])) (0 : Int) false (0 : Int) (ByteArray.mk (Array.mk [])) false
  []))).entry.milli), (vB (List.getD z k (Itm.mk (0 : Int) (Ent.mk (ByteArray.mk (Array.mk [])) (0 : Int) false (0 : Int) (ByteArray.mk (Array.mk [])) false
  []))).entry.brk), (vI (List.getD z k (Itm.mk (0 : Int) (Ent.mk (ByteArray.mk (Array.mk [])) (0 : Int) false (0 : Int) (ByteArray.mk (Array.mk [])) false []))).entry.date),
  (vS (List.getD z k (Itm.mk (0 : Int) (Ent.mk (ByteArray.mk (Array.mk [])) (0 : Int) false (0 : Int) (ByteArray.mk (Array.mk [])) false []))).entry.key), (vB (List.getD z k
  (Itm.mk (0 : Int) (Ent.mk (ByteArray.mk (Array.mk [])) (0 : Int) false (0 : Int) (ByteArray.mk (Array.mk [])) false []))).entry.gap), AV.sl (List.map eStr (List.getD z k
  (Itm.mk (0 : Int) (Ent.mk (ByteArray.mk (Array.mk [])) (0 : Int) false (0 : Int) (ByteArray.mk (Array.mk [])) false []))).entry.extra)]]) fun (z_1 : Ent) => bif decide
  (List.length z_1.extra * (16 : Nat) ≤ (140737488355328 : Nat)) then bif Nat.ble ((List.length (List.map eItm acc) + (1 : Nat)) * (96 : Nat)) (140737488355328 : Nat) &&
  true then some (Ex.normal, St.mk [(13, (vI (IntKind.wrap IntKind.i64 ((↑k : Int) + (1 : Int))))), (12, (vI (↑(List.length c.queue) : Int))), (11, AV.sl (List.map eItm
  c.queue)), (3, .own 3), (2, .ptr 2 0 0), (1, .ptr 1 0 0)] [(9000, Blk.mk false 32 7 (List.map eEnt c.last.entries)), (3, Blk.mk false 61 8 (List.map eItm acc ++ [[(vI
  (List.getD z k (Itm.mk (0 : Int) (Ent.mk (ByteArray.mk (Array.mk [])) (0 : Int) false (0 : Int) (ByteArray.mk (Array.mk [])) false []))).number), (vS z_1.uri), (vI
  z_1.milli), (vB z_1.brk), (vI z_1.date), (vS z_1.key), (vB z_1.gap), AV.sl (List.map eStr z_1.extra)]])), (2, Blk.mk true 0 0 [[(vB false), (vI (0 : Int)), (vI (0 : Int)),
  (vI (0 : Int)), (vI (0 : Int)), AV.e0, (vB false), AV.e0, (vI (0 : Int))]]), (1, Blk.mk true 0 0 [[(vB c.begun), (vI c.next), (vI c.last.target), (vI c.last.first), (vI
  c.last.breaks), .own 9000, (vB c.last.ended), AV.sl (List.map eItm c.queue), (vI c.lost)]])]) else none else none else none else some (Ex.exit (0 : Nat), St.mk [(3, .own
  3), (2, .ptr 2 0 0), (1, .ptr 1 0 0)] [(9000, Blk.mk false 32 7 (List.map eEnt c.last.entries)), (3, Blk.mk false 61 8 (List.map eItm acc)), (2, Blk.mk true 0 0 [[(vB
  false), (vI (0 : Int)), (vI (0 : Int)), (vI (0 : Int)), (vI (0 : Int)), AV.e0, (vB false), AV.e0, (vI (0 : Int))]]), (1, Blk.mk true 0 0 [[(vB c.begun), (vI c.next), (vI
  c.last.target), (vI c.last.first), (vI c.last.breaks), .own 9000, (vB c.last.ended), AV.sl (List.map eItm c.queue), (vI c.lost)]])]) := by kernel_rfl

theorem lpCpC_ok (c : Cli) (acc : List Itm) (k : Nat) (hp : prlCpC c acc k = true) : ∀ ex s', (outCpC c acc k).val = some (ex, s') → LoopOK enCpC (loopN Try.f61 0) (stCpC c acc k) ex s' := by
  simp only [prlCpC, Bool.and_eq_true, decide_eq_true_eq] at hp
  obtain ⟨⟨⟨h1, h2⟩, h3⟩, h4⟩ := hp
  intro ex s' hh
  refine loop_fold (xs := c.queue) (st := stCpC c) (f := fun a y => a ++ [y]) (fin := fun a => (.exit 0, ⟨[(3, .own 3), (2, .ptr 2 0 0), (1, .ptr 1 0 0)], [(9000, ⟨false, 32, 7, c.last.entries.map eEnt⟩), (3, ⟨false, 61, 8, a.map eItm⟩), (2, ⟨true, 0, 0, [[vB false, vI 0, vI 0, vI 0, vI 0, .e0, vB false, .e0, vI 0]]⟩), (1, ⟨true, 0, 0, [[vB c.begun, vI c.next, vI c.last.target, vI c.last.first, vI c.last.breaks, .own 9000, vB c.last.ended, .sl (c.queue.map eItm), vI c.lost]]⟩)]⟩)) (I := fun a k => a.length = k) (n := ([13, 12, 11, 3, 2, 1], [9000, 3, 2, 1])) (e := ([3, 2, 1], [9000, 3, 2, 1])) (r := ([], [])) ?_ (fun _ => ⟨by simp, rfl⟩) (fun _ _ => rfl) ?_ acc k h2 h3 ex s' (by rw [F.fold_app]; exact hh)
  · intro a _
    rw [evCpCL]; simp
  · intro a k y hy hI
    have hlt := lt_at hy
    have he : decide (y.entry.extra.length * 16 ≤ 140737488355328) = true := List.all_eq_true.1 h4 y (List.mem_of_getElem? hy)
    have hb : Nat.ble ((a.length + 1) * 96) 140737488355328 = true := ble_t (by omega)
    refine ⟨?_, by simp [hI]⟩
    rw [evCpCL]
    simp only [unCpL, unCpE, unCpLw, unCpEw, preCpL1, preCpE1, unstCpC, unstCpC0, prlCpC, outCpC, etaEnt, etaLst, Option.bind_some, List.length_map, unStrs, unInts, unBools, unEnts, unItms, unTrns, cond_true, cond_false, Bool.and_true, Bool.true_and, cast_lt hlt, decide_eq_true hlt, next_at hlt (by omega : c.queue.length ≤ 9223372036854775807), getD_at hy, stCpC, he, hb, appItms']

theorem evCpC (c : Cli) : (runF enCpC true Try.f61 [.agg (eCli c)]).val =
  Option.bind (unenc encCpL [AV.agg [(vI c.last.target), (vI c.last.first), (vI c.last.breaks), AV.sl (List.map eEnt c.last.entries), (vB c.last.ended)]]) fun (z : Lst) =>
  bif decide (List.length z.entries * (88 : Nat) ≤ (140737488355328 : Nat)) && List.all z.entries fun (e : Ent) => decide (List.length e.extra * (16 : Nat) ≤
  (140737488355328 : Nat)) then Option.bind (unenc stCpC1 (St.mk [(13, (vI (0 : Int))), (12, (vI (↑(List.length (List.map eItm c.queue)) : Int))), (11, AV.sl (List.map eItm
  c.queue)), (3, .own 3), (2, .ptr 2 0 0), (1, .ptr 1 0 0)] [(9000, Blk.mk false 32 7 (List.map eEnt z.entries)), (3, Blk.mk false 61 8 []), (2, Blk.mk true 0 0 [[(vB
  false), (vI (0 : Int)), (vI (0 : Int)), (vI (0 : Int)), (vI (0 : Int)), AV.e0, (vB false), AV.e0, (vI (0 : Int))]]), (1, Blk.mk true 0 0 [[(vB c.begun), (vI c.next), (vI
  z.target), (vI z.first), (vI z.breaks), .own 9000, (vB z.ended), AV.sl (List.map eItm c.queue), (vI c.lost)]])])) fun (z : Cli × List Itm × Nat) => bif decide (List.length
  z.fst.queue ≤ (100000 : Nat)) && decide (z.snd.snd ≤ List.length z.fst.queue) && decide (List.length z.snd.fst = z.snd.snd) && F.qOK z.fst.queue && true then some (AV.agg
  [(vB z.fst.begun), (vI z.fst.next), (vI z.fst.last.target), (vI z.fst.last.first), (vI z.fst.last.breaks), .own 0, (vB z.fst.last.ended), .own 1, (vI z.fst.lost)], [(0,
  Blk.mk false 32 7 (List.map eEnt z.fst.last.entries)), (1, Blk.mk false 61 8 (List.map eItm (z.snd.fst ++ List.drop z.snd.snd z.fst.queue)))]) else none else none := by kernel_rfl

def encCpC1 (c : Cli) : List AV := [.agg (eCli c)]

def encCpC (a : Cli) : List AV := encCpC1 a

theorem encCpC_inj (a a' : Cli) (h : encCpC a = encCpC a') : a = a' := by
  simp only [encCpC, encCpC1] at h
  try simp [strs_inj, ents_inj, eEnt_iff, eLst_iff, ints_inj, eTrn_iff, itms_inj, eCli_iff, eItm_iff] at h
  grind

theorem unCpC (c : Cli) : unenc encCpC ([AV.agg [(vB c.begun), (vI c.next), (vI c.last.target), (vI c.last.first), (vI c.last.breaks), AV.sl (List.map eEnt c.last.entries), (vB c.last.ended), AV.sl (List.map
  eItm c.queue), (vI c.lost)]]) = some (c) := unenc_of encCpC_inj (c) rfl

def resCpC1 (c : Cli) : AV × Heap := (.agg [vB c.begun, vI c.next, vI c.last.target, vI c.last.first, vI c.last.breaks, .own 0, vB c.last.ended, .own 1, vI c.lost], [(0, ⟨false, 32, 7, c.last.entries.map eEnt⟩), (1, ⟨false, 61, 8, c.queue.map eItm⟩)])

def preCpC1 (c : Cli) : Bool := decide (c.last.entries.length * 88 ≤ 140737488355328) && c.last.entries.all (fun e => decide (e.extra.length * 16 ≤ 140737488355328)) && decide (c.queue.length ≤ 100000) && F.qOK c.queue

noncomputable def oCpC : Orc := orc 61 false encCpC (fun a => preCpC1 a) fun a => resCpC1 a

theorem okCpC : OrcOK Try.prog noG oCpC := by
  refine mk_ok Try.f61 (keep := true) (by kernel_rfl) (by kernel_rfl) enCpC_ok mixed (one_loop (x0 := loopN Try.f61 0) (by kernel_rfl) (lpo_ok ?_)) (by first | exact fun _ _ => ⟨rfl, rfl⟩ | (intro h; cases h)) ?_
  · rintro ⟨c, acc, k⟩ hp
    exact lpCpC_ok c acc k hp
  rintro c hpre hok
  show (runF enCpC true _ (encCpC1 _)).val = some (resCpC1 _)
  unfold encCpC1 resCpC1
  rw [evCpC]
  simp only [preCpC1, Bool.and_eq_true] at hpre
  obtain ⟨⟨⟨h1, h2⟩, h3⟩, h4⟩ := hpre
  simp only [unCpL, unCpE, unCpLw, unCpEw, preCpL1, preCpE1, unstCpC, unstCpC0, prlCpC, outCpC, etaEnt, etaLst, Option.bind_some, List.length_map, unStrs, unInts, unBools, unEnts, unItms, unTrns, cond_true, cond_false, Bool.and_true, Bool.true_and, h1, h2, h3, h4, List.drop_zero, Nat.zero_le, decide_true, List.nil_append, List.length_nil, List.map_nil]

theorem evRCp (c : Cli) : (runF en0 true Try.f63 [.agg (eCli c)]).val =
  bif Nat.ble (List.length (List.map eItm c.queue) * (96 : Nat)) (140737488355328 : Nat) && List.all (List.map eItm c.queue) fun (r : Row) => Nat.beq (List.length r) (TI.mk
  false (1 : Nat) [] [AV.e0] (61 : Nat) (8 : Nat) (96 : Nat) [(vI (0 : Int)), (vS (ByteArray.mk (Array.mk []))), (vI (0 : Int)), (vB false), (vI (0 : Int)), (vS
  (ByteArray.mk (Array.mk []))), (vB false), AV.e0] none (4 : Nat) []).esize then some (AV.agg [(vB c.begun), (vI c.next), (vI c.last.target), (vI c.last.first), (vI
  c.last.breaks), AV.sl (List.map eEnt c.last.entries), (vB c.last.ended), .own 0, (vI c.lost)], [(0, Blk.mk false 61 8 (List.map eItm c.queue))]) else none := by kernel_rfl

def encRCp1 (c : Cli) : List AV := [.agg (eCli c)]

def encRCp (a : Cli) : List AV := encRCp1 a

theorem encRCp_inj (a a' : Cli) (h : encRCp a = encRCp a') : a = a' := by
  simp only [encRCp, encRCp1] at h
  try simp [strs_inj, ents_inj, eEnt_iff, eLst_iff, ints_inj, eTrn_iff, itms_inj, eCli_iff, eItm_iff] at h
  grind

theorem unRCp (c : Cli) : unenc encRCp ([AV.agg [(vB c.begun), (vI c.next), (vI c.last.target), (vI c.last.first), (vI c.last.breaks), AV.sl (List.map eEnt c.last.entries), (vB c.last.ended), AV.sl (List.map
  eItm c.queue), (vI c.lost)]]) = some (c) := unenc_of encRCp_inj (c) rfl

def resRCp1 (c : Cli) : AV × Heap := (.agg [vB c.begun, vI c.next, vI c.last.target, vI c.last.first, vI c.last.breaks, .sl (c.last.entries.map eEnt), vB c.last.ended, .own 0, vI c.lost], [(0, ⟨false, 61, 8, c.queue.map eItm⟩)])

def preRCp1 (c : Cli) : Bool := decide (c.queue.length ≤ 100000)

noncomputable def oRCp : Orc := orc 63 false encRCp (fun a => preRCp1 a) fun a => resRCp1 a

theorem okRCp : OrcOK Try.prog noG oRCp := by
  refine mk_ok Try.f63 (keep := true) (by kernel_rfl) (by kernel_rfl) en0_ok mixed (no_loops (by kernel_rfl)) (by first | exact fun _ _ => ⟨rfl, rfl⟩ | (intro h; cases h)) ?_
  rintro c hpre hok
  show (runF en0 true _ (encRCp1 _)).val = some (resRCp1 _)
  unfold encRCp1 resRCp1
  rw [evRCp]
  simp only [preRCp1, decide_eq_true_eq] at hpre
  have hb : Nat.ble (c.queue.length * 96) 140737488355328 = true := ble_t (by omega)
  simp only [etaEnt, etaLst, Option.bind_some, List.length_map, unStrs, unInts, unBools, unEnts, unItms, unTrns, cond_true, cond_false, Bool.and_true, Bool.true_and, hb, all_itms, List.nil_append]

noncomputable def enBeg : Env := envH ty noG lks [oClF, oChk, oFol, oLsL, oStA] [] [] []

theorem enBeg_ok : EnvOK Try.prog enBeg := by
  refine envH_ok lks_ok ty_ok ?_ ?_
  · simp only [List.forall_mem_cons]
    exact ⟨okClF, okChk, okFol, okLsL, okStA, by simp⟩
  · simp

theorem evBeg (c : Cli) (l : Lst) (b : Int) : (runF enBeg false Try.f60 [.agg (eCli c), .agg (eLst l), vI b]).val =
  Option.bind (unenc encClF [AV.agg [(vB c.begun), (vI c.next), (vI c.last.target), (vI c.last.first), (vI c.last.breaks), AV.sl (List.map eEnt c.last.entries), (vB
  c.last.ended), AV.sl (List.map eItm c.queue), (vI c.lost)], (vI b)]) fun (z : Cli × Int) => bif F.cliF z.fst z.snd != (0 : Int) then some (AV.tup [(vI (0 : Int)), (vI
  (F.cliF z.fst z.snd))], []) else bif c.begun then Option.bind (unenc encChk [AV.agg [(vI c.last.target), (vI c.last.first), (vI c.last.breaks), AV.sl (List.map eEnt
  c.last.entries), (vB c.last.ended)]]) fun (z : Lst) => bif F.check z != (0 : Int) then some (AV.tup [(vI (0 : Int)), (vI (F.check z))], []) else Option.bind (unenc encFol
  [AV.agg [(vI c.last.target), (vI c.last.first), (vI c.last.breaks), AV.sl (List.map eEnt c.last.entries), (vB c.last.ended)], AV.agg [(vI l.target), (vI l.first), (vI
  l.breaks), AV.sl (List.map eEnt l.entries), (vB l.ended)]]) fun (z : Lst × Lst) => bif decide (F.check z.fst = (0 : Int)) && decide (F.check z.snd = (0 : Int)) then some
  (AV.tup [(vI c.next), (vI (F.fol z.fst z.snd))], []) else none else bif !bif bif c.next != (0 : Int) then true else c.lost != (0 : Int) then true else decide ((0 : Int) <
  (↑(List.length (List.map eItm c.queue)) : Int)) then bif !bif bif c.next != (0 : Int) then true else c.lost != (0 : Int) then true else decide ((0 : Int) < (↑(List.length
  (List.map eItm c.queue)) : Int)) then Option.bind (unenc encLsL [AV.agg [(vI c.last.target), (vI c.last.first), (vI c.last.breaks), AV.sl (List.map eEnt c.last.entries),
  (vB c.last.ended)], AV.agg [(vI (0 : Int)), (vI (0 : Int)), (vI (0 : Int)), AV.sl [], (vB false)]]) fun (z : Lst × Lst) => bif bif bif bif c.next != (0 : Int) then true
  else c.lost != (0 : Int) then true else decide ((0 : Int) < (↑(List.length (List.map eItm c.queue)) : Int)) then true else !F.sameL z.fst z.snd then some (AV.tup [(vI (0 :
  Int)), (vI (3 : Int))], []) else Option.bind (unenc encStA [AV.agg [(vI l.target), (vI l.first), (vI l.breaks), AV.sl (List.map eEnt l.entries), (vB l.ended)], (vI b)])
  fun (z : Lst × Int) => some (AV.tup [(vI (IntKind.wrap IntKind.i64 (l.first + (F.start z.fst z.snd).fst))), (vI (F.start z.fst z.snd).snd.snd)], []) else bif !bif bif
  c.next != (0 : Int) then true else c.lost != (0 : Int) then true else decide ((0 : Int) < (↑(List.length (List.map eItm c.queue)) : Int)) then none else some (AV.tup [(vI
  (0 : Int)), (vI (3 : Int))], []) else bif !bif bif c.next != (0 : Int) then true else c.lost != (0 : Int) then true else decide ((0 : Int) < (↑(List.length (List.map eItm
  c.queue)) : Int)) then Option.bind (unenc encLsL [AV.agg [(vI c.last.target), (vI c.last.first), (vI c.last.breaks), AV.sl (List.map eEnt c.last.entries), (vB
  c.last.ended)], AV.unk]) fun (z : Lst × Lst) => bif bif bif bif c.next != (0 : Int) then true else c.lost != (0 : Int) then true else decide ((0 : Int) < (↑(List.length
  (List.map eItm c.queue)) : Int)) then true else !F.sameL z.fst z.snd then some (AV.tup [(vI (0 : Int)), (vI (3 : Int))], []) else Option.bind (unenc encStA [AV.agg [(vI
  l.target), (vI l.first), (vI l.breaks), AV.sl (List.map eEnt l.entries), (vB l.ended)], (vI b)]) fun (z : Lst × Int) => some (AV.tup [(vI (IntKind.wrap IntKind.i64
  (l.first + (F.start z.fst z.snd).fst))), (vI (F.start z.fst z.snd).snd.snd)], []) else bif !bif bif c.next != (0 : Int) then true else c.lost != (0 : Int) then true else
  decide ((0 : Int) < (↑(List.length (List.map eItm c.queue)) : Int)) then none else some (AV.tup [(vI (0 : Int)), (vI (3 : Int))], []) := by kernel_rfl

def encBeg1 (c : Cli) (l : Lst) (b : Int) : List AV := [.agg (eCli c), .agg (eLst l), vI b]

def encBeg (a : Cli × Lst × Int) : List AV := encBeg1 a.1 a.2.1 a.2.2

theorem encBeg_inj (a a' : Cli × Lst × Int) (h : encBeg a = encBeg a') : a = a' := by
  simp only [encBeg, encBeg1] at h
  try simp [strs_inj, ents_inj, eEnt_iff, eLst_iff, ints_inj, eTrn_iff, itms_inj, eCli_iff, eItm_iff] at h
  grind

theorem unBeg (c : Cli) (l : Lst) (b : Int) : unenc encBeg ([AV.agg [(vB c.begun), (vI c.next), (vI c.last.target), (vI c.last.first), (vI c.last.breaks), AV.sl (List.map eEnt c.last.entries), (vB c.last.ended), AV.sl (List.map
  eItm c.queue), (vI c.lost)], AV.agg [(vI l.target), (vI l.first), (vI l.breaks), AV.sl (List.map eEnt l.entries), (vB l.ended)], (vI b)]) = some (c, l, b) := unenc_of encBeg_inj (c, l, b) rfl

theorem unBegw (c : Cli) (l_target : Int) (l_first : Int) (l_breaks : Int) (l_entries : List Ent) (l_ended : Bool) (b : Int) : unenc encBeg ([AV.agg [(vB c.begun), (vI c.next), (vI c.last.target), (vI c.last.first), (vI c.last.breaks), AV.sl (List.map eEnt c.last.entries), (vB c.last.ended), AV.sl (List.map
  eItm c.queue), (vI c.lost)], AV.agg [(vI l_target), (vI l_first), (vI l_breaks), AV.sl (List.map eEnt l_entries), (vB l_ended)], (vI b)]) = some (c, (Lst.mk l_target l_first l_breaks l_entries l_ended), b) := unenc_of encBeg_inj (c, (Lst.mk l_target l_first l_breaks l_entries l_ended), b) rfl

def resBeg1 (c : Cli) (l : Lst) (b : Int) : AV × Heap := (.tup [vI (F.begin c l b).1, vI (F.begin c l b).2], [])

def preBeg1 (c : Cli) (l : Lst) (b : Int) : Bool := decide (F.check l = 0)

noncomputable def oBeg : Orc := orc 60 false encBeg (fun a => preBeg1 a.1 a.2.1 a.2.2) fun a => resBeg1 a.1 a.2.1 a.2.2

theorem okBeg : OrcOK Try.prog noG oBeg := by
  refine mk_ok Try.f60 (keep := false) (by kernel_rfl) (by kernel_rfl) enBeg_ok mixed (no_loops (by kernel_rfl)) (by first | exact fun _ _ => ⟨rfl, rfl⟩ | (intro h; cases h)) ?_
  rintro ⟨c, l, b⟩ hpre hok
  show (runF enBeg false _ (encBeg1 _ _ _)).val = some (resBeg1 _ _ _)
  unfold encBeg1 resBeg1
  rw [evBeg]
  simp only [preBeg1, decide_eq_true_eq] at hpre
  simp only [unClF, unChk, unFol, unLsL, unStA, unChkw, unFolw, unLsLw, unStAw, preClF1, preChk1, preFol1, preLsL1, preStA1, etaEnt, etaLst, Option.bind_some, List.length_map, unStrs, unInts, unBools, unEnts, unItms, unTrns, cond_true, cond_false, Bool.and_true, Bool.true_and, hpre, F.begin, F.lt, F.noL]
  have hu : unenc encLsL [.agg [.v (.int .i64 c.last.target), .v (.int .i64 c.last.first), .v (.int .i64 c.last.breaks), .sl (c.last.entries.map eEnt), .v (.bool c.last.ended)], .agg [.v (.int .i64 0), .v (.int .i64 0), .v (.int .i64 0), .sl [], .v (.bool false)]] = some (c.last, ⟨0, 0, 0, [], false⟩) := unenc_of encLsL_inj (c.last, ⟨0, 0, 0, [], false⟩) rfl
  rw [hu]
  simp only [Option.bind_some]
  cases F.cliF c b != 0
  · cases c.begun
    · by_cases hq : 0 < (c.queue.length : Int) <;> simp only [hq, decide_true, decide_false] <;> cases (c.next != 0) <;> cases (c.lost != 0) <;> cases F.sameL c.last ⟨0, 0, 0, [], false⟩ <;> rfl
    · by_cases hc : F.check c.last = 0
      · simp only [hc, bne_self_eq_false, decide_true, Bool.and_self, cond_true, cond_false]
      · have hb : (F.check c.last != 0) = true := by simp [hc]
        simp only [hb, cond_true, cond_false]
  · rfl

def stSmC (a : Cli) (b : Cli) (k : Nat) : St := ⟨[(5, vI k), (3, .ptr 3 0 0), (2, .ptr 2 0 0)], [(3, ⟨true, 0, 0, [eCli b]⟩), (2, ⟨true, 0, 0, [eCli a]⟩)]⟩

def stSmC1 (a : Cli × Cli × Nat) : St := stSmC a.1 a.2.1 a.2.2

theorem stSmC_inj (a a' : Cli × Cli × Nat) (h : stSmC1 a = stSmC1 a') : a = a' := by
  simp only [stSmC1, stSmC] at h
  try simp [strs_inj, ents_inj, eEnt_iff, eLst_iff, ints_inj, eTrn_iff, itms_inj, eCli_iff, eItm_iff] at h
  grind

theorem unstSmC (a : Cli) (b : Cli) (k : Nat) : unenc stSmC1 (St.mk [(5, (vI (↑k : Int))), (3, .ptr 3 0 0), (2, .ptr 2 0 0)] [(3, Blk.mk true 0 0 [[(vB b.begun), (vI b.next), (vI b.last.target), (vI b.last.first), (vI b.last.breaks),
  AV.sl (List.map eEnt b.last.entries), (vB b.last.ended), AV.sl (List.map eItm b.queue), (vI b.lost)]]), (2, Blk.mk true 0 0 [[(vB a.begun), (vI a.next), (vI
  a.last.target), (vI a.last.first), (vI a.last.breaks), AV.sl (List.map eEnt a.last.entries), (vB a.last.ended), AV.sl (List.map eItm a.queue), (vI a.lost)]])]) = some (a, b, k) := unenc_of stSmC_inj (a, b, k) rfl

theorem unstSmC0 (a : Cli) (b : Cli) : unenc stSmC1 (St.mk [(5, (vI (0 : Int))), (3, .ptr 3 0 0), (2, .ptr 2 0 0)] [(3, Blk.mk true 0 0 [[(vB b.begun), (vI b.next), (vI b.last.target), (vI b.last.first), (vI b.last.breaks),
  AV.sl (List.map eEnt b.last.entries), (vB b.last.ended), AV.sl (List.map eItm b.queue), (vI b.lost)]]), (2, Blk.mk true 0 0 [[(vB a.begun), (vI a.next), (vI
  a.last.target), (vI a.last.first), (vI a.last.breaks), AV.sl (List.map eEnt a.last.entries), (vB a.last.ended), AV.sl (List.map eItm a.queue), (vI a.lost)]])]) = some (a, b, 0) := unenc_of stSmC_inj (a, b, 0) rfl

def outSmC (a : Cli) (b : Cli) (k : Nat) : T (Ex × St) := .ifB (F.sameQ ((a.queue.zip b.queue).drop k)) (.ret (.exit 0, ⟨[], []⟩)) (.ret (.ret, ⟨[(4, vB false)], []⟩))

noncomputable def prlSmC (a : Cli) (b : Cli) (k : Nat) : Bool := decide (a.queue.length ≤ 9223372036854775807) && decide (k ≤ a.queue.length) && decide (a.queue.length = b.queue.length)

noncomputable def lpSmC : Nat × (St → T (Ex × St)) := (4, lpo [5, 3, 2] [3, 2] stSmC1 (fun a => prlSmC a.1 a.2.1 a.2.2) fun a => outSmC a.1 a.2.1 a.2.2)

noncomputable def enSmC : Env := envH ty noG lks [oSmL, oSmE] [] [] [lpSmC]

theorem enSmC_ok : EnvOK Try.prog enSmC := by
  refine envH_ok lks_ok ty_ok ?_ ?_
  · simp only [List.forall_mem_cons]
    exact ⟨okSmL, okSmE, by simp⟩
  · simp

theorem evSmCL (a : Cli) (b : Cli) (k : Nat) : ((exec enSmC (loopN Try.f32 0) (stSmC a b k)).bind (lessX ([5, 3, 2], [3, 2]) ([], []) ([4], []))).val =
  bif decide ((↑k : Int) < (↑(List.length (List.map eItm a.queue)) : Int)) then Option.bind (unenc (List.map eItm) (List.map eItm a.queue)) fun (z : List Itm) => bif decide
  (k < List.length z) then Option.bind (unenc (List.map eItm) (List.map eItm b.queue)) fun (z_1 : List Itm) => bif decide (k < List.length z_1) then bif !(List.getD z k
  (Itm.mk (0 : Int) (Ent.mk (ByteArray.mk (Array.mk [])) (0 : Int) false (0 : Int) (ByteArray.mk (Array.mk [])) false []))).number != (List.getD z_1 k (Itm.mk (0 : Int)
  (Ent.mk (ByteArray.mk (Array.mk [])) (0 : Int) false (0 : Int) (ByteArray.mk (Array.mk [])) false []))).number then Option.bind (unenc (List.map eItm) (List.map eItm
  a.queue)) fun (z_2 : List Itm) => bif decide (k < List.length z_2) then bif !(List.getD z k (Itm.mk (0 : Int) (Ent.mk (ByteArray.mk (Array.mk [])) (0 : Int) false (0 :
  Int) (ByteArray.mk (Array.mk [])) false []))).number != (List.getD z_1 k (Itm.mk (0 : Int) (Ent.mk (ByteArray.mk (Array.mk [])) (0 : Int) false (0 : Int) (ByteArray.mk
  (Array.mk [])) false []))).number then Option.bind (unenc (List.map eItm) (List.map eItm b.queue)) fun (z_3 : List Itm) => bif decide (k < List.length z_3) then bif
  !(List.getD z k (Itm.mk (0 : Int) (Ent.mk (ByteArray.mk (Array.mk [])) (0 : Int) false (0 : Int) (ByteArray.mk (Array.mk [])) false []))).number != (List.getD z_1 k
  (Itm.mk (0 : Int) (Ent.mk (ByteArray.mk (Array.mk [])) (0 : Int) false (0 : Int) (ByteArray.mk (Array.mk [])) false []))).number then Option.bind (unenc encSmE [AV.agg
  [(vS (List.getD z_2 k (Itm.mk (0 : Int) (Ent.mk (ByteArray.mk (Array.mk [])) (0 : Int) false (0 : Int) (ByteArray.mk (Array.mk [])) false []))).entry.uri), (vI (List.getD
  z_2 k (Itm.mk (0 : Int) (Ent.mk (ByteArray.mk (Array.mk [])) (0 : Int) false (0 : Int) (ByteArray.mk (Array.mk [])) false []))).entry.milli), (vB (List.getD z_2 k (Itm.mk
  (0 : Int) (Ent.mk (ByteArray.mk (Array.mk [])) (0 : Int) false (0 : Int) (ByteArray.mk (Array.mk [])) false []))).entry.brk), (vI (List.getD z_2 k (Itm.mk (0 : Int)
  (Ent.mk (ByteArray.mk (Array.mk [])) (0 : Int) false (0 : Int) (ByteArray.mk (Array.mk [])) false []))).entry.date), (vS (List.getD z_2 k (Itm.mk (0 : Int) (Ent.mk
  (ByteArray.mk (Array.mk [])) (0 : Int) false (0 : Int) (ByteArray.mk (Array.mk [])) false []))).entry.key), (vB (List.getD z_2 k (Itm.mk (0 : Int) (Ent.mk (ByteArray.mk
  (Array.mk [])) (0 : Int) false (0 : Int) (ByteArray.mk (Array.mk [])) false []))).entry.gap), AV.sl (List.map eStr (List.getD z_2 k (Itm.mk (0 : Int) (Ent.mk (ByteArray.mk
  (Array.mk [])) (0 : Int) false (0 : Int) (ByteArray.mk (Array.mk [])) false []))).entry.extra)], AV.agg [(vS (List.getD z_3 k (Itm.mk (0 : Int) (Ent.mk (ByteArray.mk
  (Array.mk [])) (0 : Int) false (0 : Int) (ByteArray.mk (Array.mk [])) false []))).entry.uri), (vI (List.getD z_3 k (Itm.mk (0 : Int) (Ent.mk (ByteArray.mk (Array.mk []))
  (0 : Int) false (0 : Int) (ByteArray.mk (Array.mk [])) false []))).entry.milli), (vB (List.getD z_3 k (Itm.mk (0 : Int) (Ent.mk (ByteArray.mk (Array.mk [])) (0 : Int)
  false (0 : Int) (ByteArray.mk (Array.mk [])) false []))).entry.brk), (vI (List.getD z_3 k (Itm.mk (0 : Int) (Ent.mk (ByteArray.mk (Array.mk [])) (0 : Int) false (0 : Int)
  (ByteArray.mk (Array.mk [])) false []))).entry.date), (vS (List.getD z_3 k (Itm.mk (0 : Int) (Ent.mk (ByteArray.mk (Array.mk [])) (0 : Int) false (0 : Int) (ByteArray.mk
  (Array.mk [])) false []))).entry.key), (vB (List.getD z_3 k (Itm.mk (0 : Int) (Ent.mk (ByteArray.mk (Array.mk [])) (0 : Int) false (0 : Int) (ByteArray.mk (Array.mk []))
  false []))).entry.gap), AV.sl (List.map eStr (List.getD z_3 k (Itm.mk (0 : Int) (Ent.mk (ByteArray.mk (Array.mk [])) (0 : Int) false (0 : Int) (ByteArray.mk (Array.mk []))
  false []))).entry.extra)]]) fun (z_4 : Ent × Ent) => bif bif (List.getD z k (Itm.mk (0 : Int) (Ent.mk (ByteArray.mk (Array.mk [])) (0 : Int) false (0 : Int) (ByteArray.mk
  (Array.mk [])) false []))).number != (List.getD z_1 k (Itm.mk (0 : Int) (Ent.mk (ByteArray.mk (Array.mk [])) (0 : Int) false (0 : Int) (ByteArray.mk (Array.mk [])) false
  []))).number then true else !F.sameE z_4.fst z_4.snd then some (Ex.ret, St.mk [(4, (vB false))] []) else some (Ex.normal, St.mk [(5, (vI (IntKind.wrap IntKind.i64 ((↑k :
  Int) + (1 : Int))))), (3, .ptr 3 0 0), (2, .ptr 2 0 0)] [(3, Blk.mk true 0 0 [[(vB b.begun), (vI b.next), (vI b.last.target), (vI b.last.first), (vI b.last.breaks), AV.sl
  (List.map eEnt b.last.entries), (vB b.last.ended), AV.sl (List.map eItm b.queue), (vI b.lost)]]), (2, Blk.mk true 0 0 [[(vB a.begun), (vI a.next), (vI a.last.target), (vI
  a.last.first), (vI a.last.breaks), AV.sl (List.map eEnt a.last.entries), (vB a.last.ended), AV.sl (List.map eItm a.queue), (vI a.lost)]])]) else bif !(List.getD z k
  (Itm.mk (0 : Int) (Ent.mk (ByteArray.mk (Array.mk [])) (0 : Int) false (0 : Int) (ByteArray.mk (Array.mk [])) false []))).number != (List.getD z_1 k (Itm.mk (0 : Int)
  (Ent.mk (ByteArray.mk (Array.mk [])) (0 : Int) false (0 : Int) (ByteArray.mk (Array.mk [])) false []))).number then none else some (Ex.ret, St.mk [(4, (vB false))] [])
  else none else bif !(List.getD z k (Itm.mk (0 : Int) (Ent.mk (ByteArray.mk (Array.mk [])) (0 : Int) false (0 : Int) (ByteArray.mk (Array.mk [])) false []))).number !=
  (List.getD z_1 k (Itm.mk (0 : Int) (Ent.mk (ByteArray.mk (Array.mk [])) (0 : Int) false (0 : Int) (ByteArray.mk (Array.mk [])) false []))).number then none else bif
  !(List.getD z k (Itm.mk (0 : Int) (Ent.mk (ByteArray.mk (Array.mk [])) (0 : Int) false (0 : Int) (ByteArray.mk (Array.mk [])) false []))).number != (List.getD z_1 k
  (Itm.mk (0 : Int) (Ent.mk (ByteArray.mk (Array.mk [])) (0 : Int) false (0 : Int) (ByteArray.mk (Array.mk [])) false []))).number then none else bif !(List.getD z k (Itm.mk
  (0 : Int) (Ent.mk (ByteArray.mk (Array.mk [])) (0 : Int) false (0 : Int) (ByteArray.mk (Array.mk [])) false []))).number != (List.getD z_1 k (Itm.mk (0 : Int) (Ent.mk
  (ByteArray.mk (Array.mk [])) (0 : Int) false (0 : Int) (ByteArray.mk (Array.mk [])) false []))).number then Option.bind (unenc encSmE [AV.agg [(vS (List.getD z_2 k (Itm.mk
  (0 : Int) (Ent.mk (ByteArray.mk (Array.mk [])) (0 : Int) false (0 : Int) (ByteArray.mk (Array.mk [])) false []))).entry.uri), (vI (List.getD z_2 k (Itm.mk (0 : Int)
  (Ent.mk (ByteArray.mk (Array.mk [])) (0 : Int) false (0 : Int) (ByteArray.mk (Array.mk [])) false []))).entry.milli), (vB (List.getD z_2 k (Itm.mk (0 : Int) (Ent.mk
  (ByteArray.mk (Array.mk [])) (0 : Int) false (0 : Int) (ByteArray.mk (Array.mk [])) false []))).entry.brk), (vI (List.getD z_2 k (Itm.mk (0 : Int) (Ent.mk (ByteArray.mk
  (Array.mk [])) (0 : Int) false (0 : Int) (ByteArray.mk (Array.mk [])) false []))).entry.date), (vS (List.getD z_2 k (Itm.mk (0 : Int) (Ent.mk (ByteArray.mk (Array.mk []))
  (0 : Int) false (0 : Int) (ByteArray.mk (Array.mk [])) false []))).entry.key), (vB (List.getD z_2 k (Itm.mk (0 : Int) (Ent.mk (ByteArray.mk (Array.mk [])) (0 : Int) false
  (0 : Int) (ByteArray.mk (Array.mk [])) false []))).entry.gap), AV.sl (List.map eStr (List.getD z_2 k (Itm.mk (0 : Int) (Ent.mk (ByteArray.mk (Array.mk [])) (0 : Int) false
  (0 : Int) (ByteArray.mk (Array.mk [])) false []))).entry.extra)], AV.unk]) fun (z_3 : Ent × Ent) => bif bif (List.getD z k (Itm.mk (0 : Int) (Ent.mk (ByteArray.mk
  (Array.mk [])) (0 : Int) false (0 : Int) (ByteArray.mk (Array.mk [])) false []))).number != (List.getD z_1 k (Itm.mk (0 : Int) (Ent.mk (ByteArray.mk (Array.mk [])) (0 :
  Int) false (0 : Int) (ByteArray.mk (Array.mk [])) false []))).number then true else !F.sameE z_3.fst z_3.snd then some (Ex.ret, St.mk [(4, (vB false))] []) else some
  (Ex.normal, St.mk [(5, (vI (IntKind.wrap IntKind.i64 ((↑k : Int) + (1 : Int))))), (3, .ptr 3 0 0), (2, .ptr 2 0 0)] [(3, Blk.mk true 0 0 [[(vB b.begun), (vI b.next), (vI
  b.last.target), (vI b.last.first), (vI b.last.breaks), AV.sl (List.map eEnt b.last.entries), (vB b.last.ended), AV.sl (List.map eItm b.queue), (vI b.lost)]]), (2, Blk.mk
  true 0 0 [[(vB a.begun), (vI a.next), (vI a.last.target), (vI a.last.first), (vI a.last.breaks), AV.sl (List.map eEnt a.last.entries), (vB a.last.ended), AV.sl (List.map
  eItm a.queue), (vI a.lost)]])]) else bif !(List.getD z k (Itm.mk (0 : Int) (Ent.mk (ByteArray.mk (Array.mk [])) (0 : Int) false (0 : Int) (ByteArray.mk (Array.mk []))
  false []))).number != (List.getD z_1 k (Itm.mk (0 : Int) (Ent.mk (ByteArray.mk (Array.mk [])) (0 : Int) false (0 : Int) (ByteArray.mk (Array.mk [])) false []))).number
  then none else some (Ex.ret, St.mk [(4, (vB false))] []) else none else bif !(List.getD z k (Itm.mk (0 : Int) (Ent.mk (ByteArray.mk (Array.mk [])) (0 : Int) false (0 :
  Int) (ByteArray.mk (Array.mk [])) false []))).number != (List.getD z_1 k (Itm.mk (0 : Int) (Ent.mk (ByteArray.mk (Array.mk [])) (0 : Int) false (0 : Int) (ByteArray.mk
  (Array.mk [])) false []))).number then none else bif !(List.getD z k (Itm.mk (0 : Int) (Ent.mk (ByteArray.mk (Array.mk [])) (0 : Int) false (0 : Int) (ByteArray.mk
  (Array.mk [])) false []))).number != (List.getD z_1 k (Itm.mk (0 : Int) (Ent.mk (ByteArray.mk (Array.mk [])) (0 : Int) false (0 : Int) (ByteArray.mk (Array.mk [])) false
  []))).number then none else bif !(List.getD z k (Itm.mk (0 : Int) (Ent.mk (ByteArray.mk (Array.mk [])) (0 : Int) false (0 : Int) (ByteArray.mk (Array.mk [])) false
  []))).number != (List.getD z_1 k (Itm.mk (0 : Int) (Ent.mk (ByteArray.mk (Array.mk [])) (0 : Int) false (0 : Int) (ByteArray.mk (Array.mk [])) false []))).number then
  Option.bind (unenc (List.map eItm) (List.map eItm b.queue)) fun (z_2 : List Itm) => bif decide (k < List.length z_2) then bif !(List.getD z k (Itm.mk (0 : Int) (Ent.mk
  (ByteArray.mk (Array.mk [])) (0 : Int) false (0 : Int) (ByteArray.mk (Array.mk [])) false []))).number != (List.getD z_1 k (Itm.mk (0 : Int) (Ent.mk (ByteArray.mk
  (Array.mk [])) (0 : Int) false (0 : Int) (ByteArray.mk (Array.mk [])) false []))).number then Option.bind (unenc encSmE [AV.unk, AV.agg [(vS (List.getD z_2 k (Itm.mk (0 :
  Int) (Ent.mk (ByteArray.mk (Array.mk [])) (0 : Int) false (0 : Int) (ByteArray.mk (Array.mk [])) false []))).entry.uri), (vI (List.getD z_2 k (Itm.mk (0 : Int) (Ent.mk
  (ByteArray.mk (Array.mk [])) (0 : Int) false (0 : Int) (ByteArray.mk (Array.mk [])) false []))).entry.milli), (vB (List.getD z_2 k (Itm.mk (0 : Int) (Ent.mk (ByteArray.mk
  (Array.mk [])) (0 : Int) false (0 : Int) (ByteArray.mk (Array.mk [])) false []))).entry.brk), (vI (List.getD z_2 k (Itm.mk (0 : Int) (Ent.mk (ByteArray.mk (Array.mk []))
  (0 : Int) false (0 : Int) (ByteArray.mk (Array.mk [])) false []))).entry.date), (vS (List.getD z_2 k (Itm.mk (0 : Int) (Ent.mk (ByteArray.mk (Array.mk [])) (0 : Int) false
  (0 : Int) (ByteArray.mk (Array.mk [])) false []))).entry.key), (vB (List.getD z_2 k (Itm.mk (0 : Int) (Ent.mk (ByteArray.mk (Array.mk [])) (0 : Int) false (0 : Int)
  (ByteArray.mk (Array.mk [])) false []))).entry.gap), AV.sl (List.map eStr (List.getD z_2 k (Itm.mk (0 : Int) (Ent.mk (ByteArray.mk (Array.mk [])) (0 : Int) false (0 : Int)
  (ByteArray.mk (Array.mk [])) false []))).entry.extra)]]) fun (z_3 : Ent × Ent) => bif bif (List.getD z k (Itm.mk (0 : Int) (Ent.mk (ByteArray.mk (Array.mk [])) (0 : Int)
  false (0 : Int) (ByteArray.mk (Array.mk [])) false []))).number != (List.getD z_1 k (Itm.mk (0 : Int) (Ent.mk (ByteArray.mk (Array.mk [])) (0 : Int) false (0 : Int)
  (ByteArray.mk (Array.mk [])) false []))).number then true else !F.sameE z_3.fst z_3.snd then some (Ex.ret, St.mk [(4, (vB false))] []) else some (Ex.normal, St.mk [(5, (vI
  (IntKind.wrap IntKind.i64 ((↑k : Int) + (1 : Int))))), (3, .ptr 3 0 0), (2, .ptr 2 0 0)] [(3, Blk.mk true 0 0 [[(vB b.begun), (vI b.next), (vI b.last.target), (vI
  b.last.first), (vI b.last.breaks), AV.sl (List.map eEnt b.last.entries), (vB b.last.ended), AV.sl (List.map eItm b.queue), (vI b.lost)]]), (2, Blk.mk true 0 0 [[(vB
  a.begun), (vI a.next), (vI a.last.target), (vI a.last.first), (vI a.last.breaks), AV.sl (List.map eEnt a.last.entries), (vB a.last.ended), AV.sl (List.map eItm a.queue),
  (vI a.lost)]])]) else bif !(List.getD z k (Itm.mk (0 : Int) (Ent.mk (ByteArray.mk (Array.mk [])) (0 : Int) false (0 : Int) (ByteArray.mk (Array.mk [])) false []))).number
  != (List.getD z_1 k (Itm.mk (0 : Int) (Ent.mk (ByteArray.mk (Array.mk [])) (0 : Int) false (0 : Int) (ByteArray.mk (Array.mk [])) false []))).number then none else some
  (Ex.ret, St.mk [(4, (vB false))] []) else none else bif !(List.getD z k (Itm.mk (0 : Int) (Ent.mk (ByteArray.mk (Array.mk [])) (0 : Int) false (0 : Int) (ByteArray.mk
  (Array.mk [])) false []))).number != (List.getD z_1 k (Itm.mk (0 : Int) (Ent.mk (ByteArray.mk (Array.mk [])) (0 : Int) false (0 : Int) (ByteArray.mk (Array.mk [])) false
  []))).number then none else bif !(List.getD z k (Itm.mk (0 : Int) (Ent.mk (ByteArray.mk (Array.mk [])) (0 : Int) false (0 : Int) (ByteArray.mk (Array.mk [])) false
  []))).number != (List.getD z_1 k (Itm.mk (0 : Int) (Ent.mk (ByteArray.mk (Array.mk [])) (0 : Int) false (0 : Int) (ByteArray.mk (Array.mk [])) false []))).number then none
  else bif !(List.getD z k (Itm.mk (0 : Int) (Ent.mk (ByteArray.mk (Array.mk [])) (0 : Int) false (0 : Int) (ByteArray.mk (Array.mk [])) false []))).number != (List.getD z_1
  k (Itm.mk (0 : Int) (Ent.mk (ByteArray.mk (Array.mk [])) (0 : Int) false (0 : Int) (ByteArray.mk (Array.mk [])) false []))).number then Option.bind (unenc encSmE [AV.unk,
  AV.unk]) fun (z_2 : Ent × Ent) => bif bif (List.getD z k (Itm.mk (0 : Int) (Ent.mk (ByteArray.mk (Array.mk [])) (0 : Int) false (0 : Int) (ByteArray.mk (Array.mk []))
  false []))).number != (List.getD z_1 k (Itm.mk (0 : Int) (Ent.mk (ByteArray.mk (Array.mk [])) (0 : Int) false (0 : Int) (ByteArray.mk (Array.mk [])) false []))).number
  then true else !F.sameE z_2.fst z_2.snd then some (Ex.ret, St.mk [(4, (vB false))] []) else some (Ex.normal, St.mk [(5, (vI (IntKind.wrap IntKind.i64 ((↑k : Int) + (1 :
  Int))))), (3, .ptr 3 0 0), (2, .ptr 2 0 0)] [(3, Blk.mk true 0 0 [[(vB b.begun), (vI b.next), (vI b.last.target), (vI b.last.first), (vI b.last.breaks), AV.sl (List.map
  eEnt b.last.entries), (vB b.last.ended), AV.sl (List.map eItm b.queue), (vI b.lost)]]), (2, Blk.mk true 0 0 [[(vB a.begun), (vI a.next), (vI a.last.target), (vI
  a.last.first), (vI a.last.breaks), AV.sl (List.map eEnt a.last.entries), (vB a.last.ended), AV.sl (List.map eItm a.queue), (vI a.lost)]])]) else bif !(List.getD z k
  (Itm.mk (0 : Int) (Ent.mk (ByteArray.mk (Array.mk [])) (0 : Int) false (0 : Int) (ByteArray.mk (Array.mk [])) false []))).number != (List.getD z_1 k (Itm.mk (0 : Int)
  (Ent.mk (ByteArray.mk (Array.mk [])) (0 : Int) false (0 : Int) (ByteArray.mk (Array.mk [])) false []))).number then none else some (Ex.ret, St.mk [(4, (vB false))] [])
  else none else none else some (Ex.exit (0 : Nat), St.mk [] []) := by kernel_rfl

theorem lpSmC_ok (a : Cli) (b : Cli) (k : Nat) (hp : prlSmC a b k = true) : ∀ ex s', (outSmC a b k).val = some (ex, s') → LoopOK enSmC (loopN Try.f32 0) (stSmC a b k) ex s' := by
  simp only [prlSmC, Bool.and_eq_true, decide_eq_true_eq] at hp
  obtain ⟨⟨h1, h2⟩, h3⟩ := hp
  have hz : (a.queue.zip b.queue).length = a.queue.length := by rw [List.length_zip]; omega
  refine loop_all (xs := a.queue.zip b.queue) (st := stSmC a b) (p := fun p => F.sameI p.1 p.2) (n := ([5, 3, 2], [3, 2])) (e := ([], [])) (r := ([4], [])) ?_ ⟨by simp, rfl⟩ ⟨by simp, rfl⟩ (fun _ => rfl) ?_ k (by omega)
  · rw [hz]; rw [evSmCL]; simp
  · intro k y hy
    obtain ⟨ha, hb⟩ := F.zip_at hy
    have hlt := lt_at ha
    have hlt' := lt_at hb
    rw [evSmCL]
    simp only [unSmL, unSmE, unSmLw, unSmEw, preSmL1, preSmE1, unstSmC, unstSmC0, prlSmC, outSmC, etaEnt, etaLst, Option.bind_some, List.length_map, unStrs, unInts, unBools, unEnts, unItms, unTrns, cond_true, cond_false, Bool.and_true, Bool.true_and, cast_lt hlt, decide_eq_true hlt, decide_eq_true hlt', next_at hlt h1, getD_at ha, getD_at hb, stSmC, F.sameI, bne, idx]
    cases (y.1.number == y.2.number) <;> cases F.sameE y.1.entry y.2.entry <;> rfl

theorem evSmC (a : Cli) (b : Cli) : (runF enSmC false Try.f32 [.agg (eCli a), .agg (eCli b)]).val =
  bif !bif bif bif !a.begun == b.begun then true else a.next != b.next then true else a.lost != b.lost then true else (↑(List.length (List.map eItm a.queue)) : Int) !=
  (↑(List.length (List.map eItm b.queue)) : Int) then Option.bind (unenc encSmL [AV.agg [(vI a.last.target), (vI a.last.first), (vI a.last.breaks), AV.sl (List.map eEnt
  a.last.entries), (vB a.last.ended)], AV.agg [(vI b.last.target), (vI b.last.first), (vI b.last.breaks), AV.sl (List.map eEnt b.last.entries), (vB b.last.ended)]]) fun (z :
  Lst × Lst) => bif bif bif bif bif !a.begun == b.begun then true else a.next != b.next then true else a.lost != b.lost then true else (↑(List.length (List.map eItm
  a.queue)) : Int) != (↑(List.length (List.map eItm b.queue)) : Int) then true else !F.sameL z.fst z.snd then some ((vB false), []) else Option.bind (unenc stSmC1 (St.mk
  [(5, (vI (0 : Int))), (3, .ptr 3 0 0), (2, .ptr 2 0 0)] [(3, Blk.mk true 0 0 [[(vB b.begun), (vI b.next), (vI b.last.target), (vI b.last.first), (vI b.last.breaks), AV.sl
  (List.map eEnt b.last.entries), (vB b.last.ended), AV.sl (List.map eItm b.queue), (vI b.lost)]]), (2, Blk.mk true 0 0 [[(vB a.begun), (vI a.next), (vI a.last.target), (vI
  a.last.first), (vI a.last.breaks), AV.sl (List.map eEnt a.last.entries), (vB a.last.ended), AV.sl (List.map eItm a.queue), (vI a.lost)]])])) fun (z : Cli × Cli × Nat) =>
  bif decide (List.length z.fst.queue ≤ (9223372036854775807 : Nat)) && decide (z.snd.snd ≤ List.length z.fst.queue) && decide (List.length z.fst.queue = List.length
  z.snd.fst.queue) && true then bif F.sameQ (List.drop z.snd.snd (List.zip z.fst.queue z.snd.fst.queue)) then some ((vB true), []) else some ((vB false), []) else none else
  bif !bif bif bif !a.begun == b.begun then true else a.next != b.next then true else a.lost != b.lost then true else (↑(List.length (List.map eItm a.queue)) : Int) !=
  (↑(List.length (List.map eItm b.queue)) : Int) then none else some ((vB false), []) := by kernel_rfl

def encSmC1 (a : Cli) (b : Cli) : List AV := [.agg (eCli a), .agg (eCli b)]

def encSmC (a : Cli × Cli) : List AV := encSmC1 a.1 a.2

theorem encSmC_inj (a a' : Cli × Cli) (h : encSmC a = encSmC a') : a = a' := by
  simp only [encSmC, encSmC1] at h
  try simp [strs_inj, ents_inj, eEnt_iff, eLst_iff, ints_inj, eTrn_iff, itms_inj, eCli_iff, eItm_iff] at h
  grind

theorem unSmC (a : Cli) (b : Cli) : unenc encSmC ([AV.agg [(vB a.begun), (vI a.next), (vI a.last.target), (vI a.last.first), (vI a.last.breaks), AV.sl (List.map eEnt a.last.entries), (vB a.last.ended), AV.sl (List.map
  eItm a.queue), (vI a.lost)], AV.agg [(vB b.begun), (vI b.next), (vI b.last.target), (vI b.last.first), (vI b.last.breaks), AV.sl (List.map eEnt b.last.entries), (vB
  b.last.ended), AV.sl (List.map eItm b.queue), (vI b.lost)]]) = some (a, b) := unenc_of encSmC_inj (a, b) rfl

def resSmC1 (a : Cli) (b : Cli) : AV × Heap := (vB (F.sameC a b), [])

def preSmC1 (a : Cli) (b : Cli) : Bool := true

noncomputable def oSmC : Orc := orc 32 true encSmC (fun a => preSmC1 a.1 a.2) fun a => resSmC1 a.1 a.2

theorem okSmC : OrcOK Try.prog noG oSmC := by
  refine mk_ok Try.f32 (keep := false) (by kernel_rfl) (by kernel_rfl) enSmC_ok mixed (one_loop (x0 := loopN Try.f32 0) (by kernel_rfl) (lpo_ok ?_)) (by first | exact fun _ _ => ⟨rfl, rfl⟩ | (intro h; cases h)) ?_
  · rintro ⟨a, b, k⟩ hp
    exact lpSmC_ok a b k hp
  rintro ⟨a, b⟩ hpre hok
  show (runF enSmC false _ (encSmC1 _ _)).val = some (resSmC1 _ _)
  unfold encSmC1 resSmC1
  rw [evSmC]
  have hx : a.queue.length ≤ 9223372036854775807 := by
    have h := okA_agg (hok _ (List.mem_cons_self ..))
    simp only [eCli, List.forall_mem_cons] at h
    simpa using (okA_sl h.2.2.2.2.2.2.2.1).1
  simp only [unSmL, unSmE, unSmLw, unSmEw, preSmL1, preSmE1, unstSmC, unstSmC0, prlSmC, outSmC, etaEnt, etaLst, Option.bind_some, List.length_map, unStrs, unInts, unBools, unEnts, unItms, unTrns, cond_true, cond_false, Bool.and_true, Bool.true_and, F.sameC, hx, List.drop_zero, Nat.zero_le, decide_true, F.cond_tl, F.len_eq, bne]
  by_cases hq : a.queue.length = b.queue.length <;> simp only [hq, decide_true, decide_false] <;> cases (a.begun == b.begun) <;> cases (a.next == b.next) <;> cases (a.lost == b.lost) <;> cases F.sameL a.last b.last <;> cases F.sameQ (a.queue.zip b.queue) <;> rfl

end M
end Go.Proofs.Ytkfhfjcgegimbaa
