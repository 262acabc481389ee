/- What is proved here: what Load returns on plain data, of the program and of the reference (no statement of the seat). -/
import Derived.Test.YtkfhfjcgegimbaaE17
namespace Go.Proofs.Ytkfhfjcgegimbaa
open Go Go.RowKit
set_option linter.unusedVariables false
set_option linter.unusedSimpArgs false

/-- A step of Load: number of the entry, what is lost, the next number, the queue. -/
def F.ldS (first : Int) (a : Nat × Int × Int × List Itm) (e : Ent) : Nat × Int × Int × List Itm :=
  bif F.lt (IntKind.i64.wrap (first + a.1)) a.2.2.1 then (a.1 + 1, a.2.1, a.2.2.1, a.2.2.2) else
  (a.1 + 1, bif F.lt 0 a.2.1 then 0 else a.2.1, IntKind.i64.wrap (a.2.2.1 + 1), a.2.2.2 ++ [⟨IntKind.i64.wrap (first + a.1), ⟨e.uri, e.milli, bif F.lt 0 a.2.1 then true else e.brk, e.date, e.key, e.gap, e.extra⟩⟩])

def F.ld (first : Int) (k : Nat) (lost next : Int) (q : List Itm) (l : List Ent) : Nat × Int × Int × List Itm := l.foldl (F.ldS first) (k, lost, next, q)

theorem F.begin_len {c : Cli} {l : Lst} {b : Int} (h : ((F.begin c l b).2 != 0) = false) : c.queue.length ≤ 2000 := by
  cases hc : F.cliF c b != 0
  · exact F.cliF_len hc
  · unfold F.begin at h
    rw [hc] at h
    simp only [cond_true] at h
    rw [hc] at h
    cases h

def F.loadN (c : Cli) (l : Lst) (b : Int) : Int := max 0 (IntKind.i64.wrap (l.first - (F.begin c l b).1))

def F.loadR (c : Cli) (l : Lst) (b : Int) : Nat × Int × Int × List Itm :=
  F.ld l.first 0 (F.loadN c l b) (IntKind.i64.wrap ((F.begin c l b).1 + F.loadN c l b)) c.queue l.entries

def F.load (c : Cli) (l : Lst) (b : Int) : Cli × Int :=
  bif F.check l != 0 then (F.noC, F.check l) else bif (F.begin c l b).2 != 0 then (F.noC, (F.begin c l b).2) else
  bif F.lt 2000 (F.loadR c l b).2.2.2.length then (F.noC, 17) else
  (⟨true, (F.loadR c l b).2.2.1, l, (F.loadR c l b).2.2.2, IntKind.i64.wrap (c.lost + F.loadN c l b)⟩, 0)

namespace M


def stLod (l : Lst) (ll : Int) (lost : Int) (next : Int) (q : List Itm) (k : Nat) : St := ⟨[(55, vI k), (54, vI l.entries.length), (53, .sl (l.entries.map eEnt)), (12, vI lost), (11, .ptr 11 0 0), (6, .ptr 6 0 0), (4, .ptr 4 0 0)], [(48000, ⟨false, 32, 7, l.entries.map eEnt⟩), (34001, ⟨false, 61, 8, q.map eItm⟩), (11, ⟨true, 0, 0, [[vB true, vI next, vI l.target, vI l.first, vI l.breaks, .own 48000, vB l.ended, .own 34001, vI ll]]⟩), (6, ⟨true, 0, 0, [[vB false, vI 0, vI 0, vI 0, vI 0, .e0, vB false, .e0, vI 0]]⟩), (4, ⟨true, 0, 0, [eLst l]⟩)]⟩

def stLod1 (a : Lst × Int × Int × Int × (List Itm) × Nat) : St := stLod a.1 a.2.1 a.2.2.1 a.2.2.2.1 a.2.2.2.2.1 a.2.2.2.2.2

theorem stLod_inj (a a' : Lst × Int × Int × Int × (List Itm) × Nat) (h : stLod1 a = stLod1 a') : a = a' := by
  simp only [stLod1, stLod] at h
  try simp [strs_inj, ents_inj, eEnt_iff, eLst_iff, ints_inj, eTrn_iff, itms_inj, eCli_iff, eItm_iff] at h
  grind

theorem unstLod (l : Lst) (ll : Int) (lost : Int) (next : Int) (q : List Itm) (k : Nat) : unenc stLod1 (St.mk [(55, (vI (↑k : Int))), (54, (vI (↑(List.length l.entries) : Int))), (53, AV.sl (List.map eEnt l.entries)), (12, (vI lost)), (11, .ptr 11 0 0), (6, .ptr 6 0 0), (4,
  .ptr 4 0 0)] [(48000, Blk.mk false 32 7 (List.map eEnt l.entries)), (34001, Blk.mk false 61 8 (List.map eItm q)), (11, Blk.mk true 0 0 [[(vB true), (vI next), (vI
  l.target), (vI l.first), (vI l.breaks), .own 48000, (vB l.ended), .own 34001, (vI ll)]]), (6, Blk.mk true 0 0 [[(vB false), (vI (0 : Int)), (vI (0 : Int)), (vI (0 : Int)),
  (vI (0 : Int)), AV.e0, (vB false), AV.e0, (vI (0 : Int))]]), (4, Blk.mk true 0 0 [[(vI l.target), (vI l.first), (vI l.breaks), AV.sl (List.map eEnt l.entries), (vB
  l.ended)]])]) = some (l, ll, lost, next, q, k) := unenc_of stLod_inj (l, ll, lost, next, q, k) rfl

theorem unstLod0 (l : Lst) (ll : Int) (lost : Int) (next : Int) (q : List Itm) : unenc stLod1 (St.mk [(55, (vI (0 : Int))), (54, (vI (↑(List.length l.entries) : Int))), (53, AV.sl (List.map eEnt l.entries)), (12, (vI lost)), (11, .ptr 11 0 0), (6, .ptr 6 0 0), (4,
  .ptr 4 0 0)] [(48000, Blk.mk false 32 7 (List.map eEnt l.entries)), (34001, Blk.mk false 61 8 (List.map eItm q)), (11, Blk.mk true 0 0 [[(vB true), (vI next), (vI
  l.target), (vI l.first), (vI l.breaks), .own 48000, (vB l.ended), .own 34001, (vI ll)]]), (6, Blk.mk true 0 0 [[(vB false), (vI (0 : Int)), (vI (0 : Int)), (vI (0 : Int)),
  (vI (0 : Int)), AV.e0, (vB false), AV.e0, (vI (0 : Int))]]), (4, Blk.mk true 0 0 [[(vI l.target), (vI l.first), (vI l.breaks), AV.sl (List.map eEnt l.entries), (vB
  l.ended)]])]) = some (l, ll, lost, next, q, 0) := unenc_of stLod_inj (l, ll, lost, next, q, 0) rfl

def outLod (l : Lst) (ll : Int) (lost : Int) (next : Int) (q : List Itm) (k : Nat) : T (Ex × St) := .ret (.exit 0, ⟨[(11, .ptr 11 0 0), (6, .ptr 6 0 0)], [(48000, ⟨false, 32, 7, l.entries.map eEnt⟩), (34001, ⟨false, 61, 8, (F.ld l.first k lost next q (l.entries.drop k)).2.2.2.map eItm⟩), (11, ⟨true, 0, 0, [[vB true, vI (F.ld l.first k lost next q (l.entries.drop k)).2.2.1, vI l.target, vI l.first, vI l.breaks, .own 48000, vB l.ended, .own 34001, vI ll]]⟩), (6, ⟨true, 0, 0, [[vB false, vI 0, vI 0, vI 0, vI 0, .e0, vB false, .e0, vI 0]]⟩)]⟩)

noncomputable def prlLod (l : Lst) (ll : Int) (lost : Int) (next : Int) (q : List Itm) (k : Nat) : Bool := decide (l.entries.length ≤ 1000) && decide (k ≤ l.entries.length) && decide (q.length ≤ 2000 + k) && l.entries.all (fun e => decide (e.extra.length * 16 ≤ 140737488355328))

noncomputable def lpLod : Nat × (St → T (Ex × St)) := (11, lpo [55, 54, 53, 12, 11, 6, 4] [48000, 34001, 11, 6, 4] stLod1 (fun a => prlLod a.1 a.2.1 a.2.2.1 a.2.2.2.1 a.2.2.2.2.1 a.2.2.2.2.2) fun a => outLod a.1 a.2.1 a.2.2.1 a.2.2.2.1 a.2.2.2.2.1 a.2.2.2.2.2)

noncomputable def enLod : Env := envH ty noG lks [oChk, oBeg, oCpC, oCpL, oCpE] [] [] [lpLod]

theorem enLod_ok : EnvOK Try.prog enLod := by
  refine envH_ok lks_ok ty_ok ?_ ?_
  · simp only [List.forall_mem_cons]
    exact ⟨okChk, okBeg, okCpC, okCpL, okCpE, by simp⟩
  · simp

theorem evLodL (l : Lst) (ll : Int) (lost : Int) (next : Int) (q : List Itm) (k : Nat) : ((exec enLod (loopN Try.f30 0) (stLod l ll lost next q k)).bind (lessX ([55, 54, 53, 12, 11, 6, 4], [48000, 34001, 11, 6, 4]) ([11, 6], [48000, 34001, 11, 6]) ([], []))).val =
  bif decide ((↑k : Int) < (↑(List.length l.entries) : Int)) then Option.bind (unenc (List.map eEnt) (List.map eEnt l.entries)) fun (z : List Ent) => bif decide (k <
  List.length z) then bif decide (IntKind.wrap IntKind.i64 (l.first + (↑k : Int)) < next) then some (Ex.normal, St.mk [(55, (vI (IntKind.wrap IntKind.i64 ((↑k : Int) + (1 :
  Int))))), (54, (vI (↑(List.length l.entries) : Int))), (53, AV.sl (List.map eEnt l.entries)), (12, (vI lost)), (11, .ptr 11 0 0), (6, .ptr 6 0 0), (4, .ptr 4 0 0)]
  [(48000, Blk.mk false 32 7 (List.map eEnt l.entries)), (34001, Blk.mk false 61 8 (List.map eItm q)), (11, Blk.mk true 0 0 [[(vB true), (vI next), (vI l.target), (vI
  l.first), (vI l.breaks), .own 48000, (vB l.ended), .own 34001, (vI ll)]]), (6, Blk.mk true 0 0 [[(vB false), (vI (0 : Int)), (vI (0 : Int)), (vI (0 : Int)), (vI (0 :
  Int)), AV.e0, (vB false), AV.e0, (vI (0 : Int))]]), (4, Blk.mk true 0 0 [[(vI l.target), (vI l.first), (vI l.breaks), AV.sl (List.map eEnt l.entries), (vB l.ended)]])])
  else Option.bind (unenc encCpE [AV.agg [(vS (List.getD z k (Ent.mk (ByteArray.mk (Array.mk [])) (0 : Int) false (0 : Int) (ByteArray.mk (Array.mk [])) false [])).uri), (vI
  (List.getD z k (Ent.mk (ByteArray.mk (Array.mk [])) (0 : Int) false (0 : Int) (ByteArray.mk (Array.mk [])) false [])).milli), (vB (List.getD z k (Ent.mk (ByteArray.mk
  (Array.mk [])) (0 : Int) false (0 : Int) (ByteArray.mk (Array.mk [])) false [])).brk), (vI (List.getD z k (Ent.mk (ByteArray.mk (Array.mk [])) (0 : Int) false (0 : Int)
  (ByteArray.mk (Array.mk [])) false [])).date), (vS (List.getD z k (Ent.mk (ByteArray.mk (Array.mk [])) (0 : Int) false (0 : Int) (ByteArray.mk (Array.mk [])) false
  [])).key), (vB (List.getD z k (Ent.mk (ByteArray.mk (Array.mk [])) (0 : Int) false (0 : Int) (ByteArray.mk (Array.mk [])) false [])).gap), AV.sl (List.map eStr (List.getD
  z k (Ent.mk (ByteArray.mk (Array.mk [])) (0 : Int) false (0 : Int) (ByteArray.mk (Array.mk [])) false [])).extra)]]) fun (z : Ent) => bif decide (List.length z.extra * (16
  : Nat) ≤ (140737488355328 : Nat)) then bif decide ((0 : Int) < lost) then bif Nat.ble ((List.length (List.map eItm q) + (1 : Nat)) * (96 : Nat)) (140737488355328 : Nat) &&
  true then some (Ex.normal, St.mk [(55, (vI (IntKind.wrap IntKind.i64 ((↑k : Int) + (1 : Int))))), (54, (vI (↑(List.length l.entries) : Int))), (53, AV.sl (List.map eEnt
  l.entries)), (12, (vI (0 : Int))), (11, .ptr 11 0 0), (6, .ptr 6 0 0), (4, .ptr 4 0 0)] [(48000, Blk.mk false 32 7 (List.map eEnt l.entries)), (34001, Blk.mk false 61 8
  (List.map eItm q ++ [[(vI (IntKind.wrap IntKind.i64 (l.first + (↑k : Int)))), (vS z.uri), (vI z.milli), (vB true), (vI z.date), (vS z.key), (vB z.gap), AV.sl (List.map
  eStr z.extra)]])), (11, Blk.mk true 0 0 [[(vB true), (vI (IntKind.wrap IntKind.i64 (next + (1 : Int)))), (vI l.target), (vI l.first), (vI l.breaks), .own 48000, (vB
  l.ended), .own 34001, (vI ll)]]), (6, Blk.mk true 0 0 [[(vB false), (vI (0 : Int)), (vI (0 : Int)), (vI (0 : Int)), (vI (0 : Int)), AV.e0, (vB false), AV.e0, (vI (0 :
  Int))]]), (4, Blk.mk true 0 0 [[(vI l.target), (vI l.first), (vI l.breaks), AV.sl (List.map eEnt l.entries), (vB l.ended)]])]) else none else bif Nat.ble ((List.length
  (List.map eItm q) + (1 : Nat)) * (96 : Nat)) (140737488355328 : Nat) && true then some (Ex.normal, St.mk [(55, (vI (IntKind.wrap IntKind.i64 ((↑k : Int) + (1 : Int))))),
  (54, (vI (↑(List.length l.entries) : Int))), (53, AV.sl (List.map eEnt l.entries)), (12, (vI lost)), (11, .ptr 11 0 0), (6, .ptr 6 0 0), (4, .ptr 4 0 0)] [(48000, Blk.mk
  false 32 7 (List.map eEnt l.entries)), (34001, Blk.mk false 61 8 (List.map eItm q ++ [[(vI (IntKind.wrap IntKind.i64 (l.first + (↑k : Int)))), (vS z.uri), (vI z.milli),
  (vB z.brk), (vI z.date), (vS z.key), (vB z.gap), AV.sl (List.map eStr z.extra)]])), (11, Blk.mk true 0 0 [[(vB true), (vI (IntKind.wrap IntKind.i64 (next + (1 : Int)))),
  (vI l.target), (vI l.first), (vI l.breaks), .own 48000, (vB l.ended), .own 34001, (vI ll)]]), (6, Blk.mk true 0 0 [[(vB false), (vI (0 : Int)), (vI (0 : Int)), (vI (0 :
  Int)), (vI (0 : Int)), AV.e0, (vB false), AV.e0, (vI (0 : Int))]]), (4, Blk.mk true 0 0 [[(vI l.target), (vI l.first), (vI l.breaks), AV.sl (List.map eEnt l.entries), (vB
  l.ended)]])]) else none else none else none else some (Ex.exit (0 : Nat), St.mk [(11, .ptr 11 0 0), (6, .ptr 6 0 0)] [(48000, Blk.mk false 32 7 (List.map eEnt l.entries)),
  (34001, Blk.mk false 61 8 (List.map eItm q)), (11, Blk.mk true 0 0 [[(vB true), (vI next), (vI l.target), (vI l.first), (vI l.breaks), .own 48000, (vB l.ended), .own
  34001, (vI ll)]]), (6, Blk.mk true 0 0 [[(vB false), (vI (0 : Int)), (vI (0 : Int)), (vI (0 : Int)), (vI (0 : Int)), AV.e0, (vB false), AV.e0, (vI (0 : Int))]])]) := by kernel_rfl

theorem lpLod_ok (l : Lst) (ll : Int) (lost : Int) (next : Int) (q : List Itm) (k : Nat) (hp : prlLod l ll lost next q k = true) : ∀ ex s', (outLod l ll lost next q k).val = some (ex, s') → LoopOK enLod (loopN Try.f30 0) (stLod l ll lost next q k) ex s' := by
  simp only [prlLod, Bool.and_eq_true, decide_eq_true_eq] at hp
  obtain ⟨⟨⟨h1, h2⟩, h3⟩, h4⟩ := hp
  refine loop_fold (xs := l.entries) (st := fun (a : Nat × Int × Int × List Itm) k => stLod l ll a.2.1 a.2.2.1 a.2.2.2 k) (f := F.ldS l.first) (fin := fun a => (.exit 0, ⟨[(11, .ptr 11 0 0), (6, .ptr 6 0 0)], [(48000, ⟨false, 32, 7, l.entries.map eEnt⟩), (34001, ⟨false, 61, 8, a.2.2.2.map eItm⟩), (11, ⟨true, 0, 0, [[vB true, vI a.2.2.1, vI l.target, vI l.first, vI l.breaks, .own 48000, vB l.ended, .own 34001, vI ll]]⟩), (6, ⟨true, 0, 0, [[vB false, vI 0, vI 0, vI 0, vI 0, .e0, vB false, .e0, vI 0]]⟩)]⟩)) (I := fun a k => a.1 = k ∧ a.2.2.2.length ≤ 2000 + k) (n := ([55, 54, 53, 12, 11, 6, 4], [48000, 34001, 11, 6, 4])) (e := ([11, 6], [48000, 34001, 11, 6])) (r := ([], [])) ?_ (fun _ => ⟨by simp, rfl⟩) (fun _ _ => rfl) ?_ (k, lost, next, q) k h2 ⟨rfl, h3⟩
  · rintro ⟨j, lost, next, q⟩ _
    rw [evLodL]; simp
  · rintro ⟨j, lost, next, q⟩ k y hy ⟨hj, hI⟩
    simp only at hj hI
    subst hj
    have hlt := lt_at hy
    have he : decide (y.extra.length * 16 ≤ 140737488355328) = true := List.all_eq_true.1 h4 y (List.mem_of_getElem? hy)
    have hb : Nat.ble ((q.length + 1) * 96) 140737488355328 = true := ble_t (by omega)
    refine ⟨?_, ?_⟩
    · rw [evLodL]
      by_cases hn : IntKind.i64.wrap (l.first + (j : Int)) < next
      · simp only [unChk, unBeg, unCpC, unCpL, unCpE, unChkw, unBegw, unCpLw, unCpEw, preChk1, preBeg1, preCpC1, preCpL1, preCpE1, unstLod, unstLod0, prlLod, outLod, etaEnt, etaLst, Option.bind_some, List.length_map, unStrs, unInts, unBools, unEnts, unItms, unTrns, cond_true, cond_false, Bool.and_true, Bool.true_and, cast_lt hlt, decide_eq_true hlt, next_at hlt (by omega : l.entries.length ≤ 9223372036854775807), getD_at hy, stLod, he, hb, F.ldS, F.lt, hn, decide_true, eLst]
        try rfl
      · by_cases hl : 0 < lost
        · simp only [unChk, unBeg, unCpC, unCpL, unCpE, unChkw, unBegw, unCpLw, unCpEw, preChk1, preBeg1, preCpC1, preCpL1, preCpE1, unstLod, unstLod0, prlLod, outLod, etaEnt, etaLst, Option.bind_some, List.length_map, unStrs, unInts, unBools, unEnts, unItms, unTrns, cond_true, cond_false, Bool.and_true, Bool.true_and, cast_lt hlt, decide_eq_true hlt, next_at hlt (by omega : l.entries.length ≤ 9223372036854775807), getD_at hy, stLod, he, hb, F.ldS, F.lt, hn, hl, decide_true, decide_false, eLst, List.map_append]
          rfl
        · simp only [unChk, unBeg, unCpC, unCpL, unCpE, unChkw, unBegw, unCpLw, unCpEw, preChk1, preBeg1, preCpC1, preCpL1, preCpE1, unstLod, unstLod0, prlLod, outLod, etaEnt, etaLst, Option.bind_some, List.length_map, unStrs, unInts, unBools, unEnts, unItms, unTrns, cond_true, cond_false, Bool.and_true, Bool.true_and, cast_lt hlt, decide_eq_true hlt, next_at hlt (by omega : l.entries.length ≤ 9223372036854775807), getD_at hy, stLod, he, hb, F.ldS, F.lt, hn, hl, decide_true, decide_false, eLst, List.map_append]
          rfl
    · simp only [F.ldS]
      cases F.lt (IntKind.i64.wrap (l.first + (j : Int))) next <;> simp <;> omega

theorem evLod (c : Cli) (l : Lst) (b : Int) : (runF enLod false Try.f30 [.agg (eCli c), .agg (eLst l), vI b]).val =
  Option.bind (unenc encChk [AV.agg [(vI l.target), (vI l.first), (vI l.breaks), AV.sl (List.map eEnt l.entries), (vB l.ended)]]) fun (z : Lst) => bif F.check z != (0 : Int)
  then some (AV.tup [AV.agg [(vB false), (vI (0 : Int)), (vI (0 : Int)), (vI (0 : Int)), (vI (0 : Int)), AV.sl [], (vB false), AV.sl [], (vI (0 : Int))], (vI (F.check z))],
  []) else Option.bind (unenc encBeg [AV.agg [(vB c.begun), (vI c.next), (vI c.last.target), (vI c.last.first), (vI c.last.breaks), AV.sl (List.map eEnt c.last.entries), (vB
  c.last.ended), AV.sl (List.map eItm c.queue), (vI c.lost)], AV.agg [(vI l.target), (vI l.first), (vI l.breaks), AV.sl (List.map eEnt l.entries), (vB l.ended)], (vI b)])
  fun (z : Cli × Lst × Int) => bif decide (F.check z.snd.fst = (0 : Int)) then bif (F.begin z.fst z.snd.fst z.snd.snd).snd != (0 : Int) then some (AV.tup [AV.agg [(vB
  false), (vI (0 : Int)), (vI (0 : Int)), (vI (0 : Int)), (vI (0 : Int)), AV.sl [], (vB false), AV.sl [], (vI (0 : Int))], (vI (F.begin z.fst z.snd.fst z.snd.snd).snd)], [])
  else Option.bind (unenc encCpC [AV.agg [(vB c.begun), (vI c.next), (vI c.last.target), (vI c.last.first), (vI c.last.breaks), AV.sl (List.map eEnt c.last.entries), (vB
  c.last.ended), AV.sl (List.map eItm c.queue), (vI c.lost)]]) fun (z_1 : Cli) => bif (decide (List.length z_1.last.entries * (88 : Nat) ≤ (140737488355328 : Nat)) &&
  List.all z_1.last.entries fun (e : Ent) => decide (List.length e.extra * (16 : Nat) ≤ (140737488355328 : Nat))) && decide (List.length z_1.queue ≤ (100000 : Nat)) && F.qOK
  z_1.queue then Option.bind (unenc encCpL [AV.agg [(vI l.target), (vI l.first), (vI l.breaks), AV.sl (List.map eEnt l.entries), (vB l.ended)]]) fun (z_2 : Lst) => bif
  decide (List.length z_2.entries * (88 : Nat) ≤ (140737488355328 : Nat)) && List.all z_2.entries fun (e : Ent) => decide (List.length e.extra * (16 : Nat) ≤
  (140737488355328 : Nat)) then Option.bind (unenc stLod1 (St.mk [(55, (vI (0 : Int))), (54, (vI (↑(List.length (List.map eEnt l.entries)) : Int))), (53, AV.sl (List.map
  eEnt l.entries)), (12, (vI (max (0 : Int) (IntKind.wrap IntKind.i64 (l.first - (F.begin z.fst z.snd.fst z.snd.snd).fst))))), (11, .ptr 11 0 0), (6, .ptr 6 0 0), (4, .ptr 4
  0 0)] [(48000, Blk.mk false 32 7 (List.map eEnt z_2.entries)), (34001, Blk.mk false 61 8 (List.map eItm z_1.queue)), (11, Blk.mk true 0 0 [[(vB true), (vI (IntKind.wrap
  IntKind.i64 ((F.begin z.fst z.snd.fst z.snd.snd).fst + max (0 : Int) (IntKind.wrap IntKind.i64 (l.first - (F.begin z.fst z.snd.fst z.snd.snd).fst))))), (vI z_2.target),
  (vI z_2.first), (vI z_2.breaks), .own 48000, (vB z_2.ended), .own 34001, (vI (IntKind.wrap IntKind.i64 (c.lost + max (0 : Int) (IntKind.wrap IntKind.i64 (l.first -
  (F.begin z.fst z.snd.fst z.snd.snd).fst)))))]]), (6, Blk.mk true 0 0 [[(vB false), (vI (0 : Int)), (vI (0 : Int)), (vI (0 : Int)), (vI (0 : Int)), AV.e0, (vB false),
  AV.e0, (vI (0 : Int))]]), (4, Blk.mk true 0 0 [[(vI l.target), (vI l.first), (vI l.breaks), AV.sl (List.map eEnt l.entries), (vB l.ended)]])])) fun (z : Lst × Int × Int ×
  Int × List Itm × Nat) => bif (decide (List.length z.fst.entries ≤ (1000 : Nat)) && decide (z.snd.snd.snd.snd.snd ≤ List.length z.fst.entries) && decide (List.length
  z.snd.snd.snd.snd.fst ≤ (2000 : Nat) + z.snd.snd.snd.snd.snd) && List.all z.fst.entries fun (e : Ent) => decide (List.length e.extra * (16 : Nat) ≤ (140737488355328 :
  Nat))) && true then bif decide ((2000 : Int) < (↑(List.length (List.map eItm (F.ld z.fst.first z.snd.snd.snd.snd.snd z.snd.snd.fst z.snd.snd.snd.fst z.snd.snd.snd.snd.fst
  (List.drop z.snd.snd.snd.snd.snd z.fst.entries)).snd.snd.snd)) : Int)) then some (AV.tup [AV.agg [(vB false), (vI (0 : Int)), (vI (0 : Int)), (vI (0 : Int)), (vI (0 :
  Int)), AV.sl [], (vB false), AV.sl [], (vI (0 : Int))], (vI (17 : Int))], []) else some (AV.tup [AV.agg [(vB true), (vI (F.ld z.fst.first z.snd.snd.snd.snd.snd
  z.snd.snd.fst z.snd.snd.snd.fst z.snd.snd.snd.snd.fst (List.drop z.snd.snd.snd.snd.snd z.fst.entries)).snd.snd.fst), (vI z.fst.target), (vI z.fst.first), (vI
  z.fst.breaks), AV.sl (List.map eEnt z.fst.entries), (vB z.fst.ended), AV.sl (List.map eItm (F.ld z.fst.first z.snd.snd.snd.snd.snd z.snd.snd.fst z.snd.snd.snd.fst
  z.snd.snd.snd.snd.fst (List.drop z.snd.snd.snd.snd.snd z.fst.entries)).snd.snd.snd), (vI z.snd.fst)], (vI (0 : Int))], []) else none else none else none else none := by kernel_rfl

def encLod1 (c : Cli) (l : Lst) (b : Int) : List AV := [.agg (eCli c), .agg (eLst l), vI b]

def encLod (a : Cli × Lst × Int) : List AV := encLod1 a.1 a.2.1 a.2.2

theorem encLod_inj (a a' : Cli × Lst × Int) (h : encLod a = encLod a') : a = a' := by
  simp only [encLod, encLod1] at h
  try simp [strs_inj, ents_inj, eEnt_iff, eLst_iff, ints_inj, eTrn_iff, itms_inj, eCli_iff, eItm_iff] at h
  grind

theorem unLod (c : Cli) (l : Lst) (b : Int) : unenc encLod ([AV.agg [(vB c.begun), (vI c.next), (vI c.last.target), (vI c.last.first), (vI c.last.breaks), AV.sl (List.map eEnt c.last.entries), (vB c.last.ended), AV.sl (List.map
  eItm c.queue), (vI c.lost)], AV.agg [(vI l.target), (vI l.first), (vI l.breaks), AV.sl (List.map eEnt l.entries), (vB l.ended)], (vI b)]) = some (c, l, b) := unenc_of encLod_inj (c, l, b) rfl

theorem unLodw (c : Cli) (l_target : Int) (l_first : Int) (l_breaks : Int) (l_entries : List Ent) (l_ended : Bool) (b : Int) : unenc encLod ([AV.agg [(vB c.begun), (vI c.next), (vI c.last.target), (vI c.last.first), (vI c.last.breaks), AV.sl (List.map eEnt c.last.entries), (vB c.last.ended), AV.sl (List.map
  eItm c.queue), (vI c.lost)], AV.agg [(vI l_target), (vI l_first), (vI l_breaks), AV.sl (List.map eEnt l_entries), (vB l_ended)], (vI b)]) = some (c, (Lst.mk l_target l_first l_breaks l_entries l_ended), b) := unenc_of encLod_inj (c, (Lst.mk l_target l_first l_breaks l_entries l_ended), b) rfl

def resLod1 (c : Cli) (l : Lst) (b : Int) : AV × Heap := (.tup [.agg (eCli (F.load c l b).1), vI (F.load c l b).2], [])

def preLod1 (c : Cli) (l : Lst) (b : Int) : Bool := F.cOK c

noncomputable def oLod : Orc := orc 30 false encLod (fun a => preLod1 a.1 a.2.1 a.2.2) fun a => resLod1 a.1 a.2.1 a.2.2

theorem okLod : OrcOK Try.prog noG oLod := by
  refine mk_ok Try.f30 (keep := false) (by kernel_rfl) (by kernel_rfl) enLod_ok mixed (one_loop (x0 := loopN Try.f30 0) (by kernel_rfl) (lpo_ok ?_)) (by first | exact fun _ _ => ⟨rfl, rfl⟩ | (intro h; cases h)) ?_
  · rintro ⟨l, ll, lost, next, q, k⟩ hp
    exact lpLod_ok l ll lost next q k hp
  rintro ⟨c, l, b⟩ hpre hok
  show (runF enLod false _ (encLod1 _ _ _)).val = some (resLod1 _ _ _)
  unfold encLod1 resLod1
  rw [evLod]
  simp only [preLod1, F.cOK, Bool.and_eq_true] at hpre
  obtain ⟨⟨h1, h2⟩, h3⟩ := hpre
  simp only [unChk, unBeg, unCpC, unCpL, unCpE, unChkw, unBegw, unCpLw, unCpEw, preChk1, preBeg1, preCpC1, preCpL1, preCpE1, unstLod, unstLod0, prlLod, outLod, etaEnt, etaLst, Option.bind_some, List.length_map, unStrs, unInts, unBools, unEnts, unItms, unTrns, cond_true, cond_false, Bool.and_true, Bool.true_and, h1, h2, h3, F.load, F.loadR, F.loadN, F.lt, List.drop_zero, Nat.zero_le, decide_true]
  by_cases h0 : F.check l = 0
  · have hr := F.check_room h0
    have hr1 := (Bool.and_eq_true _ _ ▸ hr : _ ∧ _).1
    have hr2 := (Bool.and_eq_true _ _ ▸ hr : _ ∧ _).2
    have d0 : decide (l.entries.length ≤ 1000) = true := decide_eq_true (F.check_ok h0).1
    rcases Bool.eq_false_or_eq_true ((F.begin c l b).2 != 0) with hb | hb
    · simp only [h0, hb, bne_self_eq_false, decide_true, cond_true, cond_false]
      rfl
    · have hq := F.begin_len hb
      have d1 : decide (c.queue.length ≤ 100000) = true := decide_eq_true (by omega)
      have d2 : decide (c.queue.length ≤ 2000 + 0) = true := decide_eq_true (by omega)
      simp only [h0, hb, hr1, hr2, d0, d1, d2, bne_self_eq_false, decide_true, cond_true, cond_false, Bool.and_self]
      by_cases hR : 2000 < ((F.ld l.first 0 (max 0 (IntKind.i64.wrap (l.first - (F.begin c l b).fst))) (IntKind.i64.wrap ((F.begin c l b).fst + max 0 (IntKind.i64.wrap (l.first - (F.begin c l b).fst)))) c.queue l.entries).2.2.2.length : Int) <;> simp only [hR, decide_true, decide_false] <;> rfl
  · have hb : (F.check l != 0) = true := by simp [h0]
    simp only [hb, cond_true]
    rfl

end M
end Go.Proofs.Ytkfhfjcgegimbaa
