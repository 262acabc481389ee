/- What is proved here: what Play returns on plain data, of the program and of the reference (no statement of the seat). -/
import Derived.Test.YtkfhfjcgegimbaaE16
namespace Go.Proofs.Ytkfhfjcgegimbaa
open Go Go.RowKit
set_option linter.unusedVariables false
set_option linter.unusedSimpArgs false

def F.noC : Cli := ⟨false, 0, F.noL, [], 0⟩

def F.noI : Itm := ⟨0, ⟨⟨#[]⟩, 0, false, 0, ⟨#[]⟩, false, []⟩⟩

def F.play (c : Cli) : Cli × Itm × Int :=
  bif F.cliF c 0 != 0 then (F.noC, F.noI, F.cliF c 0) else bif c.queue.isEmpty then (F.noC, F.noI, 9) else
  (⟨c.begun, c.next, c.last, c.queue.drop 1, c.lost⟩, c.queue.getD 0 F.noI, 0)

/-- There is room for a copy of a client. -/
def F.cOK (c : Cli) : Bool := decide (c.last.entries.length * 88 ≤ 140737488355328) && c.last.entries.all (fun e => decide (e.extra.length * 16 ≤ 140737488355328)) && F.qOK c.queue

theorem F.cliF_len {c : Cli} {b : Int} (h : (F.cliF c b != 0) = false) : c.queue.length ≤ 2000 := by
  unfold F.cliF at h
  cases h1 : F.out c.next 0 1000000000000000 || F.out c.lost 0 1000000000000000 || F.out b 0 1000000000000000
  · rw [h1] at h
    cases h2 : F.lt 2000 c.queue.length
    · simp only [F.lt, decide_eq_false_iff_not] at h2; omega
    · rw [h2] at h; simp at h
  · rw [h1] at h; simp at h

namespace M


noncomputable def enPly : Env := envH ty noG lks [oClF, oCpC] [] [] []

theorem enPly_ok : EnvOK Try.prog enPly := by
  refine envH_ok lks_ok ty_ok ?_ ?_
  · simp only [List.forall_mem_cons]
    exact ⟨okClF, okCpC, by simp⟩
  · simp

theorem evPly (c : Cli) : (runF enPly false Try.f33 [.agg (eCli c)]).val =
  Option.bind (unenc encClF [AV.agg [(vB c.begun), (vI c.next), (vI c.last.target), (vI c.last.first), (vI c.last.breaks), AV.sl (List.map eEnt c.last.entries), (vB
  c.last.ended), AV.sl (List.map eItm c.queue), (vI c.lost)], (vI (0 : Int))]) fun (z : Cli × Int) => bif F.cliF z.fst z.snd != (0 : Int) then some (AV.tup [AV.agg [(vB
  false), (vI (0 : Int)), (vI (0 : Int)), (vI (0 : Int)), (vI (0 : Int)), AV.sl [], (vB false), AV.sl [], (vI (0 : Int))], AV.agg [(vI (0 : Int)), (vS (ByteArray.mk
  (Array.mk []))), (vI (0 : Int)), (vB false), (vI (0 : Int)), (vS (ByteArray.mk (Array.mk []))), (vB false), AV.sl []], (vI (F.cliF z.fst z.snd))], []) else bif
  (↑(List.length (List.map eItm c.queue)) : Int) == (0 : Int) then some (AV.tup [AV.agg [(vB false), (vI (0 : Int)), (vI (0 : Int)), (vI (0 : Int)), (vI (0 : Int)), AV.sl
  [], (vB false), AV.sl [], (vI (0 : Int))], AV.agg [(vI (0 : Int)), (vS (ByteArray.mk (Array.mk []))), (vI (0 : Int)), (vB false), (vI (0 : Int)), (vS (ByteArray.mk
  (Array.mk []))), (vB false), AV.sl []], (vI (9 : Int))], []) else Option.bind (unenc encCpC [AV.agg [(vB c.begun), (vI c.next), (vI c.last.target), (vI c.last.first), (vI
  c.last.breaks), AV.sl (List.map eEnt c.last.entries), (vB c.last.ended), AV.sl (List.map eItm c.queue), (vI c.lost)]]) fun (z : Cli) => bif (decide (List.length
  z.last.entries * (88 : Nat) ≤ (140737488355328 : Nat)) && List.all z.last.entries fun (e : Ent) => decide (List.length e.extra * (16 : Nat) ≤ (140737488355328 : Nat))) &&
  decide (List.length z.queue ≤ (100000 : Nat)) && F.qOK z.queue then Option.bind (unenc (List.map eItm) (List.map eItm z.queue)) fun (z_1 : List Itm) => bif decide ((0 :
  Nat) < List.length z_1) then Option.bind (unenc (List.map eItm) (List.map eItm z.queue)) fun (z_2 : List Itm) => bif decide ((0 : Nat) < List.length z_2) then bif Nat.ble
  (1 : Nat) (List.length (List.map eItm z.queue)) && Nat.ble (List.length (List.map eItm z.queue)) (List.length (List.map eItm z.queue)) && List.all (List.map eItm z.queue)
  fun (r : Row) => Nat.beq (List.length r) (8 : Nat) then some (AV.tup [AV.agg [(vB z.begun), (vI z.next), (vI z.last.target), (vI z.last.first), (vI z.last.breaks), AV.sl
  (List.map eEnt z.last.entries), (vB z.last.ended), AV.sl (List.drop (1 : Nat) (List.map eItm z.queue)), (vI z.lost)], AV.agg [(vI (List.getD z_2 (0 : Nat) (Itm.mk (0 :
  Int) (Ent.mk (ByteArray.mk (Array.mk [])) (0 : Int) false (0 : Int) (ByteArray.mk (Array.mk [])) false []))).number), (vS (List.getD z_2 (0 : Nat) (Itm.mk (0 : Int)
  (Ent.mk (ByteArray.mk (Array.mk [])) (0 : Int) false (0 : Int) (ByteArray.mk (Array.mk [])) false []))).entry.uri), (vI (List.getD z_2 (0 : Nat) (Itm.mk (0 : Int) (Ent.mk
  (ByteArray.mk (Array.mk [])) (0 : Int) false (0 : Int) (ByteArray.mk (Array.mk [])) false []))).entry.milli), (vB (List.getD z_2 (0 : Nat) (Itm.mk (0 : Int) (Ent.mk
  (ByteArray.mk (Array.mk [])) (0 : Int) false (0 : Int) (ByteArray.mk (Array.mk [])) false []))).entry.brk), (vI (List.getD z_2 (0 : Nat) (Itm.mk (0 : Int) (Ent.mk
  (ByteArray.mk (Array.mk [])) (0 : Int) false (0 : Int) (ByteArray.mk (Array.mk [])) false []))).entry.date), (vS (List.getD z_2 (0 : Nat) (Itm.mk (0 : Int) (Ent.mk
  (ByteArray.mk (Array.mk [])) (0 : Int) false (0 : Int) (ByteArray.mk (Array.mk [])) false []))).entry.key), (vB (List.getD z_2 (0 : Nat) (Itm.mk (0 : Int) (Ent.mk
  (ByteArray.mk (Array.mk [])) (0 : Int) false (0 : Int) (ByteArray.mk (Array.mk [])) false []))).entry.gap), AV.sl (List.map eStr (List.getD z_2 (0 : Nat) (Itm.mk (0 : Int)
  (Ent.mk (ByteArray.mk (Array.mk [])) (0 : Int) false (0 : Int) (ByteArray.mk (Array.mk [])) false []))).entry.extra)], (vI (0 : Int))], []) else none else none else none
  else none := by kernel_rfl

def encPly1 (c : Cli) : List AV := [.agg (eCli c)]

def encPly (a : Cli) : List AV := encPly1 a

theorem encPly_inj (a a' : Cli) (h : encPly a = encPly a') : a = a' := by
  simp only [encPly, encPly1] at h
  try simp [strs_inj, ents_inj, eEnt_iff, eLst_iff, ints_inj, eTrn_iff, itms_inj, eCli_iff, eItm_iff] at h
  grind

theorem unPly (c : Cli) : unenc encPly ([AV.agg [(vB c.begun), (vI c.next), (vI c.last.target), (vI c.last.first), (vI c.last.breaks), AV.sl (List.map eEnt c.last.entries), (vB c.last.ended), AV.sl (List.map
  eItm c.queue), (vI c.lost)]]) = some (c) := unenc_of encPly_inj (c) rfl

def resPly1 (c : Cli) : AV × Heap := (.tup [.agg (eCli (F.play c).1), .agg (eItm (F.play c).2.1), vI (F.play c).2.2], [])

def prePly1 (c : Cli) : Bool := F.cOK c

noncomputable def oPly : Orc := orc 33 false encPly (fun a => prePly1 a) fun a => resPly1 a

theorem okPly : OrcOK Try.prog noG oPly := by
  refine mk_ok Try.f33 (keep := false) (by kernel_rfl) (by kernel_rfl) enPly_ok mixed (no_loops (by kernel_rfl)) (by first | exact fun _ _ => ⟨rfl, rfl⟩ | (intro h; cases h)) ?_
  rintro c hpre hok
  show (runF enPly false _ (encPly1 _)).val = some (resPly1 _)
  unfold encPly1 resPly1
  rw [evPly]
  simp only [prePly1, F.cOK, Bool.and_eq_true] at hpre
  obtain ⟨⟨h1, h2⟩, h3⟩ := hpre
  simp only [unClF, unCpC, preClF1, preCpC1, etaEnt, etaLst, Option.bind_some, List.length_map, unStrs, unInts, unBools, unEnts, unItms, unTrns, cond_true, cond_false, Bool.and_true, Bool.true_and, h1, h2, h3, F.play, F.isE]
  cases hc : F.cliF c 0 != 0
  · have hl := F.cliF_len hc
    rcases Bool.eq_false_or_eq_true c.queue.isEmpty with h0 | h0
    · simp only [h0, cond_true, cond_false]
      rfl
    · have hn : 0 < c.queue.length := by cases hh : c.queue <;> simp_all
      have d1 : decide (c.queue.length ≤ 100000) = true := decide_eq_true (by omega)
      have d2 : decide (0 < c.queue.length) = true := decide_eq_true hn
      have d3 : Nat.ble 1 c.queue.length = true := ble_t (by omega)
      have d4 : Nat.ble c.queue.length c.queue.length = true := ble_t (Nat.le_refl _)
      simp only [h0, d1, d2, d3, d4, all_itms, Bool.and_self, cond_true, cond_false, ← List.map_drop]
      rfl
  · rfl

noncomputable def enRPl : Env := envH ty noG lks [oRCl, oRCp] [] [] []

theorem enRPl_ok : EnvOK Try.prog enRPl := by
  refine envH_ok lks_ok ty_ok ?_ ?_
  · simp only [List.forall_mem_cons]
    exact ⟨okRCl, okRCp, by simp⟩
  · simp

theorem evRPl (c : Cli) : (runF enRPl false Try.f34 [.agg (eCli c)]).val =
  Option.bind (unenc encRCl [AV.agg [(vB c.begun), (vI c.next), (vI c.last.target), (vI c.last.first), (vI c.last.breaks), AV.sl (List.map eEnt c.last.entries), (vB
  c.last.ended), AV.sl (List.map eItm c.queue), (vI c.lost)], (vI (0 : Int))]) fun (z : Cli × Int) => bif F.cliF z.fst z.snd != (0 : Int) then some (AV.tup [AV.agg [(vB
  false), (vI (0 : Int)), (vI (0 : Int)), (vI (0 : Int)), (vI (0 : Int)), AV.sl [], (vB false), AV.sl [], (vI (0 : Int))], AV.agg [(vI (0 : Int)), (vS (ByteArray.mk
  (Array.mk []))), (vI (0 : Int)), (vB false), (vI (0 : Int)), (vS (ByteArray.mk (Array.mk []))), (vB false), AV.sl []], (vI (F.cliF z.fst z.snd))], []) else bif
  (↑(List.length (List.map eItm c.queue)) : Int) == (0 : Int) then some (AV.tup [AV.agg [(vB false), (vI (0 : Int)), (vI (0 : Int)), (vI (0 : Int)), (vI (0 : Int)), AV.sl
  [], (vB false), AV.sl [], (vI (0 : Int))], AV.agg [(vI (0 : Int)), (vS (ByteArray.mk (Array.mk []))), (vI (0 : Int)), (vB false), (vI (0 : Int)), (vS (ByteArray.mk
  (Array.mk []))), (vB false), AV.sl []], (vI (9 : Int))], []) else Option.bind (unenc encRCp [AV.agg [(vB c.begun), (vI c.next), (vI c.last.target), (vI c.last.first), (vI
  c.last.breaks), AV.sl (List.map eEnt c.last.entries), (vB c.last.ended), AV.sl (List.map eItm c.queue), (vI c.lost)]]) fun (z : Cli) => bif decide (List.length z.queue ≤
  (100000 : Nat)) then bif Nat.ble (1 : Nat) (List.length (List.map eItm z.queue)) && Nat.ble (List.length (List.map eItm z.queue)) (List.length (List.map eItm z.queue)) &&
  List.all (List.map eItm z.queue) fun (r : Row) => Nat.beq (List.length r) (8 : Nat) then Option.bind (unenc (List.map eItm) (List.map eItm c.queue)) fun (z_1 : List Itm)
  => bif decide ((0 : Nat) < List.length z_1) then some (AV.tup [AV.agg [(vB z.begun), (vI z.next), (vI z.last.target), (vI z.last.first), (vI z.last.breaks), AV.sl
  (List.map eEnt z.last.entries), (vB z.last.ended), AV.sl (List.drop (1 : Nat) (List.map eItm z.queue)), (vI z.lost)], AV.agg [(vI (List.getD z_1 (0 : Nat) (Itm.mk (0 :
  Int) (Ent.mk (ByteArray.mk (Array.mk [])) (0 : Int) false (0 : Int) (ByteArray.mk (Array.mk [])) false []))).number), (vS (List.getD z_1 (0 : Nat) (Itm.mk (0 : Int)
  (Ent.mk (ByteArray.mk (Array.mk [])) (0 : Int) false (0 : Int) (ByteArray.mk (Array.mk [])) false []))).entry.uri), (vI (List.getD z_1 (0 : Nat) (Itm.mk (0 : Int) (Ent.mk
  (ByteArray.mk (Array.mk [])) (0 : Int) false (0 : Int) (ByteArray.mk (Array.mk [])) false []))).entry.milli), (vB (List.getD z_1 (0 : Nat) (Itm.mk (0 : Int) (Ent.mk
  (ByteArray.mk (Array.mk [])) (0 : Int) false (0 : Int) (ByteArray.mk (Array.mk [])) false []))).entry.brk), (vI (List.getD z_1 (0 : Nat) (Itm.mk (0 : Int) (Ent.mk
  (ByteArray.mk (Array.mk [])) (0 : Int) false (0 : Int) (ByteArray.mk (Array.mk [])) false []))).entry.date), (vS (List.getD z_1 (0 : Nat) (Itm.mk (0 : Int) (Ent.mk
  (ByteArray.mk (Array.mk [])) (0 : Int) false (0 : Int) (ByteArray.mk (Array.mk [])) false []))).entry.key), (vB (List.getD z_1 (0 : Nat) (Itm.mk (0 : Int) (Ent.mk
  (ByteArray.mk (Array.mk [])) (0 : Int) false (0 : Int) (ByteArray.mk (Array.mk [])) false []))).entry.gap), AV.sl (List.map eStr (List.getD z_1 (0 : Nat) (Itm.mk (0 : Int)
  (Ent.mk (ByteArray.mk (Array.mk [])) (0 : Int) false (0 : Int) (ByteArray.mk (Array.mk [])) false []))).entry.extra)], (vI (0 : Int))], []) else none else none else none := by kernel_rfl

def encRPl1 (c : Cli) : List AV := [.agg (eCli c)]

def encRPl (a : Cli) : List AV := encRPl1 a

theorem encRPl_inj (a a' : Cli) (h : encRPl a = encRPl a') : a = a' := by
  simp only [encRPl, encRPl1] at h
  try simp [strs_inj, ents_inj, eEnt_iff, eLst_iff, ints_inj, eTrn_iff, itms_inj, eCli_iff, eItm_iff] at h
  grind

theorem unRPl (c : Cli) : unenc encRPl ([AV.agg [(vB c.begun), (vI c.next), (vI c.last.target), (vI c.last.first), (vI c.last.breaks), AV.sl (List.map eEnt c.last.entries), (vB c.last.ended), AV.sl (List.map
  eItm c.queue), (vI c.lost)]]) = some (c) := unenc_of encRPl_inj (c) rfl

def resRPl1 (c : Cli) : AV × Heap := (.tup [.agg (eCli (F.play c).1), .agg (eItm (F.play c).2.1), vI (F.play c).2.2], [])

def preRPl1 (c : Cli) : Bool := true

noncomputable def oRPl : Orc := orc 34 false encRPl (fun a => preRPl1 a) fun a => resRPl1 a

theorem okRPl : OrcOK Try.prog noG oRPl := by
  refine mk_ok Try.f34 (keep := false) (by kernel_rfl) (by kernel_rfl) enRPl_ok mixed (no_loops (by kernel_rfl)) (by first | exact fun _ _ => ⟨rfl, rfl⟩ | (intro h; cases h)) ?_
  rintro c hpre hok
  show (runF enRPl false _ (encRPl1 _)).val = some (resRPl1 _)
  unfold encRPl1 resRPl1
  rw [evRPl]
  simp only [unRCl, unRCp, preRCl1, preRCp1, etaEnt, etaLst, Option.bind_some, List.length_map, unStrs, unInts, unBools, unEnts, unItms, unTrns, cond_true, cond_false, Bool.and_true, Bool.true_and, F.play, F.isE]
  cases hc : F.cliF c 0 != 0
  · have hl := F.cliF_len hc
    rcases Bool.eq_false_or_eq_true c.queue.isEmpty with h0 | h0
    · simp only [h0, cond_true, cond_false]
      rfl
    · have hn : 0 < c.queue.length := by cases hh : c.queue <;> simp_all
      have d1 : decide (c.queue.length ≤ 100000) = true := decide_eq_true (by omega)
      have d2 : decide (0 < c.queue.length) = true := decide_eq_true hn
      have d3 : Nat.ble 1 c.queue.length = true := ble_t (by omega)
      have d4 : Nat.ble c.queue.length c.queue.length = true := ble_t (Nat.le_refl _)
      simp only [h0, d1, d2, d3, d4, all_itms, Bool.and_self, cond_true, cond_false, ← List.map_drop]
      rfl
  · rfl

end M
end Go.Proofs.Ytkfhfjcgegimbaa
