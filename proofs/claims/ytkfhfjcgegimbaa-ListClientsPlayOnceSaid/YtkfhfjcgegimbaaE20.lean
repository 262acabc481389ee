/- What is proved here: what the law of loads returns on plain data (no statement of the seat). -/
import Derived.Test.YtkfhfjcgegimbaaE19
namespace Go.Proofs.Ytkfhfjcgegimbaa
open Go Go.RowKit
set_option linter.unusedVariables false
set_option linter.unusedSimpArgs false

namespace M


noncomputable def enLLd : Env := envH ty noG lks [oLod, oRLd, oSmC, oPly, oRPl, oSmE, oAwk] [] [] []

theorem enLLd_ok : EnvOK Try.prog enLLd := by
  refine envH_ok lks_ok ty_ok ?_ ?_
  · simp only [List.forall_mem_cons]
    exact ⟨okLod, okRLd, okSmC, okPly, okRPl, okSmE, okAwk, by simp⟩
  · simp

theorem evLLd (c : Cli) (l : Lst) (b : Int) : (runF enLLd false Try.f9 [.agg (eCli c), .agg (eLst l), vI b]).val =
  Option.bind (unenc encLod [AV.agg [(vB c.begun), (vI c.next), (vI c.last.target), (vI c.last.first), (vI c.last.breaks), AV.sl (List.map eEnt c.last.entries), (vB
  c.last.ended), AV.sl (List.map eItm c.queue), (vI c.lost)], AV.agg [(vI l.target), (vI l.first), (vI l.breaks), AV.sl (List.map eEnt l.entries), (vB l.ended)], (vI b)])
  fun (z : Cli × Lst × Int) => bif F.cOK z.fst then Option.bind (unenc encRLd [AV.agg [(vB c.begun), (vI c.next), (vI c.last.target), (vI c.last.first), (vI c.last.breaks),
  AV.sl (List.map eEnt c.last.entries), (vB c.last.ended), AV.sl (List.map eItm c.queue), (vI c.lost)], AV.agg [(vI l.target), (vI l.first), (vI l.breaks), AV.sl (List.map
  eEnt l.entries), (vB l.ended)], (vI b)]) fun (z_1 : Cli × Lst × Int) => Option.bind (unenc encSmC [AV.agg [(vB (F.load z.fst z.snd.fst z.snd.snd).fst.begun), (vI (F.load
  z.fst z.snd.fst z.snd.snd).fst.next), (vI (F.load z.fst z.snd.fst z.snd.snd).fst.last.target), (vI (F.load z.fst z.snd.fst z.snd.snd).fst.last.first), (vI (F.load z.fst
  z.snd.fst z.snd.snd).fst.last.breaks), AV.sl (List.map eEnt (F.load z.fst z.snd.fst z.snd.snd).fst.last.entries), (vB (F.load z.fst z.snd.fst z.snd.snd).fst.last.ended),
  AV.sl (List.map eItm (F.load z.fst z.snd.fst z.snd.snd).fst.queue), (vI (F.load z.fst z.snd.fst z.snd.snd).fst.lost)], AV.agg [(vB (F.rload z_1.fst z_1.snd.fst
  z_1.snd.snd).fst.begun), (vI (F.rload z_1.fst z_1.snd.fst z_1.snd.snd).fst.next), (vI (F.rload z_1.fst z_1.snd.fst z_1.snd.snd).fst.last.target), (vI (F.rload z_1.fst
  z_1.snd.fst z_1.snd.snd).fst.last.first), (vI (F.rload z_1.fst z_1.snd.fst z_1.snd.snd).fst.last.breaks), AV.sl (List.map eEnt (F.rload z_1.fst z_1.snd.fst
  z_1.snd.snd).fst.last.entries), (vB (F.rload z_1.fst z_1.snd.fst z_1.snd.snd).fst.last.ended), AV.sl (List.map eItm (F.rload z_1.fst z_1.snd.fst z_1.snd.snd).fst.queue),
  (vI (F.rload z_1.fst z_1.snd.fst z_1.snd.snd).fst.lost)]]) fun (z_2 : Cli × Cli) => bif bif !F.sameC z_2.fst z_2.snd then true else (F.load z.fst z.snd.fst z.snd.snd).snd
  != (F.rload z_1.fst z_1.snd.fst z_1.snd.snd).snd then some ((vB false), []) else Option.bind (unenc encPly [AV.agg [(vB c.begun), (vI c.next), (vI c.last.target), (vI
  c.last.first), (vI c.last.breaks), AV.sl (List.map eEnt c.last.entries), (vB c.last.ended), AV.sl (List.map eItm c.queue), (vI c.lost)]]) fun (z : Cli) => bif F.cOK z then
  Option.bind (unenc encRPl [AV.agg [(vB c.begun), (vI c.next), (vI c.last.target), (vI c.last.first), (vI c.last.breaks), AV.sl (List.map eEnt c.last.entries), (vB
  c.last.ended), AV.sl (List.map eItm c.queue), (vI c.lost)]]) fun (z_3 : Cli) => Option.bind (unenc encSmC [AV.agg [(vB (F.play z).fst.begun), (vI (F.play z).fst.next), (vI
  (F.play z).fst.last.target), (vI (F.play z).fst.last.first), (vI (F.play z).fst.last.breaks), AV.sl (List.map eEnt (F.play z).fst.last.entries), (vB (F.play
  z).fst.last.ended), AV.sl (List.map eItm (F.play z).fst.queue), (vI (F.play z).fst.lost)], AV.agg [(vB (F.play z_3).fst.begun), (vI (F.play z_3).fst.next), (vI (F.play
  z_3).fst.last.target), (vI (F.play z_3).fst.last.first), (vI (F.play z_3).fst.last.breaks), AV.sl (List.map eEnt (F.play z_3).fst.last.entries), (vB (F.play
  z_3).fst.last.ended), AV.sl (List.map eItm (F.play z_3).fst.queue), (vI (F.play z_3).fst.lost)]]) fun (z_4 : Cli × Cli) => bif bif F.sameC z_4.fst z_4.snd then (F.play
  z).snd.fst.number == (F.play z_3).snd.fst.number else false then Option.bind (unenc encSmE [AV.agg [(vS (F.play z).snd.fst.entry.uri), (vI (F.play z).snd.fst.entry.milli),
  (vB (F.play z).snd.fst.entry.brk), (vI (F.play z).snd.fst.entry.date), (vS (F.play z).snd.fst.entry.key), (vB (F.play z).snd.fst.entry.gap), AV.sl (List.map eStr (F.play
  z).snd.fst.entry.extra)], AV.agg [(vS (F.play z_3).snd.fst.entry.uri), (vI (F.play z_3).snd.fst.entry.milli), (vB (F.play z_3).snd.fst.entry.brk), (vI (F.play
  z_3).snd.fst.entry.date), (vS (F.play z_3).snd.fst.entry.key), (vB (F.play z_3).snd.fst.entry.gap), AV.sl (List.map eStr (F.play z_3).snd.fst.entry.extra)]]) fun (z_5 :
  Ent × Ent) => bif bif bif bif F.sameC z_4.fst z_4.snd then (F.play z).snd.fst.number == (F.play z_3).snd.fst.number else false then F.sameE z_5.fst z_5.snd else false then
  (F.play z).snd.snd == (F.play z_3).snd.snd else false then Option.bind (unenc encAwk []) fun (z_6 : Unit) => some ((vB (bif bif bif bif F.sameC z_4.fst z_4.snd then
  (F.play z).snd.fst.number == (F.play z_3).snd.fst.number else false then F.sameE z_5.fst z_5.snd else false then (F.play z).snd.snd == (F.play z_3).snd.snd else false then
  true else false)), []) else some ((vB false), []) else some ((vB false), []) else none else none := by kernel_rfl

def encLLd1 (c : Cli) (l : Lst) (b : Int) : List AV := [.agg (eCli c), .agg (eLst l), vI b]

def encLLd (a : Cli × Lst × Int) : List AV := encLLd1 a.1 a.2.1 a.2.2

theorem encLLd_inj (a a' : Cli × Lst × Int) (h : encLLd a = encLLd a') : a = a' := by
  simp only [encLLd, encLLd1] at h
  try simp [strs_inj, ents_inj, eEnt_iff, eLst_iff, ints_inj, eTrn_iff, itms_inj, eCli_iff, eItm_iff] at h
  grind

theorem unLLd (c : Cli) (l : Lst) (b : Int) : unenc encLLd ([AV.agg [(vB c.begun), (vI c.next), (vI c.last.target), (vI c.last.first), (vI c.last.breaks), AV.sl (List.map eEnt c.last.entries), (vB c.last.ended), AV.sl (List.map
  eItm c.queue), (vI c.lost)], AV.agg [(vI l.target), (vI l.first), (vI l.breaks), AV.sl (List.map eEnt l.entries), (vB l.ended)], (vI b)]) = some (c, l, b) := unenc_of encLLd_inj (c, l, b) rfl

theorem unLLdw (c : Cli) (l_target : Int) (l_first : Int) (l_breaks : Int) (l_entries : List Ent) (l_ended : Bool) (b : Int) : unenc encLLd ([AV.agg [(vB c.begun), (vI c.next), (vI c.last.target), (vI c.last.first), (vI c.last.breaks), AV.sl (List.map eEnt c.last.entries), (vB c.last.ended), AV.sl (List.map
  eItm c.queue), (vI c.lost)], AV.agg [(vI l_target), (vI l_first), (vI l_breaks), AV.sl (List.map eEnt l_entries), (vB l_ended)], (vI b)]) = some (c, (Lst.mk l_target l_first l_breaks l_entries l_ended), b) := unenc_of encLLd_inj (c, (Lst.mk l_target l_first l_breaks l_entries l_ended), b) rfl

def resLLd1 (c : Cli) (l : Lst) (b : Int) : AV × Heap := (vB true, [])

def preLLd1 (c : Cli) (l : Lst) (b : Int) : Bool := F.cOK c

noncomputable def oLLd : Orc := orc 9 true encLLd (fun a => preLLd1 a.1 a.2.1 a.2.2) fun a => resLLd1 a.1 a.2.1 a.2.2

theorem okLLd : OrcOK Try.prog noG oLLd := by
  refine mk_ok Try.f9 (keep := false) (by kernel_rfl) (by kernel_rfl) enLLd_ok mixed (no_loops (by kernel_rfl)) (by first | exact fun _ _ => ⟨rfl, rfl⟩ | (intro h; cases h)) ?_
  rintro ⟨c, l, b⟩ hpre hok
  show (runF enLLd false _ (encLLd1 _ _ _)).val = some (resLLd1 _ _ _)
  unfold encLLd1 resLLd1
  rw [evLLd]
  simp only [preLLd1] at hpre
  simp only [unLod, unRLd, unSmC, unPly, unRPl, unSmE, unAwk, unLodw, unRLdw, unSmEw, preLod1, preRLd1, preSmC1, prePly1, preRPl1, preSmE1, preAwk1, etaEnt, etaLst, Option.bind_some, List.length_map, unStrs, unInts, unBools, unEnts, unItms, unTrns, cond_true, cond_false, Bool.and_true, Bool.true_and, hpre, F.rload_eq, F.sameC_refl, F.sameE_refl, Bool.not_true, bne_self_eq_false, beq_self_eq_true]
  done

end M
end Go.Proofs.Ytkfhfjcgegimbaa
