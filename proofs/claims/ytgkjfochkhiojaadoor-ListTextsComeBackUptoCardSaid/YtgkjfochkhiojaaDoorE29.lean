/- What is proved here: what the law of the changes of lists returns on plain data (no statement of the seat). -/
import Derived.Test.YtgkjfochkhiojaaDoorE8
namespace Go.Proofs.YtgkjfochkhiojaaDoor
open Go Go.RowKit
set_option linter.unusedVariables false
set_option linter.unusedSimpArgs false

/-- A list's length in milliseconds. -/
def F.length (l : Lst) : Int × Int := if F.check l ≠ 0 then (0, F.check l) else (F.lenF 0 l.entries, 0)

namespace M


noncomputable def enLng : Env := envH ty noG lks [oChk, oLen] [] [] []

theorem enLng_ok : EnvOK Tryd.prog enLng := by
  refine envH_ok lks_ok ty_ok ?_ ?_
  · simp only [List.forall_mem_cons]
    exact ⟨okChk, okLen, by simp⟩
  · simp

theorem evLng (l : Lst) : (runF enLng false Tryd.f14 [.agg (eLst l)]).val =
  Option.bind (unenc encChk [AV.agg [(vI l.target), (vI l.first), (vI l.breaks), AV.sl (List.map eEnt l.entries), (vB l.ended)]]) fun (z : Lst) => bif F.check z != (0 : Int)
  then some (AV.tup [(vI (0 : Int)), (vI (F.check z))], []) else Option.bind (unenc encLen [AV.agg [(vI l.target), (vI l.first), (vI l.breaks), AV.sl (List.map eEnt
  l.entries), (vB l.ended)]]) fun (z : Lst) => some (AV.tup [(vI (F.lenF (0 : Int) z.entries)), (vI (0 : Int))], []) := by kernel_rfl

def encLng1 (l : Lst) : List AV := [.agg (eLst l)]

def encLng (a : Lst) : List AV := encLng1 a

theorem encLng_inj (a a' : Lst) (h : encLng a = encLng a') : a = a' := by
  simp only [encLng, encLng1] at h
  try simp [strs_inj, ents_inj, eEnt_iff, eLst_iff] at h
  grind

theorem unLng (l : Lst) : unenc encLng ([AV.agg [(vI l.target), (vI l.first), (vI l.breaks), AV.sl (List.map eEnt l.entries), (vB l.ended)]]) = some (l) := unenc_of encLng_inj (l) rfl

theorem unLngw (l_target : Int) (l_first : Int) (l_breaks : Int) (l_entries : List Ent) (l_ended : Bool) : unenc encLng ([AV.agg [(vI l_target), (vI l_first), (vI l_breaks), AV.sl (List.map eEnt l_entries), (vB l_ended)]]) = some ((Lst.mk l_target l_first l_breaks l_entries l_ended)) := unenc_of encLng_inj ((Lst.mk l_target l_first l_breaks l_entries l_ended)) rfl

def resLng1 (l : Lst) : AV × Heap := (.tup [vI (F.length l).1, vI (F.length l).2], [])

def preLng1 (l : Lst) : Bool := true

noncomputable def oLng : Orc := orc 14 true encLng (fun a => preLng1 a) fun a => resLng1 a

theorem okLng : OrcOK Tryd.prog noG oLng := by
  refine mk_ok Tryd.f14 (keep := false) (by kernel_rfl) (by kernel_rfl) enLng_ok mixed (no_loops (by kernel_rfl)) (by first | exact fun _ _ => ⟨rfl, rfl⟩ | (intro h; cases h)) ?_
  rintro l hpre hok
  show (runF enLng false _ (encLng1 _)).val = some (resLng1 _)
  unfold encLng1 resLng1
  rw [evLng]
  simp only [unChk, unLen, unChkw, unLenw, preChk1, preLen1, etaEnt, etaLst, Option.bind_some, List.length_map, unStrs, unInts, unBools, unEnts, unItms, unTrns, cond_true, cond_false, Bool.and_true, Bool.true_and]
  by_cases h0 : F.check l = 0
  · simp only [F.length, h0, bne_self_eq_false, cond_false, ne_eq, not_true_eq_false, if_false]
  · have hb : (F.check l != 0) = true := by simp [h0]
    simp only [hb, cond_true, F.length, h0, if_true, ne_eq, not_false_eq_true]

noncomputable def enAwk : Env := envH ty noG lks [oLng] [] [] []

theorem enAwk_ok : EnvOK Tryd.prog enAwk := by
  refine envH_ok lks_ok ty_ok ?_ ?_
  · simp only [List.forall_mem_cons]
    exact ⟨okLng, by simp⟩
  · simp

def awL : Lst := ⟨4, 0, 0, [⟨⟨#[97]⟩, 7, false, -1, ⟨#[]⟩, false, []⟩], false⟩

theorem awL_len : F.length awL = (7, 0) := by kernel_rfl

theorem evAwk  : (runF enAwk false Tryd.f7 []).val =
  Option.bind (unenc encLng [AV.agg [(vI (4 : Int)), (vI (0 : Int)), (vI (0 : Int)), AV.sl [[(vS (ByteArray.mk (Array.mk [(97 : UInt8)]))), (vI (7 : Int)), (vB false), (vI
  (-1 : Int)), (vS (ByteArray.mk (Array.mk []))), (vB false), AV.sl []]], (vB false)]]) fun (z : Lst) => some ((vB (bif (F.length z).snd == (0 : Int) then (F.length z).fst
  == (7 : Int) else false)), []) := by kernel_rfl

def encAwk1  : List AV := []

def encAwk (a : Unit) : List AV := encAwk1

theorem encAwk_inj (a a' : Unit) (h : encAwk a = encAwk a') : a = a' := rfl

theorem unAwk  : unenc encAwk ([]) = some () := unenc_of encAwk_inj () rfl

def resAwk1  : AV × Heap := (vB true, [])

def preAwk1  : Bool := true

noncomputable def oAwk : Orc := orc 7 true encAwk (fun a => preAwk1) fun a => resAwk1

theorem okAwk : OrcOK Tryd.prog noG oAwk := by
  refine mk_ok Tryd.f7 (keep := false) (by kernel_rfl) (by kernel_rfl) enAwk_ok mixed (no_loops (by kernel_rfl)) (by first | exact fun _ _ => ⟨rfl, rfl⟩ | (intro h; cases h)) ?_
  rintro ⟨⟩ hpre hok
  show (runF enAwk false _ (encAwk1 )).val = some (resAwk1 )
  unfold encAwk1 resAwk1
  rw [evAwk]
  show (Option.bind (unenc encLng (encLng awL)) _ : Option (AV × Heap)) = _
  rw [unenc_of encLng_inj awL rfl, Option.bind_some, awL_len]
  rfl

end M
end Go.Proofs.YtgkjfochkhiojaaDoor
