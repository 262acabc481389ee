/- What is proved here: ReadDelta is as specified for any string, with the lines of errors. -/
import Derived.Test.YtllagmepnmdeoaaDoorE92
import Derived.Test.YtllagmepnmdeoaaDoorE96
namespace Go.Proofs.YtllagmepnmdeoaaDoor
open Go Go.RowKit
set_option linter.unusedVariables false
set_option linter.unusedSimpArgs false
set_option maxHeartbeats 1000000

/-- A list's length in milliseconds. -/
def F.length (l : Lst) : Int × Int := if F.check l ≠ 0 then (0, F.check l) else (F.lenF 0 l.entries, 0)

/-- A delta of a text as the reference reads it. -/
def F.rdl (s : ByteArray) : Lst × Int × Int × Int :=
  bif (F.rrT s true).2.2.2 != 0 then (F.noL, 0, (F.rrT s true).2.2.1, (F.rrT s true).2.2.2) else
  bif decide (1000 < (F.rrT s true).2.1) then (F.noL, 0, 0, 1) else ((F.rrT s true).1, (F.rrT s true).2.1, 0, 0)

theorem F.dl_rr (s : ByteArray) : F.dlT s = F.rdl s := by
  have hA := F.at_0 s
  have hx : F.exa (F.lnL s) (F.opA false s) 0 F.kLst = (F.cutF s F.nl && F.seq (F.cutH s F.nl) F.kLst) := by
    unfold F.exa
    rw [F.at_mor hA]
    cases hc : F.cutF s F.nl
    · rfl
    · rw [(F.at_line hA hc).1]
  unfold F.rdl
  cases hq : (F.cutF s F.nl && F.seq (F.cutH s F.nl) F.kLst)
  · rw [F.rrT_bad (F.hR_no (by rw [hx, hq]))]
    unfold F.dlT
    rw [hq]
    cases decide (500000 < s.size) <;> rfl
  have hc : F.cutF s F.nl = true := by rw [Bool.and_eq_true] at hq; exact hq.1
  have hA1 := (F.at_line hA hc).2
  have hgo := F.hR_go (sk := true) (hx.trans hq)
  obtain ⟨t1, t2⟩ := F.hd_cnt hA1 F.wTg F.vTg (F.bsx (by unfold F.hdW; rw [F.bs_app]; rfl))
  cases h1 : F.hdOk (F.cutT s F.nl) F.wTg
  · rw [F.rrT_bad (a := 1) (by rw [hgo]; unfold F.hdR; rw [t1, h1]; rfl)]
    unfold F.dlT
    rw [hq, h1]
    cases decide (500000 < s.size) <;> rfl
  obtain ⟨v1, hA2⟩ := t2 h1
  obtain ⟨u1, u2⟩ := F.hd_cnt hA2 F.wFi F.vFi (F.bsx (by unfold F.hdW; rw [F.bs_app]; rfl))
  have d1 : F.dr 1 (F.cutT s F.nl) = F.cutT (F.cutT s F.nl) F.nl := rfl
  have d2 : F.dr 2 (F.cutT s F.nl) = F.cutT (F.cutT (F.cutT s F.nl) F.nl) F.nl := rfl
  have d3 : F.dr 3 (F.cutT s F.nl) = F.cutT (F.cutT (F.cutT (F.cutT s F.nl) F.nl) F.nl) F.nl := rfl
  cases h2 : F.hdOk (F.cutT (F.cutT s F.nl) F.nl) F.wFi
  · rw [F.rrT_bad (a := 2) (by rw [hgo]; unfold F.hdR; rw [t1, h1, u1, h2]; rfl)]
    unfold F.dlT
    rw [hq, h1, d1, h2]
    cases decide (500000 < s.size) <;> rfl
  obtain ⟨v2, hA3⟩ := u2 h2
  obtain ⟨w1, w2⟩ := F.hd_cnt hA3 F.wBr F.vBr (F.bsx (by unfold F.hdW; rw [F.bs_app]; rfl))
  cases h3 : F.hdOk (F.cutT (F.cutT (F.cutT s F.nl) F.nl) F.nl) F.wBr
  · rw [F.rrT_bad (a := 3) (by rw [hgo]; unfold F.hdR; rw [t1, h1, u1, h2, w1, h3]; rfl)]
    unfold F.dlT
    rw [hq, h1, d1, h2, d2, h3]
    cases decide (500000 < s.size) <;> rfl
  obtain ⟨v3, hA4⟩ := w2 h3
  obtain ⟨x1, x2⟩ := F.hd_cnt hA4 F.wSk F.vSk (F.bsx (by unfold F.hdW; rw [F.bs_app]; rfl))
  cases h4 : F.hdOk (F.cutT (F.cutT (F.cutT (F.cutT s F.nl) F.nl) F.nl) F.nl) F.wSk
  · rw [F.rrT_bad (a := 4) (by rw [hgo]; unfold F.hdR; rw [t1, h1, u1, h2, w1, h3, x1, h4]; rfl)]
    unfold F.dlT
    rw [hq, h1, d1, h2, d2, h3, d3, h4]
    cases decide (500000 < s.size) <;> rfl
  obtain ⟨v4, hA5⟩ := x2 h4
  obtain ⟨b1, b2, b3⟩ := F.bd_rd (F.lnL s) (F.opA false s) _ _ (0 + 1 + 1 + 1 + 1 + 1) ⟨⟨[]⟩⟩ [] [] false (Nat.le_refl _) hA5 rfl
  have hP : F.bdL (F.cutT (F.cutT (F.cutT (F.cutT (F.cutT s F.nl) F.nl) F.nl) F.nl) F.nl) ((0 + 1 + 1 + 1 + 1 + 1 : Nat) : Int) ⟨⟨[]⟩⟩ [] false = F.dlB (F.cutT s F.nl) 1 := rfl
  rw [hP] at b1 b2 b3
  generalize hQ : F.rdM (F.lnL s) (F.opA false s) ⟨⟨[]⟩⟩ [] (0 + 1 + 1 + 1 + 1 + 1) false = Q at b1 b2 b3
  rw [F.rrT_ok (sk := true) (a := 5) (by rw [hgo]; unfold F.hdR; rw [t1, h1, u1, h2, w1, h3, x1, h4]; rfl) hQ v1 v2 v3 v4]
  have hfin := F.fin_eq (t := F.hdV (F.cutT s F.nl) F.wTg) (f := F.hdV (F.cutT (F.cutT s F.nl) F.nl) F.wFi) (b := F.hdV (F.cutT (F.cutT (F.cutT s F.nl) F.nl) F.nl) F.wBr) b1 b2 b3
  have hnn : 0 ≤ F.hdV (F.cutT (F.cutT (F.cutT (F.cutT s F.nl) F.nl) F.nl) F.nl) F.wSk := F.numV_nn _ _
  unfold F.dlT F.dlG
  rw [hq, h1, d1, h2, d2, h3, d3, h4]
  generalize F.dlB (F.cutT s F.nl) 1 = P at hfin
  clear b1 b2 b3 hP hQ
  cases decide (500000 < s.size)
  rotate_left
  · rfl
  rcases hfin with ⟨f1, f2, f3⟩ | ⟨f1, f2, f3, f4⟩
  · rw [f1, f2, f3]
    rfl
  · rw [f1, f2]
    generalize F.hdV (F.cutT s F.nl) F.wTg = T at *
    generalize F.hdV (F.cutT (F.cutT s F.nl) F.nl) F.wFi = Fi at *
    generalize F.hdV (F.cutT (F.cutT (F.cutT s F.nl) F.nl) F.nl) F.wBr = B at *
    generalize F.hdV (F.cutT (F.cutT (F.cutT (F.cutT s F.nl) F.nl) F.nl) F.nl) F.wSk = K at *
    rw [← f3]
    by_cases h0 : F.check ⟨T, Fi, B, P.2.2.2.1, P.2.2.2.2⟩ = 0
    · rw [← f4 h0, h0]
      have ho : F.out K 0 1000 = decide (1000 < K) := by unfold F.out; rw [decide_eq_false (by omega : ¬ K < 0), Bool.false_or]
      rw [ho]
      show (bif false then _ else bif false then _ else bif decide (1000 < K) then _ else _) = (bif false then _ else bif decide (1000 < K) then _ else _)
      cases decide (1000 < K) <;> rfl
    · have hn : (F.check ⟨T, Fi, B, P.2.2.2.1, P.2.2.2.2⟩ != 0) = true := by simp [h0]
      rw [hn]
      show (F.noL, (0 : Int), (0 : Int), F.check ⟨T, Fi, B, P.2.2.2.1, P.2.2.2.2⟩) = bif F.check ⟨T, Fi, B, P.2.2.2.1, P.2.2.2.2⟩ != 0 then _ else _
      rw [hn]
      rfl

namespace M


noncomputable def enLng : Env := envH ty noG lks [oChk, oLen] [] [] []

theorem enLng_ok : EnvOK Tryd.prog enLng := by
  refine envH_ok lks_ok ty_ok ?_ ?_
  · simp only [List.forall_mem_cons]
    exact ⟨okChk, okLen, by simp⟩
  · simp

theorem evLng (l : Lst) : (runF enLng false Tryd.f16 [.agg (eLst l)]).val =
  Option.bind (unenc encChk [AV.agg [(vI l.target), (vI l.first), (vI l.breaks), AV.sl (List.map eEnt l.entries), (vB l.ended)]]) fun (z : Lst) => bif F.check z != (0 : Int)
  then some (AV.tup [(vI (0 : Int)), (vI (F.check z))], []) else Option.bind (unenc encLen [AV.agg [(vI l.target), (vI l.first), (vI l.breaks), AV.sl (List.map eEnt
  l.entries), (vB l.ended)]]) fun (z : Lst) => some (AV.tup [(vI (F.lenF (0 : Int) z.entries)), (vI (0 : Int))], []) := (runFR_val).symm.trans (by kernel_rfl)

def encLng1 (l : Lst) : List AV := [.agg (eLst l)]

def encLng (a : Lst) : List AV := encLng1 a

theorem encLng_inj (a a' : Lst) (h : encLng a = encLng a') : a = a' := by
  simp only [encLng, encLng1] at h
  try simp [strs_inj, ints_inj, ents_inj, eEnt_iff, eLst_iff, eSnds_inj, eStrms_inj] at h
  grind

theorem unLng (l : Lst) : unenc encLng ([AV.agg [(vI l.target), (vI l.first), (vI l.breaks), AV.sl (List.map eEnt l.entries), (vB l.ended)]]) = some (l) := unenc_of encLng_inj (l) rfl

theorem unLngw (l_target : Int) (l_first : Int) (l_breaks : Int) (l_entries : List Ent) (l_ended : Bool) : unenc encLng ([AV.agg [(vI l_target), (vI l_first), (vI l_breaks), AV.sl (List.map eEnt l_entries), (vB l_ended)]]) = some ((Lst.mk l_target l_first l_breaks l_entries l_ended)) := unenc_of encLng_inj ((Lst.mk l_target l_first l_breaks l_entries l_ended)) rfl

def resLng1 (l : Lst) : AV × Heap := (.tup [vI (F.length l).1, vI (F.length l).2], [])

def preLng1 (l : Lst) : Bool := true

noncomputable def oLng : Orc := orc 16 true encLng (fun a => preLng1 a) fun a => resLng1 a

theorem okLng : OrcOK Tryd.prog noG oLng := by
  refine mk_ok Tryd.f16 (keep := false) (by kernel_rfl) (by kernel_rfl) enLng_ok mixed (no_loops (by kernel_rfl)) (by first | exact fun _ _ => ⟨rfl, rfl⟩ | (intro h; cases h)) ?_
  rintro l hpre hok
  show (runF enLng false _ (encLng1 _)).val = some (resLng1 _)
  unfold encLng1 resLng1
  rw [evLng]
  simp only [unChk, unLen, unChkw, unLenw, preChk1, preLen1, etaEnt, etaLst, etaSnd, etaStrm, etaMas, Option.bind_some, List.length_map, unStrs, unInts, unBools, unEnts, unItms, unTrns, cond_true, cond_false, Bool.and_true, Bool.true_and]
  by_cases h0 : F.check l = 0
  · simp only [F.length, h0, bne_self_eq_false, cond_false, ne_eq, not_true_eq_false, if_false]
  · have hb : (F.check l != 0) = true := by simp [h0]
    simp only [hb, cond_true, F.length, h0, if_true, ne_eq, not_false_eq_true]

noncomputable def enAwk : Env := envH ty noG lks [oLng] [] [] []

theorem enAwk_ok : EnvOK Tryd.prog enAwk := by
  refine envH_ok lks_ok ty_ok ?_ ?_
  · simp only [List.forall_mem_cons]
    exact ⟨okLng, by simp⟩
  · simp

def awL : Lst := ⟨4, 0, 0, [⟨⟨#[97]⟩, 7, false, -1, ⟨#[]⟩, false, []⟩], false⟩

theorem awL_len : F.length awL = (7, 0) := by kernel_rfl

theorem evAwk  : (runF enAwk false Tryd.f8 []).val =
  Option.bind (unenc encLng [AV.agg [(vI (4 : Int)), (vI (0 : Int)), (vI (0 : Int)), AV.sl [[(vS (ByteArray.mk (Array.mk [(97 : UInt8)]))), (vI (7 : Int)), (vB false), (vI
  (-1 : Int)), (vS (ByteArray.mk (Array.mk []))), (vB false), AV.sl []]], (vB false)]]) fun (z : Lst) => some ((vB (bif (F.length z).snd == (0 : Int) then (F.length z).fst
  == (7 : Int) else false)), []) := (runFR_val).symm.trans (by kernel_rfl)

def encAwk1  : List AV := []

def encAwk (a : Unit) : List AV := encAwk1

theorem encAwk_inj (a a' : Unit) (h : encAwk a = encAwk a') : a = a' := rfl

theorem unAwk  : unenc encAwk ([]) = some () := unenc_of encAwk_inj () rfl

def resAwk1  : AV × Heap := (vB true, [])

def preAwk1  : Bool := true

noncomputable def oAwk : Orc := orc 8 true encAwk (fun a => preAwk1) fun a => resAwk1

theorem okAwk : OrcOK Tryd.prog noG oAwk := by
  refine mk_ok Tryd.f8 (keep := false) (by kernel_rfl) (by kernel_rfl) enAwk_ok mixed (no_loops (by kernel_rfl)) (by first | exact fun _ _ => ⟨rfl, rfl⟩ | (intro h; cases h)) ?_
  rintro ⟨⟩ hpre hok
  show (runF enAwk false _ (encAwk1 )).val = some (resAwk1 )
  unfold encAwk1 resAwk1
  rw [evAwk]
  show (Option.bind (unenc encLng (encLng awL)) _ : Option (AV × Heap)) = _
  rw [unenc_of encLng_inj awL rfl, Option.bind_some, awL_len]
  rfl

noncomputable def enRRd : Env := envH ty noG lks [oRrd] [] [] []

theorem enRRd_ok : EnvOK Tryd.prog enRRd := by
  refine envH_ok lks_ok ty_ok ?_ ?_
  · simp only [List.forall_mem_cons]
    exact ⟨okRrd, by simp⟩
  · simp

theorem evRRd (s : ByteArray) : (runF enRRd false Tryd.f10 [vS s]).val =
  Option.bind (unenc encRrd [(vS s), (vB true)]) fun (z : ByteArray × Bool) => bif (F.rrT z.fst z.snd).snd.snd.snd != (0 : Int) then some (AV.tup [AV.agg [(vI (0 : Int)),
  (vI (0 : Int)), (vI (0 : Int)), (vI (0 : Int)), AV.sl [], (vB false)], (vI (F.rrT z.fst z.snd).snd.snd.fst), (vI (F.rrT z.fst z.snd).snd.snd.snd)], []) else bif decide
  ((1000 : Int) < (F.rrT z.fst z.snd).snd.fst) then some (AV.tup [AV.agg [(vI (0 : Int)), (vI (0 : Int)), (vI (0 : Int)), (vI (0 : Int)), AV.sl [], (vB false)], (vI (0 :
  Int)), (vI (1 : Int))], []) else some (AV.tup [AV.agg [(vI (F.rrT z.fst z.snd).snd.fst), (vI (F.rrT z.fst z.snd).fst.target), (vI (F.rrT z.fst z.snd).fst.first), (vI
  (F.rrT z.fst z.snd).fst.breaks), AV.sl (List.map eEnt (F.rrT z.fst z.snd).fst.entries), (vB (F.rrT z.fst z.snd).fst.ended)], (vI (0 : Int)), (vI (0 : Int))], []) := (runFR_val).symm.trans (by kernel_rfl)

def encRRd1 (s : ByteArray) : List AV := [vS s]

def encRRd (a : ByteArray) : List AV := encRRd1 a

theorem encRRd_inj (a a' : ByteArray) (h : encRRd a = encRRd a') : a = a' := by
  simp only [encRRd, encRRd1] at h
  try simp [strs_inj, ints_inj, ents_inj, eEnt_iff, eLst_iff, eSnds_inj, eStrms_inj] at h
  grind

theorem unRRd (s : ByteArray) : unenc encRRd ([(vS s)]) = some (s) := unenc_of encRRd_inj (s) rfl

def resRRd1 (s : ByteArray) : AV × Heap := (.tup [.agg [vI (F.rdl s).2.1, vI (F.rdl s).1.target, vI (F.rdl s).1.first, vI (F.rdl s).1.breaks, .sl ((F.rdl s).1.entries.map eEnt), vB (F.rdl s).1.ended], vI (F.rdl s).2.2.1, vI (F.rdl s).2.2.2], [])

def preRRd1 (s : ByteArray) : Bool := true

noncomputable def oRRd : Orc := orc 10 false encRRd (fun a => preRRd1 a) fun a => resRRd1 a

theorem okRRd : OrcOK Tryd.prog noG oRRd := by
  refine mk_ok Tryd.f10 (keep := false) (by kernel_rfl) (by kernel_rfl) enRRd_ok mixed (no_loops (by kernel_rfl)) (by first | exact fun _ _ => ⟨rfl, rfl⟩ | (intro h; cases h)) ?_
  rintro s hpre hok
  show (runF enRRd false _ (encRRd1 _)).val = some (resRRd1 _)
  unfold encRRd1 resRRd1
  rw [evRRd]
  simp only [unRrd, preRrd1, etaEnt, etaLst, etaSnd, etaStrm, etaMas, Option.bind_some, List.length_map, unStrs, unInts, unBools, unEnts, unItms, unTrns, cond_true, cond_false, Bool.and_true, Bool.true_and]
  unfold F.rdl
  cases (F.rrT s true).2.2.2 != 0
  · cases decide (1000 < (F.rrT s true).2.1) <;> rfl
  · rfl

noncomputable def enLRD : Env := envH ty noG lks [oRed, oRRd, oSmL, oAwk] [] [] []

theorem enLRD_ok : EnvOK Tryd.prog enLRD := by
  refine envH_ok lks_ok ty_ok ?_ ?_
  · simp only [List.forall_mem_cons]
    exact ⟨okRed, okRRd, okSmL, okAwk, by simp⟩
  · simp

theorem evLRD (s : ByteArray) : (runF enLRD false Tryd.f4 [vS s]).val =
  Option.bind (unenc encRed [(vS s)]) fun (z : ByteArray) => Option.bind (unenc encRRd [(vS s)]) fun (z_1 : ByteArray) => bif (F.dlT z).snd.fst == (F.rdl z_1).snd.fst then
  Option.bind (unenc encSmL [AV.agg [(vI (F.dlT z).fst.target), (vI (F.dlT z).fst.first), (vI (F.dlT z).fst.breaks), AV.sl (List.map eEnt (F.dlT z).fst.entries), (vB (F.dlT
  z).fst.ended)], AV.agg [(vI (F.rdl z_1).fst.target), (vI (F.rdl z_1).fst.first), (vI (F.rdl z_1).fst.breaks), AV.sl (List.map eEnt (F.rdl z_1).fst.entries), (vB (F.rdl
  z_1).fst.ended)]]) fun (z_2 : Lst × Lst) => bif bif bif F.sameL z_2.fst z_2.snd then (F.dlT z).snd.snd.fst == (F.rdl z_1).snd.snd.fst else false then (F.dlT z).snd.snd.snd
  == (F.rdl z_1).snd.snd.snd else false then Option.bind (unenc encAwk []) fun (z : Unit) => some ((vB true), []) else some ((vB false), []) else some ((vB false), []) := (runFR_val).symm.trans (by kernel_rfl)

def encLRD1 (s : ByteArray) : List AV := [vS s]

def encLRD (a : ByteArray) : List AV := encLRD1 a

theorem encLRD_inj (a a' : ByteArray) (h : encLRD a = encLRD a') : a = a' := by
  simp only [encLRD, encLRD1] at h
  try simp [strs_inj, ints_inj, ents_inj, eEnt_iff, eLst_iff, eSnds_inj, eStrms_inj] at h
  grind

theorem unLRD (s : ByteArray) : unenc encLRD ([(vS s)]) = some (s) := unenc_of encLRD_inj (s) rfl

def resLRD1 (s : ByteArray) : AV × Heap := (vB true, [])

def preLRD1 (s : ByteArray) : Bool := true

noncomputable def oLRD : Orc := orc 4 true encLRD (fun a => preLRD1 a) fun a => resLRD1 a

theorem okLRD : OrcOK Tryd.prog noG oLRD := by
  refine mk_ok Tryd.f4 (keep := false) (by kernel_rfl) (by kernel_rfl) enLRD_ok mixed (no_loops (by kernel_rfl)) (by first | exact fun _ _ => ⟨rfl, rfl⟩ | (intro h; cases h)) ?_
  rintro s hpre hok
  show (runF enLRD false _ (encLRD1 _)).val = some (resLRD1 _)
  unfold encLRD1 resLRD1
  rw [evLRD]
  simp only [unRed, unRRd, unSmL, unAwk, unSmLw, preRed1, preRRd1, preSmL1, preAwk1, etaEnt, etaLst, etaSnd, etaStrm, etaMas, Option.bind_some, List.length_map, unStrs, unInts, unBools, unEnts, unItms, unTrns, cond_true, cond_false, Bool.and_true, Bool.true_and, F.dl_rr s, F.sameL_refl, beq_self_eq_true]
  try rfl

end M
end Go.Proofs.YtllagmepnmdeoaaDoor
