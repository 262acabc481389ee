/- What is proved here: the law DeskKeysMatchSpec holds on plain data (no statement of the seat). -/
import Derived.Test.YtlemjphdhapfpaaGreatDoorD119
namespace Go.Proofs.YtlemjphdhapfpaaGreatDoor
open Go Go.RowKit
set_option linter.unusedVariables false
set_option linter.unusedSimpArgs false

def F.sameIs (l : List (Int × Int)) : Bool := l.all fun p => p.1 == p.2

def F.sameIL (a b : List Int) : Bool := decide (a.length = b.length) && F.sameIs (a.zip b)

theorem F.sameIL_refl (a : List Int) : F.sameIL a a = true := by
  simp only [F.sameIL, F.sameIs, F.zip_all (fun a b : Int => a == b) (fun a => by simp)]
  simp

namespace M

def stEqI (a : List Int) (b : List Int) (k : Nat) : St := ⟨[(13, vI k), (12, vI a.length), (1, .sl (b.map eI)), (0, .sl (a.map eI))], []⟩

def stEqI1 (a : (List Int) × (List Int) × Nat) : St := stEqI a.1 a.2.1 a.2.2

theorem stEqI_inj (a a' : (List Int) × (List Int) × Nat) (h : stEqI1 a = stEqI1 a') : a = a' := by
  simp only [stEqI1, stEqI] at h
  try simp [strs_inj, ints_inj, bools_inj, u8s_inj, eEnts_inj, eEnt_iff, eLsts_inj, eLst_iff, eSegs_inj, eSeg_iff, eRots_inj, eRot_iff, eBeats_inj, eBeat_iff, eSpans_inj, eSpan_iff, eHoles_inj, eHole_iff] at h
  grind

theorem unstEqI (a : List Int) (b : List Int) (k : Nat) : unenc stEqI1 (St.mk [(13, (vI (↑k : Int))), (12, (vI (↑(List.length a) : Int))), (1, AV.sl (List.map eI b)), (0, AV.sl (List.map eI a))] []) = some (a, b, k) := unenc_of stEqI_inj (a, b, k) rfl

theorem unstEqI0 (a : List Int) (b : List Int)  : unenc stEqI1 (St.mk [(13, (vI (0 : Int))), (12, (vI (↑(List.length a) : Int))), (1, AV.sl (List.map eI b)), (0, AV.sl (List.map eI a))] []) = some (a, b, 0) := unenc_of stEqI_inj (a, b, 0) rfl

def outEqI (a : List Int) (b : List Int) (k : Nat) : T (Ex × St) := .ifB (F.sameIs ((a.zip b).drop k)) (.ret (.exit 0, ⟨[], []⟩)) (.ret (.ret, ⟨[(4, vB false)], []⟩))

noncomputable def prlEqI (a : List Int) (b : List Int) (k : Nat) : Bool := decide (a.length ≤ 9223372036854775807) && decide (k ≤ a.length) && decide (a.length = b.length)

noncomputable def lpEqI : Nat × (St → T (Ex × St)) := (4, lpo [13, 12, 1, 0] [] stEqI1 (fun a => prlEqI a.1 a.2.1 a.2.2) fun a => outEqI a.1 a.2.1 a.2.2)

noncomputable def enEqI : Env := envH ty noG lks [] [] [] [lpEqI]

theorem enEqI_ok : EnvOK Tryz.prog enEqI := by
  refine envH_ok lks_ok ty_ok ?_ ?_
  · simp
  · simp

theorem evEqIL (a : List Int) (b : List Int) (k : Nat) : ((exec enEqI (loopN Tryz.f7 0) (stEqI a b k)).bind (lessX ([13, 12, 1, 0], []) ([], []) ([4], []))).val =
  bif decide ((↑k : Int) < (↑(List.length a) : Int)) then Option.bind (unenc (List.map eI) (List.map eI a)) fun (z : List Int) => bif decide (k < List.length z) then
  Option.bind (unenc (List.map eI) (List.map eI b)) fun (z_1 : List Int) => bif decide (k < List.length z_1) then bif List.getD z k (0 : Int) != List.getD z_1 k (0 : Int)
  then some (Ex.ret, St.mk [(4, (vB false))] []) else some (Ex.normal, St.mk [(13, (vI (IntKind.wrap IntKind.i64 ((↑k : Int) + (1 : Int))))), (12, (vI (↑(List.length a) :
  Int))), (1, AV.sl (List.map eI b)), (0, AV.sl (List.map eI a))] []) else none else none else some (Ex.exit (0 : Nat), St.mk [] []) := by kernel_rfl

theorem lpEqI_ok (a : List Int) (b : List Int) (k : Nat) (hp : prlEqI a b k = true) : ∀ ex s', (outEqI a b k).val = some (ex, s') → LoopOK enEqI (loopN Tryz.f7 0) (stEqI a b k) ex s' := by
  simp only [prlEqI, Bool.and_eq_true, decide_eq_true_eq] at hp
  obtain ⟨⟨h1, h2⟩, h3⟩ := hp
  have hz : (a.zip b).length = a.length := by rw [List.length_zip]; omega
  refine loop_all (xs := a.zip b) (st := stEqI a b) (p := fun p => p.1 == p.2) (n := ([13, 12, 1, 0], [])) (e := ([], [])) (r := ([4], [])) ?_ ⟨by simp, rfl⟩ ⟨by simp, rfl⟩ (fun _ => rfl) ?_ k (by omega)
  · rw [hz]; rw [evEqIL]; simp
  · intro k y hy
    obtain ⟨ha, hb⟩ := F.zip_at hy
    have hlt := lt_at ha
    have hlt' := lt_at hb
    rw [evEqIL]
    simp only [unstEqI, unstEqI0, prlEqI, outEqI, etaEnt, etaLst, etaSeg, etaRot, etaBeat, etaSpan, etaHole, Option.bind_some, List.length_map, unStrs, unInts, unBools, unU8s, unEnts, unLsts, unSegs, unRots, unBeats, unSpans, unHoles, F.lt, F.le, cond_true, cond_false, Bool.and_true, Bool.true_and, cast_lt hlt, decide_eq_true hlt, decide_eq_true hlt', next_at hlt h1, getD_at ha, getD_at hb, stEqI, bne]
    cases (y.1 == y.2) <;> rfl

theorem evEqI (a : List Int) (b : List Int) : (runF enEqI false Tryz.f7 [.sl (a.map eI), .sl (b.map eI)]).val =
  bif (↑(List.length (List.map eI a)) : Int) != (↑(List.length (List.map eI b)) : Int) then some ((vB false), []) else Option.bind (unenc stEqI1 (St.mk [(13, (vI (0 :
  Int))), (12, (vI (↑(List.length (List.map eI a)) : Int))), (1, AV.sl (List.map eI b)), (0, AV.sl (List.map eI a))] [])) fun (z : List Int × List Int × Nat) => bif decide
  (List.length z.fst ≤ (9223372036854775807 : Nat)) && decide (z.snd.snd ≤ List.length z.fst) && decide (List.length z.fst = List.length z.snd.fst) && true then bif F.sameIs
  (List.drop z.snd.snd (List.zip z.fst z.snd.fst)) then some ((vB true), []) else some ((vB false), []) else none := by kernel_rfl

def encEqI1 (a : List Int) (b : List Int) : List AV := [.sl (a.map eI), .sl (b.map eI)]

def encEqI (a : (List Int) × (List Int)) : List AV := encEqI1 a.1 a.2

theorem encEqI_inj (a a' : (List Int) × (List Int)) (h : encEqI a = encEqI a') : a = a' := by
  simp only [encEqI, encEqI1] at h
  try simp [strs_inj, ints_inj, bools_inj, u8s_inj, eEnts_inj, eEnt_iff, eLsts_inj, eLst_iff, eSegs_inj, eSeg_iff, eRots_inj, eRot_iff, eBeats_inj, eBeat_iff, eSpans_inj, eSpan_iff, eHoles_inj, eHole_iff] at h
  grind

theorem unEqI (a : List Int) (b : List Int) : unenc encEqI ([AV.sl (List.map eI a), AV.sl (List.map eI b)]) = some (a, b) := unenc_of encEqI_inj (a, b) rfl

def resEqI1 (a : List Int) (b : List Int) : AV × Heap := (vB (F.sameIL a b), [])

def preEqI1 (a : List Int) (b : List Int) : Bool := true

noncomputable def oEqI : Orc := orc 7 true encEqI (fun a => preEqI1 a.1 a.2) fun a => resEqI1 a.1 a.2

theorem okEqI : OrcOK Tryz.prog noG oEqI := by
  refine mk_ok Tryz.f7 (keep := false) (by kernel_rfl) (by kernel_rfl) enEqI_ok mixed (one_loop (x0 := loopN Tryz.f7 0) (by kernel_rfl) (lpo_ok ?_)) (by first | exact fun _ _ => ⟨rfl, rfl⟩ | (intro h; cases h)) ?_
  · rintro ⟨a, b, k⟩ hp
    exact lpEqI_ok a b k hp
  rintro ⟨a, b⟩ hpre hok
  show (runF enEqI false _ (encEqI1 _ _)).val = some (resEqI1 _ _)
  unfold encEqI1 resEqI1
  rw [evEqI]
  have hx : a.length ≤ 9223372036854775807 := by simpa using (okA_sl (hok _ (List.mem_cons_self ..))).1
  simp only [unstEqI, unstEqI0, prlEqI, outEqI, etaEnt, etaLst, etaSeg, etaRot, etaBeat, etaSpan, etaHole, Option.bind_some, List.length_map, unStrs, unInts, unBools, unU8s, unEnts, unLsts, unSegs, unRots, unBeats, unSpans, unHoles, F.lt, F.le, cond_true, cond_false, Bool.and_true, Bool.true_and, F.sameIL, hx, List.drop_zero, Nat.zero_le, decide_true, F.len_eq2, bne]
  cases decide (a.length = b.length) <;> cases F.sameIs (a.zip b) <;> rfl

noncomputable def enLaw2 : Env := envH ty noG lks [oKey, oRKey, oSmL, oEqI, oWrk] [] [] []

theorem enLaw2_ok : EnvOK Tryz.prog enLaw2 := by
  refine envH_ok lks_ok ty_ok ?_ ?_
  · simp only [List.forall_mem_cons]
    exact ⟨okKey, okRKey, okSmL, okEqI, okWrk, by simp⟩
  · simp

theorem evLDM (l : Lst) (sg : List Seg) (by_ : Int) (r : Rot) : (runF enLaw2 false Tryz.f3 [.agg (eLst l), .sl (sg.map eSeg), vI by_, .agg (eRot r)]).val =
  Option.bind (unenc encKey [AV.agg [(vI l.target), (vI l.first), (vI l.breaks), AV.sl (List.map eEnt l.entries), (vB l.ended)], AV.sl (List.map eSeg sg), (vI by_), AV.agg
  [(vI r.begin), (vI r.every), (vI r.lead), AV.sl (List.map eU8 r.seed)]]) fun (z : Lst × List Seg × Int × Rot) => Option.bind (unenc encRKey [AV.agg [(vI l.target), (vI
  l.first), (vI l.breaks), AV.sl (List.map eEnt l.entries), (vB l.ended)], AV.sl (List.map eSeg sg), (vI by_), AV.agg [(vI r.begin), (vI r.every), (vI r.lead), AV.sl
  (List.map eU8 r.seed)]]) fun (z_1 : Lst × List Seg × Int × Rot) => Option.bind (unenc encSmL [AV.agg [(vI (F.keyed z.fst z.snd.fst z.snd.snd.fst
  z.snd.snd.snd).fst.target), (vI (F.keyed z.fst z.snd.fst z.snd.snd.fst z.snd.snd.snd).fst.first), (vI (F.keyed z.fst z.snd.fst z.snd.snd.fst z.snd.snd.snd).fst.breaks),
  AV.sl (List.map eEnt (F.keyed z.fst z.snd.fst z.snd.snd.fst z.snd.snd.snd).fst.entries), (vB (F.keyed z.fst z.snd.fst z.snd.snd.fst z.snd.snd.snd).fst.ended)], AV.agg [(vI
  (F.keyed z_1.fst z_1.snd.fst z_1.snd.snd.fst z_1.snd.snd.snd).fst.target), (vI (F.keyed z_1.fst z_1.snd.fst z_1.snd.snd.fst z_1.snd.snd.snd).fst.first), (vI (F.keyed
  z_1.fst z_1.snd.fst z_1.snd.snd.fst z_1.snd.snd.snd).fst.breaks), AV.sl (List.map eEnt (F.keyed z_1.fst z_1.snd.fst z_1.snd.snd.fst z_1.snd.snd.snd).fst.entries), (vB
  (F.keyed z_1.fst z_1.snd.fst z_1.snd.snd.fst z_1.snd.snd.snd).fst.ended)]]) fun (z_2 : Lst × Lst) => bif F.sameL z_2.fst z_2.snd then Option.bind (unenc encEqI [AV.sl
  (List.map eI (F.keyed z.fst z.snd.fst z.snd.snd.fst z.snd.snd.snd).snd.fst), AV.sl (List.map eI (F.keyed z_1.fst z_1.snd.fst z_1.snd.snd.fst z_1.snd.snd.snd).snd.fst)])
  fun (z_3 : List Int × List Int) => bif bif bif F.sameL z_2.fst z_2.snd then F.sameIL z_3.fst z_3.snd else false then (F.keyed z.fst z.snd.fst z.snd.snd.fst
  z.snd.snd.snd).snd.snd == (F.keyed z_1.fst z_1.snd.fst z_1.snd.snd.fst z_1.snd.snd.snd).snd.snd else false then Option.bind (unenc encWrk []) fun (z_4 : Unit) => some ((vB
  (bif bif bif F.sameL z_2.fst z_2.snd then F.sameIL z_3.fst z_3.snd else false then (F.keyed z.fst z.snd.fst z.snd.snd.fst z.snd.snd.snd).snd.snd == (F.keyed z_1.fst
  z_1.snd.fst z_1.snd.snd.fst z_1.snd.snd.snd).snd.snd else false then true else false)), []) else some ((vB false), []) else some ((vB false), []) := by kernel_rfl

def encLDM1 (l : Lst) (sg : List Seg) (by_ : Int) (r : Rot) : List AV := [.agg (eLst l), .sl (sg.map eSeg), vI by_, .agg (eRot r)]

def encLDM (a : Lst × (List Seg) × Int × Rot) : List AV := encLDM1 a.1 a.2.1 a.2.2.1 a.2.2.2

theorem encLDM_inj (a a' : Lst × (List Seg) × Int × Rot) (h : encLDM a = encLDM a') : a = a' := by
  simp only [encLDM, encLDM1] at h
  try simp [strs_inj, ints_inj, bools_inj, u8s_inj, eEnts_inj, eEnt_iff, eLsts_inj, eLst_iff, eSegs_inj, eSeg_iff, eRots_inj, eRot_iff, eBeats_inj, eBeat_iff, eSpans_inj, eSpan_iff, eHoles_inj, eHole_iff] at h
  grind

theorem unLDM (l : Lst) (sg : List Seg) (by_ : Int) (r : Rot) : unenc encLDM ([AV.agg [(vI l.target), (vI l.first), (vI l.breaks), AV.sl (List.map eEnt l.entries), (vB l.ended)], AV.sl (List.map eSeg sg), (vI by_), AV.agg [(vI r.begin), (vI
  r.every), (vI r.lead), AV.sl (List.map eU8 r.seed)]]) = some (l, sg, by_, r) := unenc_of encLDM_inj (l, sg, by_, r) rfl

theorem unLDMw (l_target : Int) (l_first : Int) (l_breaks : Int) (l_entries : List Ent) (l_ended : Bool) (sg : List Seg) (by_ : Int) (r_begin : Int) (r_every : Int) (r_lead : Int) (r_seed : List Int) : unenc encLDM ([AV.agg [(vI l_target), (vI l_first), (vI l_breaks), AV.sl (List.map eEnt l_entries), (vB l_ended)], AV.sl (List.map eSeg sg), (vI by_), AV.agg [(vI r_begin), (vI
  r_every), (vI r_lead), AV.sl (List.map eU8 r_seed)]]) = some ((Lst.mk l_target l_first l_breaks l_entries l_ended), sg, by_, (Rot.mk r_begin r_every r_lead r_seed)) := unenc_of encLDM_inj ((Lst.mk l_target l_first l_breaks l_entries l_ended), sg, by_, (Rot.mk r_begin r_every r_lead r_seed)) rfl

def resLDM1 (l : Lst) (sg : List Seg) (by_ : Int) (r : Rot) : AV × Heap := (vB true, [])

def preLDM1 (l : Lst) (sg : List Seg) (by_ : Int) (r : Rot) : Bool := true

noncomputable def oLDM : Orc := orc 3 false encLDM (fun a => preLDM1 a.1 a.2.1 a.2.2.1 a.2.2.2) fun a => resLDM1 a.1 a.2.1 a.2.2.1 a.2.2.2

theorem okLDM : OrcOK Tryz.prog noG oLDM := by
  refine mk_ok Tryz.f3 (keep := false) (by kernel_rfl) (by kernel_rfl) enLaw2_ok mixed (no_loops (by kernel_rfl)) (by first | exact fun _ _ => ⟨rfl, rfl⟩ | (intro h; cases h)) ?_
  rintro ⟨l, sg, by_, r⟩ hpre hok
  show (runF enLaw2 false _ (encLDM1 _ _ _ _)).val = some (resLDM1 _ _ _ _)
  unfold encLDM1 resLDM1
  rw [evLDM]
  simp only [unKey, unRKey, unSmL, unEqI, unWrk, unKeyw, unRKeyw, unSmLw, preKey1, preRKey1, preSmL1, preEqI1, preWrk1, etaEnt, etaLst, etaSeg, etaRot, etaBeat, etaSpan, etaHole, Option.bind_some, List.length_map, unStrs, unInts, unBools, unU8s, unEnts, unLsts, unSegs, unRots, unBeats, unSpans, unHoles, F.lt, F.le, cond_true, cond_false, Bool.and_true, Bool.true_and, F.sameL_refl, F.sameIL_refl, beq_self_eq_true]
  done

end M
end Go.Proofs.YtlemjphdhapfpaaGreatDoor
