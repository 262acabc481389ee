/- What is proved here: how the reference goes through the lines of a list's text (no statement of the seat). -/
import Derived.Test.YtllagmepnmdeoaaDoorE85
import Derived.Test.YtllagmepnmdeoaaDoorE86
import Derived.Test.YtllagmepnmdeoaaDoorE80
namespace Go.Proofs.YtllagmepnmdeoaaDoor
open Go Go.RowKit
set_option linter.unusedVariables false
set_option linter.unusedSimpArgs false
set_option maxHeartbeats 1000000

theorem F.beh_lt {ls : List ByteArray} {op : Bool} {a : Nat} {w : ByteArray} (h : F.beh ls op a w = true) : a < ls.length ∧ w.size ≤ (F.lAt ls a).size := by
  unfold F.beh F.mor F.hasPrefix at h
  simp only [Bool.and_eq_true, decide_eq_true_eq] at h
  exact ⟨h.1.1, h.2.1⟩

theorem F.behV_size (ls : List ByteArray) (a : Nat) (w : ByteArray) : (F.behV ls a w).size ≤ (F.lAt ls a).size := by
  unfold F.behV
  rw [ByteArray.size_extract]
  omega

def F.cnV (ls : List ByteArray) (op : Bool) (a : Nat) (w : ByteArray) (most : Int) : Int := bif F.cnt ls op a w most then F.numV (F.behV ls a w) most else 0

def F.d1 : ByteArray := ⟨⟨[49]⟩⟩

theorem F.num_one {p : ByteArray} (h : p.size = 3) : F.numOk (F.d1 ++ p) 4 = (F.bs p).all F.dgB ∧ ((F.bs p).all F.dgB = true → F.numV (F.d1 ++ p) 4 = 1000 + (F.dv p : Int)) := by
  have hl := F.bs_len p
  rw [h] at hl
  obtain ⟨x, l0, h0⟩ := List.exists_cons_of_length_eq_add_one (l := F.bs p) (n := 2) hl
  rw [h0] at hl
  obtain ⟨y, l1, h1⟩ := List.exists_cons_of_length_eq_add_one (l := l0) (n := 1) (by simpa using hl)
  rw [h1] at hl h0
  obtain ⟨z, l2, h2⟩ := List.exists_cons_of_length_eq_add_one (l := l1) (n := 0) (by simpa using hl)
  rw [h2] at hl h0
  have h3 : l2 = [] := List.length_eq_zero_iff.1 (by simpa using hl)
  rw [h3] at h0
  have hb : F.bs (F.d1 ++ p) = [49, x, y, z] := by rw [F.bs_app, h0]; rfl
  have hz : (F.d1 ++ p).size = 4 := by rw [← F.bs_len, hb]; rfl
  have hb0 : F.b0 (F.d1 ++ p) = 49 := by unfold F.b0; rw [hb]; rfl
  have hk : F.numOk (F.d1 ++ p) 4 = (F.bs p).all F.dgB := by
    unfold F.numOk
    rw [hz, hb0, hb, h0]
    show (decide ((4 : Nat) ≠ 0) && decide (((4 : Nat) : Int) ≤ 4) && !(decide ((49 : Int) = 48) && decide (1 < 4)) && (F.dgB 49 && [x, y, z].all F.dgB)) = _
    rw [show F.dgB 49 = true from rfl]
    rfl
  refine ⟨hk, fun ha => ?_⟩
  unfold F.numV F.dv
  rw [hk, ha, hb, h0]
  simp only [cond_true, F.dvA_cons, F.dvA_nil]
  have : (49 : UInt8).toNat - 48 = 1 := rfl
  omega

namespace M


theorem evRMor (ls : List ByteArray) (a : Nat) (op : Bool) : (runF en0 false Tryd.f26 [.pel [.sl (ls.map eStr), vI a, vB op] 0]).val =
  bif decide ((↑a : Int) < (↑(List.length (List.map eStr ls)) : Int)) then bif op then some ((vB !(↑a : Int) == IntKind.wrap IntKind.i64 ((↑(List.length (List.map eStr ls))
  : Int) - (1 : Int))), []) else bif op then none else bif op then none else bif op then none else bif op then none else bif op then none else bif op then none else bif op
  then none else bif op then none else some ((vB true), []) else some ((vB false), []) := (runFR_val).symm.trans (by kernel_rfl)

def encRMor1 (ls : List ByteArray) (a : Nat) (op : Bool) : List AV := [.pel [.sl (ls.map eStr), vI a, vB op] 0]

def encRMor (a : (List ByteArray) × Nat × Bool) : List AV := encRMor1 a.1 a.2.1 a.2.2

theorem encRMor_inj (a a' : (List ByteArray) × Nat × Bool) (h : encRMor a = encRMor a') : a = a' := by
  simp only [encRMor, encRMor1] at h
  try simp [strs_inj, ints_inj, ents_inj, eEnt_iff, eLst_iff, eSnds_inj, eStrms_inj] at h
  grind

theorem unRMor (ls : List ByteArray) (a : Nat) (op : Bool) : unenc encRMor ([AV.pel [AV.sl (List.map eStr ls), (vI (↑a : Int)), (vB op)] (0 : Nat)]) = some (ls, a, op) := unenc_of encRMor_inj (ls, a, op) rfl

def resRMor1 (ls : List ByteArray) (a : Nat) (op : Bool) : AV × Heap := (vB (F.mor ls op a), [])

def preRMor1 (ls : List ByteArray) (a : Nat) (op : Bool) : Bool := decide (a ≤ 600000) && decide (ls.length ≤ 600000)

noncomputable def oRMor : Orc := orc 26 true encRMor (fun a => preRMor1 a.1 a.2.1 a.2.2) fun a => resRMor1 a.1 a.2.1 a.2.2

theorem okRMor : OrcOK Tryd.prog noG oRMor := by
  refine mk_ok Tryd.f26 (keep := false) (by kernel_rfl) (by kernel_rfl) en0_ok mixed (no_loops (by kernel_rfl)) (by first | exact fun _ _ => ⟨rfl, rfl⟩ | (intro h; cases h)) ?_
  rintro ⟨ls, a, op⟩ hpre hok
  show (runF en0 false _ (encRMor1 _ _ _)).val = some (resRMor1 _ _ _)
  unfold encRMor1 resRMor1
  rw [evRMor]
  have hpre : (decide (a ≤ 600000) && decide (ls.length ≤ 600000)) = true := hpre
  rw [Bool.and_eq_true, decide_eq_true_eq, decide_eq_true_eq] at hpre
  have hw : IntKind.i64.wrap ((ls.length : Int) - 1) = (ls.length : Int) - 1 := wrap_id (by omega) (by omega)
  have e1 : decide ((a : Int) < (ls.length : Int)) = decide (a < ls.length) := decide_eq_decide.2 (by omega)
  have e2 : ((a : Int) == (ls.length : Int) - 1) = decide (a + 1 = ls.length) := by
    by_cases h : a + 1 = ls.length
    · rw [decide_eq_true h]; simp; omega
    · rw [decide_eq_false h]; simp; omega
  simp only [etaEnt, etaLst, etaSnd, etaStrm, etaMas, Option.bind_some, List.length_map, unStrs, unInts, unBools, unEnts, unItms, unTrns, cond_true, cond_false, Bool.and_true, Bool.true_and, hw, e1, e2, F.mor]
  cases decide (a < ls.length) <;> cases op <;> cases decide (a + 1 = ls.length) <;> rfl

noncomputable def enRExa : Env := envH ty noG lks [oRMor] [] [] []

theorem enRExa_ok : EnvOK Tryd.prog enRExa := by
  refine envH_ok lks_ok ty_ok ?_ ?_
  · simp only [List.forall_mem_cons]
    exact ⟨okRMor, by simp⟩
  · simp

theorem evRExa (ls : List ByteArray) (a : Nat) (op : Bool) (x : ByteArray) : (runH enRExa [] Tryd.f27 [.ptr 900 0 0, vS x] [(901, ⟨false, 9, 1, ls.map eStr⟩), (900, ⟨true, 0, 0, [[.own 901, vI a, vB op]]⟩)]).val =
  Option.bind (unenc encRMor [AV.pel [AV.sl (List.map eStr ls), (vI (↑a : Int)), (vB op)] (0 : Nat)]) fun (z : List ByteArray × Nat × Bool) => bif decide (z.snd.fst ≤
  (600000 : Nat)) && decide (List.length z.fst ≤ (600000 : Nat)) then bif F.mor z.fst z.snd.snd z.snd.fst then bif decide (a < List.length (Blk.mk false 9 1 (List.map eStr
  ls)).rows) then Option.bind (unenc (List.map eStr) (List.map eStr ls)) fun (z : List ByteArray) => bif decide (a < List.length z) then bif ByteArray.toList (List.getD z a
  (ByteArray.mk (Array.mk []))) == ByteArray.toList x then some ((vB true), [(901, Blk.mk false 9 1 (List.map eStr ls)), (900, Blk.mk true 0 0 [[.own 901, (vI (IntKind.wrap
  IntKind.i64 ((↑a : Int) + (1 : Int)))), (vB op)]])], []) else some ((vB false), [(901, Blk.mk false 9 1 (List.map eStr ls)), (900, Blk.mk true 0 0 [[.own 901, (vI (↑a :
  Int)), (vB op)]])], []) else none else none else some ((vB false), [(901, Blk.mk false 9 1 (List.map eStr ls)), (900, Blk.mk true 0 0 [[.own 901, (vI (↑a : Int)), (vB
  op)]])], []) else none := (runHR_val).symm.trans (by kernel_rfl)

def encRExa1 (ls : List ByteArray) (a : Nat) (op : Bool) (x : ByteArray) : List AV × Heap := ([.ptr 900 0 0, vS x], [(901, ⟨false, 9, 1, ls.map eStr⟩), (900, ⟨true, 0, 0, [[.own 901, vI a, vB op]]⟩)])

def encRExa (a : (List ByteArray) × Nat × Bool × ByteArray) : List AV × Heap := encRExa1 a.1 a.2.1 a.2.2.1 a.2.2.2

theorem encRExa_inj (a a' : (List ByteArray) × Nat × Bool × ByteArray) (h : encRExa a = encRExa a') : a = a' := by
  simp only [encRExa, encRExa1] at h
  try simp [strs_inj, ints_inj, ents_inj, eEnt_iff, eLst_iff, eSnds_inj, eStrms_inj] at h
  grind

theorem unRExa (ls : List ByteArray) (a : Nat) (op : Bool) (x : ByteArray) : unenc encRExa (([.ptr 900 0 0, (vS x)], [(901, Blk.mk false 9 1 (List.map eStr ls)), (900, Blk.mk true 0 0 [[.own 901, (vI (↑a : Int)), (vB op)]])])) = some (ls, a, op, x) := unenc_of encRExa_inj (ls, a, op, x) rfl

def resRExa1 (ls : List ByteArray) (a : Nat) (op : Bool) (x : ByteArray) : AV × Heap × List Nat := (vB (F.exa ls op a x), [(901, ⟨false, 9, 1, ls.map eStr⟩), (900, ⟨true, 0, 0, [[.own 901, vI (a + F.one (F.exa ls op a x) : Nat), vB op]]⟩)], [])

def preRExa1 (ls : List ByteArray) (a : Nat) (op : Bool) (x : ByteArray) : Bool := decide (a ≤ 600000) && decide (ls.length ≤ 600000)

noncomputable def oRExa : OrcH := orcH 27 encRExa (fun a => preRExa1 a.1 a.2.1 a.2.2.1 a.2.2.2) fun a => resRExa1 a.1 a.2.1 a.2.2.1 a.2.2.2

theorem okRExa : OrcHOK Tryd.prog noG oRExa := by
  refine mkH_ok (mv := []) Tryd.f27 (by kernel_rfl) (by kernel_rfl) enRExa_ok mixed (no_loops (by kernel_rfl)) ?_
  rintro ⟨ls, a, op, x⟩ hpre hok hokh
  show (runH enRExa [] _ (encRExa1 _ _ _ _).1 (encRExa1 _ _ _ _).2).val = some (resRExa1 _ _ _ _)
  unfold encRExa1 resRExa1
  rw [evRExa]
  simp only [preRExa1, Bool.and_eq_true, decide_eq_true_eq] at hpre
  have hw : IntKind.i64.wrap ((a : Int) + 1) = ((a + 1 : Nat) : Int) := by rw [wrap_id (by omega) (by omega)]; rfl
  have hq : ((F.lAt ls a).toList == x.toList) = F.seq (F.lAt ls a) x := rfl
  have hi : idx (a : Int) = some a := rfl
  simp only [unRMor, preRMor1, etaEnt, etaLst, etaSnd, etaStrm, etaMas, Option.bind_some, List.length_map, unStrs, unInts, unBools, unEnts, unItms, unTrns, cond_true, cond_false, Bool.and_true, Bool.true_and, decide_eq_true hpre.1, decide_eq_true hpre.2, hw, hi]
  have q : ((ls.getD a (⟨⟨[]⟩⟩ : ByteArray)).toList == x.toList) = F.seq (F.lAt ls a) x := rfl
  rw [q]
  unfold F.exa F.one
  by_cases hm : F.mor ls op a = true
  · have hlt : a < ls.length := by unfold F.mor at hm; simp only [Bool.and_eq_true, decide_eq_true_eq] at hm; exact hm.1
    rw [hm, decide_eq_true hlt]
    cases F.seq (F.lAt ls a) x <;> rfl
  · have hm : F.mor ls op a = false := by cases h : F.mor ls op a <;> simp_all
    rw [hm]
    rfl

theorem evRUri (ls : List ByteArray) (a : Nat) (op : Bool) : (runH enRExa [] Tryd.f44 [.ptr 900 0 0] [(901, ⟨false, 9, 1, ls.map eStr⟩), (900, ⟨true, 0, 0, [[.own 901, vI a, vB op]]⟩)]).val =
  Option.bind (unenc encRMor [AV.pel [AV.sl (List.map eStr ls), (vI (↑a : Int)), (vB op)] (0 : Nat)]) fun (z : List ByteArray × Nat × Bool) => bif decide (z.snd.fst ≤
  (600000 : Nat)) && decide (List.length z.fst ≤ (600000 : Nat)) then bif !!F.mor z.fst z.snd.snd z.snd.fst then bif decide (a < List.length (Blk.mk false 9 1 (List.map eStr
  ls)).rows) then Option.bind (unenc (List.map eStr) (List.map eStr ls)) fun (z : List ByteArray) => bif decide (a < List.length z) then bif !ByteArray.toList (List.getD z a
  (ByteArray.mk (Array.mk []))) == ByteArray.toList (ByteArray.mk (Array.mk [])) then bif decide (a < List.length (Blk.mk false 9 1 (List.map eStr ls)).rows) then
  Option.bind (unenc (List.map eStr) (List.map eStr ls)) fun (z : List ByteArray) => bif decide (a < List.length z) then Option.bind (List.getD z a (ByteArray.mk (Array.mk
  [])))[(0 : Nat)]? fun (z : UInt8) => bif (↑(UInt8.toNat z) : Int) == (35 : Int) then some (AV.tup [(vS (ByteArray.mk (Array.mk []))), (vB false)], [(901, Blk.mk false 9 1
  (List.map eStr ls)), (900, Blk.mk true 0 0 [[.own 901, (vI (↑a : Int)), (vB op)]])], []) else Option.bind (idx (IntKind.wrap IntKind.i64 (IntKind.wrap IntKind.i64 ((↑a :
  Int) + (1 : Int)) - (1 : Int)))) fun (z : Nat) => bif decide (z < List.length (Blk.mk false 9 1 (List.map eStr ls)).rows) then Option.bind (unenc (List.map eStr) (List.map
  eStr ls)) fun (z_1 : List ByteArray) => bif decide (z < List.length z_1) then some (AV.tup [(vS (List.getD z_1 z (ByteArray.mk (Array.mk [])))), (vB true)], [(901, Blk.mk
  false 9 1 (List.map eStr ls)), (900, Blk.mk true 0 0 [[.own 901, (vI (IntKind.wrap IntKind.i64 ((↑a : Int) + (1 : Int)))), (vB op)]])], []) else none else none else none
  else none else some (AV.tup [(vS (ByteArray.mk (Array.mk []))), (vB false)], [(901, Blk.mk false 9 1 (List.map eStr ls)), (900, Blk.mk true 0 0 [[.own 901, (vI (↑a :
  Int)), (vB op)]])], []) else none else none else some (AV.tup [(vS (ByteArray.mk (Array.mk []))), (vB false)], [(901, Blk.mk false 9 1 (List.map eStr ls)), (900, Blk.mk
  true 0 0 [[.own 901, (vI (↑a : Int)), (vB op)]])], []) else none := (runHR_val).symm.trans (by kernel_rfl)

def encRUri1 (ls : List ByteArray) (a : Nat) (op : Bool) : List AV × Heap := ([.ptr 900 0 0], [(901, ⟨false, 9, 1, ls.map eStr⟩), (900, ⟨true, 0, 0, [[.own 901, vI a, vB op]]⟩)])

def encRUri (a : (List ByteArray) × Nat × Bool) : List AV × Heap := encRUri1 a.1 a.2.1 a.2.2

theorem encRUri_inj (a a' : (List ByteArray) × Nat × Bool) (h : encRUri a = encRUri a') : a = a' := by
  simp only [encRUri, encRUri1] at h
  try simp [strs_inj, ints_inj, ents_inj, eEnt_iff, eLst_iff, eSnds_inj, eStrms_inj] at h
  grind

theorem unRUri (ls : List ByteArray) (a : Nat) (op : Bool) : unenc encRUri (([.ptr 900 0 0], [(901, Blk.mk false 9 1 (List.map eStr ls)), (900, Blk.mk true 0 0 [[.own 901, (vI (↑a : Int)), (vB op)]])])) = some (ls, a, op) := unenc_of encRUri_inj (ls, a, op) rfl

def resRUri1 (ls : List ByteArray) (a : Nat) (op : Bool) : AV × Heap × List Nat := (.tup [vS (bif F.ruri ls op a then F.lAt ls a else ⟨⟨[]⟩⟩), vB (F.ruri ls op a)], [(901, ⟨false, 9, 1, ls.map eStr⟩), (900, ⟨true, 0, 0, [[.own 901, vI (a + F.one (F.ruri ls op a) : Nat), vB op]]⟩)], [])

def preRUri1 (ls : List ByteArray) (a : Nat) (op : Bool) : Bool := decide (a ≤ 600000) && decide (ls.length ≤ 600000)

noncomputable def oRUri : OrcH := orcH 44 encRUri (fun a => preRUri1 a.1 a.2.1 a.2.2) fun a => resRUri1 a.1 a.2.1 a.2.2

theorem okRUri : OrcHOK Tryd.prog noG oRUri := by
  refine mkH_ok (mv := []) Tryd.f44 (by kernel_rfl) (by kernel_rfl) enRExa_ok mixed (no_loops (by kernel_rfl)) ?_
  rintro ⟨ls, a, op⟩ hpre hok hokh
  show (runH enRExa [] _ (encRUri1 _ _ _).1 (encRUri1 _ _ _).2).val = some (resRUri1 _ _ _)
  unfold encRUri1 resRUri1
  rw [evRUri]
  simp only [preRUri1, Bool.and_eq_true, decide_eq_true_eq] at hpre
  have hw : IntKind.i64.wrap ((a : Int) + 1) = ((a + 1 : Nat) : Int) := by rw [wrap_id (by omega) (by omega)]; rfl
  have hi : idx (a : Int) = some a := rfl
  have hw2 : IntKind.i64.wrap (((a + 1 : Nat) : Int) - 1) = (a : Int) := by rw [wrap_id (by omega) (by omega)]; omega
  simp only [unRMor, preRMor1, etaEnt, etaLst, etaSnd, etaStrm, etaMas, Option.bind_some, List.length_map, unStrs, unInts, unBools, unEnts, unItms, unTrns, cond_true, cond_false, Bool.and_true, Bool.true_and, decide_eq_true hpre.1, decide_eq_true hpre.2, hw, hi, hw2, F.empty_eq]
  have q : ls.getD a (⟨⟨[]⟩⟩ : ByteArray) = F.lAt ls a := rfl
  rw [q]
  unfold F.ruri F.one F.uriL
  generalize F.lAt ls a = u
  have h0 := F.bs_len u
  by_cases hm : F.mor ls op a = true
  · have hlt : a < ls.length := by unfold F.mor at hm; simp only [Bool.and_eq_true, decide_eq_true_eq] at hm; exact hm.1
    rw [hm, decide_eq_true hlt]
    by_cases hz : u.size = 0
    · rw [decide_eq_false (by omega : ¬ u.size ≠ 0)]
      rfl
    · rw [decide_eq_true hz]
      have hb : (F.bs u)[0]? = some ((F.bs u)[0]'(by omega)) := List.getElem?_eq_getElem (by omega)
      generalize (F.bs u)[0]'(by omega) = b at hb
      have hb0 : F.b0 u = (b.toNat : Int) := by unfold F.b0; rw [hb]
      have hs0 : u[0]? = some b := by rw [F.bs_get]; exact hb
      have e3 : ((b.toNat : Int) == 35) = decide ((b.toNat : Int) = 35) := by by_cases h : (b.toNat : Int) = 35 <;> simp [h]
      rw [hs0, hb0]
      simp only [Option.bind_some, e3]
      cases decide ((b.toNat : Int) = 35) <;> rfl
  · have hm : F.mor ls op a = false := by cases h : F.mor ls op a <;> simp_all
    rw [hm]
    rfl

noncomputable def enBeh : Env := envH ty noG lks [oRMor, oHasPre] [] [] []

theorem enBeh_ok : EnvOK Tryd.prog enBeh := by
  refine envH_ok lks_ok ty_ok ?_ ?_
  · simp only [List.forall_mem_cons]
    exact ⟨okRMor, okHasPre, by simp⟩
  · simp

theorem evBeh (ls : List ByteArray) (a : Nat) (op : Bool) (w : ByteArray) : (runH enBeh [] Tryd.f40 [.ptr 900 0 0, vS w] [(901, ⟨false, 9, 1, ls.map eStr⟩), (900, ⟨true, 0, 0, [[.own 901, vI a, vB op]]⟩)]).val =
  Option.bind (unenc encRMor [AV.pel [AV.sl (List.map eStr ls), (vI (↑a : Int)), (vB op)] (0 : Nat)]) fun (z : List ByteArray × Nat × Bool) => bif decide (z.snd.fst ≤
  (600000 : Nat)) && decide (List.length z.fst ≤ (600000 : Nat)) then bif !!F.mor z.fst z.snd.snd z.snd.fst then bif decide (a < List.length (Blk.mk false 9 1 (List.map eStr
  ls)).rows) then Option.bind (unenc (List.map eStr) (List.map eStr ls)) fun (z : List ByteArray) => bif decide (a < List.length z) then Option.bind (unenc encHasPre [(vS
  (List.getD z a (ByteArray.mk (Array.mk [])))), (vS w)]) fun (z : ByteArray × ByteArray) => bif !F.hasPrefix z.fst z.snd then some (AV.tup [(vS (ByteArray.mk (Array.mk
  []))), (vB false)], [(901, Blk.mk false 9 1 (List.map eStr ls)), (900, Blk.mk true 0 0 [[.own 901, (vI (↑a : Int)), (vB op)]])], []) else bif decide (a < List.length
  (Blk.mk false 9 1 (List.map eStr ls)).rows) then Option.bind (unenc (List.map eStr) (List.map eStr ls)) fun (z : List ByteArray) => bif decide (a < List.length z) then bif
  Nat.ble (ByteArray.size w) (ByteArray.size (List.getD z a (ByteArray.mk (Array.mk [])))) && Nat.ble (ByteArray.size (List.getD z a (ByteArray.mk (Array.mk []))))
  (ByteArray.size (List.getD z a (ByteArray.mk (Array.mk [])))) then some (AV.tup [(vS (ByteArray.extract (List.getD z a (ByteArray.mk (Array.mk []))) (ByteArray.size w)
  (ByteArray.size (List.getD z a (ByteArray.mk (Array.mk [])))))), (vB true)], [(901, Blk.mk false 9 1 (List.map eStr ls)), (900, Blk.mk true 0 0 [[.own 901, (vI
  (IntKind.wrap IntKind.i64 ((↑a : Int) + (1 : Int)))), (vB op)]])], []) else none else none else none else none else none else some (AV.tup [(vS (ByteArray.mk (Array.mk
  []))), (vB false)], [(901, Blk.mk false 9 1 (List.map eStr ls)), (900, Blk.mk true 0 0 [[.own 901, (vI (↑a : Int)), (vB op)]])], []) else none := (runHR_val).symm.trans (by kernel_rfl)

def encBeh1 (ls : List ByteArray) (a : Nat) (op : Bool) (w : ByteArray) : List AV × Heap := ([.ptr 900 0 0, vS w], [(901, ⟨false, 9, 1, ls.map eStr⟩), (900, ⟨true, 0, 0, [[.own 901, vI a, vB op]]⟩)])

def encBeh (a : (List ByteArray) × Nat × Bool × ByteArray) : List AV × Heap := encBeh1 a.1 a.2.1 a.2.2.1 a.2.2.2

theorem encBeh_inj (a a' : (List ByteArray) × Nat × Bool × ByteArray) (h : encBeh a = encBeh a') : a = a' := by
  simp only [encBeh, encBeh1] at h
  try simp [strs_inj, ints_inj, ents_inj, eEnt_iff, eLst_iff, eSnds_inj, eStrms_inj] at h
  grind

theorem unBeh (ls : List ByteArray) (a : Nat) (op : Bool) (w : ByteArray) : unenc encBeh (([.ptr 900 0 0, (vS w)], [(901, Blk.mk false 9 1 (List.map eStr ls)), (900, Blk.mk true 0 0 [[.own 901, (vI (↑a : Int)), (vB op)]])])) = some (ls, a, op, w) := unenc_of encBeh_inj (ls, a, op, w) rfl

def resBeh1 (ls : List ByteArray) (a : Nat) (op : Bool) (w : ByteArray) : AV × Heap × List Nat := (.tup [vS (bif F.beh ls op a w then F.behV ls a w else ⟨⟨[]⟩⟩), vB (F.beh ls op a w)], [(901, ⟨false, 9, 1, ls.map eStr⟩), (900, ⟨true, 0, 0, [[.own 901, vI (a + F.one (F.beh ls op a w) : Nat), vB op]]⟩)], [])

def preBeh1 (ls : List ByteArray) (a : Nat) (op : Bool) (w : ByteArray) : Bool := decide (a ≤ 600000) && F.lsOk ls

noncomputable def oBeh : OrcH := orcH 40 encBeh (fun a => preBeh1 a.1 a.2.1 a.2.2.1 a.2.2.2) fun a => resBeh1 a.1 a.2.1 a.2.2.1 a.2.2.2

theorem okBeh : OrcHOK Tryd.prog noG oBeh := by
  refine mkH_ok (mv := []) Tryd.f40 (by kernel_rfl) (by kernel_rfl) enBeh_ok mixed (no_loops (by kernel_rfl)) ?_
  rintro ⟨ls, a, op, w⟩ hpre hok hokh
  show (runH enBeh [] _ (encBeh1 _ _ _ _).1 (encBeh1 _ _ _ _).2).val = some (resBeh1 _ _ _ _)
  unfold encBeh1 resBeh1
  rw [evBeh]
  simp only [preBeh1, Bool.and_eq_true, decide_eq_true_eq] at hpre
  obtain ⟨h1, h2⟩ := hpre
  have hl := F.lsOk_len h2
  have hw : IntKind.i64.wrap ((a : Int) + 1) = ((a + 1 : Nat) : Int) := by rw [wrap_id (by omega) (by omega)]; rfl
  have hi : idx (a : Int) = some a := rfl
  simp only [unRMor, unHasPre, preRMor1, preHasPre1, etaEnt, etaLst, etaSnd, etaStrm, etaMas, Option.bind_some, List.length_map, unStrs, unInts, unBools, unEnts, unItms, unTrns, cond_true, cond_false, Bool.and_true, Bool.true_and, decide_eq_true h1, decide_eq_true (by omega : ls.length ≤ 600000), hw, hi]
  have q : ls.getD a (⟨⟨[]⟩⟩ : ByteArray) = F.lAt ls a := rfl
  rw [q]
  have hv : F.behV ls a w = (F.lAt ls a).extract w.size (F.lAt ls a).size := rfl
  rw [hv]
  unfold F.beh F.one
  cases hm : F.mor ls op a
  · rfl
  · have hlt : a < ls.length := by unfold F.mor at hm; simp only [Bool.and_eq_true, decide_eq_true_eq] at hm; exact hm.1
    rw [decide_eq_true hlt]
    cases hp : F.hasPrefix (F.lAt ls a) w
    · rfl
    · have hs : w.size ≤ (F.lAt ls a).size := by
        unfold F.hasPrefix at hp
        simp only [Bool.and_eq_true, decide_eq_true_eq] at hp
        exact hp.1
      rw [ble_t hs, ble_t (Nat.le_refl (F.lAt ls a).size)]
      rfl

noncomputable def enCou : Env := envH ty noG lks [oRNu] [oBeh] [] []

theorem enCou_ok : EnvOK Tryd.prog enCou := by
  refine envH_ok lks_ok ty_ok ?_ ?_
  · simp only [List.forall_mem_cons]
    exact ⟨okRNu, by simp⟩
  · simp only [List.forall_mem_cons]
    exact ⟨okBeh, by simp⟩

theorem evCou (ls : List ByteArray) (a : Nat) (op : Bool) (w : ByteArray) (most : Int) : (runH enCou [] Tryd.f39 [.ptr 900 0 0, vS w, vI most] [(901, ⟨false, 9, 1, ls.map eStr⟩), (900, ⟨true, 0, 0, [[.own 901, vI a, vB op]]⟩)]).val =
  Option.bind (unenc encBeh ([.ptr 900 0 0, (vS w)], [(901, Blk.mk false 9 1 (List.map eStr ls)), (900, Blk.mk true 0 0 [[.own 901, (vI (↑a : Int)), (vB op)]])])) fun (z :
  List ByteArray × Nat × Bool × ByteArray) => bif decide (z.snd.fst ≤ (600000 : Nat)) && F.lsOk z.fst then bif !F.beh z.fst z.snd.snd.fst z.snd.fst z.snd.snd.snd then some
  (AV.tup [(vI (0 : Int)), (vB false)], [(901, Blk.mk false 9 1 (List.map eStr z.fst)), (900, Blk.mk true 0 0 [[.own 901, (vI (↑(z.snd.fst + F.one (F.beh z.fst z.snd.snd.fst
  z.snd.fst z.snd.snd.snd)) : Int)), (vB z.snd.snd.fst)]])], []) else Option.bind (unenc encRNu [(vS (bif F.beh z.fst z.snd.snd.fst z.snd.fst z.snd.snd.snd then F.behV z.fst
  z.snd.fst z.snd.snd.snd else ByteArray.mk (Array.mk []))), (vI most)]) fun (z_1 : ByteArray × Int) => bif decide (z_1.snd ≤ (18 : Int)) then bif !F.numOk z_1.fst z_1.snd
  then some (AV.tup [(vI (F.numV z_1.fst z_1.snd)), (vB (F.numOk z_1.fst z_1.snd))], [(901, Blk.mk false 9 1 (List.map eStr z.fst)), (900, Blk.mk true 0 0 [[.own 901, (vI
  (IntKind.wrap IntKind.i64 ((↑(z.snd.fst + F.one (F.beh z.fst z.snd.snd.fst z.snd.fst z.snd.snd.snd)) : Int) - (1 : Int)))), (vB z.snd.snd.fst)]])], []) else some (AV.tup
  [(vI (F.numV z_1.fst z_1.snd)), (vB (F.numOk z_1.fst z_1.snd))], [(901, Blk.mk false 9 1 (List.map eStr z.fst)), (900, Blk.mk true 0 0 [[.own 901, (vI (↑(z.snd.fst + F.one
  (F.beh z.fst z.snd.snd.fst z.snd.fst z.snd.snd.snd)) : Int)), (vB z.snd.snd.fst)]])], []) else none else none := (runHR_val).symm.trans (by kernel_rfl)

def encCou1 (ls : List ByteArray) (a : Nat) (op : Bool) (w : ByteArray) (most : Int) : List AV × Heap := ([.ptr 900 0 0, vS w, vI most], [(901, ⟨false, 9, 1, ls.map eStr⟩), (900, ⟨true, 0, 0, [[.own 901, vI a, vB op]]⟩)])

def encCou (a : (List ByteArray) × Nat × Bool × ByteArray × Int) : List AV × Heap := encCou1 a.1 a.2.1 a.2.2.1 a.2.2.2.1 a.2.2.2.2

theorem encCou_inj (a a' : (List ByteArray) × Nat × Bool × ByteArray × Int) (h : encCou a = encCou a') : a = a' := by
  simp only [encCou, encCou1] at h
  try simp [strs_inj, ints_inj, ents_inj, eEnt_iff, eLst_iff, eSnds_inj, eStrms_inj] at h
  grind

theorem unCou (ls : List ByteArray) (a : Nat) (op : Bool) (w : ByteArray) (most : Int) : unenc encCou (([.ptr 900 0 0, (vS w), (vI most)], [(901, Blk.mk false 9 1 (List.map eStr ls)), (900, Blk.mk true 0 0 [[.own 901, (vI (↑a : Int)), (vB op)]])])) = some (ls, a, op, w, most) := unenc_of encCou_inj (ls, a, op, w, most) rfl

def resCou1 (ls : List ByteArray) (a : Nat) (op : Bool) (w : ByteArray) (most : Int) : AV × Heap × List Nat := (.tup [vI (F.cnV ls op a w most), vB (F.cnt ls op a w most)], [(901, ⟨false, 9, 1, ls.map eStr⟩), (900, ⟨true, 0, 0, [[.own 901, vI (a + F.one (F.cnt ls op a w most) : Nat), vB op]]⟩)], [])

def preCou1 (ls : List ByteArray) (a : Nat) (op : Bool) (w : ByteArray) (most : Int) : Bool := decide (a ≤ 600000) && F.lsOk ls && decide (most ≤ 18)

noncomputable def oCou : OrcH := orcH 39 encCou (fun a => preCou1 a.1 a.2.1 a.2.2.1 a.2.2.2.1 a.2.2.2.2) fun a => resCou1 a.1 a.2.1 a.2.2.1 a.2.2.2.1 a.2.2.2.2

theorem okCou : OrcHOK Tryd.prog noG oCou := by
  refine mkH_ok (mv := []) Tryd.f39 (by kernel_rfl) (by kernel_rfl) enCou_ok mixed (no_loops (by kernel_rfl)) ?_
  rintro ⟨ls, a, op, w, most⟩ hpre hok hokh
  show (runH enCou [] _ (encCou1 _ _ _ _ _).1 (encCou1 _ _ _ _ _).2).val = some (resCou1 _ _ _ _ _)
  unfold encCou1 resCou1
  rw [evCou]
  simp only [preCou1, Bool.and_eq_true, decide_eq_true_eq] at hpre
  obtain ⟨⟨h1, h2⟩, h3⟩ := hpre
  simp only [unRNu, unBeh, preRNu1, preBeh1, etaEnt, etaLst, etaSnd, etaStrm, etaMas, Option.bind_some, List.length_map, unStrs, unInts, unBools, unEnts, unItms, unTrns, cond_true, cond_false, Bool.and_true, Bool.true_and, decide_eq_true h1, h2, decide_eq_true h3]
  unfold F.cnV F.cnt F.one
  cases hb : F.beh ls op a w
  · rfl
  · have hlt := (F.beh_lt hb).1
    have hw : IntKind.i64.wrap (((a + 1 : Nat) : Int) - 1) = (a : Int) := by rw [wrap_id (by omega) (by omega)]; omega
    simp only [cond_true, hw]
    cases hn : F.numOk (F.behV ls a w) most
    · have hv : F.numV (F.behV ls a w) most = 0 := by unfold F.numV; rw [hn]; rfl
      rw [hv]
      rfl
    · rfl

noncomputable def enTim : Env := envH ty noG lks [oCut, oRNu] [oBeh] [] []

theorem enTim_ok : EnvOK Tryd.prog enTim := by
  refine envH_ok lks_ok ty_ok ?_ ?_
  · simp only [List.forall_mem_cons]
    exact ⟨okCut, okRNu, by simp⟩
  · simp only [List.forall_mem_cons]
    exact ⟨okBeh, by simp⟩

theorem evTim (ls : List ByteArray) (a : Nat) (op : Bool) : (runH enTim [] Tryd.f43 [.ptr 900 0 0] [(901, ⟨false, 9, 1, ls.map eStr⟩), (900, ⟨true, 0, 0, [[.own 901, vI a, vB op]]⟩)]).val =
  Option.bind (unenc encBeh ([.ptr 900 0 0, (vS (ByteArray.mk (Array.mk [(35 : UInt8), (84 : UInt8), (73 : UInt8), (77 : UInt8), (69 : UInt8), (32 : UInt8)])))], [(901,
  Blk.mk false 9 1 (List.map eStr ls)), (900, Blk.mk true 0 0 [[.own 901, (vI (↑a : Int)), (vB op)]])])) fun (z : List ByteArray × Nat × Bool × ByteArray) => bif decide
  (z.snd.fst ≤ (600000 : Nat)) && F.lsOk z.fst then bif !F.beh z.fst z.snd.snd.fst z.snd.fst z.snd.snd.snd then some (AV.tup [(vI (0 : Int)), (vB false)], [(901, Blk.mk
  false 9 1 (List.map eStr z.fst)), (900, Blk.mk true 0 0 [[.own 901, (vI (↑(z.snd.fst + F.one (F.beh z.fst z.snd.snd.fst z.snd.fst z.snd.snd.snd)) : Int)), (vB
  z.snd.snd.fst)]])], []) else Option.bind (unenc encCut [(vS (bif F.beh z.fst z.snd.snd.fst z.snd.fst z.snd.snd.snd then F.behV z.fst z.snd.fst z.snd.snd.snd else
  ByteArray.mk (Array.mk []))), (vS (ByteArray.mk (Array.mk [(46 : UInt8)])))]) fun (z_1 : ByteArray × ByteArray) => bif decide (ByteArray.size z_1.fst ≤ (4294967280 : Nat))
  then Option.bind (unenc encRNu [(vS (F.cutH z_1.fst z_1.snd)), (vI (16 : Int))]) fun (z_2 : ByteArray × Int) => bif decide (z_2.snd ≤ (18 : Int)) then bif Nat.ble
  (ByteArray.size (ByteArray.mk (Array.mk [(49 : UInt8)])) + ByteArray.size (F.cutT z_1.fst z_1.snd)) (9223372036854775807 : Nat) then Option.bind (unenc encRNu [(vS
  (ByteArray.mk (Array.mk [(49 : UInt8)]) ++ F.cutT z_1.fst z_1.snd)), (vI (4 : Int))]) fun (z_3 : ByteArray × Int) => bif decide (z_3.snd ≤ (18 : Int)) then bif bif bif bif
  !F.cutF z_1.fst z_1.snd then true else !F.numOk z_2.fst z_2.snd then true else !F.numOk z_3.fst z_3.snd then true else (↑(ByteArray.size (F.cutT z_1.fst z_1.snd)) : Int)
  != (3 : Int) then some (AV.tup [(vI (0 : Int)), (vB false)], [(901, Blk.mk false 9 1 (List.map eStr z.fst)), (900, Blk.mk true 0 0 [[.own 901, (vI (IntKind.wrap
  IntKind.i64 ((↑(z.snd.fst + F.one (F.beh z.fst z.snd.snd.fst z.snd.fst z.snd.snd.snd)) : Int) - (1 : Int)))), (vB z.snd.snd.fst)]])], []) else bif decide ((3600000 : Int)
  < F.numV z_2.fst z_2.snd) then some (AV.tup [(vI (IntKind.wrap IntKind.i64 (IntKind.wrap IntKind.i64 (IntKind.wrap IntKind.i64 ((3600000 : Int) * (1000 : Int)) + F.numV
  z_3.fst z_3.snd) - (1000 : Int)))), (vB true)], [(901, Blk.mk false 9 1 (List.map eStr z.fst)), (900, Blk.mk true 0 0 [[.own 901, (vI (↑(z.snd.fst + F.one (F.beh z.fst
  z.snd.snd.fst z.snd.fst z.snd.snd.snd)) : Int)), (vB z.snd.snd.fst)]])], []) else some (AV.tup [(vI (IntKind.wrap IntKind.i64 (IntKind.wrap IntKind.i64 (IntKind.wrap
  IntKind.i64 (F.numV z_2.fst z_2.snd * (1000 : Int)) + F.numV z_3.fst z_3.snd) - (1000 : Int)))), (vB true)], [(901, Blk.mk false 9 1 (List.map eStr z.fst)), (900, Blk.mk
  true 0 0 [[.own 901, (vI (↑(z.snd.fst + F.one (F.beh z.fst z.snd.snd.fst z.snd.fst z.snd.snd.snd)) : Int)), (vB z.snd.snd.fst)]])], []) else none else none else none else
  none else none := (runHR_val).symm.trans (by kernel_rfl)

def encTim1 (ls : List ByteArray) (a : Nat) (op : Bool) : List AV × Heap := ([.ptr 900 0 0], [(901, ⟨false, 9, 1, ls.map eStr⟩), (900, ⟨true, 0, 0, [[.own 901, vI a, vB op]]⟩)])

def encTim (a : (List ByteArray) × Nat × Bool) : List AV × Heap := encTim1 a.1 a.2.1 a.2.2

theorem encTim_inj (a a' : (List ByteArray) × Nat × Bool) (h : encTim a = encTim a') : a = a' := by
  simp only [encTim, encTim1] at h
  try simp [strs_inj, ints_inj, ents_inj, eEnt_iff, eLst_iff, eSnds_inj, eStrms_inj] at h
  grind

theorem unTim (ls : List ByteArray) (a : Nat) (op : Bool) : unenc encTim (([.ptr 900 0 0], [(901, Blk.mk false 9 1 (List.map eStr ls)), (900, Blk.mk true 0 0 [[.own 901, (vI (↑a : Int)), (vB op)]])])) = some (ls, a, op) := unenc_of encTim_inj (ls, a, op) rfl

def resTim1 (ls : List ByteArray) (a : Nat) (op : Bool) : AV × Heap × List Nat := (.tup [vI (bif F.rtm ls op a then F.rmV (F.behV ls a F.kTimS) else 0), vB (F.rtm ls op a)], [(901, ⟨false, 9, 1, ls.map eStr⟩), (900, ⟨true, 0, 0, [[.own 901, vI (a + F.one (F.rtm ls op a) : Nat), vB op]]⟩)], [])

def preTim1 (ls : List ByteArray) (a : Nat) (op : Bool) : Bool := decide (a ≤ 600000) && F.lsOk ls

noncomputable def oTim : OrcH := orcH 43 encTim (fun a => preTim1 a.1 a.2.1 a.2.2) fun a => resTim1 a.1 a.2.1 a.2.2

theorem okTim : OrcHOK Tryd.prog noG oTim := by
  refine mkH_ok (mv := []) Tryd.f43 (by kernel_rfl) (by kernel_rfl) enTim_ok mixed (no_loops (by kernel_rfl)) ?_
  rintro ⟨ls, a, op⟩ hpre hok hokh
  show (runH enTim [] _ (encTim1 _ _ _).1 (encTim1 _ _ _).2).val = some (resTim1 _ _ _)
  unfold encTim1 resTim1
  rw [evTim]
  simp only [preTim1, Bool.and_eq_true, decide_eq_true_eq] at hpre
  obtain ⟨h1, h2⟩ := hpre
  simp only [unCut, unRNu, unBeh, preCut1, preRNu1, preBeh1, etaEnt, etaLst, etaSnd, etaStrm, etaMas, Option.bind_some, List.length_map, unStrs, unInts, unBools, unEnts, unItms, unTrns, cond_true, cond_false, Bool.and_true, Bool.true_and, decide_eq_true h1, h2]
  have qt : (⟨⟨[35, 84, 73, 77, 69, 32]⟩⟩ : ByteArray) = F.kTimS := rfl
  have qd : (⟨⟨[46]⟩⟩ : ByteArray) = F.dot := rfl
  have q1 : (⟨⟨[49]⟩⟩ : ByteArray) = F.d1 := rfl
  rw [qt, qd, q1]
  unfold F.rtm F.one
  cases hb : F.beh ls op a F.kTimS
  · rfl
  have hlt := (F.beh_lt hb).1
  have hw : IntKind.i64.wrap (((a + 1 : Nat) : Int) - 1) = (a : Int) := by rw [wrap_id (by omega) (by omega)]; omega
  have hz := F.behV_size ls a F.kTimS
  have hz2 := F.lsOk_at h2 a
  simp only [cond_true, Bool.not_true, cond_false, hw]
  unfold F.rmV F.milOk
  generalize F.behV ls a F.kTimS = v at *
  have hc := F.cutT_size v F.dot
  have z1 : F.d1.size = 1 := rfl
  have hn := F.numV_nn (F.cutH v F.dot) 16
  rw [decide_eq_true (by omega : v.size ≤ 4294967280), z1, ble_t (by omega : 1 + (F.cutT v F.dot).size ≤ 9223372036854775807)]
  generalize F.cutT v F.dot = b at *
  cases F.cutF v F.dot
  · cases F.numOk (F.cutH v F.dot) 16 <;> rfl
  cases F.numOk (F.cutH v F.dot) 16
  · rfl
  by_cases h3 : b.size = 3
  · obtain ⟨e1, e2⟩ := F.num_one h3
    have e3 : ((b.size : Int) != 3) = false := by rw [h3]; rfl
    rw [e1, e3, decide_eq_true h3]
    cases ha : (F.bs b).all F.dgB
    · rfl
    · have hd := F.dv_lt h3 ha
      rw [e2 ha]
      by_cases hb : 3600000 < F.numV (F.cutH v F.dot) 16
      · rw [decide_eq_true hb, Int.min_eq_right (by omega : (3600000 : Int) ≤ F.numV (F.cutH v F.dot) 16)]
        have w1 : IntKind.i64.wrap ((3600000 : Int) * 1000) = 3600000000 := rfl
        have w2 : IntKind.i64.wrap ((3600000000 : Int) + (1000 + (F.dv b : Int))) = 3600000000 + (1000 + (F.dv b : Int)) := wrap_id (by omega) (by omega)
        have w3 : IntKind.i64.wrap ((3600000000 : Int) + (1000 + (F.dv b : Int)) - 1000) = 3600000 * 1000 + (F.dv b : Int) := by rw [wrap_id (by omega) (by omega)]; omega
        rw [w1, w2, w3]
        rfl
      · rw [decide_eq_false hb, Int.min_eq_left (by omega : F.numV (F.cutH v F.dot) 16 ≤ (3600000 : Int))]
        have w1 : IntKind.i64.wrap (F.numV (F.cutH v F.dot) 16 * 1000) = F.numV (F.cutH v F.dot) 16 * 1000 := wrap_id (by omega) (by omega)
        have w2 : IntKind.i64.wrap (F.numV (F.cutH v F.dot) 16 * 1000 + (1000 + (F.dv b : Int))) = F.numV (F.cutH v F.dot) 16 * 1000 + (1000 + (F.dv b : Int)) := wrap_id (by omega) (by omega)
        have w3 : IntKind.i64.wrap (F.numV (F.cutH v F.dot) 16 * 1000 + (1000 + (F.dv b : Int)) - 1000) = F.numV (F.cutH v F.dot) 16 * 1000 + (F.dv b : Int) := by rw [wrap_id (by omega) (by omega)]; omega
        rw [w1, w2, w3]
        rfl
  · have e3 : ((b.size : Int) != 3) = true := by simp; omega
    rw [e3, decide_eq_false h3]
    cases F.numOk (F.d1 ++ b) 4 <;> rfl

def stDvd (s : ByteArray) : St := ⟨[(3, .ptr 8 0 0), (0, vS s)], [(8, ⟨true, 0, 0, [[.e0, vI 0, vB false]]⟩)]⟩

def stDvd1 (a : ByteArray) : St := stDvd a

theorem stDvd_inj (a a' : ByteArray) (h : stDvd1 a = stDvd1 a') : a = a' := by
  simp only [stDvd1, stDvd] at h
  try simp [strs_inj, ints_inj, ents_inj, eEnt_iff, eLst_iff, eSnds_inj, eStrms_inj] at h
  grind

theorem unstDvd (s : ByteArray) : unenc stDvd1 (St.mk [(3, .ptr 8 0 0), (0, (vS s))] [(8, Blk.mk true 0 0 [[AV.e0, (vI (0 : Int)), (vB false)]])]) = some (s) := unenc_of stDvd_inj (s) rfl

def outDvd (s : ByteArray) : T (Ex × St) := .ret (.exit 0, ⟨[(3, .ptr 8 0 0)], [(890, ⟨false, 9, 1, (F.lnL s).map eStr⟩), (8, ⟨true, 0, 0, [[.own 890, vI 0, vB (F.opA false s)]]⟩)]⟩)

noncomputable def prlDvd (s : ByteArray) : Bool := decide (s.size ≤ 500000)

noncomputable def lpDvd : Nat × (St → T (Ex × St)) := (2, lpo [3, 0] [8] stDvd1 (fun a => prlDvd a) fun a => outDvd a)

noncomputable def enDvd : Env := envH ty noG lks [oCut] [] [] [lpDvd]

theorem enDvd_ok : EnvOK Tryd.prog enDvd := by
  refine envH_ok lks_ok ty_ok ?_ ?_
  · simp only [List.forall_mem_cons]
    exact ⟨okCut, by simp⟩
  · simp

def stDo (s : ByteArray) (ls : List ByteArray) (op : Bool) : St := ⟨[(3, .ptr 8 0 0), (0, vS s)], [(890, ⟨false, 9, 1, ls.map eStr⟩), (8, ⟨true, 0, 0, [[.own 890, vI 0, vB op]]⟩)]⟩

theorem evDo (s : ByteArray) (ls : List ByteArray) (op : Bool) : ((exec enDvd (loopN Tryd.f24 0) (stDo s ls op)).bind (lessX ([3, 0], [890, 8]) ([3], [890, 8]) ([], []))).val =
  bif !ByteArray.toList s == ByteArray.toList (ByteArray.mk (Array.mk [])) then Option.bind (unenc encCut [(vS s), (vS (ByteArray.mk (Array.mk [(10 : UInt8)])))]) fun (z :
  ByteArray × ByteArray) => bif decide (ByteArray.size z.fst ≤ (4294967280 : Nat)) then bif Nat.ble ((List.length (List.map eStr ls) + (1 : Nat)) * (16 : Nat))
  (140737488355328 : Nat) && true then some (Ex.normal, St.mk [(3, .ptr 8 0 0), (0, (vS (F.cutT z.fst z.snd)))] [(890, Blk.mk false 9 1 (List.map eStr ls ++ [[(vS (F.cutH
  z.fst z.snd))]])), (8, Blk.mk true 0 0 [[.own 890, (vI (0 : Int)), (vB !F.cutF z.fst z.snd)]])]) else none else none else some (Ex.exit (0 : Nat), St.mk [(3, .ptr 8 0 0)]
  [(890, Blk.mk false 9 1 (List.map eStr ls)), (8, Blk.mk true 0 0 [[.own 890, (vI (0 : Int)), (vB op)]])]) := (execR_bind _ _ _).symm.trans (by kernel_rfl)

def outDo (s : ByteArray) (ls : List ByteArray) (op : Bool) : T (Ex × St) := .ret (.exit 0, ⟨[(3, .ptr 8 0 0)], [(890, ⟨false, 9, 1, (ls ++ F.lnL s).map eStr⟩), (8, ⟨true, 0, 0, [[.own 890, vI 0, vB (F.opA op s)]]⟩)]⟩)

theorem lpDvd_ok (s : ByteArray) (hp : prlDvd s = true) : ∀ ex s', (outDvd s).val = some (ex, s') → LoopOK enDvd (loopN Tryd.f24 0) (stDvd s) ex s' := by
  simp only [prlDvd, decide_eq_true_eq] at hp
  have main := loop_gen (E := enDvd) (x := loopN Tryd.f24 0) (st := fun p : ByteArray × List ByteArray × Bool => stDo p.1 p.2.1 p.2.2) (out := fun p => outDo p.1 p.2.1 p.2.2) (I := fun p => p.1.size + p.2.1.length ≤ 500000) (n := ([3, 0], [890, 8])) (e := ([3], [890, 8])) (r := ([], [])) (fun p => p.1.size) (by
    rintro ⟨s, ls, op⟩ h1
    simp only at h1
    by_cases hz : s.size = 0
    · left
      refine ⟨(.exit 0, ⟨[(3, .ptr 8 0 0)], [(890, ⟨false, 9, 1, ls.map eStr⟩), (8, ⟨true, 0, 0, [[.own 890, vI 0, vB op]]⟩)]⟩), ?_, ?_, by simp, rfl⟩
      · show ((exec enDvd (loopN Tryd.f24 0) (stDo s ls op)).bind _).val = _
        rw [evDo]
        simp only [unCut, preCut1, unstDvd, prlDvd, outDvd, etaEnt, etaLst, etaSnd, etaStrm, etaMas, Option.bind_some, List.length_map, unStrs, unInts, unBools, unEnts, unItms, unTrns, cond_true, cond_false, Bool.and_true, Bool.true_and, F.empty_eq, decide_eq_false (by omega : ¬ s.size ≠ 0)]
        rfl
      · simp only [outDo, F.lnL_nil hz, F.opA_nil hz, List.append_nil]
        rfl
    · right
      have z1 := F.cutT_lt (p := F.nl) (by decide) hz
      have hb : Nat.ble ((ls.length + 1) * 16) 140737488355328 = true := ble_t (by omega)
      refine ⟨(F.cutT s F.nl, ls ++ [F.cutH s F.nl], !F.cutF s F.nl), ?_, rfl, by simp only [List.length_append, List.length_singleton]; omega, z1, ?_⟩
      · show ((exec enDvd (loopN Tryd.f24 0) (stDo s ls op)).bind _).val = _
        rw [evDo]
        simp only [unCut, preCut1, unstDvd, prlDvd, outDvd, etaEnt, etaLst, etaSnd, etaStrm, etaMas, Option.bind_some, List.length_map, unStrs, unInts, unBools, unEnts, unItms, unTrns, cond_true, cond_false, Bool.and_true, Bool.true_and, F.empty_eq, decide_eq_true hz, nl_eq, decide_eq_true (by omega : s.size ≤ 4294967280), hb, stDo]
        rw [List.map_append]
        rfl
      · simp only [outDo, F.lnL_cons hz, F.opA_cons hz, List.append_assoc, List.singleton_append])
  intro ex s' h
  refine .own 8 0 890 9 1 rfl ?_
  exact main (s, [], false) (by simp only [List.length_nil]; omega) ex s' h

theorem evDvd (s : ByteArray) : (runH enDvd [] Tryd.f24 [vS s] []).val =
  Option.bind (unenc stDvd1 (St.mk [(3, .ptr 8 0 0), (0, (vS s))] [(8, Blk.mk true 0 0 [[AV.e0, (vI (0 : Int)), (vB false)]])])) fun (z : ByteArray) => bif decide
  (ByteArray.size z ≤ (500000 : Nat)) && true then some (.ptr 0 0 0, [(0, Blk.mk true 0 0 [[.own 1, (vI (0 : Int)), (vB (F.opA false z))]]), (1, Blk.mk false 9 1 (List.map
  eStr (F.lnL z)))], []) else none := (runHR_val).symm.trans (by kernel_rfl)

def encDvd1 (s : ByteArray) : List AV × Heap := ([vS s], [])

def encDvd (a : ByteArray) : List AV × Heap := encDvd1 a

theorem encDvd_inj (a a' : ByteArray) (h : encDvd a = encDvd a') : a = a' := by
  simp only [encDvd, encDvd1] at h
  try simp [strs_inj, ints_inj, ents_inj, eEnt_iff, eLst_iff, eSnds_inj, eStrms_inj] at h
  grind

theorem unDvd (s : ByteArray) : unenc encDvd (([(vS s)], [])) = some (s) := unenc_of encDvd_inj (s) rfl

def resDvd1 (s : ByteArray) : AV × Heap × List Nat := (.ptr 0 0 0, [(0, ⟨true, 0, 0, [[.own 1, vI 0, vB (F.opA false s)]]⟩), (1, ⟨false, 9, 1, (F.lnL s).map eStr⟩)], [])

def preDvd1 (s : ByteArray) : Bool := decide (s.size ≤ 500000)

noncomputable def oDvd : OrcH := orcH 24 encDvd (fun a => preDvd1 a) fun a => resDvd1 a

theorem okDvd : OrcHOK Tryd.prog noG oDvd := by
  refine mkH_ok (mv := []) Tryd.f24 (by kernel_rfl) (by kernel_rfl) enDvd_ok mixed (one_loop (x0 := loopN Tryd.f24 0) (by kernel_rfl) (lpo_ok ?_)) ?_
  · intro s hp
    exact lpDvd_ok s hp
  rintro s hpre hok hokh
  show (runH enDvd [] _ (encDvd1 _).1 (encDvd1 _).2).val = some (resDvd1 _)
  unfold encDvd1 resDvd1
  rw [evDvd]
  simp only [preDvd1, decide_eq_true_eq] at hpre
  simp only [unCut, preCut1, unstDvd, prlDvd, outDvd, etaEnt, etaLst, etaSnd, etaStrm, etaMas, Option.bind_some, List.length_map, unStrs, unInts, unBools, unEnts, unItms, unTrns, cond_true, cond_false, Bool.and_true, Bool.true_and, decide_eq_true hpre]

end M
end Go.Proofs.YtllagmepnmdeoaaDoor
