/- What is proved here: how the reference goes through lines (no statement of the seat). -/
import Derived.Test.YtipngpndgniagaaGreatDoorE60
namespace Go.Proofs.YtipngpndgniagaaGreatDoor
open Go Go.RowKit
set_option linter.unusedVariables false
set_option linter.unusedSimpArgs false

/-- There is a line that ends. -/
def F.mor (ls : List ByteArray) (op : Bool) (a : Nat) : Bool := decide (a < ls.length) && !(op && decide (a + 1 = ls.length))

def F.lAt (ls : List ByteArray) (a : Nat) : ByteArray := ls.getD a ⟨⟨[]⟩⟩

def F.exa (ls : List ByteArray) (op : Bool) (a : Nat) (x : ByteArray) : Bool := F.mor ls op a && F.seq (F.lAt ls a) x

def F.ruri (ls : List ByteArray) (op : Bool) (a : Nat) : Bool := F.mor ls op a && F.uriL (F.lAt ls a)

def F.one (b : Bool) : Nat := bif b then 1 else 0

def F.lnL (s : ByteArray) : List ByteArray := (F.lns s).map (·.1)

/-- The last line does not end. -/
def F.opA (op : Bool) (s : ByteArray) : Bool := if h : s.size = 0 then op else F.opA (!F.cutF s F.nl) (F.cutT s F.nl)
termination_by s.size
decreasing_by exact F.cutT_lt (by decide) h

theorem F.lnL_nil {s : ByteArray} (h : s.size = 0) : F.lnL s = [] := by unfold F.lnL; rw [F.lns_nil h]; rfl

theorem F.lnL_cons {s : ByteArray} (h : s.size ≠ 0) : F.lnL s = F.cutH s F.nl :: F.lnL (F.cutT s F.nl) := by unfold F.lnL; rw [F.lns_cons h]; rfl

theorem F.opA_nil {s : ByteArray} (h : s.size = 0) (op : Bool) : F.opA op s = op := by rw [F.opA, dif_pos h]

theorem F.opA_cons {s : ByteArray} (h : s.size ≠ 0) (op : Bool) : F.opA op s = F.opA (!F.cutF s F.nl) (F.cutT s F.nl) := by rw [F.opA, dif_neg h]

theorem F.lnL_len : ∀ (n : Nat) (s : ByteArray), s.size ≤ n → (F.lnL s).length ≤ n := by
  intro n
  induction n with
  | zero => intro s h; rw [F.lnL_nil (by omega)]; exact Nat.le_refl _
  | succ n ih =>
    intro s h
    by_cases h0 : s.size = 0
    · rw [F.lnL_nil h0]; exact Nat.zero_le _
    · rw [F.lnL_cons h0, List.length_cons]
      have := F.cutT_lt (p := F.nl) (by decide) h0
      have := ih (F.cutT s F.nl) (by omega)
      omega

namespace M


theorem evRMor (ls : List ByteArray) (a : Nat) (op : Bool) : (runF en0 false Tryz.f14 [.pel [.sl (ls.map eStr), vI a, vB op] 0]).val =
  bif decide ((↑a : Int) < (↑(List.length (List.map eStr ls)) : Int)) then bif op then some ((vB !(↑a : Int) == IntKind.wrap IntKind.i64 ((↑(List.length (List.map eStr ls))
  : Int) - (1 : Int))), []) else bif op then none else bif op then none else bif op then none else bif op then none else bif op then none else bif op then none else bif op
  then none else bif op then none else some ((vB true), []) else some ((vB false), []) := (runFR_val).symm.trans (by kernel_rfl)

def encRMor1 (ls : List ByteArray) (a : Nat) (op : Bool) : List AV := [.pel [.sl (ls.map eStr), vI a, vB op] 0]

def encRMor (a : (List ByteArray) × Nat × Bool) : List AV := encRMor1 a.1 a.2.1 a.2.2

theorem encRMor_inj (a a' : (List ByteArray) × Nat × Bool) (h : encRMor a = encRMor a') : a = a' := by
  simp only [encRMor, encRMor1] at h
  try simp [strs_inj, ints_inj, ents_inj, eEnt_iff, eLst_iff, eSnds_inj, eStrms_inj] at h
  grind

theorem unRMor (ls : List ByteArray) (a : Nat) (op : Bool) : unenc encRMor ([AV.pel [AV.sl (List.map eStr ls), (vI (↑a : Int)), (vB op)] (0 : Nat)]) = some (ls, a, op) := unenc_of encRMor_inj (ls, a, op) rfl

def resRMor1 (ls : List ByteArray) (a : Nat) (op : Bool) : AV × Heap := (vB (F.mor ls op a), [])

def preRMor1 (ls : List ByteArray) (a : Nat) (op : Bool) : Bool := decide (a ≤ 600000) && decide (ls.length ≤ 600000)

noncomputable def oRMor : Orc := orc 14 true encRMor (fun a => preRMor1 a.1 a.2.1 a.2.2) fun a => resRMor1 a.1 a.2.1 a.2.2

theorem okRMor : OrcOK Tryz.prog noG oRMor := by
  refine mk_ok Tryz.f14 (keep := false) (by kernel_rfl) (by kernel_rfl) en0_ok mixed (no_loops (by kernel_rfl)) (by first | exact fun _ _ => ⟨rfl, rfl⟩ | (intro h; cases h)) ?_
  rintro ⟨ls, a, op⟩ hpre hok
  show (runF en0 false _ (encRMor1 _ _ _)).val = some (resRMor1 _ _ _)
  unfold encRMor1 resRMor1
  rw [evRMor]
  have hpre : (decide (a ≤ 600000) && decide (ls.length ≤ 600000)) = true := hpre
  rw [Bool.and_eq_true, decide_eq_true_eq, decide_eq_true_eq] at hpre
  have hw : IntKind.i64.wrap ((ls.length : Int) - 1) = (ls.length : Int) - 1 := wrap_id (by omega) (by omega)
  have e1 : decide ((a : Int) < (ls.length : Int)) = decide (a < ls.length) := decide_eq_decide.2 (by omega)
  have e2 : ((a : Int) == (ls.length : Int) - 1) = decide (a + 1 = ls.length) := by
    by_cases h : a + 1 = ls.length
    · rw [decide_eq_true h]; simp; omega
    · rw [decide_eq_false h]; simp; omega
  simp only [etaEnt, etaLst, etaSnd, etaStrm, etaMas, Option.bind_some, List.length_map, unStrs, unInts, unBools, unEnts, unItms, unTrns, cond_true, cond_false, Bool.and_true, Bool.true_and, hw, e1, e2, F.mor]
  cases decide (a < ls.length) <;> cases op <;> cases decide (a + 1 = ls.length) <;> rfl

noncomputable def enRExa : Env := envH ty noG lks [oRMor] [] [] []

theorem enRExa_ok : EnvOK Tryz.prog enRExa := by
  refine envH_ok lks_ok ty_ok ?_ ?_
  · simp only [List.forall_mem_cons]
    exact ⟨okRMor, by simp⟩
  · simp

theorem evRExa (ls : List ByteArray) (a : Nat) (op : Bool) (x : ByteArray) : (runH enRExa [] Tryz.f13 [.ptr 900 0 0, vS x] [(901, ⟨false, 9, 1, ls.map eStr⟩), (900, ⟨true, 0, 0, [[.own 901, vI a, vB op]]⟩)]).val =
  Option.bind (unenc encRMor [AV.pel [AV.sl (List.map eStr ls), (vI (↑a : Int)), (vB op)] (0 : Nat)]) fun (z : List ByteArray × Nat × Bool) => bif decide (z.snd.fst ≤
  (600000 : Nat)) && decide (List.length z.fst ≤ (600000 : Nat)) then bif F.mor z.fst z.snd.snd z.snd.fst then bif decide (a < List.length (Blk.mk false 9 1 (List.map eStr
  ls)).rows) then Option.bind (unenc (List.map eStr) (List.map eStr ls)) fun (z : List ByteArray) => bif decide (a < List.length z) then bif ByteArray.toList (List.getD z a
  (ByteArray.mk (Array.mk []))) == ByteArray.toList x then some ((vB true), [(901, Blk.mk false 9 1 (List.map eStr ls)), (900, Blk.mk true 0 0 [[.own 901, (vI (IntKind.wrap
  IntKind.i64 ((↑a : Int) + (1 : Int)))), (vB op)]])], []) else some ((vB false), [(901, Blk.mk false 9 1 (List.map eStr ls)), (900, Blk.mk true 0 0 [[.own 901, (vI (↑a :
  Int)), (vB op)]])], []) else none else none else some ((vB false), [(901, Blk.mk false 9 1 (List.map eStr ls)), (900, Blk.mk true 0 0 [[.own 901, (vI (↑a : Int)), (vB
  op)]])], []) else none := (runHR_val).symm.trans (by kernel_rfl)

def encRExa1 (ls : List ByteArray) (a : Nat) (op : Bool) (x : ByteArray) : List AV × Heap := ([.ptr 900 0 0, vS x], [(901, ⟨false, 9, 1, ls.map eStr⟩), (900, ⟨true, 0, 0, [[.own 901, vI a, vB op]]⟩)])

def encRExa (a : (List ByteArray) × Nat × Bool × ByteArray) : List AV × Heap := encRExa1 a.1 a.2.1 a.2.2.1 a.2.2.2

theorem encRExa_inj (a a' : (List ByteArray) × Nat × Bool × ByteArray) (h : encRExa a = encRExa a') : a = a' := by
  simp only [encRExa, encRExa1] at h
  try simp [strs_inj, ints_inj, ents_inj, eEnt_iff, eLst_iff, eSnds_inj, eStrms_inj] at h
  grind

theorem unRExa (ls : List ByteArray) (a : Nat) (op : Bool) (x : ByteArray) : unenc encRExa (([.ptr 900 0 0, (vS x)], [(901, Blk.mk false 9 1 (List.map eStr ls)), (900, Blk.mk true 0 0 [[.own 901, (vI (↑a : Int)), (vB op)]])])) = some (ls, a, op, x) := unenc_of encRExa_inj (ls, a, op, x) rfl

def resRExa1 (ls : List ByteArray) (a : Nat) (op : Bool) (x : ByteArray) : AV × Heap × List Nat := (vB (F.exa ls op a x), [(901, ⟨false, 9, 1, ls.map eStr⟩), (900, ⟨true, 0, 0, [[.own 901, vI (a + F.one (F.exa ls op a x) : Nat), vB op]]⟩)], [])

def preRExa1 (ls : List ByteArray) (a : Nat) (op : Bool) (x : ByteArray) : Bool := decide (a ≤ 600000) && decide (ls.length ≤ 600000)

noncomputable def oRExa : OrcH := orcH 13 encRExa (fun a => preRExa1 a.1 a.2.1 a.2.2.1 a.2.2.2) fun a => resRExa1 a.1 a.2.1 a.2.2.1 a.2.2.2

theorem okRExa : OrcHOK Tryz.prog noG oRExa := by
  refine mkH_ok (mv := []) Tryz.f13 (by kernel_rfl) (by kernel_rfl) enRExa_ok mixed (no_loops (by kernel_rfl)) ?_
  rintro ⟨ls, a, op, x⟩ hpre hok hokh
  show (runH enRExa [] _ (encRExa1 _ _ _ _).1 (encRExa1 _ _ _ _).2).val = some (resRExa1 _ _ _ _)
  unfold encRExa1 resRExa1
  rw [evRExa]
  simp only [preRExa1, Bool.and_eq_true, decide_eq_true_eq] at hpre
  have hw : IntKind.i64.wrap ((a : Int) + 1) = ((a + 1 : Nat) : Int) := by rw [wrap_id (by omega) (by omega)]; rfl
  have hq : ((F.lAt ls a).toList == x.toList) = F.seq (F.lAt ls a) x := rfl
  have hi : idx (a : Int) = some a := rfl
  simp only [unRMor, preRMor1, etaEnt, etaLst, etaSnd, etaStrm, etaMas, Option.bind_some, List.length_map, unStrs, unInts, unBools, unEnts, unItms, unTrns, cond_true, cond_false, Bool.and_true, Bool.true_and, decide_eq_true hpre.1, decide_eq_true hpre.2, hw, hi]
  have q : ((ls.getD a (⟨⟨[]⟩⟩ : ByteArray)).toList == x.toList) = F.seq (F.lAt ls a) x := rfl
  rw [q]
  unfold F.exa F.one
  by_cases hm : F.mor ls op a = true
  · have hlt : a < ls.length := by unfold F.mor at hm; simp only [Bool.and_eq_true, decide_eq_true_eq] at hm; exact hm.1
    rw [hm, decide_eq_true hlt]
    cases F.seq (F.lAt ls a) x <;> rfl
  · have hm : F.mor ls op a = false := by cases h : F.mor ls op a <;> simp_all
    rw [hm]
    rfl

theorem evRUri (ls : List ByteArray) (a : Nat) (op : Bool) : (runH enRExa [] Tryz.f18 [.ptr 900 0 0] [(901, ⟨false, 9, 1, ls.map eStr⟩), (900, ⟨true, 0, 0, [[.own 901, vI a, vB op]]⟩)]).val =
  Option.bind (unenc encRMor [AV.pel [AV.sl (List.map eStr ls), (vI (↑a : Int)), (vB op)] (0 : Nat)]) fun (z : List ByteArray × Nat × Bool) => bif decide (z.snd.fst ≤
  (600000 : Nat)) && decide (List.length z.fst ≤ (600000 : Nat)) then bif !!F.mor z.fst z.snd.snd z.snd.fst then bif decide (a < List.length (Blk.mk false 9 1 (List.map eStr
  ls)).rows) then Option.bind (unenc (List.map eStr) (List.map eStr ls)) fun (z : List ByteArray) => bif decide (a < List.length z) then bif !ByteArray.toList (List.getD z a
  (ByteArray.mk (Array.mk []))) == ByteArray.toList (ByteArray.mk (Array.mk [])) then bif decide (a < List.length (Blk.mk false 9 1 (List.map eStr ls)).rows) then
  Option.bind (unenc (List.map eStr) (List.map eStr ls)) fun (z : List ByteArray) => bif decide (a < List.length z) then Option.bind (List.getD z a (ByteArray.mk (Array.mk
  [])))[(0 : Nat)]? fun (z : UInt8) => bif (↑(UInt8.toNat z) : Int) == (35 : Int) then some (AV.tup [(vS (ByteArray.mk (Array.mk []))), (vB false)], [(901, Blk.mk false 9 1
  (List.map eStr ls)), (900, Blk.mk true 0 0 [[.own 901, (vI (↑a : Int)), (vB op)]])], []) else Option.bind (idx (IntKind.wrap IntKind.i64 (IntKind.wrap IntKind.i64 ((↑a :
  Int) + (1 : Int)) - (1 : Int)))) fun (z : Nat) => bif decide (z < List.length (Blk.mk false 9 1 (List.map eStr ls)).rows) then Option.bind (unenc (List.map eStr) (List.map
  eStr ls)) fun (z_1 : List ByteArray) => bif decide (z < List.length z_1) then some (AV.tup [(vS (List.getD z_1 z (ByteArray.mk (Array.mk [])))), (vB true)], [(901, Blk.mk
  false 9 1 (List.map eStr ls)), (900, Blk.mk true 0 0 [[.own 901, (vI (IntKind.wrap IntKind.i64 ((↑a : Int) + (1 : Int)))), (vB op)]])], []) else none else none else none
  else none else some (AV.tup [(vS (ByteArray.mk (Array.mk []))), (vB false)], [(901, Blk.mk false 9 1 (List.map eStr ls)), (900, Blk.mk true 0 0 [[.own 901, (vI (↑a :
  Int)), (vB op)]])], []) else none else none else some (AV.tup [(vS (ByteArray.mk (Array.mk []))), (vB false)], [(901, Blk.mk false 9 1 (List.map eStr ls)), (900, Blk.mk
  true 0 0 [[.own 901, (vI (↑a : Int)), (vB op)]])], []) else none := (runHR_val).symm.trans (by kernel_rfl)

def encRUri1 (ls : List ByteArray) (a : Nat) (op : Bool) : List AV × Heap := ([.ptr 900 0 0], [(901, ⟨false, 9, 1, ls.map eStr⟩), (900, ⟨true, 0, 0, [[.own 901, vI a, vB op]]⟩)])

def encRUri (a : (List ByteArray) × Nat × Bool) : List AV × Heap := encRUri1 a.1 a.2.1 a.2.2

theorem encRUri_inj (a a' : (List ByteArray) × Nat × Bool) (h : encRUri a = encRUri a') : a = a' := by
  simp only [encRUri, encRUri1] at h
  try simp [strs_inj, ints_inj, ents_inj, eEnt_iff, eLst_iff, eSnds_inj, eStrms_inj] at h
  grind

theorem unRUri (ls : List ByteArray) (a : Nat) (op : Bool) : unenc encRUri (([.ptr 900 0 0], [(901, Blk.mk false 9 1 (List.map eStr ls)), (900, Blk.mk true 0 0 [[.own 901, (vI (↑a : Int)), (vB op)]])])) = some (ls, a, op) := unenc_of encRUri_inj (ls, a, op) rfl

def resRUri1 (ls : List ByteArray) (a : Nat) (op : Bool) : AV × Heap × List Nat := (.tup [vS (bif F.ruri ls op a then F.lAt ls a else ⟨⟨[]⟩⟩), vB (F.ruri ls op a)], [(901, ⟨false, 9, 1, ls.map eStr⟩), (900, ⟨true, 0, 0, [[.own 901, vI (a + F.one (F.ruri ls op a) : Nat), vB op]]⟩)], [])

def preRUri1 (ls : List ByteArray) (a : Nat) (op : Bool) : Bool := decide (a ≤ 600000) && decide (ls.length ≤ 600000)

noncomputable def oRUri : OrcH := orcH 18 encRUri (fun a => preRUri1 a.1 a.2.1 a.2.2) fun a => resRUri1 a.1 a.2.1 a.2.2

theorem okRUri : OrcHOK Tryz.prog noG oRUri := by
  refine mkH_ok (mv := []) Tryz.f18 (by kernel_rfl) (by kernel_rfl) enRExa_ok mixed (no_loops (by kernel_rfl)) ?_
  rintro ⟨ls, a, op⟩ hpre hok hokh
  show (runH enRExa [] _ (encRUri1 _ _ _).1 (encRUri1 _ _ _).2).val = some (resRUri1 _ _ _)
  unfold encRUri1 resRUri1
  rw [evRUri]
  simp only [preRUri1, Bool.and_eq_true, decide_eq_true_eq] at hpre
  have hw : IntKind.i64.wrap ((a : Int) + 1) = ((a + 1 : Nat) : Int) := by rw [wrap_id (by omega) (by omega)]; rfl
  have hi : idx (a : Int) = some a := rfl
  have hw2 : IntKind.i64.wrap (((a + 1 : Nat) : Int) - 1) = (a : Int) := by rw [wrap_id (by omega) (by omega)]; omega
  simp only [unRMor, preRMor1, etaEnt, etaLst, etaSnd, etaStrm, etaMas, Option.bind_some, List.length_map, unStrs, unInts, unBools, unEnts, unItms, unTrns, cond_true, cond_false, Bool.and_true, Bool.true_and, decide_eq_true hpre.1, decide_eq_true hpre.2, hw, hi, hw2, F.empty_eq]
  have q : ls.getD a (⟨⟨[]⟩⟩ : ByteArray) = F.lAt ls a := rfl
  rw [q]
  unfold F.ruri F.one F.uriL
  generalize F.lAt ls a = u
  have h0 := F.bs_len u
  by_cases hm : F.mor ls op a = true
  · have hlt : a < ls.length := by unfold F.mor at hm; simp only [Bool.and_eq_true, decide_eq_true_eq] at hm; exact hm.1
    rw [hm, decide_eq_true hlt]
    by_cases hz : u.size = 0
    · rw [decide_eq_false (by omega : ¬ u.size ≠ 0)]
      rfl
    · rw [decide_eq_true hz]
      have hb : (F.bs u)[0]? = some ((F.bs u)[0]'(by omega)) := List.getElem?_eq_getElem (by omega)
      generalize (F.bs u)[0]'(by omega) = b at hb
      have hb0 : F.b0 u = (b.toNat : Int) := by unfold F.b0; rw [hb]
      have hs0 : u[0]? = some b := by rw [F.bs_get]; exact hb
      have e3 : ((b.toNat : Int) == 35) = decide ((b.toNat : Int) = 35) := by by_cases h : (b.toNat : Int) = 35 <;> simp [h]
      rw [hs0, hb0]
      simp only [Option.bind_some, e3]
      cases decide ((b.toNat : Int) = 35) <;> rfl
  · have hm : F.mor ls op a = false := by cases h : F.mor ls op a <;> simp_all
    rw [hm]
    rfl

def stDvd (s : ByteArray) : St := ⟨[(3, .ptr 8 0 0), (0, vS s)], [(8, ⟨true, 0, 0, [[.e0, vI 0, vB false]]⟩)]⟩

def stDvd1 (a : ByteArray) : St := stDvd a

theorem stDvd_inj (a a' : ByteArray) (h : stDvd1 a = stDvd1 a') : a = a' := by
  simp only [stDvd1, stDvd] at h
  try simp [strs_inj, ints_inj, ents_inj, eEnt_iff, eLst_iff, eSnds_inj, eStrms_inj] at h
  grind

theorem unstDvd (s : ByteArray) : unenc stDvd1 (St.mk [(3, .ptr 8 0 0), (0, (vS s))] [(8, Blk.mk true 0 0 [[AV.e0, (vI (0 : Int)), (vB false)]])]) = some (s) := unenc_of stDvd_inj (s) rfl

def outDvd (s : ByteArray) : T (Ex × St) := .ret (.exit 0, ⟨[(3, .ptr 8 0 0)], [(890, ⟨false, 9, 1, (F.lnL s).map eStr⟩), (8, ⟨true, 0, 0, [[.own 890, vI 0, vB (F.opA false s)]]⟩)]⟩)

noncomputable def prlDvd (s : ByteArray) : Bool := decide (s.size ≤ 500000)

noncomputable def lpDvd : Nat × (St → T (Ex × St)) := (2, lpo [3, 0] [8] stDvd1 (fun a => prlDvd a) fun a => outDvd a)

noncomputable def enDvd : Env := envH ty noG lks [oCut] [] [] [lpDvd]

theorem enDvd_ok : EnvOK Tryz.prog enDvd := by
  refine envH_ok lks_ok ty_ok ?_ ?_
  · simp only [List.forall_mem_cons]
    exact ⟨okCut, by simp⟩
  · simp

def stDo (s : ByteArray) (ls : List ByteArray) (op : Bool) : St := ⟨[(3, .ptr 8 0 0), (0, vS s)], [(890, ⟨false, 9, 1, ls.map eStr⟩), (8, ⟨true, 0, 0, [[.own 890, vI 0, vB op]]⟩)]⟩

theorem evDo (s : ByteArray) (ls : List ByteArray) (op : Bool) : ((exec enDvd (loopN Tryz.f12 0) (stDo s ls op)).bind (lessX ([3, 0], [890, 8]) ([3], [890, 8]) ([], []))).val =
  bif !ByteArray.toList s == ByteArray.toList (ByteArray.mk (Array.mk [])) then Option.bind (unenc encCut [(vS s), (vS (ByteArray.mk (Array.mk [(10 : UInt8)])))]) fun (z :
  ByteArray × ByteArray) => bif decide (ByteArray.size z.fst ≤ (4294967280 : Nat)) then bif Nat.ble ((List.length (List.map eStr ls) + (1 : Nat)) * (16 : Nat))
  (140737488355328 : Nat) && true then some (Ex.normal, St.mk [(3, .ptr 8 0 0), (0, (vS (F.cutT z.fst z.snd)))] [(890, Blk.mk false 9 1 (List.map eStr ls ++ [[(vS (F.cutH
  z.fst z.snd))]])), (8, Blk.mk true 0 0 [[.own 890, (vI (0 : Int)), (vB !F.cutF z.fst z.snd)]])]) else none else none else some (Ex.exit (0 : Nat), St.mk [(3, .ptr 8 0 0)]
  [(890, Blk.mk false 9 1 (List.map eStr ls)), (8, Blk.mk true 0 0 [[.own 890, (vI (0 : Int)), (vB op)]])]) := (execR_bind _ _ _).symm.trans (by kernel_rfl)

def outDo (s : ByteArray) (ls : List ByteArray) (op : Bool) : T (Ex × St) := .ret (.exit 0, ⟨[(3, .ptr 8 0 0)], [(890, ⟨false, 9, 1, (ls ++ F.lnL s).map eStr⟩), (8, ⟨true, 0, 0, [[.own 890, vI 0, vB (F.opA op s)]]⟩)]⟩)

theorem lpDvd_ok (s : ByteArray) (hp : prlDvd s = true) : ∀ ex s', (outDvd s).val = some (ex, s') → LoopOK enDvd (loopN Tryz.f12 0) (stDvd s) ex s' := by
  simp only [prlDvd, decide_eq_true_eq] at hp
  have main := loop_gen (E := enDvd) (x := loopN Tryz.f12 0) (st := fun p : ByteArray × List ByteArray × Bool => stDo p.1 p.2.1 p.2.2) (out := fun p => outDo p.1 p.2.1 p.2.2) (I := fun p => p.1.size + p.2.1.length ≤ 500000) (n := ([3, 0], [890, 8])) (e := ([3], [890, 8])) (r := ([], [])) (fun p => p.1.size) (by
    rintro ⟨s, ls, op⟩ h1
    simp only at h1
    by_cases hz : s.size = 0
    · left
      refine ⟨(.exit 0, ⟨[(3, .ptr 8 0 0)], [(890, ⟨false, 9, 1, ls.map eStr⟩), (8, ⟨true, 0, 0, [[.own 890, vI 0, vB op]]⟩)]⟩), ?_, ?_, by simp, rfl⟩
      · show ((exec enDvd (loopN Tryz.f12 0) (stDo s ls op)).bind _).val = _
        rw [evDo]
        simp only [unCut, preCut1, unstDvd, prlDvd, outDvd, etaEnt, etaLst, etaSnd, etaStrm, etaMas, Option.bind_some, List.length_map, unStrs, unInts, unBools, unEnts, unItms, unTrns, cond_true, cond_false, Bool.and_true, Bool.true_and, F.empty_eq, decide_eq_false (by omega : ¬ s.size ≠ 0)]
        rfl
      · simp only [outDo, F.lnL_nil hz, F.opA_nil hz, List.append_nil]
        rfl
    · right
      have z1 := F.cutT_lt (p := F.nl) (by decide) hz
      have hb : Nat.ble ((ls.length + 1) * 16) 140737488355328 = true := ble_t (by omega)
      refine ⟨(F.cutT s F.nl, ls ++ [F.cutH s F.nl], !F.cutF s F.nl), ?_, rfl, by simp only [List.length_append, List.length_singleton]; omega, z1, ?_⟩
      · show ((exec enDvd (loopN Tryz.f12 0) (stDo s ls op)).bind _).val = _
        rw [evDo]
        simp only [unCut, preCut1, unstDvd, prlDvd, outDvd, etaEnt, etaLst, etaSnd, etaStrm, etaMas, Option.bind_some, List.length_map, unStrs, unInts, unBools, unEnts, unItms, unTrns, cond_true, cond_false, Bool.and_true, Bool.true_and, F.empty_eq, decide_eq_true hz, nl_eq, decide_eq_true (by omega : s.size ≤ 4294967280), hb, stDo]
        rw [List.map_append]
        rfl
      · simp only [outDo, F.lnL_cons hz, F.opA_cons hz, List.append_assoc, List.singleton_append])
  intro ex s' h
  refine .own 8 0 890 9 1 rfl ?_
  exact main (s, [], false) (by simp only [List.length_nil]; omega) ex s' h

theorem evDvd (s : ByteArray) : (runH enDvd [] Tryz.f12 [vS s] []).val =
  Option.bind (unenc stDvd1 (St.mk [(3, .ptr 8 0 0), (0, (vS s))] [(8, Blk.mk true 0 0 [[AV.e0, (vI (0 : Int)), (vB false)]])])) fun (z : ByteArray) => bif decide
  (ByteArray.size z ≤ (500000 : Nat)) && true then some (.ptr 0 0 0, [(0, Blk.mk true 0 0 [[.own 1, (vI (0 : Int)), (vB (F.opA false z))]]), (1, Blk.mk false 9 1 (List.map
  eStr (F.lnL z)))], []) else none := (runHR_val).symm.trans (by kernel_rfl)

def encDvd1 (s : ByteArray) : List AV × Heap := ([vS s], [])

def encDvd (a : ByteArray) : List AV × Heap := encDvd1 a

theorem encDvd_inj (a a' : ByteArray) (h : encDvd a = encDvd a') : a = a' := by
  simp only [encDvd, encDvd1] at h
  try simp [strs_inj, ints_inj, ents_inj, eEnt_iff, eLst_iff, eSnds_inj, eStrms_inj] at h
  grind

theorem unDvd (s : ByteArray) : unenc encDvd (([(vS s)], [])) = some (s) := unenc_of encDvd_inj (s) rfl

def resDvd1 (s : ByteArray) : AV × Heap × List Nat := (.ptr 0 0 0, [(0, ⟨true, 0, 0, [[.own 1, vI 0, vB (F.opA false s)]]⟩), (1, ⟨false, 9, 1, (F.lnL s).map eStr⟩)], [])

def preDvd1 (s : ByteArray) : Bool := decide (s.size ≤ 500000)

noncomputable def oDvd : OrcH := orcH 12 encDvd (fun a => preDvd1 a) fun a => resDvd1 a

theorem okDvd : OrcHOK Tryz.prog noG oDvd := by
  refine mkH_ok (mv := []) Tryz.f12 (by kernel_rfl) (by kernel_rfl) enDvd_ok mixed (one_loop (x0 := loopN Tryz.f12 0) (by kernel_rfl) (lpo_ok ?_)) ?_
  · intro s hp
    exact lpDvd_ok s hp
  rintro s hpre hok hokh
  show (runH enDvd [] _ (encDvd1 _).1 (encDvd1 _).2).val = some (resDvd1 _)
  unfold encDvd1 resDvd1
  rw [evDvd]
  simp only [preDvd1, decide_eq_true_eq] at hpre
  simp only [unCut, preCut1, unstDvd, prlDvd, outDvd, etaEnt, etaLst, etaSnd, etaStrm, etaMas, Option.bind_some, List.length_map, unStrs, unInts, unBools, unEnts, unItms, unTrns, cond_true, cond_false, Bool.and_true, Bool.true_and, decide_eq_true hpre]

end M
end Go.Proofs.YtipngpndgniagaaGreatDoor
