/- What is proved here: how the reference takes the headings of a list's text (no statement of the seat). -/
import Derived.Test.YtllagmepnmdeoaaDoorE88
namespace Go.Proofs.YtllagmepnmdeoaaDoor
open Go Go.RowKit
set_option linter.unusedVariables false
set_option linter.unusedSimpArgs false
set_option maxHeartbeats 1000000

def F.vTg : ByteArray := ⟨⟨[35, 84, 65, 82, 71, 69, 84, 32]⟩⟩

def F.vFi : ByteArray := ⟨⟨[35, 70, 73, 82, 83, 84, 32]⟩⟩

def F.vBr : ByteArray := ⟨⟨[35, 66, 82, 69, 65, 75, 83, 32]⟩⟩

def F.vSk : ByteArray := ⟨⟨[35, 83, 75, 73, 80, 32]⟩⟩

def F.hdW4 : List ByteArray := [F.vTg, F.vFi, F.vBr, F.vSk]

/-- The headings as the reference takes them: whether all is well, the place. -/
def F.hdR (ls : List ByteArray) (op : Bool) (a : Nat) (sk : Bool) : Bool × Nat :=
  bif !F.cnt ls op a F.vTg 16 then (false, a) else bif !F.cnt ls op (a + 1) F.vFi 16 then (false, a + 1) else bif !F.cnt ls op (a + 2) F.vBr 16 then (false, a + 2) else
  bif sk then (bif F.cnt ls op (a + 3) F.vSk 16 then (true, a + 4) else (false, a + 3)) else (true, a + 3)

def F.hdN (ls : List ByteArray) (op : Bool) (a : Nat) (sk : Bool) : List Int :=
  [F.cnV ls op a F.vTg 16, F.cnV ls op (a + 1) F.vFi 16, F.cnV ls op (a + 2) F.vBr 16, bif sk then F.cnV ls op (a + 3) F.vSk 16 else 0]

def F.hR (ls : List ByteArray) (op : Bool) (a : Nat) (sk : Bool) : Bool × Nat := bif F.exa ls op a F.kLst then F.hdR ls op (a + 1) sk else (false, a)

def F.hV (ls : List ByteArray) (op : Bool) (a : Nat) (sk : Bool) (i : Nat) : Int := bif (F.hR ls op a sk).1 then (F.hdN ls op (a + 1) sk).getD i 0 else 0

theorem F.cnt_lt {ls : List ByteArray} {op : Bool} {a : Nat} {w : ByteArray} {m : Int} (h : F.cnt ls op a w m = true) : a < ls.length := by
  unfold F.cnt at h
  rw [Bool.and_eq_true] at h
  exact (F.beh_lt h.1).1

namespace M


def stRh (ls : List ByteArray) (a : Nat) (op : Bool) (sk : Bool) : St := ⟨[(10, vI 0), (9, .own 9), (8, .own 18), (7, .ptr 7 0 0), (4, .ptr 4 0 0), (1, vB sk), (0, .ptr 900 0 0)], [(901, ⟨false, 9, 1, ls.map eStr⟩), (900, ⟨true, 0, 0, [[.own 901, vI a, vB op]]⟩), (18, ⟨false, 9, 1, F.hdW4.map eStr⟩), (9, ⟨false, 3, 1, []⟩), (7, ⟨true, 0, 0, [[vI 0, vI 0, vI 0, .e0, vB false]]⟩), (4, ⟨true, 0, 0, [[vI 0, vI 0, vI 0, .e0, vB false]]⟩)]⟩

def stRh1 (a : (List ByteArray) × Nat × Bool × Bool) : St := stRh a.1 a.2.1 a.2.2.1 a.2.2.2

theorem stRh_inj (a a' : (List ByteArray) × Nat × Bool × Bool) (h : stRh1 a = stRh1 a') : a = a' := by
  simp only [stRh1, stRh] at h
  try simp [strs_inj, ints_inj, ents_inj, eEnt_iff, eLst_iff, eSnds_inj, eStrms_inj] at h
  grind

theorem unstRh (ls : List ByteArray) (a : Nat) (op : Bool) (sk : Bool) : unenc stRh1 (St.mk [(10, (vI (0 : Int))), (9, .own 9), (8, .own 18), (7, .ptr 7 0 0), (4, .ptr 4 0 0), (1, (vB sk)), (0, .ptr 900 0 0)] [(901, Blk.mk false 9 1 (List.map eStr ls)),
  (900, Blk.mk true 0 0 [[.own 901, (vI (↑a : Int)), (vB op)]]), (18, Blk.mk false 9 1 [[(vS F.vTg)], [(vS F.vFi)], [(vS F.vBr)], [(vS F.vSk)]]), (9, Blk.mk false 3 1 []),
  (7, Blk.mk true 0 0 [[(vI (0 : Int)), (vI (0 : Int)), (vI (0 : Int)), AV.e0, (vB false)]]), (4, Blk.mk true 0 0 [[(vI (0 : Int)), (vI (0 : Int)), (vI (0 : Int)), AV.e0,
  (vB false)]])]) = some (ls, a, op, sk) := unenc_of stRh_inj (ls, a, op, sk) rfl

def outRh (ls : List ByteArray) (a : Nat) (op : Bool) (sk : Bool) : T (Ex × St) := .ifB (F.hdR ls op a sk).1
      (.ret (.exit 0, ⟨[(9, .own 9), (7, .ptr 7 0 0), (4, .ptr 4 0 0)], [(901, ⟨false, 9, 1, ls.map eStr⟩), (900, ⟨true, 0, 0, [[.own 901, vI ((F.hdR ls op a sk).2 : Nat), vB op]]⟩), (9, ⟨false, 3, 1, (F.hdN ls op a sk).map eI⟩), (7, ⟨true, 0, 0, [[vI 0, vI 0, vI 0, .e0, vB false]]⟩), (4, ⟨true, 0, 0, [[vI 0, vI 0, vI 0, .e0, vB false]]⟩)]⟩))
      (.ret (.ret, ⟨[(6, vB false), (5, vI 0), (4, .ptr 4 0 0)], [(901, ⟨false, 9, 1, ls.map eStr⟩), (900, ⟨true, 0, 0, [[.own 901, vI ((F.hdR ls op a sk).2 : Nat), vB op]]⟩), (4, ⟨true, 0, 0, [[vI 0, vI 0, vI 0, .e0, vB false]]⟩)]⟩))

noncomputable def prlRh (ls : List ByteArray) (a : Nat) (op : Bool) (sk : Bool) : Bool := decide (a ≤ ls.length) && F.lsOk ls

noncomputable def lpRh : Nat × (St → T (Ex × St)) := (7, lpo [10, 9, 8, 7, 4, 1, 0] [901, 900, 18, 9, 7, 4] stRh1 (fun a => prlRh a.1 a.2.1 a.2.2.1 a.2.2.2) fun a => outRh a.1 a.2.1 a.2.2.1 a.2.2.2)

noncomputable def enRh : Env := envH ty noG lks [] [oRExa, oCou] [] [lpRh]

theorem enRh_ok : EnvOK Tryd.prog enRh := by
  refine envH_ok lks_ok ty_ok ?_ ?_
  · simp
  · simp only [List.forall_mem_cons]
    exact ⟨okRExa, okCou, by simp⟩

def stRx (ls : List ByteArray) (a : Nat) (op : Bool) (sk : Bool) (k : Int) (ns : List Int) : St := ⟨[(10, vI k), (9, .own 9), (8, .own 18), (7, .ptr 7 0 0), (4, .ptr 4 0 0), (1, vB sk), (0, .ptr 900 0 0)], [(901, ⟨false, 9, 1, ls.map eStr⟩), (900, ⟨true, 0, 0, [[.own 901, vI a, vB op]]⟩), (18, ⟨false, 9, 1, F.hdW4.map eStr⟩), (9, ⟨false, 3, 1, ns.map eI⟩), (7, ⟨true, 0, 0, [[vI 0, vI 0, vI 0, .e0, vB false]]⟩), (4, ⟨true, 0, 0, [[vI 0, vI 0, vI 0, .e0, vB false]]⟩)]⟩

theorem evRx0 (ls : List ByteArray) (a : Nat) (op : Bool) (sk : Bool) (ns : List Int) : ((exec enRh (loopN Tryd.f25 0) (stRx ls a op sk 0 ns)).bind (lessX ([10, 9, 8, 7, 4, 1, 0], [901, 900, 18, 9, 7, 4]) ([9, 7, 4], [901, 900, 9, 7, 4]) ([6, 5, 4], [901, 900, 4]))).val =
  Option.bind (unenc (List.map eStr) [[(vS F.vTg)], [(vS F.vFi)], [(vS F.vBr)], [(vS F.vSk)]]) fun (z : List ByteArray) => bif decide ((0 : Nat) < List.length z) then
  Option.bind (unenc encCou ([.ptr 900 0 0, (vS (List.getD z (0 : Nat) (ByteArray.mk (Array.mk [])))), (vI (16 : Int))], [(901, Blk.mk false 9 1 (List.map eStr ls)), (900,
  Blk.mk true 0 0 [[.own 901, (vI (↑a : Int)), (vB op)]])])) fun (z : List ByteArray × Nat × Bool × ByteArray × Int) => bif decide (z.snd.fst ≤ (600000 : Nat)) && F.lsOk
  z.fst && decide (z.snd.snd.snd.snd ≤ (18 : Int)) then bif !F.cnt z.fst z.snd.snd.fst z.snd.fst z.snd.snd.snd.fst z.snd.snd.snd.snd then some (Ex.ret, St.mk [(6, (vB
  false)), (5, (vI (0 : Int))), (4, .ptr 4 0 0)] [(901, Blk.mk false 9 1 (List.map eStr z.fst)), (900, Blk.mk true 0 0 [[.own 901, (vI (↑(z.snd.fst + F.one (F.cnt z.fst
  z.snd.snd.fst z.snd.fst z.snd.snd.snd.fst z.snd.snd.snd.snd)) : Int)), (vB z.snd.snd.fst)]]), (4, Blk.mk true 0 0 [[(vI (0 : Int)), (vI (0 : Int)), (vI (0 : Int)), AV.e0,
  (vB false)]])]) else bif Nat.ble ((List.length (List.map eI ns) + (1 : Nat)) * (8 : Nat)) (140737488355328 : Nat) && true then some (Ex.normal, St.mk [(10, (vI
  (IntKind.wrap IntKind.i64 ((0 : Int) + (1 : Int))))), (9, .own 9), (8, .own 18), (7, .ptr 7 0 0), (4, .ptr 4 0 0), (1, (vB sk)), (0, .ptr 900 0 0)] [(901, Blk.mk false 9 1
  (List.map eStr z.fst)), (900, Blk.mk true 0 0 [[.own 901, (vI (↑(z.snd.fst + F.one (F.cnt z.fst z.snd.snd.fst z.snd.fst z.snd.snd.snd.fst z.snd.snd.snd.snd)) : Int)), (vB
  z.snd.snd.fst)]]), (18, Blk.mk false 9 1 [[(vS F.vTg)], [(vS F.vFi)], [(vS F.vBr)], [(vS F.vSk)]]), (9, Blk.mk false 3 1 (List.map eI ns ++ [[(vI (F.cnV z.fst
  z.snd.snd.fst z.snd.fst z.snd.snd.snd.fst z.snd.snd.snd.snd))]])), (7, Blk.mk true 0 0 [[(vI (0 : Int)), (vI (0 : Int)), (vI (0 : Int)), AV.e0, (vB false)]]), (4, Blk.mk
  true 0 0 [[(vI (0 : Int)), (vI (0 : Int)), (vI (0 : Int)), AV.e0, (vB false)]])]) else none else none else none := (execR_bind _ _ _).symm.trans (by kernel_rfl)

theorem evRx1 (ls : List ByteArray) (a : Nat) (op : Bool) (sk : Bool) (ns : List Int) : ((exec enRh (loopN Tryd.f25 0) (stRx ls a op sk 1 ns)).bind (lessX ([10, 9, 8, 7, 4, 1, 0], [901, 900, 18, 9, 7, 4]) ([9, 7, 4], [901, 900, 9, 7, 4]) ([6, 5, 4], [901, 900, 4]))).val =
  Option.bind (unenc (List.map eStr) [[(vS F.vTg)], [(vS F.vFi)], [(vS F.vBr)], [(vS F.vSk)]]) fun (z : List ByteArray) => bif decide ((1 : Nat) < List.length z) then
  Option.bind (unenc encCou ([.ptr 900 0 0, (vS (List.getD z (1 : Nat) (ByteArray.mk (Array.mk [])))), (vI (16 : Int))], [(901, Blk.mk false 9 1 (List.map eStr ls)), (900,
  Blk.mk true 0 0 [[.own 901, (vI (↑a : Int)), (vB op)]])])) fun (z : List ByteArray × Nat × Bool × ByteArray × Int) => bif decide (z.snd.fst ≤ (600000 : Nat)) && F.lsOk
  z.fst && decide (z.snd.snd.snd.snd ≤ (18 : Int)) then bif !F.cnt z.fst z.snd.snd.fst z.snd.fst z.snd.snd.snd.fst z.snd.snd.snd.snd then some (Ex.ret, St.mk [(6, (vB
  false)), (5, (vI (0 : Int))), (4, .ptr 4 0 0)] [(901, Blk.mk false 9 1 (List.map eStr z.fst)), (900, Blk.mk true 0 0 [[.own 901, (vI (↑(z.snd.fst + F.one (F.cnt z.fst
  z.snd.snd.fst z.snd.fst z.snd.snd.snd.fst z.snd.snd.snd.snd)) : Int)), (vB z.snd.snd.fst)]]), (4, Blk.mk true 0 0 [[(vI (0 : Int)), (vI (0 : Int)), (vI (0 : Int)), AV.e0,
  (vB false)]])]) else bif Nat.ble ((List.length (List.map eI ns) + (1 : Nat)) * (8 : Nat)) (140737488355328 : Nat) && true then some (Ex.normal, St.mk [(10, (vI
  (IntKind.wrap IntKind.i64 ((1 : Int) + (1 : Int))))), (9, .own 9), (8, .own 18), (7, .ptr 7 0 0), (4, .ptr 4 0 0), (1, (vB sk)), (0, .ptr 900 0 0)] [(901, Blk.mk false 9 1
  (List.map eStr z.fst)), (900, Blk.mk true 0 0 [[.own 901, (vI (↑(z.snd.fst + F.one (F.cnt z.fst z.snd.snd.fst z.snd.fst z.snd.snd.snd.fst z.snd.snd.snd.snd)) : Int)), (vB
  z.snd.snd.fst)]]), (18, Blk.mk false 9 1 [[(vS F.vTg)], [(vS F.vFi)], [(vS F.vBr)], [(vS F.vSk)]]), (9, Blk.mk false 3 1 (List.map eI ns ++ [[(vI (F.cnV z.fst
  z.snd.snd.fst z.snd.fst z.snd.snd.snd.fst z.snd.snd.snd.snd))]])), (7, Blk.mk true 0 0 [[(vI (0 : Int)), (vI (0 : Int)), (vI (0 : Int)), AV.e0, (vB false)]]), (4, Blk.mk
  true 0 0 [[(vI (0 : Int)), (vI (0 : Int)), (vI (0 : Int)), AV.e0, (vB false)]])]) else none else none else none := (execR_bind _ _ _).symm.trans (by kernel_rfl)

theorem evRx2 (ls : List ByteArray) (a : Nat) (op : Bool) (sk : Bool) (ns : List Int) : ((exec enRh (loopN Tryd.f25 0) (stRx ls a op sk 2 ns)).bind (lessX ([10, 9, 8, 7, 4, 1, 0], [901, 900, 18, 9, 7, 4]) ([9, 7, 4], [901, 900, 9, 7, 4]) ([6, 5, 4], [901, 900, 4]))).val =
  Option.bind (unenc (List.map eStr) [[(vS F.vTg)], [(vS F.vFi)], [(vS F.vBr)], [(vS F.vSk)]]) fun (z : List ByteArray) => bif decide ((2 : Nat) < List.length z) then
  Option.bind (unenc encCou ([.ptr 900 0 0, (vS (List.getD z (2 : Nat) (ByteArray.mk (Array.mk [])))), (vI (16 : Int))], [(901, Blk.mk false 9 1 (List.map eStr ls)), (900,
  Blk.mk true 0 0 [[.own 901, (vI (↑a : Int)), (vB op)]])])) fun (z : List ByteArray × Nat × Bool × ByteArray × Int) => bif decide (z.snd.fst ≤ (600000 : Nat)) && F.lsOk
  z.fst && decide (z.snd.snd.snd.snd ≤ (18 : Int)) then bif !F.cnt z.fst z.snd.snd.fst z.snd.fst z.snd.snd.snd.fst z.snd.snd.snd.snd then some (Ex.ret, St.mk [(6, (vB
  false)), (5, (vI (0 : Int))), (4, .ptr 4 0 0)] [(901, Blk.mk false 9 1 (List.map eStr z.fst)), (900, Blk.mk true 0 0 [[.own 901, (vI (↑(z.snd.fst + F.one (F.cnt z.fst
  z.snd.snd.fst z.snd.fst z.snd.snd.snd.fst z.snd.snd.snd.snd)) : Int)), (vB z.snd.snd.fst)]]), (4, Blk.mk true 0 0 [[(vI (0 : Int)), (vI (0 : Int)), (vI (0 : Int)), AV.e0,
  (vB false)]])]) else bif Nat.ble ((List.length (List.map eI ns) + (1 : Nat)) * (8 : Nat)) (140737488355328 : Nat) && true then some (Ex.normal, St.mk [(10, (vI
  (IntKind.wrap IntKind.i64 ((2 : Int) + (1 : Int))))), (9, .own 9), (8, .own 18), (7, .ptr 7 0 0), (4, .ptr 4 0 0), (1, (vB sk)), (0, .ptr 900 0 0)] [(901, Blk.mk false 9 1
  (List.map eStr z.fst)), (900, Blk.mk true 0 0 [[.own 901, (vI (↑(z.snd.fst + F.one (F.cnt z.fst z.snd.snd.fst z.snd.fst z.snd.snd.snd.fst z.snd.snd.snd.snd)) : Int)), (vB
  z.snd.snd.fst)]]), (18, Blk.mk false 9 1 [[(vS F.vTg)], [(vS F.vFi)], [(vS F.vBr)], [(vS F.vSk)]]), (9, Blk.mk false 3 1 (List.map eI ns ++ [[(vI (F.cnV z.fst
  z.snd.snd.fst z.snd.fst z.snd.snd.snd.fst z.snd.snd.snd.snd))]])), (7, Blk.mk true 0 0 [[(vI (0 : Int)), (vI (0 : Int)), (vI (0 : Int)), AV.e0, (vB false)]]), (4, Blk.mk
  true 0 0 [[(vI (0 : Int)), (vI (0 : Int)), (vI (0 : Int)), AV.e0, (vB false)]])]) else none else none else none := (execR_bind _ _ _).symm.trans (by kernel_rfl)

theorem evRx3 (ls : List ByteArray) (a : Nat) (op : Bool) (sk : Bool) (ns : List Int) : ((exec enRh (loopN Tryd.f25 0) (stRx ls a op sk 3 ns)).bind (lessX ([10, 9, 8, 7, 4, 1, 0], [901, 900, 18, 9, 7, 4]) ([9, 7, 4], [901, 900, 9, 7, 4]) ([6, 5, 4], [901, 900, 4]))).val =
  bif !sk then bif Nat.ble ((List.length (List.map eI ns) + (1 : Nat)) * (8 : Nat)) (140737488355328 : Nat) && true then some (Ex.normal, St.mk [(10, (vI (IntKind.wrap
  IntKind.i64 ((3 : Int) + (1 : Int))))), (9, .own 9), (8, .own 18), (7, .ptr 7 0 0), (4, .ptr 4 0 0), (1, (vB sk)), (0, .ptr 900 0 0)] [(901, Blk.mk false 9 1 (List.map
  eStr ls)), (900, Blk.mk true 0 0 [[.own 901, (vI (↑a : Int)), (vB op)]]), (18, Blk.mk false 9 1 [[(vS F.vTg)], [(vS F.vFi)], [(vS F.vBr)], [(vS F.vSk)]]), (9, Blk.mk false
  3 1 (List.map eI ns ++ [[(vI (0 : Int))]])), (7, Blk.mk true 0 0 [[(vI (0 : Int)), (vI (0 : Int)), (vI (0 : Int)), AV.e0, (vB false)]]), (4, Blk.mk true 0 0 [[(vI (0 :
  Int)), (vI (0 : Int)), (vI (0 : Int)), AV.e0, (vB false)]])]) else none else Option.bind (unenc (List.map eStr) [[(vS F.vTg)], [(vS F.vFi)], [(vS F.vBr)], [(vS F.vSk)]])
  fun (z : List ByteArray) => bif decide ((3 : Nat) < List.length z) then Option.bind (unenc encCou ([.ptr 900 0 0, (vS (List.getD z (3 : Nat) (ByteArray.mk (Array.mk
  [])))), (vI (16 : Int))], [(901, Blk.mk false 9 1 (List.map eStr ls)), (900, Blk.mk true 0 0 [[.own 901, (vI (↑a : Int)), (vB op)]])])) fun (z : List ByteArray × Nat ×
  Bool × ByteArray × Int) => bif decide (z.snd.fst ≤ (600000 : Nat)) && F.lsOk z.fst && decide (z.snd.snd.snd.snd ≤ (18 : Int)) then bif !F.cnt z.fst z.snd.snd.fst z.snd.fst
  z.snd.snd.snd.fst z.snd.snd.snd.snd then some (Ex.ret, St.mk [(6, (vB false)), (5, (vI (0 : Int))), (4, .ptr 4 0 0)] [(901, Blk.mk false 9 1 (List.map eStr z.fst)), (900,
  Blk.mk true 0 0 [[.own 901, (vI (↑(z.snd.fst + F.one (F.cnt z.fst z.snd.snd.fst z.snd.fst z.snd.snd.snd.fst z.snd.snd.snd.snd)) : Int)), (vB z.snd.snd.fst)]]), (4, Blk.mk
  true 0 0 [[(vI (0 : Int)), (vI (0 : Int)), (vI (0 : Int)), AV.e0, (vB false)]])]) else bif Nat.ble ((List.length (List.map eI ns) + (1 : Nat)) * (8 : Nat))
  (140737488355328 : Nat) && true then some (Ex.normal, St.mk [(10, (vI (IntKind.wrap IntKind.i64 ((3 : Int) + (1 : Int))))), (9, .own 9), (8, .own 18), (7, .ptr 7 0 0), (4,
  .ptr 4 0 0), (1, (vB sk)), (0, .ptr 900 0 0)] [(901, Blk.mk false 9 1 (List.map eStr z.fst)), (900, Blk.mk true 0 0 [[.own 901, (vI (↑(z.snd.fst + F.one (F.cnt z.fst
  z.snd.snd.fst z.snd.fst z.snd.snd.snd.fst z.snd.snd.snd.snd)) : Int)), (vB z.snd.snd.fst)]]), (18, Blk.mk false 9 1 [[(vS F.vTg)], [(vS F.vFi)], [(vS F.vBr)], [(vS
  F.vSk)]]), (9, Blk.mk false 3 1 (List.map eI ns ++ [[(vI (F.cnV z.fst z.snd.snd.fst z.snd.fst z.snd.snd.snd.fst z.snd.snd.snd.snd))]])), (7, Blk.mk true 0 0 [[(vI (0 :
  Int)), (vI (0 : Int)), (vI (0 : Int)), AV.e0, (vB false)]]), (4, Blk.mk true 0 0 [[(vI (0 : Int)), (vI (0 : Int)), (vI (0 : Int)), AV.e0, (vB false)]])]) else none else
  none else none := (execR_bind _ _ _).symm.trans (by kernel_rfl)

theorem evRx4 (ls : List ByteArray) (a : Nat) (op : Bool) (sk : Bool) (ns : List Int) : ((exec enRh (loopN Tryd.f25 0) (stRx ls a op sk 4 ns)).bind (lessX ([10, 9, 8, 7, 4, 1, 0], [901, 900, 18, 9, 7, 4]) ([9, 7, 4], [901, 900, 9, 7, 4]) ([6, 5, 4], [901, 900, 4]))).val =
  some (Ex.exit (0 : Nat), St.mk [(9, .own 9), (7, .ptr 7 0 0), (4, .ptr 4 0 0)] [(901, Blk.mk false 9 1 (List.map eStr ls)), (900, Blk.mk true 0 0 [[.own 901, (vI (↑a :
  Int)), (vB op)]]), (9, Blk.mk false 3 1 (List.map eI ns)), (7, Blk.mk true 0 0 [[(vI (0 : Int)), (vI (0 : Int)), (vI (0 : Int)), AV.e0, (vB false)]]), (4, Blk.mk true 0 0
  [[(vI (0 : Int)), (vI (0 : Int)), (vI (0 : Int)), AV.e0, (vB false)]])]) := (execR_bind _ _ _).symm.trans (by kernel_rfl)

def stRk (ls : List ByteArray) (a : Nat) (op : Bool) (sk : Bool) : Nat → St
  | 0 => stRx ls a op sk 0 []
  | 1 => stRx ls (a + 1) op sk 1 [F.cnV ls op a F.vTg 16]
  | 2 => stRx ls (a + 2) op sk 2 [F.cnV ls op a F.vTg 16, F.cnV ls op (a + 1) F.vFi 16]
  | 3 => stRx ls (a + 3) op sk 3 [F.cnV ls op a F.vTg 16, F.cnV ls op (a + 1) F.vFi 16, F.cnV ls op (a + 2) F.vBr 16]
  | _ => stRx ls (bif sk then a + 4 else a + 3) op sk 4 (F.hdN ls op a sk)

def exRh (ls : List ByteArray) (a : Nat) (op : Bool) (ns : List Int) : Ex × St := (.exit 0, ⟨[(9, .own 9), (7, .ptr 7 0 0), (4, .ptr 4 0 0)], [(901, ⟨false, 9, 1, ls.map eStr⟩), (900, ⟨true, 0, 0, [[.own 901, vI a, vB op]]⟩), (9, ⟨false, 3, 1, ns.map eI⟩), (7, ⟨true, 0, 0, [[vI 0, vI 0, vI 0, .e0, vB false]]⟩), (4, ⟨true, 0, 0, [[vI 0, vI 0, vI 0, .e0, vB false]]⟩)]⟩)

def rtRh (ls : List ByteArray) (a : Nat) (op : Bool) : Ex × St := (.ret, ⟨[(6, vB false), (5, vI 0), (4, .ptr 4 0 0)], [(901, ⟨false, 9, 1, ls.map eStr⟩), (900, ⟨true, 0, 0, [[.own 901, vI a, vB op]]⟩), (4, ⟨true, 0, 0, [[vI 0, vI 0, vI 0, .e0, vB false]]⟩)]⟩)

def outRk3 (ls : List ByteArray) (a : Nat) (op : Bool) (sk : Bool) : T (Ex × St) := .ifB sk (.ifB (F.cnt ls op (a + 3) F.vSk 16) (.ret (exRh ls (a + 4) op (F.hdN ls op a sk))) (.ret (rtRh ls (a + 3) op))) (.ret (exRh ls (a + 3) op (F.hdN ls op a sk)))

def outRk (ls : List ByteArray) (a : Nat) (op : Bool) (sk : Bool) : Nat → T (Ex × St)
  | 0 => .ifB (F.cnt ls op a F.vTg 16) (.ifB (F.cnt ls op (a + 1) F.vFi 16) (.ifB (F.cnt ls op (a + 2) F.vBr 16) (outRk3 ls a op sk) (.ret (rtRh ls (a + 2) op))) (.ret (rtRh ls (a + 1) op))) (.ret (rtRh ls a op))
  | 1 => .ifB (F.cnt ls op (a + 1) F.vFi 16) (.ifB (F.cnt ls op (a + 2) F.vBr 16) (outRk3 ls a op sk) (.ret (rtRh ls (a + 2) op))) (.ret (rtRh ls (a + 1) op))
  | 2 => .ifB (F.cnt ls op (a + 2) F.vBr 16) (outRk3 ls a op sk) (.ret (rtRh ls (a + 2) op))
  | 3 => outRk3 ls a op sk
  | _ => .ret (exRh ls (bif sk then a + 4 else a + 3) op (F.hdN ls op a sk))

theorem outRk_0 (ls : List ByteArray) (a : Nat) (op : Bool) (sk : Bool) : (outRh ls a op sk).val = (outRk ls a op sk 0).val := by
  unfold outRh outRk outRk3 F.hdR exRh rtRh
  cases F.cnt ls op a F.vTg 16
  · rfl
  cases F.cnt ls op (a + 1) F.vFi 16
  · rfl
  cases F.cnt ls op (a + 2) F.vBr 16
  · rfl
  cases sk
  · rfl
  cases F.cnt ls op (a + 3) F.vSk 16 <;> rfl

theorem lpRh_ok (ls : List ByteArray) (a : Nat) (op : Bool) (sk : Bool) (hp : prlRh ls a op sk = true) : ∀ ex s', (outRh ls a op sk).val = some (ex, s') → LoopOK enRh (loopN Tryd.f25 0) (stRh ls a op sk) ex s' := by
  simp only [prlRh, Bool.and_eq_true, decide_eq_true_eq] at hp
  obtain ⟨h1, h2⟩ := hp
  have hl := F.lsOk_len h2
  rw [outRk_0]
  have d16 : decide ((16 : Int) ≤ 18) = true := rfl
  have w0 : decide (0 < F.hdW4.length) = true := rfl
  have w1 : decide (1 < F.hdW4.length) = true := rfl
  have w2 : decide (2 < F.hdW4.length) = true := rfl
  have w3 : decide (3 < F.hdW4.length) = true := rfl
  have hun : unenc (List.map eStr) [[vS F.vTg], [vS F.vFi], [vS F.vBr], [vS F.vSk]] = some F.hdW4 := unStrs F.hdW4
  have g0 : F.hdW4.getD 0 (⟨⟨[]⟩⟩ : ByteArray) = F.vTg := rfl
  have g1 : F.hdW4.getD 1 (⟨⟨[]⟩⟩ : ByteArray) = F.vFi := rfl
  have g2 : F.hdW4.getD 2 (⟨⟨[]⟩⟩ : ByteArray) = F.vBr := rfl
  have g3 : F.hdW4.getD 3 (⟨⟨[]⟩⟩ : ByteArray) = F.vSk := rfl
  refine loop_gen (st := stRk ls a op sk) (out := outRk ls a op sk) (I := fun k => k ≤ 4 ∧ (1 ≤ k → F.cnt ls op a F.vTg 16 = true) ∧ (2 ≤ k → F.cnt ls op (a + 1) F.vFi 16 = true) ∧ (3 ≤ k → F.cnt ls op (a + 2) F.vBr 16 = true)) (n := ([10, 9, 8, 7, 4, 1, 0], [901, 900, 18, 9, 7, 4])) (e := ([9, 7, 4], [901, 900, 9, 7, 4])) (r := ([6, 5, 4], [901, 900, 4])) (fun k => 4 - k) ?_ 0 ⟨by decide, fun h => absurd h (by decide), fun h => absurd h (by decide), fun h => absurd h (by decide)⟩
  intro k hk
  match k, hk with
  | 0, hk =>
    obtain ⟨_, hk1, hk2, hk3⟩ := hk
    have ho : F.cnt ls op a F.vTg 16 = true → a < ls.length := F.cnt_lt
    cases hc : F.cnt ls op a F.vTg 16
    · left
      refine ⟨rtRh ls a op, ?_, ifB_f hc, by simp [rtRh], rfl⟩
      show ((exec enRh (loopN Tryd.f25 0) (stRx ls a op sk 0 [])).bind _).val = _
      rw [evRx0]
      simp only [unRExa, unCou, preRExa1, preCou1, unstRh, prlRh, outRh, etaEnt, etaLst, etaSnd, etaStrm, etaMas, Option.bind_some, List.length_map, unStrs, unInts, unBools, unEnts, unItms, unTrns, cond_true, cond_false, Bool.and_true, Bool.true_and, decide_eq_true (by omega : a ≤ 600000), h2, d16, hun, w0, g0, hc]
      rfl
    · right
      refine ⟨1, ?_, rfl, ⟨by decide, fun _ => rfl, fun h => absurd h (by decide), fun h => absurd h (by decide)⟩, by decide, (ifB_t hc).symm⟩
      show ((exec enRh (loopN Tryd.f25 0) (stRx ls a op sk 0 [])).bind _).val = _
      rw [evRx0]
      simp only [unRExa, unCou, preRExa1, preCou1, unstRh, prlRh, outRh, etaEnt, etaLst, etaSnd, etaStrm, etaMas, Option.bind_some, List.length_map, unStrs, unInts, unBools, unEnts, unItms, unTrns, cond_true, cond_false, Bool.and_true, Bool.true_and, decide_eq_true (by omega : a ≤ 600000), h2, d16, hun, w0, g0, hc]
      rfl
  | 1, hk =>
    obtain ⟨_, hk1, hk2, hk3⟩ := hk
    have hk1 := hk1 (by decide)
    have ho : F.cnt ls op (a + 1) F.vFi 16 = true → a + 1 < ls.length := F.cnt_lt
    have hlt := F.cnt_lt hk1
    cases hc : F.cnt ls op (a + 1) F.vFi 16
    · left
      refine ⟨rtRh ls (a + 1) op, ?_, ifB_f hc, by simp [rtRh], rfl⟩
      show ((exec enRh (loopN Tryd.f25 0) (stRx ls (a + 1) op sk 1 [F.cnV ls op a F.vTg 16])).bind _).val = _
      rw [evRx1]
      simp only [unRExa, unCou, preRExa1, preCou1, unstRh, prlRh, outRh, etaEnt, etaLst, etaSnd, etaStrm, etaMas, Option.bind_some, List.length_map, unStrs, unInts, unBools, unEnts, unItms, unTrns, cond_true, cond_false, Bool.and_true, Bool.true_and, decide_eq_true (by omega : a + 1 ≤ 600000), h2, d16, hun, w1, g1, hc]
      rfl
    · right
      refine ⟨2, ?_, rfl, ⟨by decide, fun _ => hk1, fun _ => rfl, fun h => absurd h (by decide)⟩, by decide, (ifB_t hc).symm⟩
      show ((exec enRh (loopN Tryd.f25 0) (stRx ls (a + 1) op sk 1 [F.cnV ls op a F.vTg 16])).bind _).val = _
      rw [evRx1]
      simp only [unRExa, unCou, preRExa1, preCou1, unstRh, prlRh, outRh, etaEnt, etaLst, etaSnd, etaStrm, etaMas, Option.bind_some, List.length_map, unStrs, unInts, unBools, unEnts, unItms, unTrns, cond_true, cond_false, Bool.and_true, Bool.true_and, decide_eq_true (by omega : a + 1 ≤ 600000), h2, d16, hun, w1, g1, hc]
      rfl
  | 2, hk =>
    obtain ⟨_, hk1, hk2, hk3⟩ := hk
    have hk1 := hk1 (by decide)
    have hk2 := hk2 (by decide)
    have ho : F.cnt ls op (a + 2) F.vBr 16 = true → a + 2 < ls.length := F.cnt_lt
    have hlt := F.cnt_lt hk2
    cases hc : F.cnt ls op (a + 2) F.vBr 16
    · left
      refine ⟨rtRh ls (a + 2) op, ?_, ifB_f hc, by simp [rtRh], rfl⟩
      show ((exec enRh (loopN Tryd.f25 0) (stRx ls (a + 2) op sk 2 [F.cnV ls op a F.vTg 16, F.cnV ls op (a + 1) F.vFi 16])).bind _).val = _
      rw [evRx2]
      simp only [unRExa, unCou, preRExa1, preCou1, unstRh, prlRh, outRh, etaEnt, etaLst, etaSnd, etaStrm, etaMas, Option.bind_some, List.length_map, unStrs, unInts, unBools, unEnts, unItms, unTrns, cond_true, cond_false, Bool.and_true, Bool.true_and, decide_eq_true (by omega : a + 2 ≤ 600000), h2, d16, hun, w2, g2, hc]
      rfl
    · right
      refine ⟨3, ?_, rfl, ⟨by decide, fun _ => hk1, fun _ => hk2, fun _ => rfl⟩, by decide, (ifB_t hc).symm⟩
      show ((exec enRh (loopN Tryd.f25 0) (stRx ls (a + 2) op sk 2 [F.cnV ls op a F.vTg 16, F.cnV ls op (a + 1) F.vFi 16])).bind _).val = _
      rw [evRx2]
      simp only [unRExa, unCou, preRExa1, preCou1, unstRh, prlRh, outRh, etaEnt, etaLst, etaSnd, etaStrm, etaMas, Option.bind_some, List.length_map, unStrs, unInts, unBools, unEnts, unItms, unTrns, cond_true, cond_false, Bool.and_true, Bool.true_and, decide_eq_true (by omega : a + 2 ≤ 600000), h2, d16, hun, w2, g2, hc]
      rfl
  | 3, hk =>
    obtain ⟨_, hk1, hk2, hk3⟩ := hk
    have hk1 := hk1 (by decide)
    have hk2 := hk2 (by decide)
    have hk3 := hk3 (by decide)
    have hlt := F.cnt_lt hk3
    cases sk
    · right
      refine ⟨4, ?_, rfl, ⟨by decide, fun _ => hk1, fun _ => hk2, fun _ => hk3⟩, by decide, rfl⟩
      show ((exec enRh (loopN Tryd.f25 0) (stRx ls (a + 3) op false 3 [F.cnV ls op a F.vTg 16, F.cnV ls op (a + 1) F.vFi 16, F.cnV ls op (a + 2) F.vBr 16])).bind _).val = _
      rw [evRx3]
      simp only [unRExa, unCou, preRExa1, preCou1, unstRh, prlRh, outRh, etaEnt, etaLst, etaSnd, etaStrm, etaMas, Option.bind_some, List.length_map, unStrs, unInts, unBools, unEnts, unItms, unTrns, cond_true, cond_false, Bool.and_true, Bool.true_and, decide_eq_true (by omega : a + 3 ≤ 600000), h2, d16, hun, w3, g3]
      rfl
    · cases hc : F.cnt ls op (a + 3) F.vSk 16
      · left
        refine ⟨rtRh ls (a + 3) op, ?_, ifB_f hc, by simp [rtRh], rfl⟩
        show ((exec enRh (loopN Tryd.f25 0) (stRx ls (a + 3) op true 3 [F.cnV ls op a F.vTg 16, F.cnV ls op (a + 1) F.vFi 16, F.cnV ls op (a + 2) F.vBr 16])).bind _).val = _
        rw [evRx3]
        simp only [unRExa, unCou, preRExa1, preCou1, unstRh, prlRh, outRh, etaEnt, etaLst, etaSnd, etaStrm, etaMas, Option.bind_some, List.length_map, unStrs, unInts, unBools, unEnts, unItms, unTrns, cond_true, cond_false, Bool.and_true, Bool.true_and, decide_eq_true (by omega : a + 3 ≤ 600000), h2, d16, hun, w3, g3, hc]
        rfl
      · right
        refine ⟨4, ?_, rfl, ⟨by decide, fun _ => hk1, fun _ => hk2, fun _ => hk3⟩, by decide, (ifB_t hc).symm⟩
        show ((exec enRh (loopN Tryd.f25 0) (stRx ls (a + 3) op true 3 [F.cnV ls op a F.vTg 16, F.cnV ls op (a + 1) F.vFi 16, F.cnV ls op (a + 2) F.vBr 16])).bind _).val = _
        rw [evRx3]
        simp only [unRExa, unCou, preRExa1, preCou1, unstRh, prlRh, outRh, etaEnt, etaLst, etaSnd, etaStrm, etaMas, Option.bind_some, List.length_map, unStrs, unInts, unBools, unEnts, unItms, unTrns, cond_true, cond_false, Bool.and_true, Bool.true_and, decide_eq_true (by omega : a + 3 ≤ 600000), h2, d16, hun, w3, g3, hc]
        rfl
  | 4, hk =>
    left
    refine ⟨exRh ls (bif sk then a + 4 else a + 3) op (F.hdN ls op a sk), ?_, rfl, by simp [exRh], rfl⟩
    show ((exec enRh (loopN Tryd.f25 0) (stRx ls (bif sk then a + 4 else a + 3) op sk 4 (F.hdN ls op a sk))).bind _).val = _
    rw [evRx4]
    rfl

theorem evHea (ls : List ByteArray) (a : Nat) (op : Bool) (sk : Bool) : (runH enRh [] Tryd.f25 [.ptr 900 0 0, vB sk] [(901, ⟨false, 9, 1, ls.map eStr⟩), (900, ⟨true, 0, 0, [[.own 901, vI a, vB op]]⟩)]).val =
  Option.bind (unenc encRExa ([.ptr 900 0 0, (vS (ByteArray.mk (Array.mk [(35 : UInt8), (76 : UInt8), (73 : UInt8), (83 : UInt8), (84 : UInt8)])))], [(901, Blk.mk false 9 1
  (List.map eStr ls)), (900, Blk.mk true 0 0 [[.own 901, (vI (↑a : Int)), (vB op)]])])) fun (z : List ByteArray × Nat × Bool × ByteArray) => bif decide (z.snd.fst ≤ (600000
  : Nat)) && decide (List.length z.fst ≤ (600000 : Nat)) then bif !F.exa z.fst z.snd.snd.fst z.snd.fst z.snd.snd.snd then some (AV.tup [AV.agg [(vI (0 : Int)), (vI (0 :
  Int)), (vI (0 : Int)), AV.e0, (vB false)], (vI (0 : Int)), (vB false)], [(901, Blk.mk false 9 1 (List.map eStr z.fst)), (900, Blk.mk true 0 0 [[.own 901, (vI (↑(z.snd.fst
  + F.one (F.exa z.fst z.snd.snd.fst z.snd.fst z.snd.snd.snd)) : Int)), (vB z.snd.snd.fst)]])], []) else Option.bind (unenc stRh1 (St.mk [(10, (vI (0 : Int))), (9, .own 9),
  (8, .own 18), (7, .ptr 7 0 0), (4, .ptr 4 0 0), (1, (vB sk)), (0, .ptr 900 0 0)] [(901, Blk.mk false 9 1 (List.map eStr z.fst)), (900, Blk.mk true 0 0 [[.own 901, (vI
  (↑(z.snd.fst + F.one (F.exa z.fst z.snd.snd.fst z.snd.fst z.snd.snd.snd)) : Int)), (vB z.snd.snd.fst)]]), (18, Blk.mk false 9 1 [[(vS (ByteArray.mk (Array.mk [(35 :
  UInt8), (84 : UInt8), (65 : UInt8), (82 : UInt8), (71 : UInt8), (69 : UInt8), (84 : UInt8), (32 : UInt8)])))], [(vS (ByteArray.mk (Array.mk [(35 : UInt8), (70 : UInt8),
  (73 : UInt8), (82 : UInt8), (83 : UInt8), (84 : UInt8), (32 : UInt8)])))], [(vS (ByteArray.mk (Array.mk [(35 : UInt8), (66 : UInt8), (82 : UInt8), (69 : UInt8), (65 :
  UInt8), (75 : UInt8), (83 : UInt8), (32 : UInt8)])))], [(vS (ByteArray.mk (Array.mk [(35 : UInt8), (83 : UInt8), (75 : UInt8), (73 : UInt8), (80 : UInt8), (32 :
  UInt8)])))]]), (9, Blk.mk false 3 1 []), (7, Blk.mk true 0 0 [[(vI (0 : Int)), (vI (0 : Int)), (vI (0 : Int)), AV.e0, (vB false)]]), (4, Blk.mk true 0 0 [[(vI (0 : Int)),
  (vI (0 : Int)), (vI (0 : Int)), AV.e0, (vB false)]])])) fun (z : List ByteArray × Nat × Bool × Bool) => bif decide (z.snd.fst ≤ List.length z.fst) && F.lsOk z.fst && true
  then bif (F.hdR z.fst z.snd.snd.fst z.snd.fst z.snd.snd.snd).fst then Option.bind (unenc (List.map eI) [[(vI (F.cnV z.fst z.snd.snd.fst z.snd.fst F.vTg (16 : Int)))], [(vI
  (F.cnV z.fst z.snd.snd.fst (z.snd.fst + (1 : Nat)) F.vFi (16 : Int)))], [(vI (F.cnV z.fst z.snd.snd.fst (z.snd.fst + (2 : Nat)) F.vBr (16 : Int)))], [(vI (bif
  z.snd.snd.snd then F.cnV z.fst z.snd.snd.fst (z.snd.fst + (3 : Nat)) F.vSk (16 : Int) else (0 : Int)))]]) fun (z_1 : List Int) => bif decide ((0 : Nat) < List.length z_1)
  then Option.bind (unenc (List.map eI) [[(vI (F.cnV z.fst z.snd.snd.fst z.snd.fst F.vTg (16 : Int)))], [(vI (F.cnV z.fst z.snd.snd.fst (z.snd.fst + (1 : Nat)) F.vFi (16 :
  Int)))], [(vI (F.cnV z.fst z.snd.snd.fst (z.snd.fst + (2 : Nat)) F.vBr (16 : Int)))], [(vI (bif z.snd.snd.snd then F.cnV z.fst z.snd.snd.fst (z.snd.fst + (3 : Nat)) F.vSk
  (16 : Int) else (0 : Int)))]]) fun (z_2 : List Int) => bif decide ((1 : Nat) < List.length z_2) then Option.bind (unenc (List.map eI) [[(vI (F.cnV z.fst z.snd.snd.fst
  z.snd.fst F.vTg (16 : Int)))], [(vI (F.cnV z.fst z.snd.snd.fst (z.snd.fst + (1 : Nat)) F.vFi (16 : Int)))], [(vI (F.cnV z.fst z.snd.snd.fst (z.snd.fst + (2 : Nat)) F.vBr
  (16 : Int)))], [(vI (bif z.snd.snd.snd then F.cnV z.fst z.snd.snd.fst (z.snd.fst + (3 : Nat)) F.vSk (16 : Int) else (0 : Int)))]]) fun (z_3 : List Int) => bif decide ((2 :
  Nat) < List.length z_3) then Option.bind (unenc (List.map eI) [[(vI (F.cnV z.fst z.snd.snd.fst z.snd.fst F.vTg (16 : Int)))], [(vI (F.cnV z.fst z.snd.snd.fst (z.snd.fst +
  (1 : Nat)) F.vFi (16 : Int)))], [(vI (F.cnV z.fst z.snd.snd.fst (z.snd.fst + (2 : Nat)) F.vBr (16 : Int)))], [(vI (bif z.snd.snd.snd then F.cnV z.fst z.snd.snd.fst
  (z.snd.fst + (3 : Nat)) F.vSk (16 : Int) else (0 : Int)))]]) fun (z_4 : List Int) => bif decide ((3 : Nat) < List.length z_4) then some (AV.tup [AV.agg [(vI (List.getD z_1
  (0 : Nat) (0 : Int))), (vI (List.getD z_2 (1 : Nat) (0 : Int))), (vI (List.getD z_3 (2 : Nat) (0 : Int))), AV.e0, (vB false)], (vI (List.getD z_4 (3 : Nat) (0 : Int))),
  (vB true)], [(901, Blk.mk false 9 1 (List.map eStr z.fst)), (900, Blk.mk true 0 0 [[.own 901, (vI (↑(F.hdR z.fst z.snd.snd.fst z.snd.fst z.snd.snd.snd).snd : Int)), (vB
  z.snd.snd.fst)]])], []) else none else none else none else none else some (AV.tup [AV.agg [(vI (0 : Int)), (vI (0 : Int)), (vI (0 : Int)), AV.e0, (vB false)], (vI (0 :
  Int)), (vB false)], [(901, Blk.mk false 9 1 (List.map eStr z.fst)), (900, Blk.mk true 0 0 [[.own 901, (vI (↑(F.hdR z.fst z.snd.snd.fst z.snd.fst z.snd.snd.snd).snd :
  Int)), (vB z.snd.snd.fst)]])], []) else none else none := (runHR_val).symm.trans (by kernel_rfl)

def encHea1 (ls : List ByteArray) (a : Nat) (op : Bool) (sk : Bool) : List AV × Heap := ([.ptr 900 0 0, vB sk], [(901, ⟨false, 9, 1, ls.map eStr⟩), (900, ⟨true, 0, 0, [[.own 901, vI a, vB op]]⟩)])

def encHea (a : (List ByteArray) × Nat × Bool × Bool) : List AV × Heap := encHea1 a.1 a.2.1 a.2.2.1 a.2.2.2

theorem encHea_inj (a a' : (List ByteArray) × Nat × Bool × Bool) (h : encHea a = encHea a') : a = a' := by
  simp only [encHea, encHea1] at h
  try simp [strs_inj, ints_inj, ents_inj, eEnt_iff, eLst_iff, eSnds_inj, eStrms_inj] at h
  grind

theorem unHea (ls : List ByteArray) (a : Nat) (op : Bool) (sk : Bool) : unenc encHea (([.ptr 900 0 0, (vB sk)], [(901, Blk.mk false 9 1 (List.map eStr ls)), (900, Blk.mk true 0 0 [[.own 901, (vI (↑a : Int)), (vB op)]])])) = some (ls, a, op, sk) := unenc_of encHea_inj (ls, a, op, sk) rfl

def resHea1 (ls : List ByteArray) (a : Nat) (op : Bool) (sk : Bool) : AV × Heap × List Nat := (.tup [.agg [vI (F.hV ls op a sk 0), vI (F.hV ls op a sk 1), vI (F.hV ls op a sk 2), .e0, vB false], vI (F.hV ls op a sk 3), vB (F.hR ls op a sk).1], [(901, ⟨false, 9, 1, ls.map eStr⟩), (900, ⟨true, 0, 0, [[.own 901, vI ((F.hR ls op a sk).2 : Nat), vB op]]⟩)], [])

def preHea1 (ls : List ByteArray) (a : Nat) (op : Bool) (sk : Bool) : Bool := decide (a ≤ ls.length) && F.lsOk ls

noncomputable def oHea : OrcH := orcH 25 encHea (fun a => preHea1 a.1 a.2.1 a.2.2.1 a.2.2.2) fun a => resHea1 a.1 a.2.1 a.2.2.1 a.2.2.2

theorem okHea : OrcHOK Tryd.prog noG oHea := by
  refine mkH_ok (mv := []) Tryd.f25 (by kernel_rfl) (by kernel_rfl) enRh_ok mixed (one_loop (x0 := loopN Tryd.f25 0) (by kernel_rfl) (lpo_ok ?_)) ?_
  · rintro ⟨ls, a, op, sk⟩ hp
    exact lpRh_ok ls a op sk hp
  rintro ⟨ls, a, op, sk⟩ hpre hok hokh
  show (runH enRh [] _ (encHea1 _ _ _ _).1 (encHea1 _ _ _ _).2).val = some (resHea1 _ _ _ _)
  unfold encHea1 resHea1
  rw [evHea]
  simp only [preHea1, Bool.and_eq_true, decide_eq_true_eq] at hpre
  obtain ⟨h1, h2⟩ := hpre
  have hl := F.lsOk_len h2
  simp only [unRExa, unCou, preRExa1, preCou1, unstRh, prlRh, outRh, etaEnt, etaLst, etaSnd, etaStrm, etaMas, Option.bind_some, List.length_map, unStrs, unInts, unBools, unEnts, unItms, unTrns, cond_true, cond_false, Bool.and_true, Bool.true_and, decide_eq_true (by omega : a ≤ 600000), decide_eq_true (by omega : ls.length ≤ 600000), h2]
  have qL : (⟨⟨[35, 76, 73, 83, 84]⟩⟩ : ByteArray) = F.kLst := rfl
  rw [qL]
  clear qL hok hokh
  unfold F.hV F.hR
  cases hx : F.exa ls op a F.kLst
  · rfl
  have hlt : a < ls.length := by
    unfold F.exa F.mor at hx
    simp only [Bool.and_eq_true, decide_eq_true_eq] at hx
    exact hx.1.1
  have un0 : unenc stRh1 (St.mk [(10, vI 0), (9, .own 9), (8, .own 18), (7, .ptr 7 0 0), (4, .ptr 4 0 0), (1, vB sk), (0, .ptr 900 0 0)] [(901, ⟨false, 9, 1, ls.map eStr⟩), (900, ⟨true, 0, 0, [[.own 901, vI (a + F.one true : Nat), vB op]]⟩), (18, ⟨false, 9, 1, [[vS ⟨⟨[35, 84, 65, 82, 71, 69, 84, 32]⟩⟩], [vS ⟨⟨[35, 70, 73, 82, 83, 84, 32]⟩⟩], [vS ⟨⟨[35, 66, 82, 69, 65, 75, 83, 32]⟩⟩], [vS ⟨⟨[35, 83, 75, 73, 80, 32]⟩⟩]]⟩), (9, ⟨false, 3, 1, []⟩), (7, ⟨true, 0, 0, [[vI 0, vI 0, vI 0, .e0, vB false]]⟩), (4, ⟨true, 0, 0, [[vI 0, vI 0, vI 0, .e0, vB false]]⟩)]) = some (ls, a + 1, op, sk) := unenc_of stRh_inj (ls, a + 1, op, sk) rfl
  rw [un0]
  have hI : unenc (List.map eI) [[vI (F.cnV ls op (a + 1) F.vTg 16)], [vI (F.cnV ls op (a + 1 + 1) F.vFi 16)], [vI (F.cnV ls op (a + 1 + 2) F.vBr 16)], [vI (bif sk then F.cnV ls op (a + 1 + 3) F.vSk 16 else 0)]] = some (F.hdN ls op (a + 1) sk) := unInts (F.hdN ls op (a + 1) sk)
  have l0 : decide (0 < (F.hdN ls op (a + 1) sk).length) = true := rfl
  have l1 : decide (1 < (F.hdN ls op (a + 1) sk).length) = true := rfl
  have l2 : decide (2 < (F.hdN ls op (a + 1) sk).length) = true := rfl
  have l3 : decide (3 < (F.hdN ls op (a + 1) sk).length) = true := rfl
  simp only [Option.bind_some, decide_eq_true (by omega : a + 1 ≤ ls.length), h2, Bool.and_self, cond_true, Bool.not_true, cond_false, hI, l0, l1, l2, l3]
  cases (F.hdR ls op (a + 1) sk).1 <;> rfl

end M
end Go.Proofs.YtllagmepnmdeoaaDoor
