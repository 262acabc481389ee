/- What is proved here: how the program takes the lines of a delta's text (no statement of the seat). -/
import Derived.Test.YtllagmepnmdeoaaDoorE85
namespace Go.Proofs.YtllagmepnmdeoaaDoor
open Go Go.RowKit
set_option linter.unusedVariables false
set_option linter.unusedSimpArgs false
set_option maxHeartbeats 1000000

namespace M


noncomputable def enDk : Env := envH ty noG lks [] [oHd] [] []

theorem enDk_ok : EnvOK Tryd.prog enDk := by
  refine envH_ok lks_ok ty_ok ?_ ?_
  · simp
  · simp only [List.forall_mem_cons]
    exact ⟨okHd, by simp⟩

theorem evDk (s : ByteArray) (n : Int) : (runH enDk [] Tryd.f17 [.ptr 900 0 0, .ptr 901 0 0] [(902, ⟨true, 0, 0, [[vS s, vI n]]⟩), (901, ⟨true, 0, 0, [[vI 0, vI 0, vI 0, vI 0, .e0, vB false]]⟩), (900, ⟨true, 0, 0, [[.ptr 902 0 0]]⟩)]).val =
  Option.bind (unenc encHd ([.ptr 900 0 0, (vS (ByteArray.mk (Array.mk [(35 : UInt8), (83 : UInt8), (75 : UInt8), (73 : UInt8), (80 : UInt8)])))], [(900, Blk.mk true 0 0
  [[(vS s), (vI n)]])])) fun (z : ByteArray × Int × ByteArray) => bif decide (ByteArray.size z.fst ≤ (500000 : Nat)) && decide ((0 : Int) ≤ z.snd.fst) && decide (z.snd.fst ≤
  (1000000 : Int)) && decide (ByteArray.size z.snd.snd ≤ (1000 : Nat)) then some ((vB (F.hdOk z.fst z.snd.snd)), [(902, Blk.mk true 0 0 [[(vS (F.cutT z.fst F.nl)), (vI
  (z.snd.fst + (1 : Int)))]]), (901, Blk.mk true 0 0 [[(vI (F.hdV z.fst z.snd.snd)), (vI (0 : Int)), (vI (0 : Int)), (vI (0 : Int)), AV.e0, (vB false)]]), (900, Blk.mk true
  0 0 [[.ptr 902 0 0]])], []) else none := (runHR_val).symm.trans (by kernel_rfl)

def encDk1 (s : ByteArray) (n : Int) : List AV × Heap := ([.ptr 900 0 0, .ptr 901 0 0], [(902, ⟨true, 0, 0, [[vS s, vI n]]⟩), (901, ⟨true, 0, 0, [[vI 0, vI 0, vI 0, vI 0, .e0, vB false]]⟩), (900, ⟨true, 0, 0, [[.ptr 902 0 0]]⟩)])

def encDk (a : ByteArray × Int) : List AV × Heap := encDk1 a.1 a.2

theorem encDk_inj (a a' : ByteArray × Int) (h : encDk a = encDk a') : a = a' := by
  simp only [encDk, encDk1] at h
  try simp [strs_inj, ints_inj, ents_inj, eEnt_iff, eLst_iff, eSnds_inj, eStrms_inj] at h
  grind

theorem unDk (s : ByteArray) (n : Int) : unenc encDk (([.ptr 900 0 0, .ptr 901 0 0], [(902, Blk.mk true 0 0 [[(vS s), (vI n)]]), (901, Blk.mk true 0 0 [[(vI (0 : Int)), (vI (0 : Int)), (vI (0 : Int)), (vI (0 : Int)), AV.e0,
  (vB false)]]), (900, Blk.mk true 0 0 [[.ptr 902 0 0]])])) = some (s, n) := unenc_of encDk_inj (s, n) rfl

def resDk1 (s : ByteArray) (n : Int) : AV × Heap × List Nat := (vB (F.hdOk s F.wSk), [(902, ⟨true, 0, 0, [[vS (F.cutT s F.nl), vI (n + 1)]]⟩), (901, ⟨true, 0, 0, [[vI (F.hdV s F.wSk), vI 0, vI 0, vI 0, .e0, vB false]]⟩), (900, ⟨true, 0, 0, [[.ptr 902 0 0]]⟩)], [])

def preDk1 (s : ByteArray) (n : Int) : Bool := decide (s.size ≤ 500000) && decide (0 ≤ n) && decide (n ≤ 1000000)

noncomputable def oDk : OrcH := orcH 17 encDk (fun a => preDk1 a.1 a.2) fun a => resDk1 a.1 a.2

theorem okDk : OrcHOK Tryd.prog noG oDk := by
  refine mkH_ok (mv := []) Tryd.f17 (by kernel_rfl) (by kernel_rfl) enDk_ok mixed (no_loops (by kernel_rfl)) ?_
  rintro ⟨s, n⟩ hpre hok hokh
  show (runH enDk [] _ (encDk1 _ _).1 (encDk1 _ _).2).val = some (resDk1 _ _)
  unfold encDk1 resDk1
  rw [evDk]
  simp only [preDk1, Bool.and_eq_true, decide_eq_true_eq] at hpre
  obtain ⟨⟨h1, h2⟩, h3⟩ := hpre
  have q : (⟨⟨[35, 83, 75, 73, 80]⟩⟩ : ByteArray) = F.wSk := rfl
  have wd : F.wSk.size ≤ 1000 := by decide
  simp only [unHd, preHd1, etaEnt, etaLst, etaSnd, etaStrm, etaMas, Option.bind_some, List.length_map, unStrs, unInts, unBools, unEnts, unItms, unTrns, cond_true, cond_false, Bool.and_true, Bool.true_and, decide_eq_true h1, decide_eq_true h2, decide_eq_true h3, q, decide_eq_true wd]
  try rfl

def stGh (s : ByteArray) (n : Int) : St := ⟨[(37, vI 0), (36, vI ((3 : Nat) : Int)), (35, .win 35 0 3), (6, .ptr 6 0 0), (4, .ptr 4 0 0), (1, .fn 17 [.ptr 901 0 0, .ptr 902 0 0]), (0, .ptr 900 0 0)], [(902, ⟨true, 0, 0, [[vI 0, vI 0, vI 0, vI 0, .e0, vB false]]⟩), (901, ⟨true, 0, 0, [[.ptr 900 0 0]]⟩), (900, ⟨true, 0, 0, [[vS s, vI n]]⟩), (35, ⟨true, 55, 2, [[vS F.wTg, .ptr 6 0 0], [vS F.wFi, .ptr 6 0 1], [vS F.wBr, .ptr 6 0 2]]⟩), (6, ⟨true, 0, 0, [[vI 0, vI 0, vI 0, .e0, vB false]]⟩), (4, ⟨true, 0, 0, [[vI 0, vI 0, vI 0, .e0, vB false]]⟩)]⟩

def stGh1 (a : ByteArray × Int) : St := stGh a.1 a.2

theorem stGh_inj (a a' : ByteArray × Int) (h : stGh1 a = stGh1 a') : a = a' := by
  simp only [stGh1, stGh] at h
  try simp [strs_inj, ints_inj, ents_inj, eEnt_iff, eLst_iff, eSnds_inj, eStrms_inj] at h
  grind

theorem unstGh (s : ByteArray) (n : Int) : unenc stGh1 (St.mk [(37, (vI (0 : Int))), (36, (vI (↑(3 : Nat) : Int))), (35, AV.win (35 : Nat) (0 : Nat) (3 : Nat)), (6, .ptr 6 0 0), (4, .ptr 4 0 0), (1, AV.fn (17 : FuncId) [.ptr
  901 0 0, .ptr 902 0 0]), (0, .ptr 900 0 0)] [(902, Blk.mk true 0 0 [[(vI (0 : Int)), (vI (0 : Int)), (vI (0 : Int)), (vI (0 : Int)), AV.e0, (vB false)]]), (901, Blk.mk
  true 0 0 [[.ptr 900 0 0]]), (900, Blk.mk true 0 0 [[(vS s), (vI n)]]), (35, Blk.mk true 55 2 [[(vS F.wTg), .ptr 6 0 0], [(vS F.wFi), .ptr 6 0 1], [(vS F.wBr), .ptr 6 0
  2]]), (6, Blk.mk true 0 0 [[(vI (0 : Int)), (vI (0 : Int)), (vI (0 : Int)), AV.e0, (vB false)]]), (4, Blk.mk true 0 0 [[(vI (0 : Int)), (vI (0 : Int)), (vI (0 : Int)),
  AV.e0, (vB false)]])]) = some (s, n) := unenc_of stGh_inj (s, n) rfl

def outGh (s : ByteArray) (n : Int) : T (Ex × St) := .ifB (F.hdOk s F.wTg) (.ifB (F.hdOk (F.dr 1 s) F.wFi) (.ifB (F.hdOk (F.dr 2 s) F.wBr)
      (.ret (.exit 0, ⟨[(6, .ptr 6 0 0), (4, .ptr 4 0 0), (1, .fn 17 [.ptr 901 0 0, .ptr 902 0 0]), (0, .ptr 900 0 0)], [(902, ⟨true, 0, 0, [[vI 0, vI 0, vI 0, vI 0, .e0, vB false]]⟩), (901, ⟨true, 0, 0, [[.ptr 900 0 0]]⟩), (900, ⟨true, 0, 0, [[vS (F.dr 3 s), vI (n + 1 + 1 + 1)]]⟩), (6, ⟨true, 0, 0, [[vI (F.hdV s F.wTg), vI (F.hdV (F.dr 1 s) F.wFi), vI (F.hdV (F.dr 2 s) F.wBr), .e0, vB false]]⟩), (4, ⟨true, 0, 0, [[vI 0, vI 0, vI 0, .e0, vB false]]⟩)]⟩))
      (.ret (.ret, ⟨[(5, vB false), (4, .ptr 4 0 0)], [(902, ⟨true, 0, 0, [[vI 0, vI 0, vI 0, vI 0, .e0, vB false]]⟩), (901, ⟨true, 0, 0, [[.ptr 900 0 0]]⟩), (900, ⟨true, 0, 0, [[vS (F.dr 3 s), vI (n + 1 + 1 + 1)]]⟩), (4, ⟨true, 0, 0, [[vI (F.hdV s F.wTg), vI (F.hdV (F.dr 1 s) F.wFi), vI 0, .e0, vB false]]⟩)]⟩)))
      (.ret (.ret, ⟨[(5, vB false), (4, .ptr 4 0 0)], [(902, ⟨true, 0, 0, [[vI 0, vI 0, vI 0, vI 0, .e0, vB false]]⟩), (901, ⟨true, 0, 0, [[.ptr 900 0 0]]⟩), (900, ⟨true, 0, 0, [[vS (F.dr 2 s), vI (n + 1 + 1)]]⟩), (4, ⟨true, 0, 0, [[vI (F.hdV s F.wTg), vI 0, vI 0, .e0, vB false]]⟩)]⟩)))
      (.ret (.ret, ⟨[(5, vB false), (4, .ptr 4 0 0)], [(902, ⟨true, 0, 0, [[vI 0, vI 0, vI 0, vI 0, .e0, vB false]]⟩), (901, ⟨true, 0, 0, [[.ptr 900 0 0]]⟩), (900, ⟨true, 0, 0, [[vS (F.dr 1 s), vI (n + 1)]]⟩), (4, ⟨true, 0, 0, [[vI 0, vI 0, vI 0, .e0, vB false]]⟩)]⟩))

noncomputable def prlGh (s : ByteArray) (n : Int) : Bool := decide (s.size ≤ 500000) && decide (0 ≤ n) && decide (n ≤ 100)

noncomputable def lpGh : Nat × (St → T (Ex × St)) := (6, lpo [37, 36, 35, 6, 4, 1, 0] [902, 901, 900, 35, 6, 4] stGh1 (fun a => prlGh a.1 a.2) fun a => outGh a.1 a.2)

def stGl (s : ByteArray) (n : Int) (t : Int) (f : Int) (b : Int) (kk : Int) : St := ⟨[(13, vS ⟨⟨[]⟩⟩), (6, .ptr 6 0 0), (4, .ptr 4 0 0), (0, .ptr 900 0 0)], [(902, ⟨true, 0, 0, [[vI kk, vI 0, vI 0, vI 0, .e0, vB false]]⟩), (901, ⟨true, 0, 0, [[.ptr 900 0 0]]⟩), (900, ⟨true, 0, 0, [[vS s, vI n]]⟩), (6, ⟨true, 0, 0, [[vI t, vI f, vI b, .e0, vB false]]⟩), (4, ⟨true, 0, 0, [[vI 0, vI 0, vI 0, .e0, vB false]]⟩)]⟩

def stGl1 (a : ByteArray × Int × Int × Int × Int × Int) : St := stGl a.1 a.2.1 a.2.2.1 a.2.2.2.1 a.2.2.2.2.1 a.2.2.2.2.2

theorem stGl_inj (a a' : ByteArray × Int × Int × Int × Int × Int) (h : stGl1 a = stGl1 a') : a = a' := by
  simp only [stGl1, stGl] at h
  try simp [strs_inj, ints_inj, ents_inj, eEnt_iff, eLst_iff, eSnds_inj, eStrms_inj] at h
  grind

theorem unstGl (s : ByteArray) (n : Int) (t : Int) (f : Int) (b : Int) (kk : Int) : unenc stGl1 (St.mk [(13, (vS (ByteArray.mk (Array.mk [])))), (6, .ptr 6 0 0), (4, .ptr 4 0 0), (0, .ptr 900 0 0)] [(902, Blk.mk true 0 0 [[(vI kk), (vI (0 : Int)), (vI (0 : Int)), (vI
  (0 : Int)), AV.e0, (vB false)]]), (901, Blk.mk true 0 0 [[.ptr 900 0 0]]), (900, Blk.mk true 0 0 [[(vS s), (vI n)]]), (6, Blk.mk true 0 0 [[(vI t), (vI f), (vI b), AV.e0,
  (vB false)]]), (4, Blk.mk true 0 0 [[(vI (0 : Int)), (vI (0 : Int)), (vI (0 : Int)), AV.e0, (vB false)]])]) = some (s, n, t, f, b, kk) := unenc_of stGl_inj (s, n, t, f, b, kk) rfl

def outGl (s : ByteArray) (n : Int) (t : Int) (f : Int) (b : Int) (kk : Int) : T (Ex × St) := .ifB (F.bdL s n ⟨⟨[]⟩⟩ [] false).1
      (.ret (.exit 2, ⟨[(6, .ptr 6 0 0), (4, .ptr 4 0 0)], [(902, ⟨true, 0, 0, [[vI kk, vI 0, vI 0, vI 0, .e0, vB false]]⟩), (901, ⟨true, 0, 0, [[.ptr 900 0 0]]⟩), (900, ⟨true, 0, 0, [[vS (F.bdL s n ⟨⟨[]⟩⟩ [] false).2.1, vI (F.bdL s n ⟨⟨[]⟩⟩ [] false).2.2.1]]⟩), (890, ⟨false, 46, 7, (F.bdL s n ⟨⟨[]⟩⟩ [] false).2.2.2.1.map eEnt⟩), (6, ⟨true, 0, 0, [[vI t, vI f, vI b, .own 890, vB (F.bdL s n ⟨⟨[]⟩⟩ [] false).2.2.2.2]]⟩), (4, ⟨true, 0, 0, [[vI 0, vI 0, vI 0, .e0, vB false]]⟩)]⟩))
      (.ret (.ret, ⟨[(5, vB false), (4, .ptr 4 0 0)], [(902, ⟨true, 0, 0, [[vI kk, vI 0, vI 0, vI 0, .e0, vB false]]⟩), (901, ⟨true, 0, 0, [[.ptr 900 0 0]]⟩), (900, ⟨true, 0, 0, [[vS (F.bdL s n ⟨⟨[]⟩⟩ [] false).2.1, vI (F.bdL s n ⟨⟨[]⟩⟩ [] false).2.2.1]]⟩), (890, ⟨false, 46, 7, (F.bdL s n ⟨⟨[]⟩⟩ [] false).2.2.2.1.map eEnt⟩), (4, ⟨true, 0, 0, [[vI t, vI f, vI b, .own 890, vB (F.bdL s n ⟨⟨[]⟩⟩ [] false).2.2.2.2]]⟩)]⟩))

noncomputable def prlGl (s : ByteArray) (n : Int) (t : Int) (f : Int) (b : Int) (kk : Int) : Bool := decide (s.size ≤ 500000) && decide (0 ≤ n) && decide (n ≤ 100)

noncomputable def lpGl : Nat × (St → T (Ex × St)) := (16, lpo [13, 6, 4, 0] [902, 901, 900, 6, 4] stGl1 (fun a => prlGl a.1 a.2.1 a.2.2.1 a.2.2.2.1 a.2.2.2.2.1 a.2.2.2.2.2) fun a => outGl a.1 a.2.1 a.2.2.1 a.2.2.2.1 a.2.2.2.2.1 a.2.2.2.2.2)

noncomputable def enGd : Env := envH ty noG lks [oMor] [oTk, oHd, oEnt, oDk] [890, 35] [lpGh, lpGl]

theorem enGd_ok : EnvOK Tryd.prog enGd := by
  refine envH_ok lks_ok ty_ok ?_ ?_
  · simp only [List.forall_mem_cons]
    exact ⟨okMor, by simp⟩
  · simp only [List.forall_mem_cons]
    exact ⟨okTk, okHd, okEnt, okDk, by simp⟩

def stGx (s : ByteArray) (n : Int) (k a b c : Int) : St := ⟨[(37, vI k), (36, vI ((3 : Nat) : Int)), (35, .win 35 0 3), (6, .ptr 6 0 0), (4, .ptr 4 0 0), (1, .fn 17 [.ptr 901 0 0, .ptr 902 0 0]), (0, .ptr 900 0 0)], [(902, ⟨true, 0, 0, [[vI 0, vI 0, vI 0, vI 0, .e0, vB false]]⟩), (901, ⟨true, 0, 0, [[.ptr 900 0 0]]⟩), (900, ⟨true, 0, 0, [[vS s, vI n]]⟩), (35, ⟨true, 55, 2, [[vS F.wTg, .ptr 6 0 0], [vS F.wFi, .ptr 6 0 1], [vS F.wBr, .ptr 6 0 2]]⟩), (6, ⟨true, 0, 0, [[vI a, vI b, vI c, .e0, vB false]]⟩), (4, ⟨true, 0, 0, [[vI 0, vI 0, vI 0, .e0, vB false]]⟩)]⟩

theorem evGh0 (s : ByteArray) (n : Int) (a b c : Int) : ((exec enGd (loopN Tryd.f11 0) (stGx s n 0 a b c)).bind (lessX ([37, 36, 35, 6, 4, 1, 0], [902, 901, 900, 35, 6, 4]) ([6, 4, 1, 0], [902, 901, 900, 6, 4]) ([5, 4], [902, 901, 900, 4]))).val =
  Option.bind (unenc encHd ([.ptr 900 0 0, (vS F.wTg)], [(900, Blk.mk true 0 0 [[(vS s), (vI n)]])])) fun (z : ByteArray × Int × ByteArray) => bif decide (ByteArray.size
  z.fst ≤ (500000 : Nat)) && decide ((0 : Int) ≤ z.snd.fst) && decide (z.snd.fst ≤ (1000000 : Int)) && decide (ByteArray.size z.snd.snd ≤ (1000 : Nat)) then bif !F.hdOk
  z.fst z.snd.snd then some (Ex.ret, St.mk [(5, (vB false)), (4, .ptr 4 0 0)] [(902, Blk.mk true 0 0 [[(vI (0 : Int)), (vI (0 : Int)), (vI (0 : Int)), (vI (0 : Int)), AV.e0,
  (vB false)]]), (901, Blk.mk true 0 0 [[.ptr 900 0 0]]), (900, Blk.mk true 0 0 [[(vS (F.cutT z.fst F.nl)), (vI (z.snd.fst + (1 : Int)))]]), (4, Blk.mk true 0 0 [[(vI a),
  (vI b), (vI c), AV.e0, (vB false)]])]) else some (Ex.normal, St.mk [(37, (vI (IntKind.wrap IntKind.i64 ((0 : Int) + (1 : Int))))), (36, (vI (↑(3 : Nat) : Int))), (35,
  AV.win (35 : Nat) (0 : Nat) (3 : Nat)), (6, .ptr 6 0 0), (4, .ptr 4 0 0), (1, AV.fn (17 : FuncId) [.ptr 901 0 0, .ptr 902 0 0]), (0, .ptr 900 0 0)] [(902, Blk.mk true 0 0
  [[(vI (0 : Int)), (vI (0 : Int)), (vI (0 : Int)), (vI (0 : Int)), AV.e0, (vB false)]]), (901, Blk.mk true 0 0 [[.ptr 900 0 0]]), (900, Blk.mk true 0 0 [[(vS (F.cutT z.fst
  F.nl)), (vI (z.snd.fst + (1 : Int)))]]), (35, Blk.mk true 55 2 [[(vS F.wTg), .ptr 6 0 0], [(vS F.wFi), .ptr 6 0 1], [(vS F.wBr), .ptr 6 0 2]]), (6, Blk.mk true 0 0 [[(vI
  (F.hdV z.fst z.snd.snd)), (vI b), (vI c), AV.e0, (vB false)]]), (4, Blk.mk true 0 0 [[(vI (0 : Int)), (vI (0 : Int)), (vI (0 : Int)), AV.e0, (vB false)]])]) else none := (execR_bind _ _ _).symm.trans (by kernel_rfl)

theorem evGh1 (s : ByteArray) (n : Int) (a b c : Int) : ((exec enGd (loopN Tryd.f11 0) (stGx s n 1 a b c)).bind (lessX ([37, 36, 35, 6, 4, 1, 0], [902, 901, 900, 35, 6, 4]) ([6, 4, 1, 0], [902, 901, 900, 6, 4]) ([5, 4], [902, 901, 900, 4]))).val =
  Option.bind (unenc encHd ([.ptr 900 0 0, (vS F.wFi)], [(900, Blk.mk true 0 0 [[(vS s), (vI n)]])])) fun (z : ByteArray × Int × ByteArray) => bif decide (ByteArray.size
  z.fst ≤ (500000 : Nat)) && decide ((0 : Int) ≤ z.snd.fst) && decide (z.snd.fst ≤ (1000000 : Int)) && decide (ByteArray.size z.snd.snd ≤ (1000 : Nat)) then bif !F.hdOk
  z.fst z.snd.snd then some (Ex.ret, St.mk [(5, (vB false)), (4, .ptr 4 0 0)] [(902, Blk.mk true 0 0 [[(vI (0 : Int)), (vI (0 : Int)), (vI (0 : Int)), (vI (0 : Int)), AV.e0,
  (vB false)]]), (901, Blk.mk true 0 0 [[.ptr 900 0 0]]), (900, Blk.mk true 0 0 [[(vS (F.cutT z.fst F.nl)), (vI (z.snd.fst + (1 : Int)))]]), (4, Blk.mk true 0 0 [[(vI a),
  (vI b), (vI c), AV.e0, (vB false)]])]) else some (Ex.normal, St.mk [(37, (vI (IntKind.wrap IntKind.i64 ((1 : Int) + (1 : Int))))), (36, (vI (↑(3 : Nat) : Int))), (35,
  AV.win (35 : Nat) (0 : Nat) (3 : Nat)), (6, .ptr 6 0 0), (4, .ptr 4 0 0), (1, AV.fn (17 : FuncId) [.ptr 901 0 0, .ptr 902 0 0]), (0, .ptr 900 0 0)] [(902, Blk.mk true 0 0
  [[(vI (0 : Int)), (vI (0 : Int)), (vI (0 : Int)), (vI (0 : Int)), AV.e0, (vB false)]]), (901, Blk.mk true 0 0 [[.ptr 900 0 0]]), (900, Blk.mk true 0 0 [[(vS (F.cutT z.fst
  F.nl)), (vI (z.snd.fst + (1 : Int)))]]), (35, Blk.mk true 55 2 [[(vS F.wTg), .ptr 6 0 0], [(vS F.wFi), .ptr 6 0 1], [(vS F.wBr), .ptr 6 0 2]]), (6, Blk.mk true 0 0 [[(vI
  a), (vI (F.hdV z.fst z.snd.snd)), (vI c), AV.e0, (vB false)]]), (4, Blk.mk true 0 0 [[(vI (0 : Int)), (vI (0 : Int)), (vI (0 : Int)), AV.e0, (vB false)]])]) else none := (execR_bind _ _ _).symm.trans (by kernel_rfl)

theorem evGh2 (s : ByteArray) (n : Int) (a b c : Int) : ((exec enGd (loopN Tryd.f11 0) (stGx s n 2 a b c)).bind (lessX ([37, 36, 35, 6, 4, 1, 0], [902, 901, 900, 35, 6, 4]) ([6, 4, 1, 0], [902, 901, 900, 6, 4]) ([5, 4], [902, 901, 900, 4]))).val =
  Option.bind (unenc encHd ([.ptr 900 0 0, (vS F.wBr)], [(900, Blk.mk true 0 0 [[(vS s), (vI n)]])])) fun (z : ByteArray × Int × ByteArray) => bif decide (ByteArray.size
  z.fst ≤ (500000 : Nat)) && decide ((0 : Int) ≤ z.snd.fst) && decide (z.snd.fst ≤ (1000000 : Int)) && decide (ByteArray.size z.snd.snd ≤ (1000 : Nat)) then bif !F.hdOk
  z.fst z.snd.snd then some (Ex.ret, St.mk [(5, (vB false)), (4, .ptr 4 0 0)] [(902, Blk.mk true 0 0 [[(vI (0 : Int)), (vI (0 : Int)), (vI (0 : Int)), (vI (0 : Int)), AV.e0,
  (vB false)]]), (901, Blk.mk true 0 0 [[.ptr 900 0 0]]), (900, Blk.mk true 0 0 [[(vS (F.cutT z.fst F.nl)), (vI (z.snd.fst + (1 : Int)))]]), (4, Blk.mk true 0 0 [[(vI a),
  (vI b), (vI c), AV.e0, (vB false)]])]) else some (Ex.normal, St.mk [(37, (vI (IntKind.wrap IntKind.i64 ((2 : Int) + (1 : Int))))), (36, (vI (↑(3 : Nat) : Int))), (35,
  AV.win (35 : Nat) (0 : Nat) (3 : Nat)), (6, .ptr 6 0 0), (4, .ptr 4 0 0), (1, AV.fn (17 : FuncId) [.ptr 901 0 0, .ptr 902 0 0]), (0, .ptr 900 0 0)] [(902, Blk.mk true 0 0
  [[(vI (0 : Int)), (vI (0 : Int)), (vI (0 : Int)), (vI (0 : Int)), AV.e0, (vB false)]]), (901, Blk.mk true 0 0 [[.ptr 900 0 0]]), (900, Blk.mk true 0 0 [[(vS (F.cutT z.fst
  F.nl)), (vI (z.snd.fst + (1 : Int)))]]), (35, Blk.mk true 55 2 [[(vS F.wTg), .ptr 6 0 0], [(vS F.wFi), .ptr 6 0 1], [(vS F.wBr), .ptr 6 0 2]]), (6, Blk.mk true 0 0 [[(vI
  a), (vI b), (vI (F.hdV z.fst z.snd.snd)), AV.e0, (vB false)]]), (4, Blk.mk true 0 0 [[(vI (0 : Int)), (vI (0 : Int)), (vI (0 : Int)), AV.e0, (vB false)]])]) else none := (execR_bind _ _ _).symm.trans (by kernel_rfl)

theorem evGh3 (s : ByteArray) (n : Int) (a b c : Int) : ((exec enGd (loopN Tryd.f11 0) (stGx s n 3 a b c)).bind (lessX ([37, 36, 35, 6, 4, 1, 0], [902, 901, 900, 35, 6, 4]) ([6, 4, 1, 0], [902, 901, 900, 6, 4]) ([5, 4], [902, 901, 900, 4]))).val =
  some (Ex.exit (0 : Nat), St.mk [(6, .ptr 6 0 0), (4, .ptr 4 0 0), (1, AV.fn (17 : FuncId) [.ptr 901 0 0, .ptr 902 0 0]), (0, .ptr 900 0 0)] [(902, Blk.mk true 0 0 [[(vI (0
  : Int)), (vI (0 : Int)), (vI (0 : Int)), (vI (0 : Int)), AV.e0, (vB false)]]), (901, Blk.mk true 0 0 [[.ptr 900 0 0]]), (900, Blk.mk true 0 0 [[(vS s), (vI n)]]), (6,
  Blk.mk true 0 0 [[(vI a), (vI b), (vI c), AV.e0, (vB false)]]), (4, Blk.mk true 0 0 [[(vI (0 : Int)), (vI (0 : Int)), (vI (0 : Int)), AV.e0, (vB false)]])]) := (execR_bind _ _ _).symm.trans (by kernel_rfl)

def stGo (s : ByteArray) (n : Int) (key : ByteArray) (es : List Ent) (en : Bool) (t f b kk : Int) : St := ⟨[(13, vS key), (6, .ptr 6 0 0), (4, .ptr 4 0 0), (0, .ptr 900 0 0)], [(902, ⟨true, 0, 0, [[vI kk, vI 0, vI 0, vI 0, .e0, vB false]]⟩), (901, ⟨true, 0, 0, [[.ptr 900 0 0]]⟩), (900, ⟨true, 0, 0, [[vS s, vI n]]⟩), (890, ⟨false, 46, 7, es.map eEnt⟩), (6, ⟨true, 0, 0, [[vI t, vI f, vI b, .own 890, vB en]]⟩), (4, ⟨true, 0, 0, [[vI 0, vI 0, vI 0, .e0, vB false]]⟩)]⟩

theorem evGo (s : ByteArray) (n : Int) (key : ByteArray) (es : List Ent) (en : Bool) (t f b kk : Int) : ((exec enGd (loopN Tryd.f11 1) (stGo s n key es en t f b kk)).bind (lessX ([13, 6, 4, 0], [902, 901, 900, 890, 6, 4]) ([6, 4], [902, 901, 900, 890, 6, 4]) ([5, 4], [902, 901, 900, 890, 4]))).val =
  Option.bind (unenc encMor [AV.pel [(vS s), (vI n)] (0 : Nat)]) fun (z : ByteArray × Int) => bif decide (ByteArray.size z.fst ≠ (0 : Nat)) then Option.bind (unenc encTk
  ([.ptr 900 0 0], [(900, Blk.mk true 0 0 [[(vS s), (vI n)]])])) fun (z : ByteArray × Int) => bif decide (ByteArray.size z.fst ≤ (500000 : Nat)) && decide ((0 : Int) ≤
  z.snd) && decide (z.snd ≤ (1000000 : Int)) then bif bif !F.cutF z.fst F.nl then true else en then some (Ex.ret, St.mk [(5, (vB false)), (4, .ptr 4 0 0)] [(902, Blk.mk true
  0 0 [[(vI kk), (vI (0 : Int)), (vI (0 : Int)), (vI (0 : Int)), AV.e0, (vB false)]]), (901, Blk.mk true 0 0 [[.ptr 900 0 0]]), (900, Blk.mk true 0 0 [[(vS (F.cutT z.fst
  F.nl)), (vI (z.snd + (1 : Int)))]]), (890, Blk.mk false 46 7 (List.map eEnt es)), (4, Blk.mk true 0 0 [[(vI t), (vI f), (vI b), .own 890, (vB en)]])]) else bif
  ByteArray.toList (F.cutH z.fst F.nl) == ByteArray.toList (ByteArray.mk (Array.mk [(35 : UInt8), (69 : UInt8), (78 : UInt8), (68 : UInt8)])) then some (Ex.normal, St.mk
  [(13, (vS key)), (6, .ptr 6 0 0), (4, .ptr 4 0 0), (0, .ptr 900 0 0)] [(902, Blk.mk true 0 0 [[(vI kk), (vI (0 : Int)), (vI (0 : Int)), (vI (0 : Int)), AV.e0, (vB
  false)]]), (901, Blk.mk true 0 0 [[.ptr 900 0 0]]), (900, Blk.mk true 0 0 [[(vS (F.cutT z.fst F.nl)), (vI (z.snd + (1 : Int)))]]), (890, Blk.mk false 46 7 (List.map eEnt
  es)), (6, Blk.mk true 0 0 [[(vI t), (vI f), (vI b), .own 890, (vB true)]]), (4, Blk.mk true 0 0 [[(vI (0 : Int)), (vI (0 : Int)), (vI (0 : Int)), AV.e0, (vB false)]])])
  else Option.bind (unenc encEnt ([.ptr 900 0 0, (vS (F.cutH z.fst F.nl)), (vS key)], [(900, Blk.mk true 0 0 [[(vS (F.cutT z.fst F.nl)), (vI (z.snd + (1 : Int)))]])])) fun
  (z : ByteArray × Int × ByteArray × ByteArray) => bif decide ((0 : Int) ≤ z.snd.fst) && decide (z.snd.fst + (↑(ByteArray.size z.fst) : Int) ≤ (900000 : Int)) && decide
  (ByteArray.size z.fst ≤ (500000 : Nat)) && decide (ByteArray.size z.snd.snd.fst ≤ (500000 : Nat)) then bif !(F.enL z.fst z.snd.fst (F.noE z.snd.snd.snd) z.snd.snd.fst
  z.snd.snd.snd (0 : Int)).fst then some (Ex.ret, St.mk [(5, (vB false)), (4, .ptr 4 0 0)] [(902, Blk.mk true 0 0 [[(vI kk), (vI (0 : Int)), (vI (0 : Int)), (vI (0 : Int)),
  AV.e0, (vB false)]]), (901, Blk.mk true 0 0 [[.ptr 900 0 0]]), (900, Blk.mk true 0 0 [[(vS (F.enL z.fst z.snd.fst (F.noE z.snd.snd.snd) z.snd.snd.fst z.snd.snd.snd (0 :
  Int)).snd.fst), (vI (F.enL z.fst z.snd.fst (F.noE z.snd.snd.snd) z.snd.snd.fst z.snd.snd.snd (0 : Int)).snd.snd.fst)]]), (890, Blk.mk false 46 7 (List.map eEnt es)), (4,
  Blk.mk true 0 0 [[(vI t), (vI f), (vI b), .own 890, (vB en)]])]) else bif Nat.ble ((List.length (List.map eEnt es) + (1 : Nat)) * (88 : Nat)) (140737488355328 : Nat) &&
  true then some (Ex.normal, St.mk [(13, (vS (F.enL z.fst z.snd.fst (F.noE z.snd.snd.snd) z.snd.snd.fst z.snd.snd.snd (0 : Int)).snd.snd.snd.key)), (6, .ptr 6 0 0), (4, .ptr
  4 0 0), (0, .ptr 900 0 0)] [(902, Blk.mk true 0 0 [[(vI kk), (vI (0 : Int)), (vI (0 : Int)), (vI (0 : Int)), AV.e0, (vB false)]]), (901, Blk.mk true 0 0 [[.ptr 900 0 0]]),
  (900, Blk.mk true 0 0 [[(vS (F.enL z.fst z.snd.fst (F.noE z.snd.snd.snd) z.snd.snd.fst z.snd.snd.snd (0 : Int)).snd.fst), (vI (F.enL z.fst z.snd.fst (F.noE z.snd.snd.snd)
  z.snd.snd.fst z.snd.snd.snd (0 : Int)).snd.snd.fst)]]), (890, Blk.mk false 46 7 (List.map eEnt es ++ [[(vS (F.enL z.fst z.snd.fst (F.noE z.snd.snd.snd) z.snd.snd.fst
  z.snd.snd.snd (0 : Int)).snd.snd.snd.uri), (vI (F.enL z.fst z.snd.fst (F.noE z.snd.snd.snd) z.snd.snd.fst z.snd.snd.snd (0 : Int)).snd.snd.snd.milli), (vB (F.enL z.fst
  z.snd.fst (F.noE z.snd.snd.snd) z.snd.snd.fst z.snd.snd.snd (0 : Int)).snd.snd.snd.brk), (vI (F.enL z.fst z.snd.fst (F.noE z.snd.snd.snd) z.snd.snd.fst z.snd.snd.snd (0 :
  Int)).snd.snd.snd.date), (vS (F.enL z.fst z.snd.fst (F.noE z.snd.snd.snd) z.snd.snd.fst z.snd.snd.snd (0 : Int)).snd.snd.snd.key), (vB (F.enL z.fst z.snd.fst (F.noE
  z.snd.snd.snd) z.snd.snd.fst z.snd.snd.snd (0 : Int)).snd.snd.snd.gap), AV.sl (List.map eStr (F.enL z.fst z.snd.fst (F.noE z.snd.snd.snd) z.snd.snd.fst z.snd.snd.snd (0 :
  Int)).snd.snd.snd.extra)]])), (6, Blk.mk true 0 0 [[(vI t), (vI f), (vI b), .own 890, (vB en)]]), (4, Blk.mk true 0 0 [[(vI (0 : Int)), (vI (0 : Int)), (vI (0 : Int)),
  AV.e0, (vB false)]])]) else none else none else none else some (Ex.exit (2 : Nat), St.mk [(6, .ptr 6 0 0), (4, .ptr 4 0 0)] [(902, Blk.mk true 0 0 [[(vI kk), (vI (0 :
  Int)), (vI (0 : Int)), (vI (0 : Int)), AV.e0, (vB false)]]), (901, Blk.mk true 0 0 [[.ptr 900 0 0]]), (900, Blk.mk true 0 0 [[(vS s), (vI n)]]), (890, Blk.mk false 46 7
  (List.map eEnt es)), (6, Blk.mk true 0 0 [[(vI t), (vI f), (vI b), .own 890, (vB en)]]), (4, Blk.mk true 0 0 [[(vI (0 : Int)), (vI (0 : Int)), (vI (0 : Int)), AV.e0, (vB
  false)]])]) := (execR_bind _ _ _).symm.trans (by kernel_rfl)

def stGk (s : ByteArray) (n : Int) : Nat → St
  | 0 => stGx s n 0 0 0 0
  | 1 => stGx (F.dr 1 s) (n + 1) 1 (F.hdV s F.wTg) 0 0
  | 2 => stGx (F.dr 2 s) (n + 1 + 1) 2 (F.hdV s F.wTg) (F.hdV (F.dr 1 s) F.wFi) 0
  | _ => stGx (F.dr 3 s) (n + 1 + 1 + 1) 3 (F.hdV s F.wTg) (F.hdV (F.dr 1 s) F.wFi) (F.hdV (F.dr 2 s) F.wBr)

def exGh (s : ByteArray) (n : Int) : Ex × St := (.exit 0, ⟨[(6, .ptr 6 0 0), (4, .ptr 4 0 0), (1, .fn 17 [.ptr 901 0 0, .ptr 902 0 0]), (0, .ptr 900 0 0)], [(902, ⟨true, 0, 0, [[vI 0, vI 0, vI 0, vI 0, .e0, vB false]]⟩), (901, ⟨true, 0, 0, [[.ptr 900 0 0]]⟩), (900, ⟨true, 0, 0, [[vS (F.dr 3 s), vI (n + 1 + 1 + 1)]]⟩), (6, ⟨true, 0, 0, [[vI (F.hdV s F.wTg), vI (F.hdV (F.dr 1 s) F.wFi), vI (F.hdV (F.dr 2 s) F.wBr), .e0, vB false]]⟩), (4, ⟨true, 0, 0, [[vI 0, vI 0, vI 0, .e0, vB false]]⟩)]⟩)

def rtGh (s : ByteArray) (n a b c : Int) : Ex × St := (.ret, ⟨[(5, vB false), (4, .ptr 4 0 0)], [(902, ⟨true, 0, 0, [[vI 0, vI 0, vI 0, vI 0, .e0, vB false]]⟩), (901, ⟨true, 0, 0, [[.ptr 900 0 0]]⟩), (900, ⟨true, 0, 0, [[vS s, vI n]]⟩), (4, ⟨true, 0, 0, [[vI a, vI b, vI c, .e0, vB false]]⟩)]⟩)

def outGk (s : ByteArray) (n : Int) : Nat → T (Ex × St)
  | 0 => .ifB (F.hdOk s F.wTg) (.ifB (F.hdOk (F.dr 1 s) F.wFi) (.ifB (F.hdOk (F.dr 2 s) F.wBr) (.ret (exGh s n)) (.ret (rtGh (F.dr 3 s) (n + 1 + 1 + 1) (F.hdV s F.wTg) (F.hdV (F.dr 1 s) F.wFi) 0))) (.ret (rtGh (F.dr 2 s) (n + 1 + 1) (F.hdV s F.wTg) 0 0))) (.ret (rtGh (F.dr 1 s) (n + 1) 0 0 0))
  | 1 => .ifB (F.hdOk (F.dr 1 s) F.wFi) (.ifB (F.hdOk (F.dr 2 s) F.wBr) (.ret (exGh s n)) (.ret (rtGh (F.dr 3 s) (n + 1 + 1 + 1) (F.hdV s F.wTg) (F.hdV (F.dr 1 s) F.wFi) 0))) (.ret (rtGh (F.dr 2 s) (n + 1 + 1) (F.hdV s F.wTg) 0 0))
  | 2 => .ifB (F.hdOk (F.dr 2 s) F.wBr) (.ret (exGh s n)) (.ret (rtGh (F.dr 3 s) (n + 1 + 1 + 1) (F.hdV s F.wTg) (F.hdV (F.dr 1 s) F.wFi) 0))
  | _ => .ret (exGh s n)

theorem lpGh_ok (s : ByteArray) (n : Int) (hp : prlGh s n = true) : ∀ ex s', (outGh s n).val = some (ex, s') → LoopOK enGd (loopN Tryd.f11 0) (stGh s n) ex s' := by
  simp only [prlGh, Bool.and_eq_true, decide_eq_true_eq] at hp
  obtain ⟨⟨h1, h2⟩, h3⟩ := hp
  have z1 := F.dr_size 1 s
  have z2 := F.dr_size 2 s
  have z3 := F.dr_size 3 s
  have wd1 : F.wTg.size ≤ 1000 := by decide
  have wd2 : F.wFi.size ≤ 1000 := by decide
  have wd3 : F.wBr.size ≤ 1000 := by decide
  refine loop_gen (st := stGk s n) (out := outGk s n) (I := fun k => k ≤ 3) (n := ([37, 36, 35, 6, 4, 1, 0], [902, 901, 900, 35, 6, 4])) (e := ([6, 4, 1, 0], [902, 901, 900, 6, 4])) (r := ([5, 4], [902, 901, 900, 4])) (fun k => 3 - k) ?_ 0 (by decide)
  intro k hk
  match k, hk with
  | 0, _ =>
    cases hc : F.hdOk s F.wTg
    · left
      refine ⟨rtGh (F.dr 1 s) (n + 1) 0 0 0, ?_, ifB_f hc, by simp [rtGh], rfl⟩
      show ((exec enGd (loopN Tryd.f11 0) (stGx s n 0 0 0 0)).bind _).val = _
      rw [evGh0]
      simp only [unMor, unTk, unHd, unEnt, unDk, preMor1, preTk1, preHd1, preEnt1, preDk1, unstGh, unstGl, prlGh, prlGl, outGh, outGl, etaEnt, etaLst, etaSnd, etaStrm, etaMas, Option.bind_some, List.length_map, unStrs, unInts, unBools, unEnts, unItms, unTrns, cond_true, cond_false, Bool.and_true, Bool.true_and, decide_eq_true h1, decide_eq_true h2, decide_eq_true (by omega : n ≤ 1000000), decide_eq_true wd1, hc]
      rfl
    · right
      refine ⟨1, ?_, rfl, by decide, by decide, (ifB_t hc).symm⟩
      show ((exec enGd (loopN Tryd.f11 0) (stGx s n 0 0 0 0)).bind _).val = _
      rw [evGh0]
      simp only [unMor, unTk, unHd, unEnt, unDk, preMor1, preTk1, preHd1, preEnt1, preDk1, unstGh, unstGl, prlGh, prlGl, outGh, outGl, etaEnt, etaLst, etaSnd, etaStrm, etaMas, Option.bind_some, List.length_map, unStrs, unInts, unBools, unEnts, unItms, unTrns, cond_true, cond_false, Bool.and_true, Bool.true_and, decide_eq_true h1, decide_eq_true h2, decide_eq_true (by omega : n ≤ 1000000), decide_eq_true wd1, hc]
      rfl
  | 1, _ =>
    cases hc : F.hdOk (F.dr 1 s) F.wFi
    · left
      refine ⟨rtGh (F.dr 2 s) (n + 1 + 1) (F.hdV s F.wTg) 0 0, ?_, ifB_f hc, by simp [rtGh], rfl⟩
      show ((exec enGd (loopN Tryd.f11 0) (stGx (F.dr 1 s) (n + 1) 1 (F.hdV s F.wTg) 0 0)).bind _).val = _
      rw [evGh1]
      simp only [unMor, unTk, unHd, unEnt, unDk, preMor1, preTk1, preHd1, preEnt1, preDk1, unstGh, unstGl, prlGh, prlGl, outGh, outGl, etaEnt, etaLst, etaSnd, etaStrm, etaMas, Option.bind_some, List.length_map, unStrs, unInts, unBools, unEnts, unItms, unTrns, cond_true, cond_false, Bool.and_true, Bool.true_and, decide_eq_true (by omega : (F.dr 1 s).size ≤ 500000), decide_eq_true (by omega : 0 ≤ n + 1), decide_eq_true (by omega : n + 1 ≤ 1000000), decide_eq_true wd2, hc]
      rfl
    · right
      refine ⟨2, ?_, rfl, by decide, by decide, (ifB_t hc).symm⟩
      show ((exec enGd (loopN Tryd.f11 0) (stGx (F.dr 1 s) (n + 1) 1 (F.hdV s F.wTg) 0 0)).bind _).val = _
      rw [evGh1]
      simp only [unMor, unTk, unHd, unEnt, unDk, preMor1, preTk1, preHd1, preEnt1, preDk1, unstGh, unstGl, prlGh, prlGl, outGh, outGl, etaEnt, etaLst, etaSnd, etaStrm, etaMas, Option.bind_some, List.length_map, unStrs, unInts, unBools, unEnts, unItms, unTrns, cond_true, cond_false, Bool.and_true, Bool.true_and, decide_eq_true (by omega : (F.dr 1 s).size ≤ 500000), decide_eq_true (by omega : 0 ≤ n + 1), decide_eq_true (by omega : n + 1 ≤ 1000000), decide_eq_true wd2, hc]
      rfl
  | 2, _ =>
    cases hc : F.hdOk (F.dr 2 s) F.wBr
    · left
      refine ⟨rtGh (F.dr 3 s) (n + 1 + 1 + 1) (F.hdV s F.wTg) (F.hdV (F.dr 1 s) F.wFi) 0, ?_, ifB_f hc, by simp [rtGh], rfl⟩
      show ((exec enGd (loopN Tryd.f11 0) (stGx (F.dr 2 s) (n + 1 + 1) 2 (F.hdV s F.wTg) (F.hdV (F.dr 1 s) F.wFi) 0)).bind _).val = _
      rw [evGh2]
      simp only [unMor, unTk, unHd, unEnt, unDk, preMor1, preTk1, preHd1, preEnt1, preDk1, unstGh, unstGl, prlGh, prlGl, outGh, outGl, etaEnt, etaLst, etaSnd, etaStrm, etaMas, Option.bind_some, List.length_map, unStrs, unInts, unBools, unEnts, unItms, unTrns, cond_true, cond_false, Bool.and_true, Bool.true_and, decide_eq_true (by omega : (F.dr 2 s).size ≤ 500000), decide_eq_true (by omega : 0 ≤ n + 1 + 1), decide_eq_true (by omega : n + 1 + 1 ≤ 1000000), decide_eq_true wd3, hc]
      rfl
    · right
      refine ⟨3, ?_, rfl, by decide, by decide, (ifB_t hc).symm⟩
      show ((exec enGd (loopN Tryd.f11 0) (stGx (F.dr 2 s) (n + 1 + 1) 2 (F.hdV s F.wTg) (F.hdV (F.dr 1 s) F.wFi) 0)).bind _).val = _
      rw [evGh2]
      simp only [unMor, unTk, unHd, unEnt, unDk, preMor1, preTk1, preHd1, preEnt1, preDk1, unstGh, unstGl, prlGh, prlGl, outGh, outGl, etaEnt, etaLst, etaSnd, etaStrm, etaMas, Option.bind_some, List.length_map, unStrs, unInts, unBools, unEnts, unItms, unTrns, cond_true, cond_false, Bool.and_true, Bool.true_and, decide_eq_true (by omega : (F.dr 2 s).size ≤ 500000), decide_eq_true (by omega : 0 ≤ n + 1 + 1), decide_eq_true (by omega : n + 1 + 1 ≤ 1000000), decide_eq_true wd3, hc]
      rfl
  | 3, _ =>
    left
    refine ⟨exGh s n, ?_, rfl, by simp [exGh], rfl⟩
    show ((exec enGd (loopN Tryd.f11 0) (stGx (F.dr 3 s) (n + 1 + 1 + 1) 3 (F.hdV s F.wTg) (F.hdV (F.dr 1 s) F.wFi) (F.hdV (F.dr 2 s) F.wBr))).bind _).val = _
    rw [evGh3]
    rfl

def outGo (t f b kk : Int) (r : Bool × ByteArray × Int × List Ent × Bool) : T (Ex × St) :=
  .ifB r.1
      (.ret (.exit 2, ⟨[(6, .ptr 6 0 0), (4, .ptr 4 0 0)], [(902, ⟨true, 0, 0, [[vI kk, vI 0, vI 0, vI 0, .e0, vB false]]⟩), (901, ⟨true, 0, 0, [[.ptr 900 0 0]]⟩), (900, ⟨true, 0, 0, [[vS r.2.1, vI r.2.2.1]]⟩), (890, ⟨false, 46, 7, r.2.2.2.1.map eEnt⟩), (6, ⟨true, 0, 0, [[vI t, vI f, vI b, .own 890, vB r.2.2.2.2]]⟩), (4, ⟨true, 0, 0, [[vI 0, vI 0, vI 0, .e0, vB false]]⟩)]⟩))
      (.ret (.ret, ⟨[(5, vB false), (4, .ptr 4 0 0)], [(902, ⟨true, 0, 0, [[vI kk, vI 0, vI 0, vI 0, .e0, vB false]]⟩), (901, ⟨true, 0, 0, [[.ptr 900 0 0]]⟩), (900, ⟨true, 0, 0, [[vS r.2.1, vI r.2.2.1]]⟩), (890, ⟨false, 46, 7, r.2.2.2.1.map eEnt⟩), (4, ⟨true, 0, 0, [[vI t, vI f, vI b, .own 890, vB r.2.2.2.2]]⟩)]⟩))

theorem lpGo_ok (s : ByteArray) (n : Int) (key : ByteArray) (es : List Ent) (en : Bool) (t f b kk : Int) (h1 : 0 ≤ n) (h2 : n + s.size ≤ 600000) (h3 : es.length + s.size ≤ 500000) :
    ∀ ex s', (outGo t f b kk (F.bdL s n key es en)).val = some (ex, s') → LoopOK enGd (loopN Tryd.f11 1) (stGo s n key es en t f b kk) ex s' := by
  refine loop_gen (st := fun p : ByteArray × Int × ByteArray × List Ent × Bool => stGo p.1 p.2.1 p.2.2.1 p.2.2.2.1 p.2.2.2.2 t f b kk) (out := fun p => outGo t f b kk (F.bdL p.1 p.2.1 p.2.2.1 p.2.2.2.1 p.2.2.2.2)) (I := fun p => 0 ≤ p.2.1 ∧ p.2.1 + p.1.size ≤ 600000 ∧ p.2.2.2.1.length + p.1.size ≤ 500000) (n := ([13, 6, 4, 0], [902, 901, 900, 890, 6, 4])) (e := ([6, 4], [902, 901, 900, 890, 6, 4])) (r := ([5, 4], [902, 901, 900, 890, 4])) (fun p => p.1.size) ?_ (s, n, key, es, en) ⟨h1, h2, h3⟩
  clear h1 h2 h3
  rintro ⟨s, n, key, es, en⟩ ⟨h1, h2, h3⟩
  simp only at h1 h2 h3
  have p1 : decide (s.size ≤ 500000) = true := decide_eq_true (by omega)
  have p2 : decide (0 ≤ n) = true := decide_eq_true h1
  have p3 : decide (n ≤ 1000000) = true := decide_eq_true (by omega)
  have z1 := F.cutT_size s F.nl
  have z2 := F.cutH_size s F.nl
  have p4 : decide (0 ≤ n + 1) = true := decide_eq_true (by omega)
  have p5 : decide (n + 1 + ((F.cutT s F.nl).size : Int) ≤ 900000) = true := decide_eq_true (by omega)
  have p6 : decide ((F.cutT s F.nl).size ≤ 500000) = true := decide_eq_true (by omega)
  have p7 : decide ((F.cutH s F.nl).size ≤ 500000) = true := decide_eq_true (by omega)
  have p8 : Nat.ble ((es.length + 1) * 88) 140737488355328 = true := ble_t (by omega)
  have q : ((F.cutH s F.nl).toList == (⟨⟨[35, 69, 78, 68]⟩⟩ : ByteArray).toList) = F.seq (F.cutH s F.nl) F.kEnd := rfl
  by_cases hz : s.size = 0
  · left
    refine ⟨(.exit 2, ⟨[(6, .ptr 6 0 0), (4, .ptr 4 0 0)], [(902, ⟨true, 0, 0, [[vI kk, vI 0, vI 0, vI 0, .e0, vB false]]⟩), (901, ⟨true, 0, 0, [[.ptr 900 0 0]]⟩), (900, ⟨true, 0, 0, [[vS s, vI n]]⟩), (890, ⟨false, 46, 7, es.map eEnt⟩), (6, ⟨true, 0, 0, [[vI t, vI f, vI b, .own 890, vB en]]⟩), (4, ⟨true, 0, 0, [[vI 0, vI 0, vI 0, .e0, vB false]]⟩)]⟩), ?_, ?_, by simp, rfl⟩
    · show ((exec enGd (loopN Tryd.f11 1) (stGo s n key es en t f b kk)).bind _).val = _
      rw [evGo]
      simp only [unMor, unTk, unHd, unEnt, unDk, preMor1, preTk1, preHd1, preEnt1, preDk1, unstGh, unstGl, prlGh, prlGl, outGh, outGl, etaEnt, etaLst, etaSnd, etaStrm, etaMas, Option.bind_some, List.length_map, unStrs, unInts, unBools, unEnts, unItms, unTrns, cond_true, cond_false, Bool.and_true, Bool.true_and, decide_eq_false (by omega : ¬ s.size ≠ 0)]
    · simp only [F.bdL_end hz]
      rfl
  cases hn : (!F.cutF s F.nl || en)
  case true =>
    left
    refine ⟨(.ret, ⟨[(5, vB false), (4, .ptr 4 0 0)], [(902, ⟨true, 0, 0, [[vI kk, vI 0, vI 0, vI 0, .e0, vB false]]⟩), (901, ⟨true, 0, 0, [[.ptr 900 0 0]]⟩), (900, ⟨true, 0, 0, [[vS (F.cutT s F.nl), vI (n + 1)]]⟩), (890, ⟨false, 46, 7, es.map eEnt⟩), (4, ⟨true, 0, 0, [[vI t, vI f, vI b, .own 890, vB en]]⟩)]⟩), ?_, ?_, by simp, rfl⟩
    · show ((exec enGd (loopN Tryd.f11 1) (stGo s n key es en t f b kk)).bind _).val = _
      rw [evGo]
      simp only [unMor, unTk, unHd, unEnt, unDk, preMor1, preTk1, preHd1, preEnt1, preDk1, unstGh, unstGl, prlGh, prlGl, outGh, outGl, etaEnt, etaLst, etaSnd, etaStrm, etaMas, Option.bind_some, List.length_map, unStrs, unInts, unBools, unEnts, unItms, unTrns, cond_true, cond_false, Bool.and_true, Bool.true_and, decide_eq_true hz, p1, p2, p3]
      cases hc : F.cutF s F.nl
      · rfl
      · rw [hc] at hn
        have he : en = true := hn
        rw [he]
        rfl
    · simp only [F.bdL_no hz hn]
      rfl
  have hnn : F.cutF s F.nl = true ∧ en = false := by cases hc : F.cutF s F.nl <;> cases he : en <;> rw [hc, he] at hn <;> simp_all
  have z3 := F.cutT_lt F.nl_one hz
  cases hq : F.seq (F.cutH s F.nl) F.kEnd
  case true =>
    right
    refine ⟨(F.cutT s F.nl, n + 1, key, es, true), ?_, rfl, ⟨by simp only; omega, by simp only; omega, by simp only; omega⟩, by simp only; omega, ?_⟩
    · show ((exec enGd (loopN Tryd.f11 1) (stGo s n key es en t f b kk)).bind _).val = _
      rw [evGo]
      simp only [unMor, unTk, unHd, unEnt, unDk, preMor1, preTk1, preHd1, preEnt1, preDk1, unstGh, unstGl, prlGh, prlGl, outGh, outGl, etaEnt, etaLst, etaSnd, etaStrm, etaMas, Option.bind_some, List.length_map, unStrs, unInts, unBools, unEnts, unItms, unTrns, cond_true, cond_false, Bool.and_true, Bool.true_and, decide_eq_true hz, p1, p2, p3, q, hq, hnn.1, hnn.2, stGo]
      rfl
    · simp only [F.bdL_last hz hn hq]
  generalize hr : F.enL (F.cutT s F.nl) (n + 1) (F.noE key) (F.cutH s F.nl) key 0 = r
  have hle := F.enL_le _ (F.cutT s F.nl) (n + 1) (F.noE key) (F.cutH s F.nl) key 0 (Nat.le_refl _)
  rw [hr] at hle
  obtain ⟨l1, l2, l3, l4⟩ := hle
  have hlo := F.enL_ok _ (F.cutT s F.nl) (n + 1) (F.noE key) (F.cutH s F.nl) key 0 (Nat.le_refl _)
  rw [hr] at hlo
  cases ho : r.1
  · left
    refine ⟨(.ret, ⟨[(5, vB false), (4, .ptr 4 0 0)], [(902, ⟨true, 0, 0, [[vI kk, vI 0, vI 0, vI 0, .e0, vB false]]⟩), (901, ⟨true, 0, 0, [[.ptr 900 0 0]]⟩), (900, ⟨true, 0, 0, [[vS r.2.1, vI r.2.2.1]]⟩), (890, ⟨false, 46, 7, es.map eEnt⟩), (4, ⟨true, 0, 0, [[vI t, vI f, vI b, .own 890, vB en]]⟩)]⟩), ?_, ?_, by simp, rfl⟩
    · show ((exec enGd (loopN Tryd.f11 1) (stGo s n key es en t f b kk)).bind _).val = _
      rw [evGo]
      simp only [unMor, unTk, unHd, unEnt, unDk, preMor1, preTk1, preHd1, preEnt1, preDk1, unstGh, unstGl, prlGh, prlGl, outGh, outGl, etaEnt, etaLst, etaSnd, etaStrm, etaMas, Option.bind_some, List.length_map, unStrs, unInts, unBools, unEnts, unItms, unTrns, cond_true, cond_false, Bool.and_true, Bool.true_and, decide_eq_true hz, p1, p2, p3, p4, p5, p6, p7, q, hq, hnn.1, hnn.2, hr, ho]
      rfl
    · simp only [F.bdL_bad hz hn hq hr ho]
      rfl
  · right
    have hlo := hlo ho
    refine ⟨(r.2.1, r.2.2.1, r.2.2.2.key, es ++ [r.2.2.2], en), ?_, rfl, ⟨by simp only; omega, by simp only; omega, by simp only [List.length_append, List.length_singleton]; omega⟩, by simp only; omega, ?_⟩
    · show ((exec enGd (loopN Tryd.f11 1) (stGo s n key es en t f b kk)).bind _).val = _
      rw [evGo]
      simp only [unMor, unTk, unHd, unEnt, unDk, preMor1, preTk1, preHd1, preEnt1, preDk1, unstGh, unstGl, prlGh, prlGl, outGh, outGl, etaEnt, etaLst, etaSnd, etaStrm, etaMas, Option.bind_some, List.length_map, unStrs, unInts, unBools, unEnts, unItms, unTrns, cond_true, cond_false, Bool.and_true, Bool.true_and, decide_eq_true hz, p1, p2, p3, p4, p5, p6, p7, p8, q, hq, hnn.1, hnn.2, hr, ho, stGo]
      rw [List.map_append]
      rfl
    · simp only [F.bdL_go hz hn hq hr ho]

theorem lpGl_ok (s : ByteArray) (n : Int) (t : Int) (f : Int) (b : Int) (kk : Int) (hp : prlGl s n t f b kk = true) : ∀ ex s', (outGl s n t f b kk).val = some (ex, s') → LoopOK enGd (loopN Tryd.f11 1) (stGl s n t f b kk) ex s' := by
  simp only [prlGl, Bool.and_eq_true, decide_eq_true_eq] at hp
  obtain ⟨⟨h1, h2⟩, h3⟩ := hp
  intro ex s' h
  refine .own 6 3 890 46 7 rfl ?_
  exact lpGo_ok s n ⟨⟨[]⟩⟩ [] false t f b kk h2 (by omega) (by show 0 + s.size ≤ _; omega) ex s' h

end M
end Go.Proofs.YtllagmepnmdeoaaDoor
