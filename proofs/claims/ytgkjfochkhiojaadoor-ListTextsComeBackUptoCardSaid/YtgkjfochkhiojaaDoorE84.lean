/- What is proved here: how the program takes the headings and the entries of a list's text (no statement of the seat). -/
import Derived.Test.YtgkjfochkhiojaaDoorE83
namespace Go.Proofs.YtgkjfochkhiojaaDoor
open Go Go.RowKit
set_option linter.unusedVariables false
set_option linter.unusedSimpArgs false

namespace M


theorem evRcl  : (runF en0 false Tryd.f12 []).val =
  some ((vB true), []) := (runFR_val).symm.trans (by kernel_rfl)

def encRcl1  : List AV := []

def encRcl (a : Unit) : List AV := encRcl1

theorem encRcl_inj (a a' : Unit) (h : encRcl a = encRcl a') : a = a' := rfl

theorem unRcl  : unenc encRcl ([]) = some () := unenc_of encRcl_inj () rfl

def resRcl1  : AV × Heap := (vB true, [])

def preRcl1  : Bool := true

noncomputable def oRcl : Orc := orc 12 true encRcl (fun a => preRcl1) fun a => resRcl1

theorem okRcl : OrcOK Tryd.prog noG oRcl := by
  refine mk_ok Tryd.f12 (keep := false) (by kernel_rfl) (by kernel_rfl) en0_ok mixed (no_loops (by kernel_rfl)) (by first | exact fun _ _ => ⟨rfl, rfl⟩ | (intro h; cases h)) ?_
  rintro ⟨⟩ hpre hok
  show (runF en0 false _ (encRcl1 )).val = some (resRcl1 )
  unfold encRcl1 resRcl1
  rw [evRcl]
  try rfl

def stHh (s : ByteArray) (n : Int) : St := ⟨[(37, vI 0), (36, vI ((3 : Nat) : Int)), (35, .win 35 0 3), (6, .ptr 6 0 0), (4, .ptr 4 0 0), (1, .fn 12 []), (0, .ptr 900 0 0)], [(900, ⟨true, 0, 0, [[vS s, vI n]]⟩), (35, ⟨true, 67, 2, [[vS F.wTg, .ptr 6 0 0], [vS F.wFi, .ptr 6 0 1], [vS F.wBr, .ptr 6 0 2]]⟩), (6, ⟨true, 0, 0, [[vI 0, vI 0, vI 0, .e0, vB false]]⟩), (4, ⟨true, 0, 0, [[vI 0, vI 0, vI 0, .e0, vB false]]⟩)]⟩

def stHh1 (a : ByteArray × Int) : St := stHh a.1 a.2

theorem stHh_inj (a a' : ByteArray × Int) (h : stHh1 a = stHh1 a') : a = a' := by
  simp only [stHh1, stHh] at h
  try simp [strs_inj, ints_inj, ents_inj, eEnt_iff, eLst_iff, eSnds_inj, eStrms_inj] at h
  grind

theorem unstHh (s : ByteArray) (n : Int) : unenc stHh1 (St.mk [(37, (vI (0 : Int))), (36, (vI (↑(3 : Nat) : Int))), (35, AV.win (35 : Nat) (0 : Nat) (3 : Nat)), (6, .ptr 6 0 0), (4, .ptr 4 0 0), (1, AV.fn (12 : FuncId) []), (0,
  .ptr 900 0 0)] [(900, Blk.mk true 0 0 [[(vS s), (vI n)]]), (35, Blk.mk true 67 2 [[(vS F.wTg), .ptr 6 0 0], [(vS F.wFi), .ptr 6 0 1], [(vS F.wBr), .ptr 6 0 2]]), (6,
  Blk.mk true 0 0 [[(vI (0 : Int)), (vI (0 : Int)), (vI (0 : Int)), AV.e0, (vB false)]]), (4, Blk.mk true 0 0 [[(vI (0 : Int)), (vI (0 : Int)), (vI (0 : Int)), AV.e0, (vB
  false)]])]) = some (s, n) := unenc_of stHh_inj (s, n) rfl

def outHh (s : ByteArray) (n : Int) : T (Ex × St) := .ifB (F.hdOk s F.wTg) (.ifB (F.hdOk (F.dr 1 s) F.wFi) (.ifB (F.hdOk (F.dr 2 s) F.wBr)
      (.ret (.exit 0, ⟨[(6, .ptr 6 0 0), (4, .ptr 4 0 0), (1, .fn 12 []), (0, .ptr 900 0 0)], [(900, ⟨true, 0, 0, [[vS (F.dr 3 s), vI (n + 1 + 1 + 1)]]⟩), (6, ⟨true, 0, 0, [[vI (F.hdV s F.wTg), vI (F.hdV (F.dr 1 s) F.wFi), vI (F.hdV (F.dr 2 s) F.wBr), .e0, vB false]]⟩), (4, ⟨true, 0, 0, [[vI 0, vI 0, vI 0, .e0, vB false]]⟩)]⟩))
      (.ret (.ret, ⟨[(5, vB false), (4, .ptr 4 0 0)], [(900, ⟨true, 0, 0, [[vS (F.dr 3 s), vI (n + 1 + 1 + 1)]]⟩), (4, ⟨true, 0, 0, [[vI (F.hdV s F.wTg), vI (F.hdV (F.dr 1 s) F.wFi), vI 0, .e0, vB false]]⟩)]⟩)))
      (.ret (.ret, ⟨[(5, vB false), (4, .ptr 4 0 0)], [(900, ⟨true, 0, 0, [[vS (F.dr 2 s), vI (n + 1 + 1)]]⟩), (4, ⟨true, 0, 0, [[vI (F.hdV s F.wTg), vI 0, vI 0, .e0, vB false]]⟩)]⟩)))
      (.ret (.ret, ⟨[(5, vB false), (4, .ptr 4 0 0)], [(900, ⟨true, 0, 0, [[vS (F.dr 1 s), vI (n + 1)]]⟩), (4, ⟨true, 0, 0, [[vI 0, vI 0, vI 0, .e0, vB false]]⟩)]⟩))

noncomputable def prlHh (s : ByteArray) (n : Int) : Bool := decide (s.size ≤ 500000) && decide (0 ≤ n) && decide (n ≤ 100)

noncomputable def lpHh : Nat × (St → T (Ex × St)) := (6, lpo [37, 36, 35, 6, 4, 1, 0] [900, 35, 6, 4] stHh1 (fun a => prlHh a.1 a.2) fun a => outHh a.1 a.2)

def stBl (s : ByteArray) (n : Int) (t : Int) (f : Int) (b : Int) : St := ⟨[(13, vS ⟨⟨[]⟩⟩), (6, .ptr 6 0 0), (4, .ptr 4 0 0), (0, .ptr 900 0 0)], [(900, ⟨true, 0, 0, [[vS s, vI n]]⟩), (6, ⟨true, 0, 0, [[vI t, vI f, vI b, .e0, vB false]]⟩), (4, ⟨true, 0, 0, [[vI 0, vI 0, vI 0, .e0, vB false]]⟩)]⟩

def stBl1 (a : ByteArray × Int × Int × Int × Int) : St := stBl a.1 a.2.1 a.2.2.1 a.2.2.2.1 a.2.2.2.2

theorem stBl_inj (a a' : ByteArray × Int × Int × Int × Int) (h : stBl1 a = stBl1 a') : a = a' := by
  simp only [stBl1, stBl] at h
  try simp [strs_inj, ints_inj, ents_inj, eEnt_iff, eLst_iff, eSnds_inj, eStrms_inj] at h
  grind

theorem unstBl (s : ByteArray) (n : Int) (t : Int) (f : Int) (b : Int) : unenc stBl1 (St.mk [(13, (vS (ByteArray.mk (Array.mk [])))), (6, .ptr 6 0 0), (4, .ptr 4 0 0), (0, .ptr 900 0 0)] [(900, Blk.mk true 0 0 [[(vS s), (vI n)]]), (6, Blk.mk true 0 0 [[(vI
  t), (vI f), (vI b), AV.e0, (vB false)]]), (4, Blk.mk true 0 0 [[(vI (0 : Int)), (vI (0 : Int)), (vI (0 : Int)), AV.e0, (vB false)]])]) = some (s, n, t, f, b) := unenc_of stBl_inj (s, n, t, f, b) rfl

def outBl (s : ByteArray) (n : Int) (t : Int) (f : Int) (b : Int) : T (Ex × St) := .ifB (F.bdL s n ⟨⟨[]⟩⟩ [] false).1
      (.ret (.exit 2, ⟨[(6, .ptr 6 0 0), (4, .ptr 4 0 0)], [(900, ⟨true, 0, 0, [[vS (F.bdL s n ⟨⟨[]⟩⟩ [] false).2.1, vI (F.bdL s n ⟨⟨[]⟩⟩ [] false).2.2.1]]⟩), (890, ⟨false, 44, 7, (F.bdL s n ⟨⟨[]⟩⟩ [] false).2.2.2.1.map eEnt⟩), (6, ⟨true, 0, 0, [[vI t, vI f, vI b, .own 890, vB (F.bdL s n ⟨⟨[]⟩⟩ [] false).2.2.2.2]]⟩), (4, ⟨true, 0, 0, [[vI 0, vI 0, vI 0, .e0, vB false]]⟩)]⟩))
      (.ret (.ret, ⟨[(5, vB false), (4, .ptr 4 0 0)], [(900, ⟨true, 0, 0, [[vS (F.bdL s n ⟨⟨[]⟩⟩ [] false).2.1, vI (F.bdL s n ⟨⟨[]⟩⟩ [] false).2.2.1]]⟩), (890, ⟨false, 44, 7, (F.bdL s n ⟨⟨[]⟩⟩ [] false).2.2.2.1.map eEnt⟩), (4, ⟨true, 0, 0, [[vI t, vI f, vI b, .own 890, vB (F.bdL s n ⟨⟨[]⟩⟩ [] false).2.2.2.2]]⟩)]⟩))

noncomputable def prlBl (s : ByteArray) (n : Int) (t : Int) (f : Int) (b : Int) : Bool := decide (s.size ≤ 500000) && decide (0 ≤ n) && decide (n ≤ 100)

noncomputable def lpBl : Nat × (St → T (Ex × St)) := (16, lpo [13, 6, 4, 0] [900, 6, 4] stBl1 (fun a => prlBl a.1 a.2.1 a.2.2.1 a.2.2.2.1 a.2.2.2.2) fun a => outBl a.1 a.2.1 a.2.2.1 a.2.2.2.1 a.2.2.2.2)

noncomputable def enBd : Env := envH ty noG lks [oMor, oRcl] [oTk, oHd, oEnt] [890, 35] [lpHh, lpBl]

theorem enBd_ok : EnvOK Tryd.prog enBd := by
  refine envH_ok lks_ok ty_ok ?_ ?_
  · simp only [List.forall_mem_cons]
    exact ⟨okMor, okRcl, by simp⟩
  · simp only [List.forall_mem_cons]
    exact ⟨okTk, okHd, okEnt, by simp⟩

def stHx (s : ByteArray) (n : Int) (k a b c : Int) : St := ⟨[(37, vI k), (36, vI ((3 : Nat) : Int)), (35, .win 35 0 3), (6, .ptr 6 0 0), (4, .ptr 4 0 0), (1, .fn 12 []), (0, .ptr 900 0 0)], [(900, ⟨true, 0, 0, [[vS s, vI n]]⟩), (35, ⟨true, 67, 2, [[vS F.wTg, .ptr 6 0 0], [vS F.wFi, .ptr 6 0 1], [vS F.wBr, .ptr 6 0 2]]⟩), (6, ⟨true, 0, 0, [[vI a, vI b, vI c, .e0, vB false]]⟩), (4, ⟨true, 0, 0, [[vI 0, vI 0, vI 0, .e0, vB false]]⟩)]⟩

theorem evHh0 (s : ByteArray) (n : Int) (a b c : Int) : ((exec enBd (loopN Tryd.f11 0) (stHx s n 0 a b c)).bind (lessX ([37, 36, 35, 6, 4, 1, 0], [900, 35, 6, 4]) ([6, 4, 1, 0], [900, 6, 4]) ([5, 4], [900, 4]))).val =
  Option.bind (unenc encHd ([.ptr 900 0 0, (vS F.wTg)], [(900, Blk.mk true 0 0 [[(vS s), (vI n)]])])) fun (z : ByteArray × Int × ByteArray) => bif decide (ByteArray.size
  z.fst ≤ (500000 : Nat)) && decide ((0 : Int) ≤ z.snd.fst) && decide (z.snd.fst ≤ (1000000 : Int)) && decide (ByteArray.size z.snd.snd ≤ (1000 : Nat)) then bif !F.hdOk
  z.fst z.snd.snd then some (Ex.ret, St.mk [(5, (vB false)), (4, .ptr 4 0 0)] [(900, Blk.mk true 0 0 [[(vS (F.cutT z.fst F.nl)), (vI (z.snd.fst + (1 : Int)))]]), (4, Blk.mk
  true 0 0 [[(vI a), (vI b), (vI c), AV.e0, (vB false)]])]) else some (Ex.normal, St.mk [(37, (vI (IntKind.wrap IntKind.i64 ((0 : Int) + (1 : Int))))), (36, (vI (↑(3 : Nat)
  : Int))), (35, AV.win (35 : Nat) (0 : Nat) (3 : Nat)), (6, .ptr 6 0 0), (4, .ptr 4 0 0), (1, AV.fn (12 : FuncId) []), (0, .ptr 900 0 0)] [(900, Blk.mk true 0 0 [[(vS
  (F.cutT z.fst F.nl)), (vI (z.snd.fst + (1 : Int)))]]), (35, Blk.mk true 67 2 [[(vS F.wTg), .ptr 6 0 0], [(vS F.wFi), .ptr 6 0 1], [(vS F.wBr), .ptr 6 0 2]]), (6, Blk.mk
  true 0 0 [[(vI (F.hdV z.fst z.snd.snd)), (vI b), (vI c), AV.e0, (vB false)]]), (4, Blk.mk true 0 0 [[(vI (0 : Int)), (vI (0 : Int)), (vI (0 : Int)), AV.e0, (vB false)]])])
  else none := (execR_bind _ _ _).symm.trans (by kernel_rfl)

theorem evHh1 (s : ByteArray) (n : Int) (a b c : Int) : ((exec enBd (loopN Tryd.f11 0) (stHx s n 1 a b c)).bind (lessX ([37, 36, 35, 6, 4, 1, 0], [900, 35, 6, 4]) ([6, 4, 1, 0], [900, 6, 4]) ([5, 4], [900, 4]))).val =
  Option.bind (unenc encHd ([.ptr 900 0 0, (vS F.wFi)], [(900, Blk.mk true 0 0 [[(vS s), (vI n)]])])) fun (z : ByteArray × Int × ByteArray) => bif decide (ByteArray.size
  z.fst ≤ (500000 : Nat)) && decide ((0 : Int) ≤ z.snd.fst) && decide (z.snd.fst ≤ (1000000 : Int)) && decide (ByteArray.size z.snd.snd ≤ (1000 : Nat)) then bif !F.hdOk
  z.fst z.snd.snd then some (Ex.ret, St.mk [(5, (vB false)), (4, .ptr 4 0 0)] [(900, Blk.mk true 0 0 [[(vS (F.cutT z.fst F.nl)), (vI (z.snd.fst + (1 : Int)))]]), (4, Blk.mk
  true 0 0 [[(vI a), (vI b), (vI c), AV.e0, (vB false)]])]) else some (Ex.normal, St.mk [(37, (vI (IntKind.wrap IntKind.i64 ((1 : Int) + (1 : Int))))), (36, (vI (↑(3 : Nat)
  : Int))), (35, AV.win (35 : Nat) (0 : Nat) (3 : Nat)), (6, .ptr 6 0 0), (4, .ptr 4 0 0), (1, AV.fn (12 : FuncId) []), (0, .ptr 900 0 0)] [(900, Blk.mk true 0 0 [[(vS
  (F.cutT z.fst F.nl)), (vI (z.snd.fst + (1 : Int)))]]), (35, Blk.mk true 67 2 [[(vS F.wTg), .ptr 6 0 0], [(vS F.wFi), .ptr 6 0 1], [(vS F.wBr), .ptr 6 0 2]]), (6, Blk.mk
  true 0 0 [[(vI a), (vI (F.hdV z.fst z.snd.snd)), (vI c), AV.e0, (vB false)]]), (4, Blk.mk true 0 0 [[(vI (0 : Int)), (vI (0 : Int)), (vI (0 : Int)), AV.e0, (vB false)]])])
  else none := (execR_bind _ _ _).symm.trans (by kernel_rfl)

theorem evHh2 (s : ByteArray) (n : Int) (a b c : Int) : ((exec enBd (loopN Tryd.f11 0) (stHx s n 2 a b c)).bind (lessX ([37, 36, 35, 6, 4, 1, 0], [900, 35, 6, 4]) ([6, 4, 1, 0], [900, 6, 4]) ([5, 4], [900, 4]))).val =
  Option.bind (unenc encHd ([.ptr 900 0 0, (vS F.wBr)], [(900, Blk.mk true 0 0 [[(vS s), (vI n)]])])) fun (z : ByteArray × Int × ByteArray) => bif decide (ByteArray.size
  z.fst ≤ (500000 : Nat)) && decide ((0 : Int) ≤ z.snd.fst) && decide (z.snd.fst ≤ (1000000 : Int)) && decide (ByteArray.size z.snd.snd ≤ (1000 : Nat)) then bif !F.hdOk
  z.fst z.snd.snd then some (Ex.ret, St.mk [(5, (vB false)), (4, .ptr 4 0 0)] [(900, Blk.mk true 0 0 [[(vS (F.cutT z.fst F.nl)), (vI (z.snd.fst + (1 : Int)))]]), (4, Blk.mk
  true 0 0 [[(vI a), (vI b), (vI c), AV.e0, (vB false)]])]) else some (Ex.normal, St.mk [(37, (vI (IntKind.wrap IntKind.i64 ((2 : Int) + (1 : Int))))), (36, (vI (↑(3 : Nat)
  : Int))), (35, AV.win (35 : Nat) (0 : Nat) (3 : Nat)), (6, .ptr 6 0 0), (4, .ptr 4 0 0), (1, AV.fn (12 : FuncId) []), (0, .ptr 900 0 0)] [(900, Blk.mk true 0 0 [[(vS
  (F.cutT z.fst F.nl)), (vI (z.snd.fst + (1 : Int)))]]), (35, Blk.mk true 67 2 [[(vS F.wTg), .ptr 6 0 0], [(vS F.wFi), .ptr 6 0 1], [(vS F.wBr), .ptr 6 0 2]]), (6, Blk.mk
  true 0 0 [[(vI a), (vI b), (vI (F.hdV z.fst z.snd.snd)), AV.e0, (vB false)]]), (4, Blk.mk true 0 0 [[(vI (0 : Int)), (vI (0 : Int)), (vI (0 : Int)), AV.e0, (vB false)]])])
  else none := (execR_bind _ _ _).symm.trans (by kernel_rfl)

theorem evHh3 (s : ByteArray) (n : Int) (a b c : Int) : ((exec enBd (loopN Tryd.f11 0) (stHx s n 3 a b c)).bind (lessX ([37, 36, 35, 6, 4, 1, 0], [900, 35, 6, 4]) ([6, 4, 1, 0], [900, 6, 4]) ([5, 4], [900, 4]))).val =
  some (Ex.exit (0 : Nat), St.mk [(6, .ptr 6 0 0), (4, .ptr 4 0 0), (1, AV.fn (12 : FuncId) []), (0, .ptr 900 0 0)] [(900, Blk.mk true 0 0 [[(vS s), (vI n)]]), (6, Blk.mk
  true 0 0 [[(vI a), (vI b), (vI c), AV.e0, (vB false)]]), (4, Blk.mk true 0 0 [[(vI (0 : Int)), (vI (0 : Int)), (vI (0 : Int)), AV.e0, (vB false)]])]) := (execR_bind _ _ _).symm.trans (by kernel_rfl)

def stBo (s : ByteArray) (n : Int) (key : ByteArray) (es : List Ent) (en : Bool) (t f b : Int) : St := ⟨[(13, vS key), (6, .ptr 6 0 0), (4, .ptr 4 0 0), (0, .ptr 900 0 0)], [(900, ⟨true, 0, 0, [[vS s, vI n]]⟩), (890, ⟨false, 44, 7, es.map eEnt⟩), (6, ⟨true, 0, 0, [[vI t, vI f, vI b, .own 890, vB en]]⟩), (4, ⟨true, 0, 0, [[vI 0, vI 0, vI 0, .e0, vB false]]⟩)]⟩

theorem evBo (s : ByteArray) (n : Int) (key : ByteArray) (es : List Ent) (en : Bool) (t f b : Int) : ((exec enBd (loopN Tryd.f11 1) (stBo s n key es en t f b)).bind (lessX ([13, 6, 4, 0], [900, 890, 6, 4]) ([6, 4], [900, 890, 6, 4]) ([5, 4], [900, 890, 4]))).val =
  Option.bind (unenc encMor [AV.pel [(vS s), (vI n)] (0 : Nat)]) fun (z : ByteArray × Int) => bif decide (ByteArray.size z.fst ≠ (0 : Nat)) then Option.bind (unenc encTk
  ([.ptr 900 0 0], [(900, Blk.mk true 0 0 [[(vS s), (vI n)]])])) fun (z : ByteArray × Int) => bif decide (ByteArray.size z.fst ≤ (500000 : Nat)) && decide ((0 : Int) ≤
  z.snd) && decide (z.snd ≤ (1000000 : Int)) then bif bif !F.cutF z.fst F.nl then true else en then some (Ex.ret, St.mk [(5, (vB false)), (4, .ptr 4 0 0)] [(900, Blk.mk true
  0 0 [[(vS (F.cutT z.fst F.nl)), (vI (z.snd + (1 : Int)))]]), (890, Blk.mk false 44 7 (List.map eEnt es)), (4, Blk.mk true 0 0 [[(vI t), (vI f), (vI b), .own 890, (vB
  en)]])]) else bif ByteArray.toList (F.cutH z.fst F.nl) == ByteArray.toList (ByteArray.mk (Array.mk [(35 : UInt8), (69 : UInt8), (78 : UInt8), (68 : UInt8)])) then some
  (Ex.normal, St.mk [(13, (vS key)), (6, .ptr 6 0 0), (4, .ptr 4 0 0), (0, .ptr 900 0 0)] [(900, Blk.mk true 0 0 [[(vS (F.cutT z.fst F.nl)), (vI (z.snd + (1 : Int)))]]),
  (890, Blk.mk false 44 7 (List.map eEnt es)), (6, Blk.mk true 0 0 [[(vI t), (vI f), (vI b), .own 890, (vB true)]]), (4, Blk.mk true 0 0 [[(vI (0 : Int)), (vI (0 : Int)),
  (vI (0 : Int)), AV.e0, (vB false)]])]) else Option.bind (unenc encEnt ([.ptr 900 0 0, (vS (F.cutH z.fst F.nl)), (vS key)], [(900, Blk.mk true 0 0 [[(vS (F.cutT z.fst
  F.nl)), (vI (z.snd + (1 : Int)))]])])) fun (z : ByteArray × Int × ByteArray × ByteArray) => bif decide ((0 : Int) ≤ z.snd.fst) && decide (z.snd.fst + (↑(ByteArray.size
  z.fst) : Int) ≤ (900000 : Int)) && decide (ByteArray.size z.fst ≤ (500000 : Nat)) && decide (ByteArray.size z.snd.snd.fst ≤ (500000 : Nat)) then bif !(F.enL z.fst
  z.snd.fst (F.noE z.snd.snd.snd) z.snd.snd.fst z.snd.snd.snd (0 : Int)).fst then some (Ex.ret, St.mk [(5, (vB false)), (4, .ptr 4 0 0)] [(900, Blk.mk true 0 0 [[(vS (F.enL
  z.fst z.snd.fst (F.noE z.snd.snd.snd) z.snd.snd.fst z.snd.snd.snd (0 : Int)).snd.fst), (vI (F.enL z.fst z.snd.fst (F.noE z.snd.snd.snd) z.snd.snd.fst z.snd.snd.snd (0 :
  Int)).snd.snd.fst)]]), (890, Blk.mk false 44 7 (List.map eEnt es)), (4, Blk.mk true 0 0 [[(vI t), (vI f), (vI b), .own 890, (vB en)]])]) else bif Nat.ble ((List.length
  (List.map eEnt es) + (1 : Nat)) * (88 : Nat)) (140737488355328 : Nat) && true then some (Ex.normal, St.mk [(13, (vS (F.enL z.fst z.snd.fst (F.noE z.snd.snd.snd)
  z.snd.snd.fst z.snd.snd.snd (0 : Int)).snd.snd.snd.key)), (6, .ptr 6 0 0), (4, .ptr 4 0 0), (0, .ptr 900 0 0)] [(900, Blk.mk true 0 0 [[(vS (F.enL z.fst z.snd.fst (F.noE
  z.snd.snd.snd) z.snd.snd.fst z.snd.snd.snd (0 : Int)).snd.fst), (vI (F.enL z.fst z.snd.fst (F.noE z.snd.snd.snd) z.snd.snd.fst z.snd.snd.snd (0 : Int)).snd.snd.fst)]]),
  (890, Blk.mk false 44 7 (List.map eEnt es ++ [[(vS (F.enL z.fst z.snd.fst (F.noE z.snd.snd.snd) z.snd.snd.fst z.snd.snd.snd (0 : Int)).snd.snd.snd.uri), (vI (F.enL z.fst
  z.snd.fst (F.noE z.snd.snd.snd) z.snd.snd.fst z.snd.snd.snd (0 : Int)).snd.snd.snd.milli), (vB (F.enL z.fst z.snd.fst (F.noE z.snd.snd.snd) z.snd.snd.fst z.snd.snd.snd (0
  : Int)).snd.snd.snd.brk), (vI (F.enL z.fst z.snd.fst (F.noE z.snd.snd.snd) z.snd.snd.fst z.snd.snd.snd (0 : Int)).snd.snd.snd.date), (vS (F.enL z.fst z.snd.fst (F.noE
  z.snd.snd.snd) z.snd.snd.fst z.snd.snd.snd (0 : Int)).snd.snd.snd.key), (vB (F.enL z.fst z.snd.fst (F.noE z.snd.snd.snd) z.snd.snd.fst z.snd.snd.snd (0 :
  Int)).snd.snd.snd.gap), AV.sl (List.map eStr (F.enL z.fst z.snd.fst (F.noE z.snd.snd.snd) z.snd.snd.fst z.snd.snd.snd (0 : Int)).snd.snd.snd.extra)]])), (6, Blk.mk true 0
  0 [[(vI t), (vI f), (vI b), .own 890, (vB en)]]), (4, Blk.mk true 0 0 [[(vI (0 : Int)), (vI (0 : Int)), (vI (0 : Int)), AV.e0, (vB false)]])]) else none else none else
  none else some (Ex.exit (2 : Nat), St.mk [(6, .ptr 6 0 0), (4, .ptr 4 0 0)] [(900, Blk.mk true 0 0 [[(vS s), (vI n)]]), (890, Blk.mk false 44 7 (List.map eEnt es)), (6,
  Blk.mk true 0 0 [[(vI t), (vI f), (vI b), .own 890, (vB en)]]), (4, Blk.mk true 0 0 [[(vI (0 : Int)), (vI (0 : Int)), (vI (0 : Int)), AV.e0, (vB false)]])]) := (execR_bind _ _ _).symm.trans (by kernel_rfl)

def stHk (s : ByteArray) (n : Int) : Nat → St
  | 0 => stHx s n 0 0 0 0
  | 1 => stHx (F.dr 1 s) (n + 1) 1 (F.hdV s F.wTg) 0 0
  | 2 => stHx (F.dr 2 s) (n + 1 + 1) 2 (F.hdV s F.wTg) (F.hdV (F.dr 1 s) F.wFi) 0
  | _ => stHx (F.dr 3 s) (n + 1 + 1 + 1) 3 (F.hdV s F.wTg) (F.hdV (F.dr 1 s) F.wFi) (F.hdV (F.dr 2 s) F.wBr)

def exHh (s : ByteArray) (n : Int) : Ex × St := (.exit 0, ⟨[(6, .ptr 6 0 0), (4, .ptr 4 0 0), (1, .fn 12 []), (0, .ptr 900 0 0)], [(900, ⟨true, 0, 0, [[vS (F.dr 3 s), vI (n + 1 + 1 + 1)]]⟩), (6, ⟨true, 0, 0, [[vI (F.hdV s F.wTg), vI (F.hdV (F.dr 1 s) F.wFi), vI (F.hdV (F.dr 2 s) F.wBr), .e0, vB false]]⟩), (4, ⟨true, 0, 0, [[vI 0, vI 0, vI 0, .e0, vB false]]⟩)]⟩)

def rtHh (s : ByteArray) (n a b c : Int) : Ex × St := (.ret, ⟨[(5, vB false), (4, .ptr 4 0 0)], [(900, ⟨true, 0, 0, [[vS s, vI n]]⟩), (4, ⟨true, 0, 0, [[vI a, vI b, vI c, .e0, vB false]]⟩)]⟩)

def outHk (s : ByteArray) (n : Int) : Nat → T (Ex × St)
  | 0 => .ifB (F.hdOk s F.wTg) (.ifB (F.hdOk (F.dr 1 s) F.wFi) (.ifB (F.hdOk (F.dr 2 s) F.wBr) (.ret (exHh s n)) (.ret (rtHh (F.dr 3 s) (n + 1 + 1 + 1) (F.hdV s F.wTg) (F.hdV (F.dr 1 s) F.wFi) 0))) (.ret (rtHh (F.dr 2 s) (n + 1 + 1) (F.hdV s F.wTg) 0 0))) (.ret (rtHh (F.dr 1 s) (n + 1) 0 0 0))
  | 1 => .ifB (F.hdOk (F.dr 1 s) F.wFi) (.ifB (F.hdOk (F.dr 2 s) F.wBr) (.ret (exHh s n)) (.ret (rtHh (F.dr 3 s) (n + 1 + 1 + 1) (F.hdV s F.wTg) (F.hdV (F.dr 1 s) F.wFi) 0))) (.ret (rtHh (F.dr 2 s) (n + 1 + 1) (F.hdV s F.wTg) 0 0))
  | 2 => .ifB (F.hdOk (F.dr 2 s) F.wBr) (.ret (exHh s n)) (.ret (rtHh (F.dr 3 s) (n + 1 + 1 + 1) (F.hdV s F.wTg) (F.hdV (F.dr 1 s) F.wFi) 0))
  | _ => .ret (exHh s n)

theorem ifB_t {α : Type} {b : Bool} {x y : T α} (h : b = true) : (T.ifB b x y).val = x.val := by subst h; rfl

theorem ifB_f {α : Type} {b : Bool} {x y : T α} (h : b = false) : (T.ifB b x y).val = y.val := by subst h; rfl

theorem lpHh_ok (s : ByteArray) (n : Int) (hp : prlHh s n = true) : ∀ ex s', (outHh s n).val = some (ex, s') → LoopOK enBd (loopN Tryd.f11 0) (stHh s n) ex s' := by
  simp only [prlHh, Bool.and_eq_true, decide_eq_true_eq] at hp
  obtain ⟨⟨h1, h2⟩, h3⟩ := hp
  have z1 := F.dr_size 1 s
  have z2 := F.dr_size 2 s
  have z3 := F.dr_size 3 s
  have wd1 : F.wTg.size ≤ 1000 := by decide
  have wd2 : F.wFi.size ≤ 1000 := by decide
  have wd3 : F.wBr.size ≤ 1000 := by decide
  refine loop_gen (st := stHk s n) (out := outHk s n) (I := fun k => k ≤ 3) (n := ([37, 36, 35, 6, 4, 1, 0], [900, 35, 6, 4])) (e := ([6, 4, 1, 0], [900, 6, 4])) (r := ([5, 4], [900, 4])) (fun k => 3 - k) ?_ 0 (by decide)
  intro k hk
  match k, hk with
  | 0, _ =>
    cases hc : F.hdOk s F.wTg
    · left
      refine ⟨rtHh (F.dr 1 s) (n + 1) 0 0 0, ?_, ifB_f hc, by simp [rtHh], rfl⟩
      show ((exec enBd (loopN Tryd.f11 0) (stHx s n 0 0 0 0)).bind _).val = _
      rw [evHh0]
      simp only [unMor, unRcl, unTk, unHd, unEnt, preMor1, preRcl1, preTk1, preHd1, preEnt1, unstHh, unstBl, prlHh, prlBl, outHh, outBl, etaEnt, etaLst, etaSnd, etaStrm, etaMas, Option.bind_some, List.length_map, unStrs, unInts, unBools, unEnts, unItms, unTrns, cond_true, cond_false, Bool.and_true, Bool.true_and, decide_eq_true h1, decide_eq_true h2, decide_eq_true (by omega : n ≤ 1000000), decide_eq_true wd1, hc]
      rfl
    · right
      refine ⟨1, ?_, rfl, by decide, by decide, (ifB_t hc).symm⟩
      show ((exec enBd (loopN Tryd.f11 0) (stHx s n 0 0 0 0)).bind _).val = _
      rw [evHh0]
      simp only [unMor, unRcl, unTk, unHd, unEnt, preMor1, preRcl1, preTk1, preHd1, preEnt1, unstHh, unstBl, prlHh, prlBl, outHh, outBl, etaEnt, etaLst, etaSnd, etaStrm, etaMas, Option.bind_some, List.length_map, unStrs, unInts, unBools, unEnts, unItms, unTrns, cond_true, cond_false, Bool.and_true, Bool.true_and, decide_eq_true h1, decide_eq_true h2, decide_eq_true (by omega : n ≤ 1000000), decide_eq_true wd1, hc]
      rfl
  | 1, _ =>
    cases hc : F.hdOk (F.dr 1 s) F.wFi
    · left
      refine ⟨rtHh (F.dr 2 s) (n + 1 + 1) (F.hdV s F.wTg) 0 0, ?_, ifB_f hc, by simp [rtHh], rfl⟩
      show ((exec enBd (loopN Tryd.f11 0) (stHx (F.dr 1 s) (n + 1) 1 (F.hdV s F.wTg) 0 0)).bind _).val = _
      rw [evHh1]
      simp only [unMor, unRcl, unTk, unHd, unEnt, preMor1, preRcl1, preTk1, preHd1, preEnt1, unstHh, unstBl, prlHh, prlBl, outHh, outBl, etaEnt, etaLst, etaSnd, etaStrm, etaMas, Option.bind_some, List.length_map, unStrs, unInts, unBools, unEnts, unItms, unTrns, cond_true, cond_false, Bool.and_true, Bool.true_and, decide_eq_true (by omega : (F.dr 1 s).size ≤ 500000), decide_eq_true (by omega : 0 ≤ n + 1), decide_eq_true (by omega : n + 1 ≤ 1000000), decide_eq_true wd2, hc]
      rfl
    · right
      refine ⟨2, ?_, rfl, by decide, by decide, (ifB_t hc).symm⟩
      show ((exec enBd (loopN Tryd.f11 0) (stHx (F.dr 1 s) (n + 1) 1 (F.hdV s F.wTg) 0 0)).bind _).val = _
      rw [evHh1]
      simp only [unMor, unRcl, unTk, unHd, unEnt, preMor1, preRcl1, preTk1, preHd1, preEnt1, unstHh, unstBl, prlHh, prlBl, outHh, outBl, etaEnt, etaLst, etaSnd, etaStrm, etaMas, Option.bind_some, List.length_map, unStrs, unInts, unBools, unEnts, unItms, unTrns, cond_true, cond_false, Bool.and_true, Bool.true_and, decide_eq_true (by omega : (F.dr 1 s).size ≤ 500000), decide_eq_true (by omega : 0 ≤ n + 1), decide_eq_true (by omega : n + 1 ≤ 1000000), decide_eq_true wd2, hc]
      rfl
  | 2, _ =>
    cases hc : F.hdOk (F.dr 2 s) F.wBr
    · left
      refine ⟨rtHh (F.dr 3 s) (n + 1 + 1 + 1) (F.hdV s F.wTg) (F.hdV (F.dr 1 s) F.wFi) 0, ?_, ifB_f hc, by simp [rtHh], rfl⟩
      show ((exec enBd (loopN Tryd.f11 0) (stHx (F.dr 2 s) (n + 1 + 1) 2 (F.hdV s F.wTg) (F.hdV (F.dr 1 s) F.wFi) 0)).bind _).val = _
      rw [evHh2]
      simp only [unMor, unRcl, unTk, unHd, unEnt, preMor1, preRcl1, preTk1, preHd1, preEnt1, unstHh, unstBl, prlHh, prlBl, outHh, outBl, etaEnt, etaLst, etaSnd, etaStrm, etaMas, Option.bind_some, List.length_map, unStrs, unInts, unBools, unEnts, unItms, unTrns, cond_true, cond_false, Bool.and_true, Bool.true_and, decide_eq_true (by omega : (F.dr 2 s).size ≤ 500000), decide_eq_true (by omega : 0 ≤ n + 1 + 1), decide_eq_true (by omega : n + 1 + 1 ≤ 1000000), decide_eq_true wd3, hc]
      rfl
    · right
      refine ⟨3, ?_, rfl, by decide, by decide, (ifB_t hc).symm⟩
      show ((exec enBd (loopN Tryd.f11 0) (stHx (F.dr 2 s) (n + 1 + 1) 2 (F.hdV s F.wTg) (F.hdV (F.dr 1 s) F.wFi) 0)).bind _).val = _
      rw [evHh2]
      simp only [unMor, unRcl, unTk, unHd, unEnt, preMor1, preRcl1, preTk1, preHd1, preEnt1, unstHh, unstBl, prlHh, prlBl, outHh, outBl, etaEnt, etaLst, etaSnd, etaStrm, etaMas, Option.bind_some, List.length_map, unStrs, unInts, unBools, unEnts, unItms, unTrns, cond_true, cond_false, Bool.and_true, Bool.true_and, decide_eq_true (by omega : (F.dr 2 s).size ≤ 500000), decide_eq_true (by omega : 0 ≤ n + 1 + 1), decide_eq_true (by omega : n + 1 + 1 ≤ 1000000), decide_eq_true wd3, hc]
      rfl
  | 3, _ =>
    left
    refine ⟨exHh s n, ?_, rfl, by simp [exHh], rfl⟩
    show ((exec enBd (loopN Tryd.f11 0) (stHx (F.dr 3 s) (n + 1 + 1 + 1) 3 (F.hdV s F.wTg) (F.hdV (F.dr 1 s) F.wFi) (F.hdV (F.dr 2 s) F.wBr))).bind _).val = _
    rw [evHh3]
    rfl

def outBo (t f b : Int) (r : Bool × ByteArray × Int × List Ent × Bool) : T (Ex × St) :=
  .ifB r.1
      (.ret (.exit 2, ⟨[(6, .ptr 6 0 0), (4, .ptr 4 0 0)], [(900, ⟨true, 0, 0, [[vS r.2.1, vI r.2.2.1]]⟩), (890, ⟨false, 44, 7, r.2.2.2.1.map eEnt⟩), (6, ⟨true, 0, 0, [[vI t, vI f, vI b, .own 890, vB r.2.2.2.2]]⟩), (4, ⟨true, 0, 0, [[vI 0, vI 0, vI 0, .e0, vB false]]⟩)]⟩))
      (.ret (.ret, ⟨[(5, vB false), (4, .ptr 4 0 0)], [(900, ⟨true, 0, 0, [[vS r.2.1, vI r.2.2.1]]⟩), (890, ⟨false, 44, 7, r.2.2.2.1.map eEnt⟩), (4, ⟨true, 0, 0, [[vI t, vI f, vI b, .own 890, vB r.2.2.2.2]]⟩)]⟩))

theorem lpBo_ok (s : ByteArray) (n : Int) (key : ByteArray) (es : List Ent) (en : Bool) (t f b : Int) (h1 : 0 ≤ n) (h2 : n + s.size ≤ 600000) (h3 : es.length + s.size ≤ 500000) :
    ∀ ex s', (outBo t f b (F.bdL s n key es en)).val = some (ex, s') → LoopOK enBd (loopN Tryd.f11 1) (stBo s n key es en t f b) ex s' := by
  refine loop_gen (st := fun p : ByteArray × Int × ByteArray × List Ent × Bool => stBo p.1 p.2.1 p.2.2.1 p.2.2.2.1 p.2.2.2.2 t f b) (out := fun p => outBo t f b (F.bdL p.1 p.2.1 p.2.2.1 p.2.2.2.1 p.2.2.2.2)) (I := fun p => 0 ≤ p.2.1 ∧ p.2.1 + p.1.size ≤ 600000 ∧ p.2.2.2.1.length + p.1.size ≤ 500000) (n := ([13, 6, 4, 0], [900, 890, 6, 4])) (e := ([6, 4], [900, 890, 6, 4])) (r := ([5, 4], [900, 890, 4])) (fun p => p.1.size) ?_ (s, n, key, es, en) ⟨h1, h2, h3⟩
  clear h1 h2 h3
  rintro ⟨s, n, key, es, en⟩ ⟨h1, h2, h3⟩
  simp only at h1 h2 h3
  have p1 : decide (s.size ≤ 500000) = true := decide_eq_true (by omega)
  have p2 : decide (0 ≤ n) = true := decide_eq_true h1
  have p3 : decide (n ≤ 1000000) = true := decide_eq_true (by omega)
  have z1 := F.cutT_size s F.nl
  have z2 := F.cutH_size s F.nl
  have p4 : decide (0 ≤ n + 1) = true := decide_eq_true (by omega)
  have p5 : decide (n + 1 + ((F.cutT s F.nl).size : Int) ≤ 900000) = true := decide_eq_true (by omega)
  have p6 : decide ((F.cutT s F.nl).size ≤ 500000) = true := decide_eq_true (by omega)
  have p7 : decide ((F.cutH s F.nl).size ≤ 500000) = true := decide_eq_true (by omega)
  have p8 : Nat.ble ((es.length + 1) * 88) 140737488355328 = true := ble_t (by omega)
  have q : ((F.cutH s F.nl).toList == (⟨⟨[35, 69, 78, 68]⟩⟩ : ByteArray).toList) = F.seq (F.cutH s F.nl) F.kEnd := rfl
  by_cases hz : s.size = 0
  · left
    refine ⟨(.exit 2, ⟨[(6, .ptr 6 0 0), (4, .ptr 4 0 0)], [(900, ⟨true, 0, 0, [[vS s, vI n]]⟩), (890, ⟨false, 44, 7, es.map eEnt⟩), (6, ⟨true, 0, 0, [[vI t, vI f, vI b, .own 890, vB en]]⟩), (4, ⟨true, 0, 0, [[vI 0, vI 0, vI 0, .e0, vB false]]⟩)]⟩), ?_, ?_, by simp, rfl⟩
    · show ((exec enBd (loopN Tryd.f11 1) (stBo s n key es en t f b)).bind _).val = _
      rw [evBo]
      simp only [unMor, unRcl, unTk, unHd, unEnt, preMor1, preRcl1, preTk1, preHd1, preEnt1, unstHh, unstBl, prlHh, prlBl, outHh, outBl, etaEnt, etaLst, etaSnd, etaStrm, etaMas, Option.bind_some, List.length_map, unStrs, unInts, unBools, unEnts, unItms, unTrns, cond_true, cond_false, Bool.and_true, Bool.true_and, decide_eq_false (by omega : ¬ s.size ≠ 0)]
    · simp only [F.bdL_end hz]
      rfl
  cases hn : (!F.cutF s F.nl || en)
  case true =>
    left
    refine ⟨(.ret, ⟨[(5, vB false), (4, .ptr 4 0 0)], [(900, ⟨true, 0, 0, [[vS (F.cutT s F.nl), vI (n + 1)]]⟩), (890, ⟨false, 44, 7, es.map eEnt⟩), (4, ⟨true, 0, 0, [[vI t, vI f, vI b, .own 890, vB en]]⟩)]⟩), ?_, ?_, by simp, rfl⟩
    · show ((exec enBd (loopN Tryd.f11 1) (stBo s n key es en t f b)).bind _).val = _
      rw [evBo]
      simp only [unMor, unRcl, unTk, unHd, unEnt, preMor1, preRcl1, preTk1, preHd1, preEnt1, unstHh, unstBl, prlHh, prlBl, outHh, outBl, etaEnt, etaLst, etaSnd, etaStrm, etaMas, Option.bind_some, List.length_map, unStrs, unInts, unBools, unEnts, unItms, unTrns, cond_true, cond_false, Bool.and_true, Bool.true_and, decide_eq_true hz, p1, p2, p3]
      cases hc : F.cutF s F.nl
      · rfl
      · rw [hc] at hn
        have he : en = true := hn
        rw [he]
        rfl
    · simp only [F.bdL_no hz hn]
      rfl
  have hnn : F.cutF s F.nl = true ∧ en = false := by cases hc : F.cutF s F.nl <;> cases he : en <;> rw [hc, he] at hn <;> simp_all
  have z3 := F.cutT_lt F.nl_one hz
  cases hq : F.seq (F.cutH s F.nl) F.kEnd
  case true =>
    right
    refine ⟨(F.cutT s F.nl, n + 1, key, es, true), ?_, rfl, ⟨by simp only; omega, by simp only; omega, by simp only; omega⟩, by simp only; omega, ?_⟩
    · show ((exec enBd (loopN Tryd.f11 1) (stBo s n key es en t f b)).bind _).val = _
      rw [evBo]
      simp only [unMor, unRcl, unTk, unHd, unEnt, preMor1, preRcl1, preTk1, preHd1, preEnt1, unstHh, unstBl, prlHh, prlBl, outHh, outBl, etaEnt, etaLst, etaSnd, etaStrm, etaMas, Option.bind_some, List.length_map, unStrs, unInts, unBools, unEnts, unItms, unTrns, cond_true, cond_false, Bool.and_true, Bool.true_and, decide_eq_true hz, p1, p2, p3, q, hq, hnn.1, hnn.2, stBo]
      rfl
    · simp only [F.bdL_last hz hn hq]
  generalize hr : F.enL (F.cutT s F.nl) (n + 1) (F.noE key) (F.cutH s F.nl) key 0 = r
  have hle := F.enL_le _ (F.cutT s F.nl) (n + 1) (F.noE key) (F.cutH s F.nl) key 0 (Nat.le_refl _)
  rw [hr] at hle
  obtain ⟨l1, l2, l3, l4⟩ := hle
  have hlo := F.enL_ok _ (F.cutT s F.nl) (n + 1) (F.noE key) (F.cutH s F.nl) key 0 (Nat.le_refl _)
  rw [hr] at hlo
  cases ho : r.1
  · left
    refine ⟨(.ret, ⟨[(5, vB false), (4, .ptr 4 0 0)], [(900, ⟨true, 0, 0, [[vS r.2.1, vI r.2.2.1]]⟩), (890, ⟨false, 44, 7, es.map eEnt⟩), (4, ⟨true, 0, 0, [[vI t, vI f, vI b, .own 890, vB en]]⟩)]⟩), ?_, ?_, by simp, rfl⟩
    · show ((exec enBd (loopN Tryd.f11 1) (stBo s n key es en t f b)).bind _).val = _
      rw [evBo]
      simp only [unMor, unRcl, unTk, unHd, unEnt, preMor1, preRcl1, preTk1, preHd1, preEnt1, unstHh, unstBl, prlHh, prlBl, outHh, outBl, etaEnt, etaLst, etaSnd, etaStrm, etaMas, Option.bind_some, List.length_map, unStrs, unInts, unBools, unEnts, unItms, unTrns, cond_true, cond_false, Bool.and_true, Bool.true_and, decide_eq_true hz, p1, p2, p3, p4, p5, p6, p7, q, hq, hnn.1, hnn.2, hr, ho]
      rfl
    · simp only [F.bdL_bad hz hn hq hr ho]
      rfl
  · right
    have hlo := hlo ho
    refine ⟨(r.2.1, r.2.2.1, r.2.2.2.key, es ++ [r.2.2.2], en), ?_, rfl, ⟨by simp only; omega, by simp only; omega, by simp only [List.length_append, List.length_singleton]; omega⟩, by simp only; omega, ?_⟩
    · show ((exec enBd (loopN Tryd.f11 1) (stBo s n key es en t f b)).bind _).val = _
      rw [evBo]
      simp only [unMor, unRcl, unTk, unHd, unEnt, preMor1, preRcl1, preTk1, preHd1, preEnt1, unstHh, unstBl, prlHh, prlBl, outHh, outBl, etaEnt, etaLst, etaSnd, etaStrm, etaMas, Option.bind_some, List.length_map, unStrs, unInts, unBools, unEnts, unItms, unTrns, cond_true, cond_false, Bool.and_true, Bool.true_and, decide_eq_true hz, p1, p2, p3, p4, p5, p6, p7, p8, q, hq, hnn.1, hnn.2, hr, ho, stBo]
      rw [List.map_append]
      rfl
    · simp only [F.bdL_go hz hn hq hr ho]

theorem lpBl_ok (s : ByteArray) (n : Int) (t : Int) (f : Int) (b : Int) (hp : prlBl s n t f b = true) : ∀ ex s', (outBl s n t f b).val = some (ex, s') → LoopOK enBd (loopN Tryd.f11 1) (stBl s n t f b) ex s' := by
  simp only [prlBl, Bool.and_eq_true, decide_eq_true_eq] at hp
  obtain ⟨⟨h1, h2⟩, h3⟩ := hp
  intro ex s' h
  refine .own 6 3 890 44 7 rfl ?_
  exact lpBo_ok s n ⟨⟨[]⟩⟩ [] false t f b h2 (by omega) (by show 0 + s.size ≤ _; omega) ex s' h

end M
end Go.Proofs.YtgkjfochkhiojaaDoor
