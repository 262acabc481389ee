/- What is proved here: the four numbers of a stream's line are read one after another through pointers (no statement of the seat). -/
import Derived.Test.YtipngpndgniagaaDoorE52
namespace Go.Proofs.YtipngpndgniagaaDoor
open Go Go.RowKit
set_option linter.unusedVariables false
set_option linter.unusedSimpArgs false

namespace M


def stPj (s : ByteArray) (n : Int) (st : List Strm) (so : List Snd) (w : List ByteArray) (nm : ByteArray) (sd : ByteArray) : St := ⟨[(115, vI 0), (114, vI ((4 : Nat) : Int)), (113, .win 113 0 4), (10, .ptr 10 0 0), (7, .sl (w.map eStr)), (1, .ptr 901 0 0), (0, .ptr 900 0 0)], [(903, ⟨false, 47, 5, so.map eSnd⟩), (902, ⟨false, 49, 7, st.map eStrm⟩), (901, ⟨true, 0, 0, [[.own 902, .own 903]]⟩), (900, ⟨true, 0, 0, [[vS s, vI n]]⟩), (113, ⟨true, 83, 1, [[.ptr 10 0 2], [.ptr 10 0 3], [.ptr 10 0 4], [.ptr 10 0 5]]⟩), (10, ⟨true, 0, 0, [[vS nm, vS ⟨⟨[]⟩⟩, vI 0, vI 0, vI 0, vI 0, vS sd]]⟩)]⟩

def stPj1 (a : ByteArray × Int × (List Strm) × (List Snd) × (List ByteArray) × ByteArray × ByteArray) : St := stPj a.1 a.2.1 a.2.2.1 a.2.2.2.1 a.2.2.2.2.1 a.2.2.2.2.2.1 a.2.2.2.2.2.2

theorem stPj_inj (a a' : ByteArray × Int × (List Strm) × (List Snd) × (List ByteArray) × ByteArray × ByteArray) (h : stPj1 a = stPj1 a') : a = a' := by
  simp only [stPj1, stPj] at h
  try simp [strs_inj, ents_inj, eEnt_iff, eLst_iff, eSnds_inj, eStrms_inj] at h
  grind

theorem unstPj (s : ByteArray) (n : Int) (st : List Strm) (so : List Snd) (w : List ByteArray) (nm : ByteArray) (sd : ByteArray) : unenc stPj1 (St.mk [(115, (vI (0 : Int))), (114, (vI (↑(4 : Nat) : Int))), (113, AV.win (113 : Nat) (0 : Nat) (4 : Nat)), (10, .ptr 10 0 0), (7, AV.sl (List.map eStr w)), (1, .ptr 901
  0 0), (0, .ptr 900 0 0)] [(903, Blk.mk false 47 5 (List.map eSnd so)), (902, Blk.mk false 49 7 (List.map eStrm st)), (901, Blk.mk true 0 0 [[.own 902, .own 903]]), (900,
  Blk.mk true 0 0 [[(vS s), (vI n)]]), (113, Blk.mk true 83 1 [[.ptr 10 0 2], [.ptr 10 0 3], [.ptr 10 0 4], [.ptr 10 0 5]]), (10, Blk.mk true 0 0 [[(vS nm), (vS
  (ByteArray.mk (Array.mk []))), (vI (0 : Int)), (vI (0 : Int)), (vI (0 : Int)), (vI (0 : Int)), (vS sd)]])]) = some (s, n, st, so, w, nm, sd) := unenc_of stPj_inj (s, n, st, so, w, nm, sd) rfl

def outPj (s : ByteArray) (n : Int) (st : List Strm) (so : List Snd) (w : List ByteArray) (nm : ByteArray) (sd : ByteArray) : T (Ex × St) := .ifB (F.numsOk w) (.ret (.exit 1, ⟨[(10, .ptr 10 0 0), (1, .ptr 901 0 0), (0, .ptr 900 0 0)], [(903, ⟨false, 47, 5, so.map eSnd⟩), (902, ⟨false, 49, 7, st.map eStrm⟩), (901, ⟨true, 0, 0, [[.own 902, .own 903]]⟩), (900, ⟨true, 0, 0, [[vS s, vI n]]⟩), (10, ⟨true, 0, 0, [[vS nm, vS ⟨⟨[]⟩⟩, vI (F.numV (F.wAt w 2) 11), vI (F.numV (F.wAt w 3) 11), vI (F.numV (F.wAt w 4) 11), vI (F.numV (F.wAt w 5) 11), vS sd]]⟩)]⟩))
      (.ret (.ret, ⟨[(4, vB false)], [(903, ⟨false, 47, 5, so.map eSnd⟩), (902, ⟨false, 49, 7, st.map eStrm⟩), (901, ⟨true, 0, 0, [[.own 902, .own 903]]⟩), (900, ⟨true, 0, 0, [[vS s, vI n]]⟩)]⟩))

noncomputable def prlPj (s : ByteArray) (n : Int) (st : List Strm) (so : List Snd) (w : List ByteArray) (nm : ByteArray) (sd : ByteArray) : Bool := decide (w.length = 7)

noncomputable def lpPj : Nat × (St → T (Ex × St)) := (15, lpo [115, 114, 113, 10, 7, 1, 0] [903, 902, 901, 900, 113, 10] stPj1 (fun a => prlPj a.1 a.2.1 a.2.2.1 a.2.2.2.1 a.2.2.2.2.1 a.2.2.2.2.2.1 a.2.2.2.2.2.2) fun a => outPj a.1 a.2.1 a.2.2.1 a.2.2.2.1 a.2.2.2.2.1 a.2.2.2.2.2.1 a.2.2.2.2.2.2)

noncomputable def enPrt : Env := envH ty noG lks [oWds, oUnd, oNum] [oTk, oUr] [902, 903] [lpPj]

theorem enPrt_ok : EnvOK Tryd.prog enPrt := by
  refine envH_ok lks_ok ty_ok ?_ ?_
  · simp only [List.forall_mem_cons]
    exact ⟨okWds, okUnd, okNum, by simp⟩
  · simp only [List.forall_mem_cons]
    exact ⟨okTk, okUr, by simp⟩

def stPx (s : ByteArray) (n : Int) (st : List Strm) (so : List Snd) (w : List ByteArray) (nm : ByteArray) (sd : ByteArray) (k a b c d : Int) : St := ⟨[(115, vI k), (114, vI ((4 : Nat) : Int)), (113, .win 113 0 4), (10, .ptr 10 0 0), (7, .sl (w.map eStr)), (1, .ptr 901 0 0), (0, .ptr 900 0 0)], [(903, ⟨false, 47, 5, so.map eSnd⟩), (902, ⟨false, 49, 7, st.map eStrm⟩), (901, ⟨true, 0, 0, [[.own 902, .own 903]]⟩), (900, ⟨true, 0, 0, [[vS s, vI n]]⟩), (113, ⟨true, 83, 1, [[.ptr 10 0 2], [.ptr 10 0 3], [.ptr 10 0 4], [.ptr 10 0 5]]⟩), (10, ⟨true, 0, 0, [[vS nm, vS ⟨⟨[]⟩⟩, vI a, vI b, vI c, vI d, vS sd]]⟩)]⟩

theorem evPj0 (s : ByteArray) (n : Int) (st : List Strm) (so : List Snd) (w : List ByteArray) (nm : ByteArray) (sd : ByteArray) (a b c d : Int) : ((exec enPrt (loopN Tryd.f21 0) (stPx s n st so w nm sd 0 a b c d)).bind (lessX ([115, 114, 113, 10, 7, 1, 0], [903, 902, 901, 900, 113, 10]) ([10, 1, 0], [903, 902, 901, 900, 10]) ([4], [903, 902, 901, 900]))).val =
  Option.bind (idx (IntKind.wrap IntKind.i64 ((2 : Int) + (0 : Int)))) fun (z : Nat) => Option.bind (unenc (List.map eStr) (List.map eStr w)) fun (z_1 : List ByteArray) =>
  bif decide (z < List.length z_1) then Option.bind (unenc encNum [(vS (List.getD z_1 z (ByteArray.mk (Array.mk [])))), (vI (11 : Int))]) fun (z : ByteArray × Int) => bif
  decide (z.snd ≤ (18 : Int)) then bif !F.numOk z.fst z.snd then some (Ex.ret, St.mk [(4, (vB false))] [(903, Blk.mk false 47 5 (List.map eSnd so)), (902, Blk.mk false 49 7
  (List.map eStrm st)), (901, Blk.mk true 0 0 [[.own 902, .own 903]]), (900, Blk.mk true 0 0 [[(vS s), (vI n)]])]) else some (Ex.normal, St.mk [(115, (vI (IntKind.wrap
  IntKind.i64 ((0 : Int) + (1 : Int))))), (114, (vI (↑(4 : Nat) : Int))), (113, AV.win (113 : Nat) (0 : Nat) (4 : Nat)), (10, .ptr 10 0 0), (7, AV.sl (List.map eStr w)), (1,
  .ptr 901 0 0), (0, .ptr 900 0 0)] [(903, Blk.mk false 47 5 (List.map eSnd so)), (902, Blk.mk false 49 7 (List.map eStrm st)), (901, Blk.mk true 0 0 [[.own 902, .own
  903]]), (900, Blk.mk true 0 0 [[(vS s), (vI n)]]), (113, Blk.mk true 83 1 [[.ptr 10 0 2], [.ptr 10 0 3], [.ptr 10 0 4], [.ptr 10 0 5]]), (10, Blk.mk true 0 0 [[(vS nm),
  (vS (ByteArray.mk (Array.mk []))), (vI (F.numV z.fst z.snd)), (vI b), (vI c), (vI d), (vS sd)]])]) else none else none := (execR_bind _ _ _).symm.trans (by kernel_rfl)

theorem evPj1 (s : ByteArray) (n : Int) (st : List Strm) (so : List Snd) (w : List ByteArray) (nm : ByteArray) (sd : ByteArray) (a b c d : Int) : ((exec enPrt (loopN Tryd.f21 0) (stPx s n st so w nm sd 1 a b c d)).bind (lessX ([115, 114, 113, 10, 7, 1, 0], [903, 902, 901, 900, 113, 10]) ([10, 1, 0], [903, 902, 901, 900, 10]) ([4], [903, 902, 901, 900]))).val =
  Option.bind (idx (IntKind.wrap IntKind.i64 ((2 : Int) + (1 : Int)))) fun (z : Nat) => Option.bind (unenc (List.map eStr) (List.map eStr w)) fun (z_1 : List ByteArray) =>
  bif decide (z < List.length z_1) then Option.bind (unenc encNum [(vS (List.getD z_1 z (ByteArray.mk (Array.mk [])))), (vI (11 : Int))]) fun (z : ByteArray × Int) => bif
  decide (z.snd ≤ (18 : Int)) then bif !F.numOk z.fst z.snd then some (Ex.ret, St.mk [(4, (vB false))] [(903, Blk.mk false 47 5 (List.map eSnd so)), (902, Blk.mk false 49 7
  (List.map eStrm st)), (901, Blk.mk true 0 0 [[.own 902, .own 903]]), (900, Blk.mk true 0 0 [[(vS s), (vI n)]])]) else some (Ex.normal, St.mk [(115, (vI (IntKind.wrap
  IntKind.i64 ((1 : Int) + (1 : Int))))), (114, (vI (↑(4 : Nat) : Int))), (113, AV.win (113 : Nat) (0 : Nat) (4 : Nat)), (10, .ptr 10 0 0), (7, AV.sl (List.map eStr w)), (1,
  .ptr 901 0 0), (0, .ptr 900 0 0)] [(903, Blk.mk false 47 5 (List.map eSnd so)), (902, Blk.mk false 49 7 (List.map eStrm st)), (901, Blk.mk true 0 0 [[.own 902, .own
  903]]), (900, Blk.mk true 0 0 [[(vS s), (vI n)]]), (113, Blk.mk true 83 1 [[.ptr 10 0 2], [.ptr 10 0 3], [.ptr 10 0 4], [.ptr 10 0 5]]), (10, Blk.mk true 0 0 [[(vS nm),
  (vS (ByteArray.mk (Array.mk []))), (vI a), (vI (F.numV z.fst z.snd)), (vI c), (vI d), (vS sd)]])]) else none else none := (execR_bind _ _ _).symm.trans (by kernel_rfl)

theorem evPj2 (s : ByteArray) (n : Int) (st : List Strm) (so : List Snd) (w : List ByteArray) (nm : ByteArray) (sd : ByteArray) (a b c d : Int) : ((exec enPrt (loopN Tryd.f21 0) (stPx s n st so w nm sd 2 a b c d)).bind (lessX ([115, 114, 113, 10, 7, 1, 0], [903, 902, 901, 900, 113, 10]) ([10, 1, 0], [903, 902, 901, 900, 10]) ([4], [903, 902, 901, 900]))).val =
  Option.bind (idx (IntKind.wrap IntKind.i64 ((2 : Int) + (2 : Int)))) fun (z : Nat) => Option.bind (unenc (List.map eStr) (List.map eStr w)) fun (z_1 : List ByteArray) =>
  bif decide (z < List.length z_1) then Option.bind (unenc encNum [(vS (List.getD z_1 z (ByteArray.mk (Array.mk [])))), (vI (11 : Int))]) fun (z : ByteArray × Int) => bif
  decide (z.snd ≤ (18 : Int)) then bif !F.numOk z.fst z.snd then some (Ex.ret, St.mk [(4, (vB false))] [(903, Blk.mk false 47 5 (List.map eSnd so)), (902, Blk.mk false 49 7
  (List.map eStrm st)), (901, Blk.mk true 0 0 [[.own 902, .own 903]]), (900, Blk.mk true 0 0 [[(vS s), (vI n)]])]) else some (Ex.normal, St.mk [(115, (vI (IntKind.wrap
  IntKind.i64 ((2 : Int) + (1 : Int))))), (114, (vI (↑(4 : Nat) : Int))), (113, AV.win (113 : Nat) (0 : Nat) (4 : Nat)), (10, .ptr 10 0 0), (7, AV.sl (List.map eStr w)), (1,
  .ptr 901 0 0), (0, .ptr 900 0 0)] [(903, Blk.mk false 47 5 (List.map eSnd so)), (902, Blk.mk false 49 7 (List.map eStrm st)), (901, Blk.mk true 0 0 [[.own 902, .own
  903]]), (900, Blk.mk true 0 0 [[(vS s), (vI n)]]), (113, Blk.mk true 83 1 [[.ptr 10 0 2], [.ptr 10 0 3], [.ptr 10 0 4], [.ptr 10 0 5]]), (10, Blk.mk true 0 0 [[(vS nm),
  (vS (ByteArray.mk (Array.mk []))), (vI a), (vI b), (vI (F.numV z.fst z.snd)), (vI d), (vS sd)]])]) else none else none := (execR_bind _ _ _).symm.trans (by kernel_rfl)

theorem evPj3 (s : ByteArray) (n : Int) (st : List Strm) (so : List Snd) (w : List ByteArray) (nm : ByteArray) (sd : ByteArray) (a b c d : Int) : ((exec enPrt (loopN Tryd.f21 0) (stPx s n st so w nm sd 3 a b c d)).bind (lessX ([115, 114, 113, 10, 7, 1, 0], [903, 902, 901, 900, 113, 10]) ([10, 1, 0], [903, 902, 901, 900, 10]) ([4], [903, 902, 901, 900]))).val =
  Option.bind (idx (IntKind.wrap IntKind.i64 ((2 : Int) + (3 : Int)))) fun (z : Nat) => Option.bind (unenc (List.map eStr) (List.map eStr w)) fun (z_1 : List ByteArray) =>
  bif decide (z < List.length z_1) then Option.bind (unenc encNum [(vS (List.getD z_1 z (ByteArray.mk (Array.mk [])))), (vI (11 : Int))]) fun (z : ByteArray × Int) => bif
  decide (z.snd ≤ (18 : Int)) then bif !F.numOk z.fst z.snd then some (Ex.ret, St.mk [(4, (vB false))] [(903, Blk.mk false 47 5 (List.map eSnd so)), (902, Blk.mk false 49 7
  (List.map eStrm st)), (901, Blk.mk true 0 0 [[.own 902, .own 903]]), (900, Blk.mk true 0 0 [[(vS s), (vI n)]])]) else some (Ex.normal, St.mk [(115, (vI (IntKind.wrap
  IntKind.i64 ((3 : Int) + (1 : Int))))), (114, (vI (↑(4 : Nat) : Int))), (113, AV.win (113 : Nat) (0 : Nat) (4 : Nat)), (10, .ptr 10 0 0), (7, AV.sl (List.map eStr w)), (1,
  .ptr 901 0 0), (0, .ptr 900 0 0)] [(903, Blk.mk false 47 5 (List.map eSnd so)), (902, Blk.mk false 49 7 (List.map eStrm st)), (901, Blk.mk true 0 0 [[.own 902, .own
  903]]), (900, Blk.mk true 0 0 [[(vS s), (vI n)]]), (113, Blk.mk true 83 1 [[.ptr 10 0 2], [.ptr 10 0 3], [.ptr 10 0 4], [.ptr 10 0 5]]), (10, Blk.mk true 0 0 [[(vS nm),
  (vS (ByteArray.mk (Array.mk []))), (vI a), (vI b), (vI c), (vI (F.numV z.fst z.snd)), (vS sd)]])]) else none else none := (execR_bind _ _ _).symm.trans (by kernel_rfl)

theorem evPj4 (s : ByteArray) (n : Int) (st : List Strm) (so : List Snd) (w : List ByteArray) (nm : ByteArray) (sd : ByteArray) (a b c d : Int) : ((exec enPrt (loopN Tryd.f21 0) (stPx s n st so w nm sd 4 a b c d)).bind (lessX ([115, 114, 113, 10, 7, 1, 0], [903, 902, 901, 900, 113, 10]) ([10, 1, 0], [903, 902, 901, 900, 10]) ([4], [903, 902, 901, 900]))).val =
  some (Ex.exit (1 : Nat), St.mk [(10, .ptr 10 0 0), (1, .ptr 901 0 0), (0, .ptr 900 0 0)] [(903, Blk.mk false 47 5 (List.map eSnd so)), (902, Blk.mk false 49 7 (List.map
  eStrm st)), (901, Blk.mk true 0 0 [[.own 902, .own 903]]), (900, Blk.mk true 0 0 [[(vS s), (vI n)]]), (10, Blk.mk true 0 0 [[(vS nm), (vS (ByteArray.mk (Array.mk []))),
  (vI a), (vI b), (vI c), (vI d), (vS sd)]])]) := (execR_bind _ _ _).symm.trans (by kernel_rfl)

def exPj (s : ByteArray) (n : Int) (st : List Strm) (so : List Snd) (w : List ByteArray) (nm : ByteArray) (sd : ByteArray) : Ex × St := (.exit 1, ⟨[(10, .ptr 10 0 0), (1, .ptr 901 0 0), (0, .ptr 900 0 0)], [(903, ⟨false, 47, 5, so.map eSnd⟩), (902, ⟨false, 49, 7, st.map eStrm⟩), (901, ⟨true, 0, 0, [[.own 902, .own 903]]⟩), (900, ⟨true, 0, 0, [[vS s, vI n]]⟩), (10, ⟨true, 0, 0, [[vS nm, vS ⟨⟨[]⟩⟩, vI (F.numV (F.wAt w 2) 11), vI (F.numV (F.wAt w 3) 11), vI (F.numV (F.wAt w 4) 11), vI (F.numV (F.wAt w 5) 11), vS sd]]⟩)]⟩)

def rtPj (s : ByteArray) (n : Int) (st : List Strm) (so : List Snd) (w : List ByteArray) (nm : ByteArray) (sd : ByteArray) : Ex × St := (.ret, ⟨[(4, vB false)], [(903, ⟨false, 47, 5, so.map eSnd⟩), (902, ⟨false, 49, 7, st.map eStrm⟩), (901, ⟨true, 0, 0, [[.own 902, .own 903]]⟩), (900, ⟨true, 0, 0, [[vS s, vI n]]⟩)]⟩)

def stPk (s : ByteArray) (n : Int) (st : List Strm) (so : List Snd) (w : List ByteArray) (nm : ByteArray) (sd : ByteArray) : Nat → St
  | 0 => stPx s n st so w nm sd 0 0 0 0 0
  | 1 => stPx s n st so w nm sd 1 (F.numV (F.wAt w 2) 11) 0 0 0
  | 2 => stPx s n st so w nm sd 2 (F.numV (F.wAt w 2) 11) (F.numV (F.wAt w 3) 11) 0 0
  | 3 => stPx s n st so w nm sd 3 (F.numV (F.wAt w 2) 11) (F.numV (F.wAt w 3) 11) (F.numV (F.wAt w 4) 11) 0
  | _ => stPx s n st so w nm sd 4 (F.numV (F.wAt w 2) 11) (F.numV (F.wAt w 3) 11) (F.numV (F.wAt w 4) 11) (F.numV (F.wAt w 5) 11)

def outPk (s : ByteArray) (n : Int) (st : List Strm) (so : List Snd) (w : List ByteArray) (nm : ByteArray) (sd : ByteArray) : Nat → T (Ex × St)
  | 0 => .ifB (F.numsOk w) (.ret (exPj s n st so w nm sd)) (.ret (rtPj s n st so w nm sd))
  | 1 => .ifB (F.numOk (F.wAt w 3) 11 && F.numOk (F.wAt w 4) 11 && F.numOk (F.wAt w 5) 11) (.ret (exPj s n st so w nm sd)) (.ret (rtPj s n st so w nm sd))
  | 2 => .ifB (F.numOk (F.wAt w 4) 11 && F.numOk (F.wAt w 5) 11) (.ret (exPj s n st so w nm sd)) (.ret (rtPj s n st so w nm sd))
  | 3 => .ifB (F.numOk (F.wAt w 5) 11) (.ret (exPj s n st so w nm sd)) (.ret (rtPj s n st so w nm sd))
  | _ => .ret (exPj s n st so w nm sd)

theorem ifB_t {α : Type} {b : Bool} {x y : T α} (h : b = true) : (T.ifB b x y).val = x.val := by subst h; rfl

theorem ifB_f {α : Type} {b : Bool} {x y : T α} (h : b = false) : (T.ifB b x y).val = y.val := by subst h; rfl

theorem lpPj_ok (s : ByteArray) (n : Int) (st : List Strm) (so : List Snd) (w : List ByteArray) (nm : ByteArray) (sd : ByteArray) (hp : prlPj s n st so w nm sd = true) : ∀ ex s', (outPj s n st so w nm sd).val = some (ex, s') → LoopOK enPrt (loopN Tryd.f21 0) (stPj s n st so w nm sd) ex s' := by
  simp only [prlPj, Bool.and_eq_true, decide_eq_true_eq] at hp
  have hp7 : w.length = 7 := hp
  have j2 : idx (IntKind.i64.wrap ((2 : Int) + 0)) = some 2 := rfl
  have j3 : idx (IntKind.i64.wrap ((2 : Int) + 1)) = some 3 := rfl
  have j4 : idx (IntKind.i64.wrap ((2 : Int) + 2)) = some 4 := rfl
  have j5 : idx (IntKind.i64.wrap ((2 : Int) + 3)) = some 5 := rfl
  have d2 : decide (2 < w.length) = true := decide_eq_true (by omega)
  have d3 : decide (3 < w.length) = true := decide_eq_true (by omega)
  have d4 : decide (4 < w.length) = true := decide_eq_true (by omega)
  have d5 : decide (5 < w.length) = true := decide_eq_true (by omega)
  have g2 : w.getD 2 (⟨⟨[]⟩⟩ : ByteArray) = F.wAt w 2 := rfl
  have g3 : w.getD 3 (⟨⟨[]⟩⟩ : ByteArray) = F.wAt w 3 := rfl
  have g4 : w.getD 4 (⟨⟨[]⟩⟩ : ByteArray) = F.wAt w 4 := rfl
  have g5 : w.getD 5 (⟨⟨[]⟩⟩ : ByteArray) = F.wAt w 5 := rfl
  have d18 : decide ((11 : Int) ≤ 18) = true := rfl
  refine loop_gen (st := stPk s n st so w nm sd) (out := outPk s n st so w nm sd) (I := fun k => k ≤ 4) (n := ([115, 114, 113, 10, 7, 1, 0], [903, 902, 901, 900, 113, 10])) (e := ([10, 1, 0], [903, 902, 901, 900, 10])) (r := ([4], [903, 902, 901, 900])) (fun k => 4 - k) ?_ 0 (by decide)
  intro k hk
  match k, hk with
  | 0, _ =>
    cases hc : F.numOk (F.wAt w 2) 11
    · left
      refine ⟨rtPj s n st so w nm sd, ?_, ?_, by simp [rtPj], rfl⟩
      · show ((exec enPrt (loopN Tryd.f21 0) (stPx s n st so w nm sd 0 0 0 0 0)).bind _).val = _
        rw [evPj0]
        simp only [unWds, unUnd, unNum, unTk, unUr, preWds1, preUnd1, preNum1, preTk1, preUr1, unstPj, prlPj, outPj, etaEnt, etaLst, etaSnd, etaStrm, etaMas, Option.bind_some, List.length_map, unStrs, unInts, unBools, unEnts, unItms, unTrns, cond_true, cond_false, Bool.and_true, Bool.true_and, j2, d2, g2, d18, hc]
        rfl
      · exact ifB_f (by unfold F.numsOk; rw [hc]; simp)
    · right
      refine ⟨1, ?_, rfl, by decide, by decide, ?_⟩
      · show ((exec enPrt (loopN Tryd.f21 0) (stPx s n st so w nm sd 0 0 0 0 0)).bind _).val = _
        rw [evPj0]
        simp only [unWds, unUnd, unNum, unTk, unUr, preWds1, preUnd1, preNum1, preTk1, preUr1, unstPj, prlPj, outPj, etaEnt, etaLst, etaSnd, etaStrm, etaMas, Option.bind_some, List.length_map, unStrs, unInts, unBools, unEnts, unItms, unTrns, cond_true, cond_false, Bool.and_true, Bool.true_and, j2, d2, g2, d18, hc]
        rfl
      · simp only [outPk]; unfold F.numsOk; rw [hc]; simp only [Bool.true_and]
  | 1, _ =>
    cases hc : F.numOk (F.wAt w 3) 11
    · left
      refine ⟨rtPj s n st so w nm sd, ?_, ?_, by simp [rtPj], rfl⟩
      · show ((exec enPrt (loopN Tryd.f21 0) (stPx s n st so w nm sd 1 (F.numV (F.wAt w 2) 11) 0 0 0)).bind _).val = _
        rw [evPj1]
        simp only [unWds, unUnd, unNum, unTk, unUr, preWds1, preUnd1, preNum1, preTk1, preUr1, unstPj, prlPj, outPj, etaEnt, etaLst, etaSnd, etaStrm, etaMas, Option.bind_some, List.length_map, unStrs, unInts, unBools, unEnts, unItms, unTrns, cond_true, cond_false, Bool.and_true, Bool.true_and, j3, d3, g3, d18, hc]
        rfl
      · exact ifB_f (by rw [hc]; simp)
    · right
      refine ⟨2, ?_, rfl, by decide, by decide, ?_⟩
      · show ((exec enPrt (loopN Tryd.f21 0) (stPx s n st so w nm sd 1 (F.numV (F.wAt w 2) 11) 0 0 0)).bind _).val = _
        rw [evPj1]
        simp only [unWds, unUnd, unNum, unTk, unUr, preWds1, preUnd1, preNum1, preTk1, preUr1, unstPj, prlPj, outPj, etaEnt, etaLst, etaSnd, etaStrm, etaMas, Option.bind_some, List.length_map, unStrs, unInts, unBools, unEnts, unItms, unTrns, cond_true, cond_false, Bool.and_true, Bool.true_and, j3, d3, g3, d18, hc]
        rfl
      · simp only [outPk]; rw [hc]; simp only [Bool.true_and]
  | 2, _ =>
    cases hc : F.numOk (F.wAt w 4) 11
    · left
      refine ⟨rtPj s n st so w nm sd, ?_, ?_, by simp [rtPj], rfl⟩
      · show ((exec enPrt (loopN Tryd.f21 0) (stPx s n st so w nm sd 2 (F.numV (F.wAt w 2) 11) (F.numV (F.wAt w 3) 11) 0 0)).bind _).val = _
        rw [evPj2]
        simp only [unWds, unUnd, unNum, unTk, unUr, preWds1, preUnd1, preNum1, preTk1, preUr1, unstPj, prlPj, outPj, etaEnt, etaLst, etaSnd, etaStrm, etaMas, Option.bind_some, List.length_map, unStrs, unInts, unBools, unEnts, unItms, unTrns, cond_true, cond_false, Bool.and_true, Bool.true_and, j4, d4, g4, d18, hc]
        rfl
      · exact ifB_f (by rw [hc]; simp)
    · right
      refine ⟨3, ?_, rfl, by decide, by decide, ?_⟩
      · show ((exec enPrt (loopN Tryd.f21 0) (stPx s n st so w nm sd 2 (F.numV (F.wAt w 2) 11) (F.numV (F.wAt w 3) 11) 0 0)).bind _).val = _
        rw [evPj2]
        simp only [unWds, unUnd, unNum, unTk, unUr, preWds1, preUnd1, preNum1, preTk1, preUr1, unstPj, prlPj, outPj, etaEnt, etaLst, etaSnd, etaStrm, etaMas, Option.bind_some, List.length_map, unStrs, unInts, unBools, unEnts, unItms, unTrns, cond_true, cond_false, Bool.and_true, Bool.true_and, j4, d4, g4, d18, hc]
        rfl
      · simp only [outPk]; rw [hc]; simp only [Bool.true_and]
  | 3, _ =>
    cases hc : F.numOk (F.wAt w 5) 11
    · left
      refine ⟨rtPj s n st so w nm sd, ?_, ?_, by simp [rtPj], rfl⟩
      · show ((exec enPrt (loopN Tryd.f21 0) (stPx s n st so w nm sd 3 (F.numV (F.wAt w 2) 11) (F.numV (F.wAt w 3) 11) (F.numV (F.wAt w 4) 11) 0)).bind _).val = _
        rw [evPj3]
        simp only [unWds, unUnd, unNum, unTk, unUr, preWds1, preUnd1, preNum1, preTk1, preUr1, unstPj, prlPj, outPj, etaEnt, etaLst, etaSnd, etaStrm, etaMas, Option.bind_some, List.length_map, unStrs, unInts, unBools, unEnts, unItms, unTrns, cond_true, cond_false, Bool.and_true, Bool.true_and, j5, d5, g5, d18, hc]
        rfl
      · exact ifB_f (by exact hc)
    · right
      refine ⟨4, ?_, rfl, by decide, by decide, ?_⟩
      · show ((exec enPrt (loopN Tryd.f21 0) (stPx s n st so w nm sd 3 (F.numV (F.wAt w 2) 11) (F.numV (F.wAt w 3) 11) (F.numV (F.wAt w 4) 11) 0)).bind _).val = _
        rw [evPj3]
        simp only [unWds, unUnd, unNum, unTk, unUr, preWds1, preUnd1, preNum1, preTk1, preUr1, unstPj, prlPj, outPj, etaEnt, etaLst, etaSnd, etaStrm, etaMas, Option.bind_some, List.length_map, unStrs, unInts, unBools, unEnts, unItms, unTrns, cond_true, cond_false, Bool.and_true, Bool.true_and, j5, d5, g5, d18, hc]
        rfl
      · exact (ifB_t hc).symm
  | 4, _ =>
    left
    refine ⟨exPj s n st so w nm sd, ?_, rfl, by simp [exPj], rfl⟩
    show ((exec enPrt (loopN Tryd.f21 0) (stPx s n st so w nm sd 4 (F.numV (F.wAt w 2) 11) (F.numV (F.wAt w 3) 11) (F.numV (F.wAt w 4) 11) (F.numV (F.wAt w 5) 11))).bind _).val = _
    rw [evPj4]
    rfl

end M
end Go.Proofs.YtipngpndgniagaaDoor
