/- What is proved here: what the body of a caption's text in the long form returns and leaves (no statement of the seat). -/
import Derived.Test.YthcfbeckhgngiaaGreatDoorC117
import Derived.Test.YthcfbeckhgngiaaGreatDoorC133
namespace Go.Proofs.YthcfbeckhgngiaaGreatDoor
open Go Go.RowKit
set_option linter.unusedVariables false
set_option linter.unusedSimpArgs false

/-- Is a line, as it is meant, one of a caption? -/
def F.plOk (x : ByteArray) : Bool := F.plG x && F.line (F.plV x)

/-- The lines of a caption in the long form up to an empty one; where it ends. -/
def F.bdP : List ByteArray → List ByteArray → Nat → Bool × List ByteArray × Nat
  | [], acc, a => bif acc.isEmpty then (false, acc, a + 1) else (true, acc, a)
  | x :: r, acc, a => bif F.emp x && !acc.isEmpty then (true, acc, a) else bif F.plOk x then F.bdP r (acc ++ [F.plV x]) (a + 1) else (false, acc, a + 1)

/-- No lines. -/
def F.isEp (l : List ByteArray) : Bool := l.isEmpty

namespace M

def oCp (ls : List ByteArray) : AV := match ls with
  | [] => .e0
  | _ :: _ => .own 69

def oBp (ls : List ByteArray) : Heap := match ls with
  | [] => []
  | _ :: _ => [(69, ⟨false, 9, 1, ls.map eStr⟩)]

def stBp (L : List ByteArray) (fr : Int) (tt : Int) (ro : Int) (be : Bool) (af : Bool) (a : Nat) : St := ⟨[(2, .fn 37 []), (1, .ptr 901 0 0), (0, .ptr 900 0 0)], [(901, ⟨true, 0, 0, [[vI fr, vI tt, .e0, vI ro, vB be, vB af]]⟩), (900, ⟨true, 0, 0, [[.sl (L.map eStr), vI a]]⟩)]⟩

def stBp1 (a : (List ByteArray) × Int × Int × Int × Bool × Bool × Nat) : St := stBp a.1 a.2.1 a.2.2.1 a.2.2.2.1 a.2.2.2.2.1 a.2.2.2.2.2.1 a.2.2.2.2.2.2

theorem stBp_inj (a a' : (List ByteArray) × Int × Int × Int × Bool × Bool × Nat) (h : stBp1 a = stBp1 a') : a = a' := by
  simp only [stBp1, stBp] at h
  try simp [strs_inj, ints_inj, bools_inj, eL_eIs_inj, eCaps_inj, eCap_iff, eL_eCaps_inj, eMchs_inj, eMch_iff, eWrds_inj, eWrd_iff, eFnds_inj, eFnd_iff, eRatios_inj, eRatio_iff, eWays_inj, eWay_iff] at h
  grind

theorem unstBp (L : List ByteArray) (fr : Int) (tt : Int) (ro : Int) (be : Bool) (af : Bool) (a : Nat) : unenc stBp1 (St.mk [(2, AV.fn (37 : FuncId) []), (1, .ptr 901 0 0), (0, .ptr 900 0 0)] [(901, Blk.mk true 0 0 [[(vI fr), (vI tt), AV.e0, (vI ro), (vB be), (vB af)]]), (900, Blk.mk true
  0 0 [[AV.sl (List.map eStr L), (vI (↑a : Int))]])]) = some (L, fr, tt, ro, be, af, a) := unenc_of stBp_inj (L, fr, tt, ro, be, af, a) rfl

def outBp (L : List ByteArray) (fr : Int) (tt : Int) (ro : Int) (be : Bool) (af : Bool) (a : Nat) : T (Ex × St) := .ifB (F.bdP (L.drop a) [] a).1
      (.ifB (decide ((F.bdP (L.drop a) [] a).2.2 < L.length))
        (.ret (.ret, ⟨[(6, vB true)], [(901, ⟨true, 0, 0, [[vI fr, vI tt, .own 69, vI ro, vB be, vB af]]⟩), (900, ⟨true, 0, 0, [[.sl (L.map eStr), vI (F.bdP (L.drop a) [] a).2.2]]⟩), (69, ⟨false, 9, 1, (F.bdP (L.drop a) [] a).2.1.map eStr⟩)]⟩))
        (.ret (.exit 0, ⟨[], [(901, ⟨true, 0, 0, [[vI fr, vI tt, .own 69, vI ro, vB be, vB af]]⟩), (900, ⟨true, 0, 0, [[.sl (L.map eStr), vI (F.bdP (L.drop a) [] a).2.2]]⟩), (69, ⟨false, 9, 1, (F.bdP (L.drop a) [] a).2.1.map eStr⟩)]⟩)))
      (.ifB (F.isEp (F.bdP (L.drop a) [] a).2.1)
        (.ret (.ret, ⟨[(6, vB false)], [(901, ⟨true, 0, 0, [[vI fr, vI tt, .e0, vI ro, vB be, vB af]]⟩), (900, ⟨true, 0, 0, [[.sl (L.map eStr), vI (F.bdP (L.drop a) [] a).2.2]]⟩)]⟩))
        (.ret (.ret, ⟨[(6, vB false)], [(901, ⟨true, 0, 0, [[vI fr, vI tt, .own 69, vI ro, vB be, vB af]]⟩), (900, ⟨true, 0, 0, [[.sl (L.map eStr), vI (F.bdP (L.drop a) [] a).2.2]]⟩), (69, ⟨false, 9, 1, (F.bdP (L.drop a) [] a).2.1.map eStr⟩)]⟩)))

noncomputable def prlBp (L : List ByteArray) (fr : Int) (tt : Int) (ro : Int) (be : Bool) (af : Bool) (a : Nat) : Bool := F.linesOk L && decide (a ≤ 200001)

noncomputable def lpBp : Nat × (St → T (Ex × St)) := (1, lpo [2, 1, 0] [901, 900] stBp1 (fun a => prlBp a.1 a.2.1 a.2.2.1 a.2.2.2.1 a.2.2.2.2.1 a.2.2.2.2.2.1 a.2.2.2.2.2.2) fun a => outBp a.1 a.2.1 a.2.2.1 a.2.2.2.1 a.2.2.2.2.1 a.2.2.2.2.2.1 a.2.2.2.2.2.2)

def outPx (L : List ByteArray) (fr : Int) (tt : Int) (ro : Int) (be : Bool) (af : Bool) (ls : List ByteArray) (a : Nat) : T (Ex × St) := .ifB (F.bdP (L.drop a) ls a).1
      (.ifB (decide ((F.bdP (L.drop a) ls a).2.2 < L.length))
        (.ret (.ret, ⟨[(6, vB true)], [(901, ⟨true, 0, 0, [[vI fr, vI tt, .own 69, vI ro, vB be, vB af]]⟩), (900, ⟨true, 0, 0, [[.sl (L.map eStr), vI (F.bdP (L.drop a) ls a).2.2]]⟩), (69, ⟨false, 9, 1, (F.bdP (L.drop a) ls a).2.1.map eStr⟩)]⟩))
        (.ret (.exit 0, ⟨[], [(901, ⟨true, 0, 0, [[vI fr, vI tt, .own 69, vI ro, vB be, vB af]]⟩), (900, ⟨true, 0, 0, [[.sl (L.map eStr), vI (F.bdP (L.drop a) ls a).2.2]]⟩), (69, ⟨false, 9, 1, (F.bdP (L.drop a) ls a).2.1.map eStr⟩)]⟩)))
      (.ifB (F.isEp (F.bdP (L.drop a) ls a).2.1)
        (.ret (.ret, ⟨[(6, vB false)], [(901, ⟨true, 0, 0, [[vI fr, vI tt, .e0, vI ro, vB be, vB af]]⟩), (900, ⟨true, 0, 0, [[.sl (L.map eStr), vI (F.bdP (L.drop a) ls a).2.2]]⟩)]⟩))
        (.ret (.ret, ⟨[(6, vB false)], [(901, ⟨true, 0, 0, [[vI fr, vI tt, .own 69, vI ro, vB be, vB af]]⟩), (900, ⟨true, 0, 0, [[.sl (L.map eStr), vI (F.bdP (L.drop a) ls a).2.2]]⟩), (69, ⟨false, 9, 1, (F.bdP (L.drop a) ls a).2.1.map eStr⟩)]⟩)))

def stPx (L : List ByteArray) (fr : Int) (tt : Int) (ro : Int) (be : Bool) (af : Bool) (ls : List ByteArray) (a : Nat) : St := ⟨[(2, .fn 37 []), (1, .ptr 901 0 0), (0, .ptr 900 0 0)], (901, ⟨true, 0, 0, [[vI fr, vI tt, oCp ls, vI ro, vB be, vB af]]⟩) :: (900, ⟨true, 0, 0, [[.sl (L.map eStr), vI a]]⟩) :: oBp ls⟩

noncomputable def enBp : Env := envH ty noG lks [oMor, oPln, oLin] [oTak] [] [lpBp]

theorem enBp_ok : EnvOK Tryz.prog enBp := by
  refine envH_ok lks_ok ty_ok ?_ ?_
  · simp only [List.forall_mem_cons]
    exact ⟨okMor, okPln, okLin, by simp⟩
  · simp only [List.forall_mem_cons]
    exact ⟨okTak, by simp⟩

def stPn (L : List ByteArray) (fr : Int) (tt : Int) (ro : Int) (be : Bool) (af : Bool) (a : Nat) : St := ⟨[(2, .fn 37 []), (1, .ptr 901 0 0), (0, .ptr 900 0 0)], [(901, ⟨true, 0, 0, [[vI fr, vI tt, .e0, vI ro, vB be, vB af]]⟩), (900, ⟨true, 0, 0, [[.sl (L.map eStr), vI a]]⟩)]⟩

def stPs (L : List ByteArray) (fr : Int) (tt : Int) (ro : Int) (be : Bool) (af : Bool) (ls : List ByteArray) (a : Nat) : St := ⟨[(2, .fn 37 []), (1, .ptr 901 0 0), (0, .ptr 900 0 0)], [(901, ⟨true, 0, 0, [[vI fr, vI tt, .own 69, vI ro, vB be, vB af]]⟩), (900, ⟨true, 0, 0, [[.sl (L.map eStr), vI a]]⟩), (69, ⟨false, 9, 1, ls.map eStr⟩)]⟩

theorem evBpN (L : List ByteArray) (fr : Int) (tt : Int) (ro : Int) (be : Bool) (af : Bool) (a : Nat) : ((exec enBp (loopN Tryz.f36 0) (stPn L fr tt ro be af a)).bind (lessX ([2, 1, 0], [901, 900, 69]) ([], [901, 900, 69]) ([6], [901, 900, 69]))).val =
  Option.bind (unenc encMor [AV.pel [AV.sl (List.map eStr L), (vI (↑a : Int))] (0 : Nat)]) fun (z : List ByteArray × Nat) => bif !F.tkB z.fst z.snd then Option.bind (unenc
  encMor [AV.pel [AV.sl (List.map eStr L), (vI (↑a : Int))] (0 : Nat)]) fun (z : List ByteArray × Nat) => bif F.tkB z.fst z.snd then Option.bind (unenc (List.map eStr)
  (List.map eStr L)) fun (z : List ByteArray) => bif decide (a < List.length z) then bif ByteArray.toList (List.getD z a (ByteArray.mk (Array.mk []))) == ByteArray.toList
  (ByteArray.mk (Array.mk [])) then Option.bind (unenc encTak ([.ptr 900 0 0], [(900, Blk.mk true 0 0 [[AV.sl (List.map eStr L), (vI (↑a : Int))]])])) fun (z : List
  ByteArray × Nat) => bif F.linesOk z.fst && decide (z.snd ≤ (200001 : Nat)) then bif !F.tkB z.fst z.snd then some (Ex.ret, St.mk [(6, (vB false))] [(901, Blk.mk true 0 0
  [[(vI fr), (vI tt), AV.e0, (vI ro), (vB be), (vB af)]]), (900, Blk.mk true 0 0 [[AV.sl (List.map eStr z.fst), (vI (↑(z.snd + (1 : Nat)) : Int))]])]) else Option.bind
  (unenc encPln [(vS (F.tkS z.fst z.snd))]) fun (z_1 : ByteArray) => bif F.small z_1 then bif !!F.plG z_1 then Option.bind (unenc encLin [(vS (F.plV z_1))]) fun (z_2 :
  ByteArray) => bif F.small z_2 then bif !F.line z_2 then some (Ex.ret, St.mk [(6, (vB false))] [(901, Blk.mk true 0 0 [[(vI fr), (vI tt), AV.e0, (vI ro), (vB be), (vB
  af)]]), (900, Blk.mk true 0 0 [[AV.sl (List.map eStr z.fst), (vI (↑(z.snd + (1 : Nat)) : Int))]])]) else some (Ex.normal, St.mk [(2, AV.fn (37 : FuncId) []), (1, .ptr 901
  0 0), (0, .ptr 900 0 0)] [(901, Blk.mk true 0 0 [[(vI fr), (vI tt), .own 69, (vI ro), (vB be), (vB af)]]), (900, Blk.mk true 0 0 [[AV.sl (List.map eStr z.fst), (vI
  (↑(z.snd + (1 : Nat)) : Int))]]), (69, Blk.mk false 9 1 [[(vS (F.plV z_1))]])]) else none else some (Ex.ret, St.mk [(6, (vB false))] [(901, Blk.mk true 0 0 [[(vI fr), (vI
  tt), AV.e0, (vI ro), (vB be), (vB af)]]), (900, Blk.mk true 0 0 [[AV.sl (List.map eStr z.fst), (vI (↑(z.snd + (1 : Nat)) : Int))]])]) else none else none else Option.bind
  (unenc encTak ([.ptr 900 0 0], [(900, Blk.mk true 0 0 [[AV.sl (List.map eStr L), (vI (↑a : Int))]])])) fun (z : List ByteArray × Nat) => bif F.linesOk z.fst && decide
  (z.snd ≤ (200001 : Nat)) then bif !F.tkB z.fst z.snd then some (Ex.ret, St.mk [(6, (vB false))] [(901, Blk.mk true 0 0 [[(vI fr), (vI tt), AV.e0, (vI ro), (vB be), (vB
  af)]]), (900, Blk.mk true 0 0 [[AV.sl (List.map eStr z.fst), (vI (↑(z.snd + (1 : Nat)) : Int))]])]) else Option.bind (unenc encPln [(vS (F.tkS z.fst z.snd))]) fun (z_1 :
  ByteArray) => bif F.small z_1 then bif !!F.plG z_1 then Option.bind (unenc encLin [(vS (F.plV z_1))]) fun (z_2 : ByteArray) => bif F.small z_2 then bif !F.line z_2 then
  some (Ex.ret, St.mk [(6, (vB false))] [(901, Blk.mk true 0 0 [[(vI fr), (vI tt), AV.e0, (vI ro), (vB be), (vB af)]]), (900, Blk.mk true 0 0 [[AV.sl (List.map eStr z.fst),
  (vI (↑(z.snd + (1 : Nat)) : Int))]])]) else some (Ex.normal, St.mk [(2, AV.fn (37 : FuncId) []), (1, .ptr 901 0 0), (0, .ptr 900 0 0)] [(901, Blk.mk true 0 0 [[(vI fr),
  (vI tt), .own 69, (vI ro), (vB be), (vB af)]]), (900, Blk.mk true 0 0 [[AV.sl (List.map eStr z.fst), (vI (↑(z.snd + (1 : Nat)) : Int))]]), (69, Blk.mk false 9 1 [[(vS
  (F.plV z_1))]])]) else none else some (Ex.ret, St.mk [(6, (vB false))] [(901, Blk.mk true 0 0 [[(vI fr), (vI tt), AV.e0, (vI ro), (vB be), (vB af)]]), (900, Blk.mk true 0
  0 [[AV.sl (List.map eStr z.fst), (vI (↑(z.snd + (1 : Nat)) : Int))]])]) else none else none else none else Option.bind (unenc encTak ([.ptr 900 0 0], [(900, Blk.mk true 0
  0 [[AV.sl (List.map eStr L), (vI (↑a : Int))]])])) fun (z : List ByteArray × Nat) => bif F.linesOk z.fst && decide (z.snd ≤ (200001 : Nat)) then bif !F.tkB z.fst z.snd
  then some (Ex.ret, St.mk [(6, (vB false))] [(901, Blk.mk true 0 0 [[(vI fr), (vI tt), AV.e0, (vI ro), (vB be), (vB af)]]), (900, Blk.mk true 0 0 [[AV.sl (List.map eStr
  z.fst), (vI (↑(z.snd + (1 : Nat)) : Int))]])]) else Option.bind (unenc encPln [(vS (F.tkS z.fst z.snd))]) fun (z_1 : ByteArray) => bif F.small z_1 then bif !!F.plG z_1
  then Option.bind (unenc encLin [(vS (F.plV z_1))]) fun (z_2 : ByteArray) => bif F.small z_2 then bif !F.line z_2 then some (Ex.ret, St.mk [(6, (vB false))] [(901, Blk.mk
  true 0 0 [[(vI fr), (vI tt), AV.e0, (vI ro), (vB be), (vB af)]]), (900, Blk.mk true 0 0 [[AV.sl (List.map eStr z.fst), (vI (↑(z.snd + (1 : Nat)) : Int))]])]) else some
  (Ex.normal, St.mk [(2, AV.fn (37 : FuncId) []), (1, .ptr 901 0 0), (0, .ptr 900 0 0)] [(901, Blk.mk true 0 0 [[(vI fr), (vI tt), .own 69, (vI ro), (vB be), (vB af)]]),
  (900, Blk.mk true 0 0 [[AV.sl (List.map eStr z.fst), (vI (↑(z.snd + (1 : Nat)) : Int))]]), (69, Blk.mk false 9 1 [[(vS (F.plV z_1))]])]) else none else some (Ex.ret, St.mk
  [(6, (vB false))] [(901, Blk.mk true 0 0 [[(vI fr), (vI tt), AV.e0, (vI ro), (vB be), (vB af)]]), (900, Blk.mk true 0 0 [[AV.sl (List.map eStr z.fst), (vI (↑(z.snd + (1 :
  Nat)) : Int))]])]) else none else none else Option.bind (unenc encMor [AV.pel [AV.sl (List.map eStr L), (vI (↑a : Int))] (0 : Nat)]) fun (z : List ByteArray × Nat) => bif
  F.tkB z.fst z.snd then Option.bind (unenc (List.map eStr) (List.map eStr L)) fun (z : List ByteArray) => bif decide (a < List.length z) then bif ByteArray.toList
  (List.getD z a (ByteArray.mk (Array.mk []))) == ByteArray.toList (ByteArray.mk (Array.mk [])) then Option.bind (unenc encTak ([.ptr 900 0 0], [(900, Blk.mk true 0 0
  [[AV.sl (List.map eStr L), (vI (↑a : Int))]])])) fun (z : List ByteArray × Nat) => bif F.linesOk z.fst && decide (z.snd ≤ (200001 : Nat)) then bif !F.tkB z.fst z.snd then
  some (Ex.ret, St.mk [(6, (vB false))] [(901, Blk.mk true 0 0 [[(vI fr), (vI tt), AV.e0, (vI ro), (vB be), (vB af)]]), (900, Blk.mk true 0 0 [[AV.sl (List.map eStr z.fst),
  (vI (↑(z.snd + (1 : Nat)) : Int))]])]) else Option.bind (unenc encPln [(vS (F.tkS z.fst z.snd))]) fun (z_1 : ByteArray) => bif F.small z_1 then bif !!F.plG z_1 then
  Option.bind (unenc encLin [(vS (F.plV z_1))]) fun (z_2 : ByteArray) => bif F.small z_2 then bif !F.line z_2 then some (Ex.ret, St.mk [(6, (vB false))] [(901, Blk.mk true 0
  0 [[(vI fr), (vI tt), AV.e0, (vI ro), (vB be), (vB af)]]), (900, Blk.mk true 0 0 [[AV.sl (List.map eStr z.fst), (vI (↑(z.snd + (1 : Nat)) : Int))]])]) else some
  (Ex.normal, St.mk [(2, AV.fn (37 : FuncId) []), (1, .ptr 901 0 0), (0, .ptr 900 0 0)] [(901, Blk.mk true 0 0 [[(vI fr), (vI tt), .own 69, (vI ro), (vB be), (vB af)]]),
  (900, Blk.mk true 0 0 [[AV.sl (List.map eStr z.fst), (vI (↑(z.snd + (1 : Nat)) : Int))]]), (69, Blk.mk false 9 1 [[(vS (F.plV z_1))]])]) else none else some (Ex.ret, St.mk
  [(6, (vB false))] [(901, Blk.mk true 0 0 [[(vI fr), (vI tt), AV.e0, (vI ro), (vB be), (vB af)]]), (900, Blk.mk true 0 0 [[AV.sl (List.map eStr z.fst), (vI (↑(z.snd + (1 :
  Nat)) : Int))]])]) else none else none else Option.bind (unenc encTak ([.ptr 900 0 0], [(900, Blk.mk true 0 0 [[AV.sl (List.map eStr L), (vI (↑a : Int))]])])) fun (z :
  List ByteArray × Nat) => bif F.linesOk z.fst && decide (z.snd ≤ (200001 : Nat)) then bif !F.tkB z.fst z.snd then some (Ex.ret, St.mk [(6, (vB false))] [(901, Blk.mk true 0
  0 [[(vI fr), (vI tt), AV.e0, (vI ro), (vB be), (vB af)]]), (900, Blk.mk true 0 0 [[AV.sl (List.map eStr z.fst), (vI (↑(z.snd + (1 : Nat)) : Int))]])]) else Option.bind
  (unenc encPln [(vS (F.tkS z.fst z.snd))]) fun (z_1 : ByteArray) => bif F.small z_1 then bif !!F.plG z_1 then Option.bind (unenc encLin [(vS (F.plV z_1))]) fun (z_2 :
  ByteArray) => bif F.small z_2 then bif !F.line z_2 then some (Ex.ret, St.mk [(6, (vB false))] [(901, Blk.mk true 0 0 [[(vI fr), (vI tt), AV.e0, (vI ro), (vB be), (vB
  af)]]), (900, Blk.mk true 0 0 [[AV.sl (List.map eStr z.fst), (vI (↑(z.snd + (1 : Nat)) : Int))]])]) else some (Ex.normal, St.mk [(2, AV.fn (37 : FuncId) []), (1, .ptr 901
  0 0), (0, .ptr 900 0 0)] [(901, Blk.mk true 0 0 [[(vI fr), (vI tt), .own 69, (vI ro), (vB be), (vB af)]]), (900, Blk.mk true 0 0 [[AV.sl (List.map eStr z.fst), (vI
  (↑(z.snd + (1 : Nat)) : Int))]]), (69, Blk.mk false 9 1 [[(vS (F.plV z_1))]])]) else none else some (Ex.ret, St.mk [(6, (vB false))] [(901, Blk.mk true 0 0 [[(vI fr), (vI
  tt), AV.e0, (vI ro), (vB be), (vB af)]]), (900, Blk.mk true 0 0 [[AV.sl (List.map eStr z.fst), (vI (↑(z.snd + (1 : Nat)) : Int))]])]) else none else none else none else
  Option.bind (unenc encTak ([.ptr 900 0 0], [(900, Blk.mk true 0 0 [[AV.sl (List.map eStr L), (vI (↑a : Int))]])])) fun (z : List ByteArray × Nat) => bif F.linesOk z.fst &&
  decide (z.snd ≤ (200001 : Nat)) then bif !F.tkB z.fst z.snd then some (Ex.ret, St.mk [(6, (vB false))] [(901, Blk.mk true 0 0 [[(vI fr), (vI tt), AV.e0, (vI ro), (vB be),
  (vB af)]]), (900, Blk.mk true 0 0 [[AV.sl (List.map eStr z.fst), (vI (↑(z.snd + (1 : Nat)) : Int))]])]) else Option.bind (unenc encPln [(vS (F.tkS z.fst z.snd))]) fun (z_1
  : ByteArray) => bif F.small z_1 then bif !!F.plG z_1 then Option.bind (unenc encLin [(vS (F.plV z_1))]) fun (z_2 : ByteArray) => bif F.small z_2 then bif !F.line z_2 then
  some (Ex.ret, St.mk [(6, (vB false))] [(901, Blk.mk true 0 0 [[(vI fr), (vI tt), AV.e0, (vI ro), (vB be), (vB af)]]), (900, Blk.mk true 0 0 [[AV.sl (List.map eStr z.fst),
  (vI (↑(z.snd + (1 : Nat)) : Int))]])]) else some (Ex.normal, St.mk [(2, AV.fn (37 : FuncId) []), (1, .ptr 901 0 0), (0, .ptr 900 0 0)] [(901, Blk.mk true 0 0 [[(vI fr),
  (vI tt), .own 69, (vI ro), (vB be), (vB af)]]), (900, Blk.mk true 0 0 [[AV.sl (List.map eStr z.fst), (vI (↑(z.snd + (1 : Nat)) : Int))]]), (69, Blk.mk false 9 1 [[(vS
  (F.plV z_1))]])]) else none else some (Ex.ret, St.mk [(6, (vB false))] [(901, Blk.mk true 0 0 [[(vI fr), (vI tt), AV.e0, (vI ro), (vB be), (vB af)]]), (900, Blk.mk true 0
  0 [[AV.sl (List.map eStr z.fst), (vI (↑(z.snd + (1 : Nat)) : Int))]])]) else none else none := (execR_bind _ _ _).symm.trans (by kernel_rfl)

theorem evBpS (L : List ByteArray) (fr : Int) (tt : Int) (ro : Int) (be : Bool) (af : Bool) (ls : List ByteArray) (a : Nat) : ((exec enBp (loopN Tryz.f36 0) (stPs L fr tt ro be af ls a)).bind (lessX ([2, 1, 0], [901, 900, 69]) ([], [901, 900, 69]) ([6], [901, 900, 69]))).val =
  Option.bind (unenc encMor [AV.pel [AV.sl (List.map eStr L), (vI (↑a : Int))] (0 : Nat)]) fun (z : List ByteArray × Nat) => bif !F.tkB z.fst z.snd then bif (↑(List.length
  (List.map eStr ls)) : Int) == (0 : Int) then Option.bind (unenc encMor [AV.pel [AV.sl (List.map eStr L), (vI (↑a : Int))] (0 : Nat)]) fun (z : List ByteArray × Nat) => bif
  F.tkB z.fst z.snd then Option.bind (unenc (List.map eStr) (List.map eStr L)) fun (z : List ByteArray) => bif decide (a < List.length z) then bif ByteArray.toList
  (List.getD z a (ByteArray.mk (Array.mk []))) == ByteArray.toList (ByteArray.mk (Array.mk [])) then bif decide ((0 : Int) < (↑(List.length (List.map eStr ls)) : Int)) then
  some (Ex.ret, St.mk [(6, (vB true))] [(901, Blk.mk true 0 0 [[(vI fr), (vI tt), .own 69, (vI ro), (vB be), (vB af)]]), (900, Blk.mk true 0 0 [[AV.sl (List.map eStr L), (vI
  (↑a : Int))]]), (69, Blk.mk false 9 1 (List.map eStr ls))]) else Option.bind (unenc encTak ([.ptr 900 0 0], [(900, Blk.mk true 0 0 [[AV.sl (List.map eStr L), (vI (↑a :
  Int))]])])) fun (z : List ByteArray × Nat) => bif F.linesOk z.fst && decide (z.snd ≤ (200001 : Nat)) then bif !F.tkB z.fst z.snd then some (Ex.ret, St.mk [(6, (vB false))]
  [(901, Blk.mk true 0 0 [[(vI fr), (vI tt), .own 69, (vI ro), (vB be), (vB af)]]), (900, Blk.mk true 0 0 [[AV.sl (List.map eStr z.fst), (vI (↑(z.snd + (1 : Nat)) :
  Int))]]), (69, Blk.mk false 9 1 (List.map eStr ls))]) else Option.bind (unenc encPln [(vS (F.tkS z.fst z.snd))]) fun (z_1 : ByteArray) => bif F.small z_1 then bif !!F.plG
  z_1 then Option.bind (unenc encLin [(vS (F.plV z_1))]) fun (z_2 : ByteArray) => bif F.small z_2 then bif !F.line z_2 then some (Ex.ret, St.mk [(6, (vB false))] [(901,
  Blk.mk true 0 0 [[(vI fr), (vI tt), .own 69, (vI ro), (vB be), (vB af)]]), (900, Blk.mk true 0 0 [[AV.sl (List.map eStr z.fst), (vI (↑(z.snd + (1 : Nat)) : Int))]]), (69,
  Blk.mk false 9 1 (List.map eStr ls))]) else bif Nat.ble ((List.length (List.map eStr ls) + (1 : Nat)) * (16 : Nat)) (140737488355328 : Nat) && true then some (Ex.normal,
  St.mk [(2, AV.fn (37 : FuncId) []), (1, .ptr 901 0 0), (0, .ptr 900 0 0)] [(901, Blk.mk true 0 0 [[(vI fr), (vI tt), .own 69, (vI ro), (vB be), (vB af)]]), (900, Blk.mk
  true 0 0 [[AV.sl (List.map eStr z.fst), (vI (↑(z.snd + (1 : Nat)) : Int))]]), (69, Blk.mk false 9 1 (List.map eStr ls ++ [[(vS (F.plV z_1))]]))]) else none else none else
  some (Ex.ret, St.mk [(6, (vB false))] [(901, Blk.mk true 0 0 [[(vI fr), (vI tt), .own 69, (vI ro), (vB be), (vB af)]]), (900, Blk.mk true 0 0 [[AV.sl (List.map eStr
  z.fst), (vI (↑(z.snd + (1 : Nat)) : Int))]]), (69, Blk.mk false 9 1 (List.map eStr ls))]) else none else none else Option.bind (unenc encTak ([.ptr 900 0 0], [(900, Blk.mk
  true 0 0 [[AV.sl (List.map eStr L), (vI (↑a : Int))]])])) fun (z : List ByteArray × Nat) => bif F.linesOk z.fst && decide (z.snd ≤ (200001 : Nat)) then bif !F.tkB z.fst
  z.snd then some (Ex.ret, St.mk [(6, (vB false))] [(901, Blk.mk true 0 0 [[(vI fr), (vI tt), .own 69, (vI ro), (vB be), (vB af)]]), (900, Blk.mk true 0 0 [[AV.sl (List.map
  eStr z.fst), (vI (↑(z.snd + (1 : Nat)) : Int))]]), (69, Blk.mk false 9 1 (List.map eStr ls))]) else Option.bind (unenc encPln [(vS (F.tkS z.fst z.snd))]) fun (z_1 :
  ByteArray) => bif F.small z_1 then bif !!F.plG z_1 then Option.bind (unenc encLin [(vS (F.plV z_1))]) fun (z_2 : ByteArray) => bif F.small z_2 then bif !F.line z_2 then
  some (Ex.ret, St.mk [(6, (vB false))] [(901, Blk.mk true 0 0 [[(vI fr), (vI tt), .own 69, (vI ro), (vB be), (vB af)]]), (900, Blk.mk true 0 0 [[AV.sl (List.map eStr
  z.fst), (vI (↑(z.snd + (1 : Nat)) : Int))]]), (69, Blk.mk false 9 1 (List.map eStr ls))]) else bif Nat.ble ((List.length (List.map eStr ls) + (1 : Nat)) * (16 : Nat))
  (140737488355328 : Nat) && true then some (Ex.normal, St.mk [(2, AV.fn (37 : FuncId) []), (1, .ptr 901 0 0), (0, .ptr 900 0 0)] [(901, Blk.mk true 0 0 [[(vI fr), (vI tt),
  .own 69, (vI ro), (vB be), (vB af)]]), (900, Blk.mk true 0 0 [[AV.sl (List.map eStr z.fst), (vI (↑(z.snd + (1 : Nat)) : Int))]]), (69, Blk.mk false 9 1 (List.map eStr ls
  ++ [[(vS (F.plV z_1))]]))]) else none else none else some (Ex.ret, St.mk [(6, (vB false))] [(901, Blk.mk true 0 0 [[(vI fr), (vI tt), .own 69, (vI ro), (vB be), (vB
  af)]]), (900, Blk.mk true 0 0 [[AV.sl (List.map eStr z.fst), (vI (↑(z.snd + (1 : Nat)) : Int))]]), (69, Blk.mk false 9 1 (List.map eStr ls))]) else none else none else
  none else Option.bind (unenc encTak ([.ptr 900 0 0], [(900, Blk.mk true 0 0 [[AV.sl (List.map eStr L), (vI (↑a : Int))]])])) fun (z : List ByteArray × Nat) => bif
  F.linesOk z.fst && decide (z.snd ≤ (200001 : Nat)) then bif !F.tkB z.fst z.snd then some (Ex.ret, St.mk [(6, (vB false))] [(901, Blk.mk true 0 0 [[(vI fr), (vI tt), .own
  69, (vI ro), (vB be), (vB af)]]), (900, Blk.mk true 0 0 [[AV.sl (List.map eStr z.fst), (vI (↑(z.snd + (1 : Nat)) : Int))]]), (69, Blk.mk false 9 1 (List.map eStr ls))])
  else Option.bind (unenc encPln [(vS (F.tkS z.fst z.snd))]) fun (z_1 : ByteArray) => bif F.small z_1 then bif !!F.plG z_1 then Option.bind (unenc encLin [(vS (F.plV z_1))])
  fun (z_2 : ByteArray) => bif F.small z_2 then bif !F.line z_2 then some (Ex.ret, St.mk [(6, (vB false))] [(901, Blk.mk true 0 0 [[(vI fr), (vI tt), .own 69, (vI ro), (vB
  be), (vB af)]]), (900, Blk.mk true 0 0 [[AV.sl (List.map eStr z.fst), (vI (↑(z.snd + (1 : Nat)) : Int))]]), (69, Blk.mk false 9 1 (List.map eStr ls))]) else bif Nat.ble
  ((List.length (List.map eStr ls) + (1 : Nat)) * (16 : Nat)) (140737488355328 : Nat) && true then some (Ex.normal, St.mk [(2, AV.fn (37 : FuncId) []), (1, .ptr 901 0 0),
  (0, .ptr 900 0 0)] [(901, Blk.mk true 0 0 [[(vI fr), (vI tt), .own 69, (vI ro), (vB be), (vB af)]]), (900, Blk.mk true 0 0 [[AV.sl (List.map eStr z.fst), (vI (↑(z.snd + (1
  : Nat)) : Int))]]), (69, Blk.mk false 9 1 (List.map eStr ls ++ [[(vS (F.plV z_1))]]))]) else none else none else some (Ex.ret, St.mk [(6, (vB false))] [(901, Blk.mk true 0
  0 [[(vI fr), (vI tt), .own 69, (vI ro), (vB be), (vB af)]]), (900, Blk.mk true 0 0 [[AV.sl (List.map eStr z.fst), (vI (↑(z.snd + (1 : Nat)) : Int))]]), (69, Blk.mk false 9
  1 (List.map eStr ls))]) else none else none else some (Ex.exit (0 : Nat), St.mk [] [(901, Blk.mk true 0 0 [[(vI fr), (vI tt), .own 69, (vI ro), (vB be), (vB af)]]), (900,
  Blk.mk true 0 0 [[AV.sl (List.map eStr L), (vI (↑a : Int))]]), (69, Blk.mk false 9 1 (List.map eStr ls))]) else Option.bind (unenc encMor [AV.pel [AV.sl (List.map eStr L),
  (vI (↑a : Int))] (0 : Nat)]) fun (z : List ByteArray × Nat) => bif F.tkB z.fst z.snd then Option.bind (unenc (List.map eStr) (List.map eStr L)) fun (z : List ByteArray) =>
  bif decide (a < List.length z) then bif ByteArray.toList (List.getD z a (ByteArray.mk (Array.mk []))) == ByteArray.toList (ByteArray.mk (Array.mk [])) then bif decide ((0
  : Int) < (↑(List.length (List.map eStr ls)) : Int)) then some (Ex.ret, St.mk [(6, (vB true))] [(901, Blk.mk true 0 0 [[(vI fr), (vI tt), .own 69, (vI ro), (vB be), (vB
  af)]]), (900, Blk.mk true 0 0 [[AV.sl (List.map eStr L), (vI (↑a : Int))]]), (69, Blk.mk false 9 1 (List.map eStr ls))]) else Option.bind (unenc encTak ([.ptr 900 0 0],
  [(900, Blk.mk true 0 0 [[AV.sl (List.map eStr L), (vI (↑a : Int))]])])) fun (z : List ByteArray × Nat) => bif F.linesOk z.fst && decide (z.snd ≤ (200001 : Nat)) then bif
  !F.tkB z.fst z.snd then some (Ex.ret, St.mk [(6, (vB false))] [(901, Blk.mk true 0 0 [[(vI fr), (vI tt), .own 69, (vI ro), (vB be), (vB af)]]), (900, Blk.mk true 0 0
  [[AV.sl (List.map eStr z.fst), (vI (↑(z.snd + (1 : Nat)) : Int))]]), (69, Blk.mk false 9 1 (List.map eStr ls))]) else Option.bind (unenc encPln [(vS (F.tkS z.fst z.snd))])
  fun (z_1 : ByteArray) => bif F.small z_1 then bif !!F.plG z_1 then Option.bind (unenc encLin [(vS (F.plV z_1))]) fun (z_2 : ByteArray) => bif F.small z_2 then bif !F.line
  z_2 then some (Ex.ret, St.mk [(6, (vB false))] [(901, Blk.mk true 0 0 [[(vI fr), (vI tt), .own 69, (vI ro), (vB be), (vB af)]]), (900, Blk.mk true 0 0 [[AV.sl (List.map
  eStr z.fst), (vI (↑(z.snd + (1 : Nat)) : Int))]]), (69, Blk.mk false 9 1 (List.map eStr ls))]) else bif Nat.ble ((List.length (List.map eStr ls) + (1 : Nat)) * (16 : Nat))
  (140737488355328 : Nat) && true then some (Ex.normal, St.mk [(2, AV.fn (37 : FuncId) []), (1, .ptr 901 0 0), (0, .ptr 900 0 0)] [(901, Blk.mk true 0 0 [[(vI fr), (vI tt),
  .own 69, (vI ro), (vB be), (vB af)]]), (900, Blk.mk true 0 0 [[AV.sl (List.map eStr z.fst), (vI (↑(z.snd + (1 : Nat)) : Int))]]), (69, Blk.mk false 9 1 (List.map eStr ls
  ++ [[(vS (F.plV z_1))]]))]) else none else none else some (Ex.ret, St.mk [(6, (vB false))] [(901, Blk.mk true 0 0 [[(vI fr), (vI tt), .own 69, (vI ro), (vB be), (vB
  af)]]), (900, Blk.mk true 0 0 [[AV.sl (List.map eStr z.fst), (vI (↑(z.snd + (1 : Nat)) : Int))]]), (69, Blk.mk false 9 1 (List.map eStr ls))]) else none else none else
  Option.bind (unenc encTak ([.ptr 900 0 0], [(900, Blk.mk true 0 0 [[AV.sl (List.map eStr L), (vI (↑a : Int))]])])) fun (z : List ByteArray × Nat) => bif F.linesOk z.fst &&
  decide (z.snd ≤ (200001 : Nat)) then bif !F.tkB z.fst z.snd then some (Ex.ret, St.mk [(6, (vB false))] [(901, Blk.mk true 0 0 [[(vI fr), (vI tt), .own 69, (vI ro), (vB
  be), (vB af)]]), (900, Blk.mk true 0 0 [[AV.sl (List.map eStr z.fst), (vI (↑(z.snd + (1 : Nat)) : Int))]]), (69, Blk.mk false 9 1 (List.map eStr ls))]) else Option.bind
  (unenc encPln [(vS (F.tkS z.fst z.snd))]) fun (z_1 : ByteArray) => bif F.small z_1 then bif !!F.plG z_1 then Option.bind (unenc encLin [(vS (F.plV z_1))]) fun (z_2 :
  ByteArray) => bif F.small z_2 then bif !F.line z_2 then some (Ex.ret, St.mk [(6, (vB false))] [(901, Blk.mk true 0 0 [[(vI fr), (vI tt), .own 69, (vI ro), (vB be), (vB
  af)]]), (900, Blk.mk true 0 0 [[AV.sl (List.map eStr z.fst), (vI (↑(z.snd + (1 : Nat)) : Int))]]), (69, Blk.mk false 9 1 (List.map eStr ls))]) else bif Nat.ble
  ((List.length (List.map eStr ls) + (1 : Nat)) * (16 : Nat)) (140737488355328 : Nat) && true then some (Ex.normal, St.mk [(2, AV.fn (37 : FuncId) []), (1, .ptr 901 0 0),
  (0, .ptr 900 0 0)] [(901, Blk.mk true 0 0 [[(vI fr), (vI tt), .own 69, (vI ro), (vB be), (vB af)]]), (900, Blk.mk true 0 0 [[AV.sl (List.map eStr z.fst), (vI (↑(z.snd + (1
  : Nat)) : Int))]]), (69, Blk.mk false 9 1 (List.map eStr ls ++ [[(vS (F.plV z_1))]]))]) else none else none else some (Ex.ret, St.mk [(6, (vB false))] [(901, Blk.mk true 0
  0 [[(vI fr), (vI tt), .own 69, (vI ro), (vB be), (vB af)]]), (900, Blk.mk true 0 0 [[AV.sl (List.map eStr z.fst), (vI (↑(z.snd + (1 : Nat)) : Int))]]), (69, Blk.mk false 9
  1 (List.map eStr ls))]) else none else none else none else Option.bind (unenc encTak ([.ptr 900 0 0], [(900, Blk.mk true 0 0 [[AV.sl (List.map eStr L), (vI (↑a :
  Int))]])])) fun (z : List ByteArray × Nat) => bif F.linesOk z.fst && decide (z.snd ≤ (200001 : Nat)) then bif !F.tkB z.fst z.snd then some (Ex.ret, St.mk [(6, (vB false))]
  [(901, Blk.mk true 0 0 [[(vI fr), (vI tt), .own 69, (vI ro), (vB be), (vB af)]]), (900, Blk.mk true 0 0 [[AV.sl (List.map eStr z.fst), (vI (↑(z.snd + (1 : Nat)) :
  Int))]]), (69, Blk.mk false 9 1 (List.map eStr ls))]) else Option.bind (unenc encPln [(vS (F.tkS z.fst z.snd))]) fun (z_1 : ByteArray) => bif F.small z_1 then bif !!F.plG
  z_1 then Option.bind (unenc encLin [(vS (F.plV z_1))]) fun (z_2 : ByteArray) => bif F.small z_2 then bif !F.line z_2 then some (Ex.ret, St.mk [(6, (vB false))] [(901,
  Blk.mk true 0 0 [[(vI fr), (vI tt), .own 69, (vI ro), (vB be), (vB af)]]), (900, Blk.mk true 0 0 [[AV.sl (List.map eStr z.fst), (vI (↑(z.snd + (1 : Nat)) : Int))]]), (69,
  Blk.mk false 9 1 (List.map eStr ls))]) else bif Nat.ble ((List.length (List.map eStr ls) + (1 : Nat)) * (16 : Nat)) (140737488355328 : Nat) && true then some (Ex.normal,
  St.mk [(2, AV.fn (37 : FuncId) []), (1, .ptr 901 0 0), (0, .ptr 900 0 0)] [(901, Blk.mk true 0 0 [[(vI fr), (vI tt), .own 69, (vI ro), (vB be), (vB af)]]), (900, Blk.mk
  true 0 0 [[AV.sl (List.map eStr z.fst), (vI (↑(z.snd + (1 : Nat)) : Int))]]), (69, Blk.mk false 9 1 (List.map eStr ls ++ [[(vS (F.plV z_1))]]))]) else none else none else
  some (Ex.ret, St.mk [(6, (vB false))] [(901, Blk.mk true 0 0 [[(vI fr), (vI tt), .own 69, (vI ro), (vB be), (vB af)]]), (900, Blk.mk true 0 0 [[AV.sl (List.map eStr
  z.fst), (vI (↑(z.snd + (1 : Nat)) : Int))]]), (69, Blk.mk false 9 1 (List.map eStr ls))]) else none else none := (execR_bind _ _ _).symm.trans (by kernel_rfl)

theorem oCp_snoc (ls : List ByteArray) (y : ByteArray) : oCp (ls ++ [y]) = .own 69 := by cases ls <;> rfl

theorem oBp_snoc (ls : List ByteArray) (y : ByteArray) : oBp (ls ++ [y]) = [(69, ⟨false, 9, 1, (ls ++ [y]).map eStr⟩)] := by cases ls <;> rfl

theorem stPx_snoc (L : List ByteArray) (fr : Int) (tt : Int) (ro : Int) (be : Bool) (af : Bool) (ls : List ByteArray) (y : ByteArray) (a : Nat) : stPx L fr tt ro be af (ls ++ [y]) a = stPs L fr tt ro be af (ls ++ [y]) a := by
  unfold stPx stPs
  rw [oCp_snoc, oBp_snoc]

theorem lpBp_ok (L : List ByteArray) (fr : Int) (tt : Int) (ro : Int) (be : Bool) (af : Bool) (a : Nat) (hp : prlBp L fr tt ro be af a = true) : ∀ ex s', (outBp L fr tt ro be af a).val = some (ex, s') → LoopOK enBp (loopN Tryz.f36 0) (stBp L fr tt ro be af a) ex s' := by
  simp only [prlBp, Bool.and_eq_true, decide_eq_true_eq] at hp
  obtain ⟨h1, h2⟩ := hp
  have hL : L.length ≤ 200001 ∧ L.all F.small = true := by simpa [F.linesOk] using h1
  refine loop_gen (st := fun b : List ByteArray × Nat => stPx L fr tt ro be af b.1 b.2) (out := fun b => outPx L fr tt ro be af b.1 b.2) (I := fun b => b.2 ≤ 200001 ∧ b.1.length ≤ b.2) (n := ([2, 1, 0], [901, 900, 69])) (e := ([], [901, 900, 69])) (r := ([6], [901, 900, 69])) (fun b => L.length + 1 - b.2) ?_ ([], a) ⟨h2, Nat.zero_le _⟩
  rintro ⟨ls, a⟩ ⟨i1, i2⟩
  simp only at i1 i2
  have h2 : decide (a ≤ 200001) = true := decide_eq_true i1
  by_cases ha : a < L.length
  · have hy : L[a]? = some L[a] := List.getElem?_eq_getElem ha
    generalize L[a] = y at hy
    have hd := drop_q hy
    have ht : F.tkB L a = true := decide_eq_true ha
    have hS : F.tkS L a = y := by unfold F.tkS; rw [ht, cond_true]; exact getD_at hy
    have hys : F.small y = true := List.all_eq_true.1 hL.2 y (List.mem_of_getElem? hy)
    have ey : (y.toList == (⟨⟨[]⟩⟩ : ByteArray).toList) = F.emp y := rfl
    have hps : F.small (F.plV y) = true := F.small_le (F.plV_size y) (of_decide_eq_true hys)
    cases ls with
    | nil =>
      cases hl : F.plOk y
      · left
        refine ⟨(.ret, ⟨[(6, vB false)], [(901, ⟨true, 0, 0, [[vI fr, vI tt, .e0, vI ro, vB be, vB af]]⟩), (900, ⟨true, 0, 0, [[.sl (L.map eStr), vI (a + 1 : Nat)]]⟩)]⟩), ?_, ?_, by simp, rfl⟩
        · show ((exec enBp (loopN Tryz.f36 0) (stPn L fr tt ro be af a)).bind _).val = _
          rw [evBpN]
          simp only [unMor, unPln, unLin, unTak, preMor1, prePln1, preLin1, preTak1, unstBp, prlBp, outBp, etaCap, etaMch, etaWrd, etaFnd, etaRatio, etaWay, Option.bind_some, List.length_map, unStrs, unInts, unBools, uneL_eIs, unCaps, uneL_eCaps, unMchs, unWrds, unFnds, unRatios, unWays, F.lt, F.le, cond_true, cond_false, Bool.and_true, Bool.true_and, ht, hS, h1, h2, hys, hps, decide_eq_true ha, getD_at hy, ey, Bool.not_true, Bool.not_false, Bool.and_self]
          cases hG : F.plG y
          · simp only [Bool.not_false, Bool.not_true, cond_true, cond_false]
            cases F.emp y <;> rfl
          · have hl2 : F.line (F.plV y) = false := by simpa [F.plOk, hG] using hl
            simp only [hl2, Bool.not_false, Bool.not_true, cond_true, cond_false]
            cases F.emp y <;> rfl
        · simp only [outPx, F.isEp, hd, F.bdP, hl, List.isEmpty_nil, Bool.not_true, Bool.and_false, cond_false]
          rfl
      · right
        refine ⟨([F.plV y], a + 1), ?_, rfl, ⟨by simp only; omega, by simp⟩, by simp only; omega, ?_⟩
        · show ((exec enBp (loopN Tryz.f36 0) (stPn L fr tt ro be af a)).bind _).val = _
          rw [evBpN]
          have hG : F.plG y = true ∧ F.line (F.plV y) = true := by simpa [F.plOk] using hl
          simp only [unMor, unPln, unLin, unTak, preMor1, prePln1, preLin1, preTak1, unstBp, prlBp, outBp, etaCap, etaMch, etaWrd, etaFnd, etaRatio, etaWay, Option.bind_some, List.length_map, unStrs, unInts, unBools, uneL_eIs, unCaps, uneL_eCaps, unMchs, unWrds, unFnds, unRatios, unWays, F.lt, F.le, cond_true, cond_false, Bool.and_true, Bool.true_and, ht, hS, h1, h2, hys, hps, hG.1, hG.2, decide_eq_true ha, getD_at hy, ey, Bool.not_true, Bool.not_false, Bool.and_self]
          cases F.emp y <;> rfl
        · simp only [outPx, F.isEp, hd, F.bdP, hl, List.isEmpty_nil, Bool.not_true, Bool.and_false, cond_false, cond_true, List.nil_append]
    | cons x r =>
      cases he : F.emp y
      · cases hl : F.plOk y
        · left
          refine ⟨(.ret, ⟨[(6, vB false)], [(901, ⟨true, 0, 0, [[vI fr, vI tt, .own 69, vI ro, vB be, vB af]]⟩), (900, ⟨true, 0, 0, [[.sl (L.map eStr), vI (a + 1 : Nat)]]⟩), (69, ⟨false, 9, 1, (x :: r).map eStr⟩)]⟩), ?_, ?_, by simp, rfl⟩
          · show ((exec enBp (loopN Tryz.f36 0) (stPs L fr tt ro be af (x :: r) a)).bind _).val = _
            rw [evBpS]
            simp only [unMor, unPln, unLin, unTak, preMor1, prePln1, preLin1, preTak1, unstBp, prlBp, outBp, etaCap, etaMch, etaWrd, etaFnd, etaRatio, etaWay, Option.bind_some, List.length_map, unStrs, unInts, unBools, uneL_eIs, unCaps, uneL_eCaps, unMchs, unWrds, unFnds, unRatios, unWays, F.lt, F.le, cond_true, cond_false, Bool.and_true, Bool.true_and, ht, hS, h1, h2, hys, hps, decide_eq_true ha, getD_at hy, ey, he, Bool.not_true, Bool.not_false, Bool.and_self]
            cases hG : F.plG y
            · simp only [Bool.not_false, Bool.not_true, cond_true, cond_false]
              try rfl
            · have hl2 : F.line (F.plV y) = false := by simpa [F.plOk, hG] using hl
              simp only [hl2, Bool.not_false, Bool.not_true, cond_true, cond_false]
              try rfl
          · simp only [outPx, F.isEp, hd, F.bdP, he, hl, Bool.false_and, cond_false]
            rfl
        · right
          refine ⟨(x :: r ++ [F.plV y], a + 1), ?_, by rw [stPx_snoc]; rfl, ⟨by simp only; omega, by simp at i2 ⊢; omega⟩, by simp only; omega, ?_⟩
          · show ((exec enBp (loopN Tryz.f36 0) (stPs L fr tt ro be af (x :: r) a)).bind _).val = some (_, stPx L fr tt ro be af (x :: r ++ [F.plV y]) (a + 1))
            rw [evBpS, stPx_snoc]
            have hG : F.plG y = true ∧ F.line (F.plV y) = true := by simpa [F.plOk] using hl
            simp only [unMor, unPln, unLin, unTak, preMor1, prePln1, preLin1, preTak1, unstBp, prlBp, outBp, etaCap, etaMch, etaWrd, etaFnd, etaRatio, etaWay, Option.bind_some, List.length_map, unStrs, unInts, unBools, uneL_eIs, unCaps, uneL_eCaps, unMchs, unWrds, unFnds, unRatios, unWays, F.lt, F.le, cond_true, cond_false, Bool.and_true, Bool.true_and, ht, hS, h1, h2, hys, hps, hG.1, hG.2, decide_eq_true ha, getD_at hy, ey, he, Bool.not_true, Bool.not_false, Bool.and_self]
            have em : (x :: r).map eStr ++ [[vS (F.plV y)]] = (x :: r ++ [F.plV y]).map eStr := by simp [eStr]
            have hlen : ((x :: r).length + 1) * 16 ≤ 140737488355328 := by omega
            rw [em, ble_t hlen]
            rfl
          · simp only [outPx, F.isEp, hd, F.bdP, he, hl, Bool.false_and, cond_false, cond_true]
      · left
        refine ⟨(.ret, ⟨[(6, vB true)], [(901, ⟨true, 0, 0, [[vI fr, vI tt, .own 69, vI ro, vB be, vB af]]⟩), (900, ⟨true, 0, 0, [[.sl (L.map eStr), vI a]]⟩), (69, ⟨false, 9, 1, (x :: r).map eStr⟩)]⟩), ?_, ?_, by simp, rfl⟩
        · show ((exec enBp (loopN Tryz.f36 0) (stPs L fr tt ro be af (x :: r) a)).bind _).val = _
          rw [evBpS]
          simp only [unMor, unPln, unLin, unTak, preMor1, prePln1, preLin1, preTak1, unstBp, prlBp, outBp, etaCap, etaMch, etaWrd, etaFnd, etaRatio, etaWay, Option.bind_some, List.length_map, unStrs, unInts, unBools, uneL_eIs, unCaps, uneL_eCaps, unMchs, unWrds, unFnds, unRatios, unWays, F.lt, F.le, cond_true, cond_false, Bool.and_true, Bool.true_and, ht, hS, h1, h2, hys, decide_eq_true ha, getD_at hy, ey, he, Bool.not_true, Bool.not_false, Bool.and_self]
          rw [decide_eq_true (show (0 : Int) < ((x :: r).length : Int) by simp)]
          rfl
        · simp only [outPx, F.isEp, hd, F.bdP, he, List.isEmpty_cons, Bool.not_false, Bool.and_self, cond_true, decide_eq_true ha]
          rfl
  · have ht : F.tkB L a = false := decide_eq_false ha
    have hd : L.drop a = [] := List.drop_eq_nil_of_le (by omega)
    cases ls with
    | nil =>
      left
      refine ⟨(.ret, ⟨[(6, vB false)], [(901, ⟨true, 0, 0, [[vI fr, vI tt, .e0, vI ro, vB be, vB af]]⟩), (900, ⟨true, 0, 0, [[.sl (L.map eStr), vI (a + 1 : Nat)]]⟩)]⟩), ?_, ?_, by simp, rfl⟩
      · show ((exec enBp (loopN Tryz.f36 0) (stPn L fr tt ro be af a)).bind _).val = _
        rw [evBpN]
        simp only [unMor, unPln, unLin, unTak, preMor1, prePln1, preLin1, preTak1, unstBp, prlBp, outBp, etaCap, etaMch, etaWrd, etaFnd, etaRatio, etaWay, Option.bind_some, List.length_map, unStrs, unInts, unBools, uneL_eIs, unCaps, uneL_eCaps, unMchs, unWrds, unFnds, unRatios, unWays, F.lt, F.le, cond_true, cond_false, Bool.and_true, Bool.true_and, ht, h1, h2, Bool.not_true, Bool.not_false, Bool.and_self]
        try rfl
      · simp only [outPx, F.isEp, hd, F.bdP, List.isEmpty_nil, cond_true]
        rfl
    | cons x r =>
      left
      refine ⟨(.exit 0, ⟨[], [(901, ⟨true, 0, 0, [[vI fr, vI tt, .own 69, vI ro, vB be, vB af]]⟩), (900, ⟨true, 0, 0, [[.sl (L.map eStr), vI a]]⟩), (69, ⟨false, 9, 1, (x :: r).map eStr⟩)]⟩), ?_, ?_, by simp, rfl⟩
      · show ((exec enBp (loopN Tryz.f36 0) (stPs L fr tt ro be af (x :: r) a)).bind _).val = _
        rw [evBpS]
        simp only [unMor, unPln, unLin, unTak, preMor1, prePln1, preLin1, preTak1, unstBp, prlBp, outBp, etaCap, etaMch, etaWrd, etaFnd, etaRatio, etaWay, Option.bind_some, List.length_map, unStrs, unInts, unBools, uneL_eIs, unCaps, uneL_eCaps, unMchs, unWrds, unFnds, unRatios, unWays, F.lt, F.le, cond_true, cond_false, Bool.and_true, Bool.true_and, ht, h1, h2, Bool.not_true, Bool.not_false, Bool.and_self]
        have e0 : (((x :: r).length : Int) == 0) = false := by rw [beq_eq_false_iff_ne]; simp; omega
        rw [e0]
        rfl
      · simp only [outPx, F.isEp, hd, F.bdP, List.isEmpty_cons, cond_false, decide_eq_false ha]
        rfl

theorem evBdp (L : List ByteArray) (fr : Int) (tt : Int) (ro : Int) (be : Bool) (af : Bool) (a : Nat) : (runH enBp [] Tryz.f36 [.ptr 900 0 0, .ptr 901 0 0, .fn 37 []] [(901, ⟨true, 0, 0, [[vI fr, vI tt, .e0, vI ro, vB be, vB af]]⟩), (900, ⟨true, 0, 0, [[.sl (L.map eStr), vI a]]⟩)]).val =
  Option.bind (unenc stBp1 (St.mk [(2, AV.fn (37 : FuncId) []), (1, .ptr 901 0 0), (0, .ptr 900 0 0)] [(901, Blk.mk true 0 0 [[(vI fr), (vI tt), AV.e0, (vI ro), (vB be), (vB
  af)]]), (900, Blk.mk true 0 0 [[AV.sl (List.map eStr L), (vI (↑a : Int))]])])) fun (z : List ByteArray × Int × Int × Int × Bool × Bool × Nat) => bif F.linesOk z.fst &&
  decide (z.snd.snd.snd.snd.snd.snd ≤ (200001 : Nat)) && true then bif (F.bdP (List.drop z.snd.snd.snd.snd.snd.snd z.fst) [] z.snd.snd.snd.snd.snd.snd).fst then bif decide
  ((F.bdP (List.drop z.snd.snd.snd.snd.snd.snd z.fst) [] z.snd.snd.snd.snd.snd.snd).snd.snd < List.length z.fst) then some ((vB true), [(901, Blk.mk true 0 0 [[(vI
  z.snd.fst), (vI z.snd.snd.fst), .own 0, (vI z.snd.snd.snd.fst), (vB z.snd.snd.snd.snd.fst), (vB z.snd.snd.snd.snd.snd.fst)]]), (900, Blk.mk true 0 0 [[AV.sl (List.map eStr
  z.fst), (vI (↑(F.bdP (List.drop z.snd.snd.snd.snd.snd.snd z.fst) [] z.snd.snd.snd.snd.snd.snd).snd.snd : Int))]]), (0, Blk.mk false 9 1 (List.map eStr (F.bdP (List.drop
  z.snd.snd.snd.snd.snd.snd z.fst) [] z.snd.snd.snd.snd.snd.snd).snd.fst))], []) else some ((vB true), [(901, Blk.mk true 0 0 [[(vI z.snd.fst), (vI z.snd.snd.fst), .own 0,
  (vI z.snd.snd.snd.fst), (vB z.snd.snd.snd.snd.fst), (vB z.snd.snd.snd.snd.snd.fst)]]), (900, Blk.mk true 0 0 [[AV.sl (List.map eStr z.fst), (vI (↑(F.bdP (List.drop
  z.snd.snd.snd.snd.snd.snd z.fst) [] z.snd.snd.snd.snd.snd.snd).snd.snd : Int))]]), (0, Blk.mk false 9 1 (List.map eStr (F.bdP (List.drop z.snd.snd.snd.snd.snd.snd z.fst)
  [] z.snd.snd.snd.snd.snd.snd).snd.fst))], []) else bif F.isEp (F.bdP (List.drop z.snd.snd.snd.snd.snd.snd z.fst) [] z.snd.snd.snd.snd.snd.snd).snd.fst then some ((vB
  false), [(901, Blk.mk true 0 0 [[(vI z.snd.fst), (vI z.snd.snd.fst), AV.e0, (vI z.snd.snd.snd.fst), (vB z.snd.snd.snd.snd.fst), (vB z.snd.snd.snd.snd.snd.fst)]]), (900,
  Blk.mk true 0 0 [[AV.sl (List.map eStr z.fst), (vI (↑(F.bdP (List.drop z.snd.snd.snd.snd.snd.snd z.fst) [] z.snd.snd.snd.snd.snd.snd).snd.snd : Int))]])], []) else some
  ((vB false), [(901, Blk.mk true 0 0 [[(vI z.snd.fst), (vI z.snd.snd.fst), .own 0, (vI z.snd.snd.snd.fst), (vB z.snd.snd.snd.snd.fst), (vB z.snd.snd.snd.snd.snd.fst)]]),
  (900, Blk.mk true 0 0 [[AV.sl (List.map eStr z.fst), (vI (↑(F.bdP (List.drop z.snd.snd.snd.snd.snd.snd z.fst) [] z.snd.snd.snd.snd.snd.snd).snd.snd : Int))]]), (0, Blk.mk
  false 9 1 (List.map eStr (F.bdP (List.drop z.snd.snd.snd.snd.snd.snd z.fst) [] z.snd.snd.snd.snd.snd.snd).snd.fst))], []) else none := (runHR_val).symm.trans (by kernel_rfl)

def encBdp1 (L : List ByteArray) (fr : Int) (tt : Int) (ro : Int) (be : Bool) (af : Bool) (a : Nat) : List AV × Heap := ([.ptr 900 0 0, .ptr 901 0 0, .fn 37 []], [(901, ⟨true, 0, 0, [[vI fr, vI tt, .e0, vI ro, vB be, vB af]]⟩), (900, ⟨true, 0, 0, [[.sl (L.map eStr), vI a]]⟩)])

def encBdp (a : (List ByteArray) × Int × Int × Int × Bool × Bool × Nat) : List AV × Heap := encBdp1 a.1 a.2.1 a.2.2.1 a.2.2.2.1 a.2.2.2.2.1 a.2.2.2.2.2.1 a.2.2.2.2.2.2

theorem encBdp_inj (a a' : (List ByteArray) × Int × Int × Int × Bool × Bool × Nat) (h : encBdp a = encBdp a') : a = a' := by
  simp only [encBdp, encBdp1] at h
  try simp [strs_inj, ints_inj, bools_inj, eL_eIs_inj, eCaps_inj, eCap_iff, eL_eCaps_inj, eMchs_inj, eMch_iff, eWrds_inj, eWrd_iff, eFnds_inj, eFnd_iff, eRatios_inj, eRatio_iff, eWays_inj, eWay_iff] at h
  grind

theorem unBdp (L : List ByteArray) (fr : Int) (tt : Int) (ro : Int) (be : Bool) (af : Bool) (a : Nat) : unenc encBdp (([.ptr 900 0 0, .ptr 901 0 0, AV.fn (37 : FuncId) []], [(901, Blk.mk true 0 0 [[(vI fr), (vI tt), AV.e0, (vI ro), (vB be), (vB af)]]), (900, Blk.mk true 0 0 [[AV.sl
  (List.map eStr L), (vI (↑a : Int))]])])) = some (L, fr, tt, ro, be, af, a) := unenc_of encBdp_inj (L, fr, tt, ro, be, af, a) rfl

def resBdp1 (L : List ByteArray) (fr : Int) (tt : Int) (ro : Int) (be : Bool) (af : Bool) (a : Nat) : T (AV × Heap × List Nat) := .ifB (F.bdP (L.drop a) [] a).1
      (.ret (vB true, [(901, ⟨true, 0, 0, [[vI fr, vI tt, .own 0, vI ro, vB be, vB af]]⟩), (900, ⟨true, 0, 0, [[.sl (L.map eStr), vI (F.bdP (L.drop a) [] a).2.2]]⟩), (0, ⟨false, 9, 1, (F.bdP (L.drop a) [] a).2.1.map eStr⟩)], []))
      (.ifB (F.isEp (F.bdP (L.drop a) [] a).2.1)
        (.ret (vB false, [(901, ⟨true, 0, 0, [[vI fr, vI tt, .e0, vI ro, vB be, vB af]]⟩), (900, ⟨true, 0, 0, [[.sl (L.map eStr), vI (F.bdP (L.drop a) [] a).2.2]]⟩)], []))
        (.ret (vB false, [(901, ⟨true, 0, 0, [[vI fr, vI tt, .own 0, vI ro, vB be, vB af]]⟩), (900, ⟨true, 0, 0, [[.sl (L.map eStr), vI (F.bdP (L.drop a) [] a).2.2]]⟩), (0, ⟨false, 9, 1, (F.bdP (L.drop a) [] a).2.1.map eStr⟩)], [])))

def preBdp1 (L : List ByteArray) (fr : Int) (tt : Int) (ro : Int) (be : Bool) (af : Bool) (a : Nat) : Bool := F.linesOk L && decide (a ≤ 200001)

noncomputable def oBdp : OrcH := orcT 36 encBdp (fun a => preBdp1 a.1 a.2.1 a.2.2.1 a.2.2.2.1 a.2.2.2.2.1 a.2.2.2.2.2.1 a.2.2.2.2.2.2) fun a => resBdp1 a.1 a.2.1 a.2.2.1 a.2.2.2.1 a.2.2.2.2.1 a.2.2.2.2.2.1 a.2.2.2.2.2.2

theorem okBdp : OrcHOK Tryz.prog noG oBdp := by
  refine mkT_ok (mv := []) Tryz.f36 (by kernel_rfl) (by kernel_rfl) enBp_ok mixed (one_loop (x0 := loopN Tryz.f36 0) (by kernel_rfl) (lpo_ok ?_)) ?_
  · rintro ⟨L, fr, tt, ro, be, af, a⟩ hp
    exact lpBp_ok L fr tt ro be af a hp
  rintro ⟨L, fr, tt, ro, be, af, a⟩ r0 hpre hok hokh hr0
  show (runH enBp [] _ (encBdp1 _ _ _ _ _ _ _).1 (encBdp1 _ _ _ _ _ _ _).2).val = some r0
  replace hr0 : (resBdp1 _ _ _ _ _ _ _).val = some r0 := hr0
  unfold resBdp1 at hr0
  unfold encBdp1
  rw [evBdp]
  simp only [preBdp1, Bool.and_eq_true] at hpre
  obtain ⟨h1, h2⟩ := hpre
  rw [← hr0]
  simp only [unMor, unPln, unLin, unTak, preMor1, prePln1, preLin1, preTak1, unstBp, prlBp, outBp, etaCap, etaMch, etaWrd, etaFnd, etaRatio, etaWay, Option.bind_some, List.length_map, unStrs, unInts, unBools, uneL_eIs, unCaps, uneL_eCaps, unMchs, unWrds, unFnds, unRatios, unWays, F.lt, F.le, cond_true, cond_false, Bool.and_true, Bool.true_and, h1, h2, Nat.zero_le, List.length_nil, decide_true]
  clear hr0 hok hokh
  generalize F.bdP (List.drop a L) [] a = b
  obtain ⟨b1, b2, b3⟩ := b
  cases b1
  · cases F.isEp b2 <;> rfl
  · cases decide (b3 < L.length) <;> rfl

end M
end Go.Proofs.YthcfbeckhgngiaaGreatDoor
