/- What is proved here: what (*list.script).part does (no statement of the seat). -/
import Derived.Test.YtipngpndgniagaaDoorE53
namespace Go.Proofs.YtipngpndgniagaaDoor
open Go Go.RowKit
set_option linter.unusedVariables false
set_option linter.unusedSimpArgs false

namespace M


theorem evPrt (s : ByteArray) (n : Int) (st : List Strm) (so : List Snd) : (runH enPrt [902, 903] Tryd.f21 [.ptr 900 0 0, .ptr 901 0 0] [(903, ⟨false, 47, 5, so.map eSnd⟩), (902, ⟨false, 49, 7, st.map eStrm⟩), (901, ⟨true, 0, 0, [[.own 902, .own 903]]⟩), (900, ⟨true, 0, 0, [[vS s, vI n]]⟩)]).val =
  Option.bind (unenc encTk ([.ptr 900 0 0], [(900, Blk.mk true 0 0 [[(vS s), (vI n)]])])) fun (z : ByteArray × Int) => bif decide (ByteArray.size z.fst ≤ (500000 : Nat)) &&
  decide ((0 : Int) ≤ z.snd) && decide (z.snd ≤ (1000000 : Int)) then Option.bind (unenc encWds [(vS (F.cutH z.fst F.nl))]) fun (z_1 : ByteArray) => bif decide
  (ByteArray.size z_1 ≤ (500000 : Nat)) then bif bif !F.cutF z.fst F.nl then true else !F.wOk (F.wds z_1) then some ((vB false), [(903, Blk.mk false 47 5 (List.map eSnd
  so)), (902, Blk.mk false 49 7 (List.map eStrm st)), (901, Blk.mk true 0 0 [[.own 902, .own 903]]), (900, Blk.mk true 0 0 [[(vS (F.cutT z.fst F.nl)), (vI (z.snd + (1 :
  Int)))]])], [(902 : Nat), (903 : Nat)]) else Option.bind (unenc (List.map eStr) (List.map eStr (bif F.wOk (F.wds z_1) then F.wds z_1 else []))) fun (z_2 : List ByteArray)
  => bif decide ((0 : Nat) < List.length z_2) then bif ByteArray.toList (List.getD z_2 (0 : Nat) (ByteArray.mk (Array.mk []))) == ByteArray.toList (ByteArray.mk (Array.mk
  [(35 : UInt8), (83 : UInt8), (79 : UInt8), (85 : UInt8), (78 : UInt8), (68 : UInt8)])) then bif (↑(List.length (List.map eStrm st)) : Int) == (0 : Int) && !(↑(List.length
  (List.map eStr (bif F.wOk (F.wds z_1) then F.wds z_1 else []))) : Int) == (4 : Int) && (↑(List.length (List.map eStr (bif F.wOk (F.wds z_1) then F.wds z_1 else []))) :
  Int) == (5 : Int) then Option.bind (unenc (List.map eStr) (List.map eStr (bif F.wOk (F.wds z_1) then F.wds z_1 else []))) fun (z_3 : List ByteArray) => bif decide ((4 :
  Nat) < List.length z_3) then bif bif (↑(List.length (List.map eStrm st)) : Int) == (0 : Int) then bif (↑(List.length (List.map eStr (bif F.wOk (F.wds z_1) then F.wds z_1
  else []))) : Int) == (4 : Int) then true else ByteArray.toList (List.getD z_3 (4 : Nat) (ByteArray.mk (Array.mk []))) == ByteArray.toList (ByteArray.mk (Array.mk [(68 :
  UInt8), (69 : UInt8), (70 : UInt8), (65 : UInt8), (85 : UInt8), (76 : UInt8), (84 : UInt8)])) else false then Option.bind (unenc (List.map eStr) (List.map eStr (bif F.wOk
  (F.wds z_1) then F.wds z_1 else []))) fun (z_4 : List ByteArray) => bif decide ((1 : Nat) < List.length z_4) then Option.bind (unenc (List.map eStr) (List.map eStr (bif
  F.wOk (F.wds z_1) then F.wds z_1 else []))) fun (z_5 : List ByteArray) => bif decide ((2 : Nat) < List.length z_5) then Option.bind (unenc (List.map eStr) (List.map eStr
  (bif F.wOk (F.wds z_1) then F.wds z_1 else []))) fun (z_6 : List ByteArray) => bif decide ((3 : Nat) < List.length z_6) then Option.bind (unenc encUr ([.ptr 900 0 0],
  [(900, Blk.mk true 0 0 [[(vS (F.cutT z.fst F.nl)), (vI (z.snd + (1 : Int)))]])])) fun (z : ByteArray × Int) => bif decide (ByteArray.size z.fst ≤ (500000 : Nat)) && decide
  ((0 : Int) ≤ z.snd) && decide (z.snd ≤ (1000000 : Int)) then bif !F.ptU z.fst then some ((vB false), [(903, Blk.mk false 47 5 (List.map eSnd so)), (902, Blk.mk false 49 7
  (List.map eStrm st)), (901, Blk.mk true 0 0 [[.own 902, .own 903]]), (900, Blk.mk true 0 0 [[(vS (F.cutT z.fst F.nl)), (vI (z.snd + (1 : Int)))]])], [(902 : Nat), (903 :
  Nat)]) else bif Nat.ble ((List.length (List.map eSnd so) + (1 : Nat)) * (72 : Nat)) (140737488355328 : Nat) && true then some ((vB true), [(903, Blk.mk false 47 5
  (List.map eSnd so ++ [[(vS (List.getD z_4 (1 : Nat) (ByteArray.mk (Array.mk [])))), (vS (List.getD z_5 (2 : Nat) (ByteArray.mk (Array.mk [])))), (vS (List.getD z_6 (3 :
  Nat) (ByteArray.mk (Array.mk [])))), (vB ((↑(List.length (List.map eStr (bif F.wOk (F.wds z_1) then F.wds z_1 else []))) : Int) == (5 : Int))), (vS (F.cutH z.fst
  F.nl))]])), (902, Blk.mk false 49 7 (List.map eStrm st)), (901, Blk.mk true 0 0 [[.own 902, .own 903]]), (900, Blk.mk true 0 0 [[(vS (F.cutT z.fst F.nl)), (vI (z.snd + (1
  : Int)))]])], [(902 : Nat), (903 : Nat)]) else none else none else none else none else none else Option.bind (unenc (List.map eStr) (List.map eStr (bif F.wOk (F.wds z_1)
  then F.wds z_1 else []))) fun (z_4 : List ByteArray) => bif decide ((0 : Nat) < List.length z_4) then bif bif ByteArray.toList (List.getD z_4 (0 : Nat) (ByteArray.mk
  (Array.mk []))) == ByteArray.toList (ByteArray.mk (Array.mk [(35 : UInt8), (83 : UInt8), (84 : UInt8), (82 : UInt8), (69 : UInt8), (65 : UInt8), (77 : UInt8)])) then
  (↑(List.length (List.map eStr (bif F.wOk (F.wds z_1) then F.wds z_1 else []))) : Int) == (7 : Int) else false then Option.bind (unenc (List.map eStr) (List.map eStr (bif
  F.wOk (F.wds z_1) then F.wds z_1 else []))) fun (z_5 : List ByteArray) => bif decide ((1 : Nat) < List.length z_5) then Option.bind (unenc (List.map eStr) (List.map eStr
  (bif F.wOk (F.wds z_1) then F.wds z_1 else []))) fun (z_6 : List ByteArray) => bif decide ((6 : Nat) < List.length z_6) then Option.bind (unenc encUnd [(vS (List.getD z_6
  (6 : Nat) (ByteArray.mk (Array.mk []))))]) fun (z_7 : ByteArray) => Option.bind (unenc stPj1 (St.mk [(115, (vI (0 : Int))), (114, (vI (↑(4 : Nat) : Int))), (113, AV.win
  (113 : Nat) (0 : Nat) (4 : Nat)), (10, .ptr 10 0 0), (7, AV.sl (List.map eStr (bif F.wOk (F.wds z_1) then F.wds z_1 else []))), (1, .ptr 901 0 0), (0, .ptr 900 0 0)]
  [(903, Blk.mk false 47 5 (List.map eSnd so)), (902, Blk.mk false 49 7 (List.map eStrm st)), (901, Blk.mk true 0 0 [[.own 902, .own 903]]), (900, Blk.mk true 0 0 [[(vS
  (F.cutT z.fst F.nl)), (vI (z.snd + (1 : Int)))]]), (113, Blk.mk true 83 1 [[.ptr 10 0 2], [.ptr 10 0 3], [.ptr 10 0 4], [.ptr 10 0 5]]), (10, Blk.mk true 0 0 [[(vS
  (List.getD z_5 (1 : Nat) (ByteArray.mk (Array.mk [])))), (vS (ByteArray.mk (Array.mk []))), (vI (0 : Int)), (vI (0 : Int)), (vI (0 : Int)), (vI (0 : Int)), (vS (F.undash
  z_7))]])])) fun (z : ByteArray × Int × List Strm × List Snd × List ByteArray × ByteArray × ByteArray) => bif decide (List.length z.snd.snd.snd.snd.fst = (7 : Nat)) && true
  then bif F.numsOk z.snd.snd.snd.snd.fst then Option.bind (unenc encUr ([.ptr 900 0 0], [(900, Blk.mk true 0 0 [[(vS z.fst), (vI z.snd.fst)]])])) fun (z_8 : ByteArray ×
  Int) => bif decide (ByteArray.size z_8.fst ≤ (500000 : Nat)) && decide ((0 : Int) ≤ z_8.snd) && decide (z_8.snd ≤ (1000000 : Int)) then bif !F.ptU z_8.fst then some ((vB
  false), [(903, Blk.mk false 47 5 (List.map eSnd z.snd.snd.snd.fst)), (902, Blk.mk false 49 7 (List.map eStrm z.snd.snd.fst)), (901, Blk.mk true 0 0 [[.own 902, .own
  903]]), (900, Blk.mk true 0 0 [[(vS (F.cutT z_8.fst F.nl)), (vI (z_8.snd + (1 : Int)))]])], [(902 : Nat), (903 : Nat)]) else bif Nat.ble ((List.length (List.map eStrm
  z.snd.snd.fst) + (1 : Nat)) * (80 : Nat)) (140737488355328 : Nat) && true then some ((vB true), [(903, Blk.mk false 47 5 (List.map eSnd z.snd.snd.snd.fst)), (902, Blk.mk
  false 49 7 (List.map eStrm z.snd.snd.fst ++ [[(vS z.snd.snd.snd.snd.snd.fst), (vS (F.cutH z_8.fst F.nl)), (vI (F.numV (F.wAt z.snd.snd.snd.snd.fst (2 : Nat)) (11 : Int))),
  (vI (F.numV (F.wAt z.snd.snd.snd.snd.fst (3 : Nat)) (11 : Int))), (vI (F.numV (F.wAt z.snd.snd.snd.snd.fst (4 : Nat)) (11 : Int))), (vI (F.numV (F.wAt
  z.snd.snd.snd.snd.fst (5 : Nat)) (11 : Int))), (vS z.snd.snd.snd.snd.snd.snd)]])), (901, Blk.mk true 0 0 [[.own 902, .own 903]]), (900, Blk.mk true 0 0 [[(vS (F.cutT
  z_8.fst F.nl)), (vI (z_8.snd + (1 : Int)))]])], [(902 : Nat), (903 : Nat)]) else none else none else some ((vB false), [(903, Blk.mk false 47 5 (List.map eSnd
  z.snd.snd.snd.fst)), (902, Blk.mk false 49 7 (List.map eStrm z.snd.snd.fst)), (901, Blk.mk true 0 0 [[.own 902, .own 903]]), (900, Blk.mk true 0 0 [[(vS z.fst), (vI
  z.snd.fst)]])], [(902 : Nat), (903 : Nat)]) else none else none else none else some ((vB false), [(903, Blk.mk false 47 5 (List.map eSnd so)), (902, Blk.mk false 49 7
  (List.map eStrm st)), (901, Blk.mk true 0 0 [[.own 902, .own 903]]), (900, Blk.mk true 0 0 [[(vS (F.cutT z.fst F.nl)), (vI (z.snd + (1 : Int)))]])], [(902 : Nat), (903 :
  Nat)]) else none else none else bif (↑(List.length (List.map eStrm st)) : Int) == (0 : Int) && !(↑(List.length (List.map eStr (bif F.wOk (F.wds z_1) then F.wds z_1 else
  []))) : Int) == (4 : Int) && (↑(List.length (List.map eStr (bif F.wOk (F.wds z_1) then F.wds z_1 else []))) : Int) == (5 : Int) then none else bif (↑(List.length (List.map
  eStrm st)) : Int) == (0 : Int) && !(↑(List.length (List.map eStr (bif F.wOk (F.wds z_1) then F.wds z_1 else []))) : Int) == (4 : Int) && (↑(List.length (List.map eStr (bif
  F.wOk (F.wds z_1) then F.wds z_1 else []))) : Int) == (5 : Int) then none else bif bif (↑(List.length (List.map eStrm st)) : Int) == (0 : Int) then bif (↑(List.length
  (List.map eStr (bif F.wOk (F.wds z_1) then F.wds z_1 else []))) : Int) == (4 : Int) then true else false else false then Option.bind (unenc (List.map eStr) (List.map eStr
  (bif F.wOk (F.wds z_1) then F.wds z_1 else []))) fun (z_3 : List ByteArray) => bif decide ((1 : Nat) < List.length z_3) then Option.bind (unenc (List.map eStr) (List.map
  eStr (bif F.wOk (F.wds z_1) then F.wds z_1 else []))) fun (z_4 : List ByteArray) => bif decide ((2 : Nat) < List.length z_4) then Option.bind (unenc (List.map eStr)
  (List.map eStr (bif F.wOk (F.wds z_1) then F.wds z_1 else []))) fun (z_5 : List ByteArray) => bif decide ((3 : Nat) < List.length z_5) then Option.bind (unenc encUr ([.ptr
  900 0 0], [(900, Blk.mk true 0 0 [[(vS (F.cutT z.fst F.nl)), (vI (z.snd + (1 : Int)))]])])) fun (z : ByteArray × Int) => bif decide (ByteArray.size z.fst ≤ (500000 : Nat))
  && decide ((0 : Int) ≤ z.snd) && decide (z.snd ≤ (1000000 : Int)) then bif !F.ptU z.fst then some ((vB false), [(903, Blk.mk false 47 5 (List.map eSnd so)), (902, Blk.mk
  false 49 7 (List.map eStrm st)), (901, Blk.mk true 0 0 [[.own 902, .own 903]]), (900, Blk.mk true 0 0 [[(vS (F.cutT z.fst F.nl)), (vI (z.snd + (1 : Int)))]])], [(902 :
  Nat), (903 : Nat)]) else bif Nat.ble ((List.length (List.map eSnd so) + (1 : Nat)) * (72 : Nat)) (140737488355328 : Nat) && true then some ((vB true), [(903, Blk.mk false
  47 5 (List.map eSnd so ++ [[(vS (List.getD z_3 (1 : Nat) (ByteArray.mk (Array.mk [])))), (vS (List.getD z_4 (2 : Nat) (ByteArray.mk (Array.mk [])))), (vS (List.getD z_5 (3
  : Nat) (ByteArray.mk (Array.mk [])))), (vB ((↑(List.length (List.map eStr (bif F.wOk (F.wds z_1) then F.wds z_1 else []))) : Int) == (5 : Int))), (vS (F.cutH z.fst
  F.nl))]])), (902, Blk.mk false 49 7 (List.map eStrm st)), (901, Blk.mk true 0 0 [[.own 902, .own 903]]), (900, Blk.mk true 0 0 [[(vS (F.cutT z.fst F.nl)), (vI (z.snd + (1
  : Int)))]])], [(902 : Nat), (903 : Nat)]) else none else none else none else none else none else Option.bind (unenc (List.map eStr) (List.map eStr (bif F.wOk (F.wds z_1)
  then F.wds z_1 else []))) fun (z_3 : List ByteArray) => bif decide ((0 : Nat) < List.length z_3) then bif bif ByteArray.toList (List.getD z_3 (0 : Nat) (ByteArray.mk
  (Array.mk []))) == ByteArray.toList (ByteArray.mk (Array.mk [(35 : UInt8), (83 : UInt8), (84 : UInt8), (82 : UInt8), (69 : UInt8), (65 : UInt8), (77 : UInt8)])) then
  (↑(List.length (List.map eStr (bif F.wOk (F.wds z_1) then F.wds z_1 else []))) : Int) == (7 : Int) else false then Option.bind (unenc (List.map eStr) (List.map eStr (bif
  F.wOk (F.wds z_1) then F.wds z_1 else []))) fun (z_4 : List ByteArray) => bif decide ((1 : Nat) < List.length z_4) then Option.bind (unenc (List.map eStr) (List.map eStr
  (bif F.wOk (F.wds z_1) then F.wds z_1 else []))) fun (z_5 : List ByteArray) => bif decide ((6 : Nat) < List.length z_5) then Option.bind (unenc encUnd [(vS (List.getD z_5
  (6 : Nat) (ByteArray.mk (Array.mk []))))]) fun (z_6 : ByteArray) => Option.bind (unenc stPj1 (St.mk [(115, (vI (0 : Int))), (114, (vI (↑(4 : Nat) : Int))), (113, AV.win
  (113 : Nat) (0 : Nat) (4 : Nat)), (10, .ptr 10 0 0), (7, AV.sl (List.map eStr (bif F.wOk (F.wds z_1) then F.wds z_1 else []))), (1, .ptr 901 0 0), (0, .ptr 900 0 0)]
  [(903, Blk.mk false 47 5 (List.map eSnd so)), (902, Blk.mk false 49 7 (List.map eStrm st)), (901, Blk.mk true 0 0 [[.own 902, .own 903]]), (900, Blk.mk true 0 0 [[(vS
  (F.cutT z.fst F.nl)), (vI (z.snd + (1 : Int)))]]), (113, Blk.mk true 83 1 [[.ptr 10 0 2], [.ptr 10 0 3], [.ptr 10 0 4], [.ptr 10 0 5]]), (10, Blk.mk true 0 0 [[(vS
  (List.getD z_4 (1 : Nat) (ByteArray.mk (Array.mk [])))), (vS (ByteArray.mk (Array.mk []))), (vI (0 : Int)), (vI (0 : Int)), (vI (0 : Int)), (vI (0 : Int)), (vS (F.undash
  z_6))]])])) fun (z : ByteArray × Int × List Strm × List Snd × List ByteArray × ByteArray × ByteArray) => bif decide (List.length z.snd.snd.snd.snd.fst = (7 : Nat)) && true
  then bif F.numsOk z.snd.snd.snd.snd.fst then Option.bind (unenc encUr ([.ptr 900 0 0], [(900, Blk.mk true 0 0 [[(vS z.fst), (vI z.snd.fst)]])])) fun (z_7 : ByteArray ×
  Int) => bif decide (ByteArray.size z_7.fst ≤ (500000 : Nat)) && decide ((0 : Int) ≤ z_7.snd) && decide (z_7.snd ≤ (1000000 : Int)) then bif !F.ptU z_7.fst then some ((vB
  false), [(903, Blk.mk false 47 5 (List.map eSnd z.snd.snd.snd.fst)), (902, Blk.mk false 49 7 (List.map eStrm z.snd.snd.fst)), (901, Blk.mk true 0 0 [[.own 902, .own
  903]]), (900, Blk.mk true 0 0 [[(vS (F.cutT z_7.fst F.nl)), (vI (z_7.snd + (1 : Int)))]])], [(902 : Nat), (903 : Nat)]) else bif Nat.ble ((List.length (List.map eStrm
  z.snd.snd.fst) + (1 : Nat)) * (80 : Nat)) (140737488355328 : Nat) && true then some ((vB true), [(903, Blk.mk false 47 5 (List.map eSnd z.snd.snd.snd.fst)), (902, Blk.mk
  false 49 7 (List.map eStrm z.snd.snd.fst ++ [[(vS z.snd.snd.snd.snd.snd.fst), (vS (F.cutH z_7.fst F.nl)), (vI (F.numV (F.wAt z.snd.snd.snd.snd.fst (2 : Nat)) (11 : Int))),
  (vI (F.numV (F.wAt z.snd.snd.snd.snd.fst (3 : Nat)) (11 : Int))), (vI (F.numV (F.wAt z.snd.snd.snd.snd.fst (4 : Nat)) (11 : Int))), (vI (F.numV (F.wAt
  z.snd.snd.snd.snd.fst (5 : Nat)) (11 : Int))), (vS z.snd.snd.snd.snd.snd.snd)]])), (901, Blk.mk true 0 0 [[.own 902, .own 903]]), (900, Blk.mk true 0 0 [[(vS (F.cutT
  z_7.fst F.nl)), (vI (z_7.snd + (1 : Int)))]])], [(902 : Nat), (903 : Nat)]) else none else none else some ((vB false), [(903, Blk.mk false 47 5 (List.map eSnd
  z.snd.snd.snd.fst)), (902, Blk.mk false 49 7 (List.map eStrm z.snd.snd.fst)), (901, Blk.mk true 0 0 [[.own 902, .own 903]]), (900, Blk.mk true 0 0 [[(vS z.fst), (vI
  z.snd.fst)]])], [(902 : Nat), (903 : Nat)]) else none else none else none else some ((vB false), [(903, Blk.mk false 47 5 (List.map eSnd so)), (902, Blk.mk false 49 7
  (List.map eStrm st)), (901, Blk.mk true 0 0 [[.own 902, .own 903]]), (900, Blk.mk true 0 0 [[(vS (F.cutT z.fst F.nl)), (vI (z.snd + (1 : Int)))]])], [(902 : Nat), (903 :
  Nat)]) else none else Option.bind (unenc (List.map eStr) (List.map eStr (bif F.wOk (F.wds z_1) then F.wds z_1 else []))) fun (z_3 : List ByteArray) => bif decide ((0 :
  Nat) < List.length z_3) then bif bif ByteArray.toList (List.getD z_3 (0 : Nat) (ByteArray.mk (Array.mk []))) == ByteArray.toList (ByteArray.mk (Array.mk [(35 : UInt8), (83
  : UInt8), (84 : UInt8), (82 : UInt8), (69 : UInt8), (65 : UInt8), (77 : UInt8)])) then (↑(List.length (List.map eStr (bif F.wOk (F.wds z_1) then F.wds z_1 else []))) :
  Int) == (7 : Int) else false then Option.bind (unenc (List.map eStr) (List.map eStr (bif F.wOk (F.wds z_1) then F.wds z_1 else []))) fun (z_4 : List ByteArray) => bif
  decide ((1 : Nat) < List.length z_4) then Option.bind (unenc (List.map eStr) (List.map eStr (bif F.wOk (F.wds z_1) then F.wds z_1 else []))) fun (z_5 : List ByteArray) =>
  bif decide ((6 : Nat) < List.length z_5) then Option.bind (unenc encUnd [(vS (List.getD z_5 (6 : Nat) (ByteArray.mk (Array.mk []))))]) fun (z_6 : ByteArray) => Option.bind
  (unenc stPj1 (St.mk [(115, (vI (0 : Int))), (114, (vI (↑(4 : Nat) : Int))), (113, AV.win (113 : Nat) (0 : Nat) (4 : Nat)), (10, .ptr 10 0 0), (7, AV.sl (List.map eStr (bif
  F.wOk (F.wds z_1) then F.wds z_1 else []))), (1, .ptr 901 0 0), (0, .ptr 900 0 0)] [(903, Blk.mk false 47 5 (List.map eSnd so)), (902, Blk.mk false 49 7 (List.map eStrm
  st)), (901, Blk.mk true 0 0 [[.own 902, .own 903]]), (900, Blk.mk true 0 0 [[(vS (F.cutT z.fst F.nl)), (vI (z.snd + (1 : Int)))]]), (113, Blk.mk true 83 1 [[.ptr 10 0 2],
  [.ptr 10 0 3], [.ptr 10 0 4], [.ptr 10 0 5]]), (10, Blk.mk true 0 0 [[(vS (List.getD z_4 (1 : Nat) (ByteArray.mk (Array.mk [])))), (vS (ByteArray.mk (Array.mk []))), (vI
  (0 : Int)), (vI (0 : Int)), (vI (0 : Int)), (vI (0 : Int)), (vS (F.undash z_6))]])])) fun (z : ByteArray × Int × List Strm × List Snd × List ByteArray × ByteArray ×
  ByteArray) => bif decide (List.length z.snd.snd.snd.snd.fst = (7 : Nat)) && true then bif F.numsOk z.snd.snd.snd.snd.fst then Option.bind (unenc encUr ([.ptr 900 0 0],
  [(900, Blk.mk true 0 0 [[(vS z.fst), (vI z.snd.fst)]])])) fun (z_7 : ByteArray × Int) => bif decide (ByteArray.size z_7.fst ≤ (500000 : Nat)) && decide ((0 : Int) ≤
  z_7.snd) && decide (z_7.snd ≤ (1000000 : Int)) then bif !F.ptU z_7.fst then some ((vB false), [(903, Blk.mk false 47 5 (List.map eSnd z.snd.snd.snd.fst)), (902, Blk.mk
  false 49 7 (List.map eStrm z.snd.snd.fst)), (901, Blk.mk true 0 0 [[.own 902, .own 903]]), (900, Blk.mk true 0 0 [[(vS (F.cutT z_7.fst F.nl)), (vI (z_7.snd + (1 :
  Int)))]])], [(902 : Nat), (903 : Nat)]) else bif Nat.ble ((List.length (List.map eStrm z.snd.snd.fst) + (1 : Nat)) * (80 : Nat)) (140737488355328 : Nat) && true then some
  ((vB true), [(903, Blk.mk false 47 5 (List.map eSnd z.snd.snd.snd.fst)), (902, Blk.mk false 49 7 (List.map eStrm z.snd.snd.fst ++ [[(vS z.snd.snd.snd.snd.snd.fst), (vS
  (F.cutH z_7.fst F.nl)), (vI (F.numV (F.wAt z.snd.snd.snd.snd.fst (2 : Nat)) (11 : Int))), (vI (F.numV (F.wAt z.snd.snd.snd.snd.fst (3 : Nat)) (11 : Int))), (vI (F.numV
  (F.wAt z.snd.snd.snd.snd.fst (4 : Nat)) (11 : Int))), (vI (F.numV (F.wAt z.snd.snd.snd.snd.fst (5 : Nat)) (11 : Int))), (vS z.snd.snd.snd.snd.snd.snd)]])), (901, Blk.mk
  true 0 0 [[.own 902, .own 903]]), (900, Blk.mk true 0 0 [[(vS (F.cutT z_7.fst F.nl)), (vI (z_7.snd + (1 : Int)))]])], [(902 : Nat), (903 : Nat)]) else none else none else
  some ((vB false), [(903, Blk.mk false 47 5 (List.map eSnd z.snd.snd.snd.fst)), (902, Blk.mk false 49 7 (List.map eStrm z.snd.snd.fst)), (901, Blk.mk true 0 0 [[.own 902,
  .own 903]]), (900, Blk.mk true 0 0 [[(vS z.fst), (vI z.snd.fst)]])], [(902 : Nat), (903 : Nat)]) else none else none else none else some ((vB false), [(903, Blk.mk false
  47 5 (List.map eSnd so)), (902, Blk.mk false 49 7 (List.map eStrm st)), (901, Blk.mk true 0 0 [[.own 902, .own 903]]), (900, Blk.mk true 0 0 [[(vS (F.cutT z.fst F.nl)),
  (vI (z.snd + (1 : Int)))]])], [(902 : Nat), (903 : Nat)]) else none else none else none else none := (runHR_val).symm.trans (by kernel_rfl)

def encPrt1 (s : ByteArray) (n : Int) (st : List Strm) (so : List Snd) : List AV × Heap := ([.ptr 900 0 0, .ptr 901 0 0], [(903, ⟨false, 47, 5, so.map eSnd⟩), (902, ⟨false, 49, 7, st.map eStrm⟩), (901, ⟨true, 0, 0, [[.own 902, .own 903]]⟩), (900, ⟨true, 0, 0, [[vS s, vI n]]⟩)])

def encPrt (a : ByteArray × Int × (List Strm) × (List Snd)) : List AV × Heap := encPrt1 a.1 a.2.1 a.2.2.1 a.2.2.2

theorem encPrt_inj (a a' : ByteArray × Int × (List Strm) × (List Snd)) (h : encPrt a = encPrt a') : a = a' := by
  simp only [encPrt, encPrt1] at h
  try simp [strs_inj, ents_inj, eEnt_iff, eLst_iff, eSnds_inj, eStrms_inj] at h
  grind

theorem unPrt (s : ByteArray) (n : Int) (st : List Strm) (so : List Snd) : unenc encPrt (([.ptr 900 0 0, .ptr 901 0 0], [(903, Blk.mk false 47 5 (List.map eSnd so)), (902, Blk.mk false 49 7 (List.map eStrm st)), (901, Blk.mk true 0 0 [[.own 902, .own 903]]),
  (900, Blk.mk true 0 0 [[(vS s), (vI n)]])])) = some (s, n, st, so) := unenc_of encPrt_inj (s, n, st, so) rfl

def resPrt1 (s : ByteArray) (n : Int) (st : List Strm) (so : List Snd) : AV × Heap × List Nat := (vB (F.ptOk s ⟨st, so⟩), [(903, ⟨false, 47, 5, (F.ptSo s ⟨st, so⟩).map eSnd⟩), (902, ⟨false, 49, 7, (F.ptSt s ⟨st, so⟩).map eStrm⟩), (901, ⟨true, 0, 0, [[.own 902, .own 903]]⟩), (900, ⟨true, 0, 0, [[vS (F.ptR s ⟨st, so⟩), vI (n + (F.ptN s ⟨st, so⟩ : Int))]]⟩)], [902, 903])

def prePrt1 (s : ByteArray) (n : Int) (st : List Strm) (so : List Snd) : Bool := decide (s.size ≤ 500000) && decide (0 ≤ n) && decide (n ≤ 900000) && decide (st.length ≤ 500000) && decide (so.length ≤ 500000)

noncomputable def oPrt : OrcH := orcH 21 encPrt (fun a => prePrt1 a.1 a.2.1 a.2.2.1 a.2.2.2) fun a => resPrt1 a.1 a.2.1 a.2.2.1 a.2.2.2

theorem okPrt : OrcHOK Tryd.prog noG oPrt := by
  refine mkH_ok (mv := [902, 903]) Tryd.f21 (by kernel_rfl) (by kernel_rfl) enPrt_ok mixed (one_loop (x0 := loopN Tryd.f21 0) (by kernel_rfl) (lpo_ok ?_)) ?_
  · rintro ⟨s, n, st, so, w, nm, sd⟩ hp
    exact lpPj_ok s n st so w nm sd hp
  rintro ⟨s, n, st, so⟩ hpre hok hokh
  show (runH enPrt [902, 903] _ (encPrt1 _ _ _ _).1 (encPrt1 _ _ _ _).2).val = some (resPrt1 _ _ _ _)
  unfold encPrt1 resPrt1
  rw [evPrt]
  simp only [prePrt1, Bool.and_eq_true, decide_eq_true_eq] at hpre
  obtain ⟨⟨⟨⟨h1, h2⟩, h3⟩, h4⟩, h5⟩ := hpre
  have z1 := F.cutH_size s F.nl
  have z2 := F.cutT_size s F.nl
  have d1 : decide (s.size ≤ 500000) = true := decide_eq_true h1
  have d2 : decide (0 ≤ n) = true := decide_eq_true h2
  have d3 : decide (n ≤ 1000000) = true := decide_eq_true (by omega)
  have d4 : decide (0 ≤ n + 1) = true := decide_eq_true (by omega)
  have d5 : decide (n + 1 ≤ 1000000) = true := decide_eq_true (by omega)
  have d6 : decide ((F.cutH s F.nl).size ≤ 500000) = true := decide_eq_true (by omega)
  have d7 : decide ((F.cutT s F.nl).size ≤ 500000) = true := decide_eq_true (by omega)
  have b1 : Nat.ble ((so.length + 1) * 72) 140737488355328 = true := ble_t (by omega)
  have b2 : Nat.ble ((st.length + 1) * 80) 140737488355328 = true := ble_t (by omega)
  simp only [unWds, unUnd, unNum, unTk, unUr, preWds1, preUnd1, preNum1, preTk1, preUr1, unstPj, prlPj, outPj, etaEnt, etaLst, etaSnd, etaStrm, etaMas, Option.bind_some, List.length_map, unStrs, unInts, unBools, unEnts, unItms, unTrns, cond_true, cond_false, Bool.and_true, Bool.true_and, d1, d2, d3, d4, d5, d6, d7, b1, b2]
  have hl := F.split_len (s := F.cutH s F.nl) (sep := F.sp) (by decide)
  have hW : 1 ≤ (F.wds (F.cutH s F.nl)).length := by unfold F.wds; omega
  clear hl d1 d2 d3 d4 d5 d6 d7 b1 b2
  have hn2 : n + 1 + 1 = n + ((2 : Nat) : Int) := by omega
  have hn1 : n + 1 = n + ((1 : Nat) : Int) := rfl
  have hz : ((st.length : Int) == 0) = decide (st.length = 0) := by by_cases h : st.length = 0 <;> simp [h]
  unfold F.ptOk F.ptSo F.ptSt F.ptR F.ptN F.ptOk F.ptK F.isSnd F.isStr
  rw [hn2, hz]
  generalize F.ptU (F.cutT s F.nl) = u
  generalize F.cutT (F.cutT s F.nl) F.nl = r2
  generalize F.cutH (F.cutT s F.nl) F.nl = ul
  generalize F.cutT s F.nl = r1
  generalize F.wds (F.cutH s F.nl) = W at *
  have q0 : ((W.getD 0 (⟨⟨[]⟩⟩ : ByteArray)).toList == (⟨⟨[35, 83, 79, 85, 78, 68]⟩⟩ : ByteArray).toList) = F.seq (F.wAt W 0) F.kSnd := rfl
  have q1 : ((W.getD 0 (⟨⟨[]⟩⟩ : ByteArray)).toList == (⟨⟨[35, 83, 84, 82, 69, 65, 77]⟩⟩ : ByteArray).toList) = F.seq (F.wAt W 0) F.kStr := rfl
  have q4 : ((W.getD 4 (⟨⟨[]⟩⟩ : ByteArray)).toList == (⟨⟨[68, 69, 70, 65, 85, 76, 84]⟩⟩ : ByteArray).toList) = F.seq (F.wAt W 4) F.kDef := rfl
  cases F.cutF s F.nl
  · rfl
  cases F.wOk W
  · rfl
  simp only [Bool.not_true, cond_true, cond_false, q0, q1, q4, Bool.or_false, decide_eq_true (by omega : 0 < W.length)]
  generalize F.seq (F.wAt W 0) F.kSnd = a
  generalize F.seq (F.wAt W 0) F.kStr = c
  generalize F.seq (F.wAt W 4) F.kDef = b
  generalize decide (st.length = 0) = z
  generalize F.numsOk W = nm
  simp only [F.sndOf, F.strOf, appWSnds, appWStrms]
  by_cases l4 : W.length = 4
  · simp only [l4]
    cases a <;> cases c <;> cases b <;> cases z <;> cases nm <;> cases u <;> rfl
  by_cases l5 : W.length = 5
  · simp only [l5]
    cases a <;> cases c <;> cases b <;> cases z <;> cases nm <;> cases u <;> rfl
  by_cases l7 : W.length = 7
  · simp only [l7]
    cases a <;> cases c <;> cases b <;> cases z <;> cases nm <;> cases u <;> rfl
  have e4 : ((W.length : Int) == 4) = false := by simp; omega
  have e5 : ((W.length : Int) == 5) = false := by simp; omega
  have e7 : ((W.length : Int) == 7) = false := by simp; omega
  simp only [e4, e5, e7, decide_eq_false l4, decide_eq_false l5, decide_eq_false l7]
  cases a <;> cases c <;> cases z <;> rfl

end M
end Go.Proofs.YtipngpndgniagaaDoor
