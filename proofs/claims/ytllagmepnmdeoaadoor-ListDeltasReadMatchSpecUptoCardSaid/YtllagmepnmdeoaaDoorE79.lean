/- What is proved here: the numbers of a date, place by place and by pieces (no statement of the seat). -/
import Derived.Test.YtllagmepnmdeoaaDoorE78
namespace Go.Proofs.YtllagmepnmdeoaaDoor
open Go Go.RowKit
set_option linter.unusedVariables false
set_option linter.unusedSimpArgs false
set_option maxRecDepth 100000
set_option maxHeartbeats 1000000

theorem F.cond_and {α : Type} (a b : Bool) (x y : α) : (bif a && b then x else y) = bif a then (bif b then x else y) else y := by cases a <;> rfl

theorem F.rdD_dg (y : UInt8) (r : List (UInt8 × UInt8)) (now : ByteArray) (ns : List Int) : F.rdD ((y, 48) :: r) now ns = bif F.dgB y then F.rdD r (now ++ ⟨⟨[y]⟩⟩) ns else none := rfl

theorem F.rdD_sep {f : UInt8} (h : decide (f = 48) = false) (y : UInt8) (r : List (UInt8 × UInt8)) (now : ByteArray) (ns : List Int) : F.rdD ((y, f) :: r) now ns = bif decide (y = f) then F.rdD r ⟨⟨[]⟩⟩ (ns ++ [(F.dv now : Int)]) else none := by
  rw [F.rdD, h, cond_false]

theorem F.rdD_nil (now : ByteArray) (ns : List Int) : F.rdD [] now ns = some ns := rfl

theorem F.rdD_24 (c0 c1 c2 c3 c4 c5 c6 c7 c8 c9 d0 d1 d2 d3 d4 d5 d6 d7 d8 d9 e0 e1 e2 e3 : UInt8) :
    F.rdD ([c0, c1, c2, c3, c4, c5, c6, c7, c8, c9, d0, d1, d2, d3, d4, d5, d6, d7, d8, d9, e0, e1, e2, e3].zip (F.bs F.dForm)) ⟨⟨[]⟩⟩ [] =
      bif ([c0, c1, c2, c3, c4, c5, c6, c7, c8, c9, d0, d1, d2, d3, d4, d5, d6, d7, d8, d9, e0, e1, e2, e3].zip (F.bs F.dForm)).all fun p => F.dfB p.1 p.2 then
        some [(F.dv ⟨⟨[c0, c1, c2, c3]⟩⟩ : Int), (F.dv ⟨⟨[c5, c6]⟩⟩ : Int), (F.dv ⟨⟨[c8, c9]⟩⟩ : Int), (F.dv ⟨⟨[d1, d2]⟩⟩ : Int), (F.dv ⟨⟨[d4, d5]⟩⟩ : Int), (F.dv ⟨⟨[d7, d8]⟩⟩ : Int), (F.dv ⟨⟨[e0, e1, e2]⟩⟩ : Int)] else none := by
  have hf : F.bs F.dForm = [48, 48, 48, 48, 45, 48, 48, 45, 48, 48, 84, 48, 48, 58, 48, 48, 58, 48, 48, 46, 48, 48, 48, 90] := rfl
  rw [hf]
  simp only [List.zip_cons_cons, List.zip_nil_left, List.all_cons, List.all_nil, F.dfB, (by decide : decide ((48 : UInt8) = 48) = true), (by decide : decide ((45 : UInt8) = 48) = false), (by decide : decide ((84 : UInt8) = 48) = false), (by decide : decide ((58 : UInt8) = 48) = false), (by decide : decide ((46 : UInt8) = 48) = false), (by decide : decide ((90 : UInt8) = 48) = false), cond_true, cond_false]
  simp only [F.rdD_dg, F.rdD_sep (f := 45) (by decide), F.rdD_sep (f := 84) (by decide), F.rdD_sep (f := 58) (by decide), F.rdD_sep (f := 46) (by decide), F.rdD_sep (f := 90) (by decide), F.rdD_nil, F.cond_and, cond_true]
  rfl

end Go.Proofs.YtllagmepnmdeoaaDoor
