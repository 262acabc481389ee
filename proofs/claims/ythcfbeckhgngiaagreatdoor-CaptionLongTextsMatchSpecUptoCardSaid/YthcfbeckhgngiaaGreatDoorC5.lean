/- What is proved here: how a text is broken into lines, on plain data, as the program does it (no statement of the seat). -/
import Derived.Test.YthcfbeckhgngiaaGreatDoorC4
namespace Go.Proofs.YthcfbeckhgngiaaGreatDoor
open Go Go.RowKit
set_option linter.unusedVariables false
set_option linter.unusedSimpArgs false

/-- The better one of two ways. -/
def F.wayB (b x : Way) : Way := bif (b.lines == 0) || F.lt x.lines b.lines || ((x.lines == b.lines) && F.le x.sum b.sum) then x else b

def F.lens (ws : List ByteArray) : List Int := ws.map F.runes

/-- The words with the ways behind them. -/
def F.brP (ws : List ByteArray) (best : List Way) : List (Int × Way) := (F.lens ws).zip best.tail

def F.brN (long r : Int) : Int := IntKind.i64.wrap (long + IntKind.i64.wrap (1 + r))

def F.brX (w long : Int) (y : Way) (k : Nat) : Way := ⟨IntKind.i64.wrap (y.lines + 1), IntKind.i64.wrap (y.sum + IntKind.i64.wrap (IntKind.i64.wrap (w - long) * IntKind.i64.wrap (w - long))), IntKind.i64.wrap ((k : Int) + 1)⟩

def F.brK (w : Int) : List (Int × Way) → Nat → Int → Way → Way
  | [], _, _, cur => cur
  | p :: l, k, long, cur =>
    bif F.lt w (F.brN long p.1) then cur else
    bif !l.isEmpty && (p.2.lines == 0) then F.brK w l (k + 1) (F.brN long p.1) cur else
    F.brK w l (k + 1) (F.brN long p.1) (F.wayB cur (F.brX w (F.brN long p.1) p.2 k))

def F.brU (w : Int) (ws : List ByteArray) : Nat → List Way → List Way
  | 0, best => best
  | j + 1, best => F.brU w ws j (best.set j (F.brK w ((F.brP ws best).drop j) j (-1) (best.getD j default)))

theorem F.brP_len {ws : List ByteArray} {best : List Way} (h : best.length = ws.length + 1) : (F.brP ws best).length = ws.length := by
  simp [F.brP, F.lens, h]

theorem F.brP_at {ws : List ByteArray} {best : List Way} {k : Nat} {y : ByteArray} (h : best.length = ws.length + 1) (hy : ws[k]? = some y) : ∃ b, best[k + 1]? = some b ∧ (F.brP ws best).drop k = (F.runes y, b) :: (F.brP ws best).drop (k + 1) := by
  have hlt := M.lt_at hy
  have hb : best[k + 1]? = some best[k + 1] := List.getElem?_eq_getElem (by omega)
  refine ⟨best[k + 1], hb, ?_⟩
  have hl : k < (F.brP ws best).length := by rw [F.brP_len h]; exact hlt
  rw [List.drop_eq_getElem_cons hl]
  congr 1
  have e : (F.brP ws best)[k]? = some (F.runes y, best[k + 1]) := by
    unfold F.brP F.lens
    rw [List.getElem?_zip_eq_some]
    refine ⟨by simp [hy], ?_⟩
    rw [List.getElem?_tail]
    exact hb
  rw [List.getElem?_eq_getElem hl] at e
  exact Option.some.inj e

theorem F.brP_set {ws : List ByteArray} {best : List Way} {i k : Nat} {x : Way} (h : i ≤ k) : (F.brP ws (best.set i x)).drop k = (F.brP ws best).drop k := by
  apply List.ext_getElem?
  intro m
  rw [List.getElem?_drop, List.getElem?_drop]
  unfold F.brP List.zip
  rw [List.getElem?_zipWith, List.getElem?_zipWith, List.getElem?_tail, List.getElem?_tail, List.getElem?_set_ne (by omega)]

theorem F.set_self {l : List Way} {i : Nat} (h : i < l.length) : l.set i (l.getD i default) = l := by
  have : l.getD i default = l[i] := by simp [List.getD, h]
  rw [this, List.set_getElem_self]

theorem F.set_get {l : List Way} {i : Nat} {x : Way} (h : i < l.length) : (l.set i x).getD i default = x := by
  simp [List.getD, h]

theorem F.brU_len (w : Int) (ws : List ByteArray) : ∀ (j : Nat) (best : List Way), (F.brU w ws j best).length = best.length
  | 0, best => rfl
  | j + 1, best => by rw [F.brU, F.brU_len w ws j, List.length_set]

end Go.Proofs.YthcfbeckhgngiaaGreatDoor
