/- What is proved here: the contract of slices.Delete of one element (no statement of the seat). -/
import Derived.Test.YtlnflhmepnbcmaaDoorC81
namespace Go.Proofs.YtlnflhmepnbcmaaDoor
open Go Go.RowKit
set_option linter.unusedVariables false
set_option linter.unusedSimpArgs false
set_option maxHeartbeats 1000000

namespace K

theorem eraseAt {α : Type} {i q : Nat} {xs : List α} : (xs.eraseIdx i)[q]? = if q < i then xs[q]? else xs[q + 1]? := List.getElem?_eraseIdx ..

end K

namespace M

def encDelO1 (xs : List Cap) (i : Nat) : List AV × Heap := ([.own 900, vI i, vI ((i + 1 : Nat) : Int)], [(900, ⟨false, 67, 6, xs.map eCap⟩)])

def encDelO (a : (List Cap) × Nat) : List AV × Heap := encDelO1 a.1 a.2

theorem encDelO_inj (a a' : (List Cap) × Nat) (h : encDelO a = encDelO a') : a = a' := by
  simp only [encDelO, encDelO1] at h
  try simp [strs_inj, ints_inj, bools_inj, eCaps_inj, eCap_iff, eL_eCaps_inj, eMchs_inj, eMch_iff, eWrds_inj, eWrd_iff, eFnds_inj, eFnd_iff, eRatios_inj, eRatio_iff, eWays_inj, eWay_iff] at h
  grind

theorem unDelO (xs : List Cap) (i : Nat) : unenc encDelO (([.own 900, (vI (↑i : Int)), (vI (↑(i + (1 : Nat)) : Int))], [(900, Blk.mk false 67 6 (List.map eCap xs))])) = some (xs, i) := unenc_of encDelO_inj (xs, i) rfl

def resDelO1 (xs : List Cap) (i : Nat) : AV × Heap × List Nat := (.own 900, [(900, ⟨false, 67, 6, (xs.eraseIdx i).map eCap⟩)], [900])

def preDelO1 (xs : List Cap) (i : Nat) : Bool := decide (i < xs.length ∧ xs.length ≤ 100000)

noncomputable def oDelO : OrcH := orcH 51 encDelO (fun a => preDelO1 a.1 a.2) fun a => resDelO1 a.1 a.2

noncomputable def enDelE : Env := envH ty noG lks [] [] [900] []

theorem enDelE_ok : EnvOK Tryd.prog enDelE := by
  refine envH_ok lks_ok ty_ok ?_ ?_
  · simp
  · simp

theorem delSpec {xs : List Cap} {i : Nat} (hi : i < xs.length) :
    SpecH Tryd.prog noG 51 [.own 900, vI i, vI ((i + 1 : Nat) : Int)] [(900, ⟨false, 67, 6, xs.map eCap⟩)] (.own 900) [(900, ⟨false, 67, 6, (xs.eraseIdx i).map eCap⟩)] [900] := by
  intro w S β cargs inv hargs
  match cargs, hargs with
  | [u, vi, vj], ⟨h1, h2, h3, _⟩ =>
    obtain ⟨X, hX, hr1, -⟩ := rv_ownk2 h1
    obtain ⟨hr, cur, ty, c1, c2, c3, c4, c5, c6, c7, c8⟩ := rows_cells inv hX rfl (by intro e; rw [e] at hi; exact absurd hi (by simp))
    subst c7
    have hvi : vi = .int .i64 i := (rv_v h2).1
    have hvj : vj = .int .i64 ((i : Int) + 1) := (rv_v h3).1
    subst hvi hvj
    rw [hr1 hr, c3]
    have hone := rows_one c8
    obtain ⟨m1, m2, m3⟩ := inv.new 900 X hX hr
    have hel : (xs.eraseIdx i).length = xs.length - 1 := by rw [List.length_eraseIdx, if_pos hi]
    refine (del_walk X.b xs.length X.cap i cur 67 w hi (by omega) c5 c1 c2 hone).mono ?_
    rintro e w' ⟨rfl, rfl⟩
    have hcl : cur.toList.length = X.cap * 6 := by rw [← c2]; simp
    have hK : xs.length * 6 ≤ cur.toList.length := by rw [hcl]; exact Nat.mul_le_mul_right _ (by omega)
    obtain ⟨cs, hcs⟩ : ∃ cs, cs = (cur.toList.drop ((i + 1) * 6)).take ((xs.length - (i + 1)) * 6) := ⟨_, rfl⟩
    have hcsl : cs.length = (xs.length - (i + 1)) * 6 := by rw [hcs, List.length_take, List.length_drop]; omega
    rw [← hcs]
    have l1 := K.put_len (o := i * 6) (xs := cs) (R := cur.toList) (by rw [hcsl]; omega)
    have l2 := K.put_len (o := (xs.length - 1) * 6) (xs := zCap) (R := K.put (i * 6) cs cur.toList) (by rw [l1, zCap_len]; omega)
    have hat : ∀ q, q < (xs.length - 1) * 6 → (K.put ((xs.length - 1) * 6) zCap (K.put (i * 6) cs cur.toList))[q]? = if q < i * 6 then cur.toList[q]? else cur.toList[q + 6]? := fun q hq => by
      rw [K.put_at (by rw [l1, zCap_len]; omega), if_pos hq, K.put_at (by rw [hcsl]; omega)]
      by_cases h : q < i * 6
      · rw [if_pos h, if_pos h]
      · rw [if_neg h, if_neg h, if_pos (by rw [hcsl]; omega), hcs, List.getElem?_take, if_pos (by omega), List.getElem?_drop]
        congr 1
        omega
    generalize K.put ((xs.length - 1) * 6) zCap (K.put (i * 6) cs cur.toList) = R at l2 hat
    have hH : (w.drew.setRow X.b R.toArray).heap[X.b]? = some (.cells R.toArray 67 (0, 0)) := setRow_heap w.drew X.b cur R.toArray 67 (0, 0) c1
    have hO : ∀ b, b ≠ X.b → (w.drew.setRow X.b R.toArray).heap[b]? = w.heap[b]? := fun b hb => by
      show (w.drew.setRow X.b R.toArray).heap[b]? = w.drew.heap[b]?
      unfold World.setRow
      simp only [Array.getElem?_modify]
      rw [if_neg (fun e => hb e.symm)]
    have hsz : (w.drew.setRow X.b R.toArray).heap.size = w.heap.size := by
      show (w.drew.setRow X.b R.toArray).heap.size = w.drew.heap.size
      unfold World.setRow; simp
    have hB : Blw (ownFree w β) w (w.drew.setRow X.b R.toArray) := ⟨rfl, rfl, rfl, by rw [hsz]; exact Nat.le_refl _, fun b hb => hO b (fun e => m1 (e ▸ hb))⟩
    have hkeep : ∀ b, S b → (w.drew.setRow X.b R.toArray).heap[b]? = w.heap[b]? := fun b hb => hO b (fun e => m3 (e ▸ hb))
    generalize w.drew.setRow X.b R.toArray = w' at hH hO hsz hB hkeep
    have g : GrK (ownFree w β) [900] w S β w' S (upd β 900 ⟨true, X.b, xs.length - 1, X.cap, 6⟩) := ⟨hB, hkeep, fun _ h => h, fun _ h => .inl h, fun k x hk hx => by rw [upd_ne β _ (by simpa using hk)]; exact hx, fun k x _ hk hx => by rw [upd_ne β _ (by simpa using hk)] at hx; exact hx⟩
    have fin := inv_put (E := enDelE) inv (j := 900) ⟨true, X.b, xs.length - 1, X.cap, 6⟩ ⟨false, 67, 6, (xs.eraseIdx i).map eCap⟩ rfl g (fun k y hk hy hyr => hO y.b (fun e => hk (inv.inj k 900 y X hy hX hyr hr e))) (.inl ⟨X, hX, hr, rfl⟩) (by rw [hsz]; exact m2)
      ⟨R.toArray, 67, hH, by rw [List.size_toArray, l2, l1, hcl], by rw [List.length_map, hel], by show xs.length - 1 ≤ X.cap; omega, c5, fun _ => ⟨rfl, rfl⟩, (fun h => by cases h), fun q row hq => by
        simp only [List.getElem?_map, Option.map_eq_some_iff] at hq
        obtain ⟨x, hx, rfl⟩ := hq
        refine ⟨enc_len x, fun j a hj => ?_⟩
        have hj6 : j < 6 := by have := (List.getElem?_eq_some_iff.1 hj).1; rw [enc_len] at this; exact this
        have hql : q < xs.length - 1 := by have := (List.getElem?_eq_some_iff.1 hx).1; rw [hel] at this; exact this
        have hRq := hat (q * 6 + j) (by omega)
        rw [K.eraseAt] at hx
        show ∃ v, R.toArray[q * 6 + j]? = some v ∧ _
        rw [List.getElem?_toArray, hRq]
        by_cases hqi : q < i
        · rw [if_pos hqi] at hx
          obtain ⟨v, hv1, hrv⟩ := c8 q x hx j a hj
          exact ⟨v, by rw [if_pos (by omega)]; simpa using hv1, by simpa using hrv.mono hkeep (fun _ h => h)⟩
        · rw [if_neg hqi] at hx
          obtain ⟨v, hv1, hrv⟩ := c8 (q + 1) x hx j a hj
          exact ⟨v, by rw [if_neg (by omega), show q * 6 + j + 6 = (q + 1) * 6 + j by omega]; simpa using hv1, by simpa using hrv.mono hkeep (fun _ h => h)⟩⟩
    exact ⟨_, S, _, rfl, hB, fun _ h => h, fun _ h => .inl h, fin, fun k x _ hk hx => by rw [upd_ne β _ (by simpa using hk)] at hx; exact hx, _, upd_self _ _ _, fun _ => rfl, fun h => by cases h⟩

theorem okDelO : OrcHOK Tryd.prog noG oDelO := by
  refine orcH_ok ⟨Tryd.f51, by kernel_rfl, by kernel_rfl, by kernel_rfl⟩ (fun a hp _ _ => ?_)
  obtain ⟨xs, i⟩ := a
  have hp : i < xs.length ∧ xs.length ≤ 100000 := of_decide_eq_true hp
  exact delSpec hp.1

end M
end Go.Proofs.YtlnflhmepnbcmaaDoor
