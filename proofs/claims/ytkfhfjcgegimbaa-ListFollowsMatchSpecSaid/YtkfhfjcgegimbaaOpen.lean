/- What is proved here: an argument that can be read as data reads in the words of this proof (integers, strings, slices, structures). -/
import Derived.Test.YtkfhfjcgegimbaaBase
import Derived.ProofKit
import Derived.Deep.Slices
import Derived.SizedLaws
import Derived.OpenShut
import Derived.ShutString
import Derived.ChangeOld
namespace Go.Proofs.Ytkfhfjcgegimbaa
open Go.ChangeShapes Go.WideShapes Go.ChangeAt Go.RowKit Go.Deep
set_option linter.unusedVariables false

/-- Whatever reads as type t, within the reach, is R. -/
def Opens {α : Type} (P : Program) (t : TypeId) (R : Rd α) : Prop :=
  ∀ (H : Type) (enc : TypeId × Value → H) (w : World) (fuel : Nat) (cs : List Value) (d : DataW H) (p : List MemPlace),
    DataW.trod enc P w 0 (fun _ => true) true fuel t cs = some (d, p) → (∀ n ∈ d.weights P t, n ≤ reachBytes) → ∃ x, R w (In w) x cs

theorem wf64 {n : Int} (h : (Lit.int .i64 n).wf = true) : I64 n := by
  have := bounds_i64 h
  unfold I64
  omega
theorem opens_int {P : Program} {t : TypeId} (ht : P.underlying t = some (.int .i64)) : Opens P t intR := by
  intro H enc w fuel cs d p h hw
  obtain ⟨n, rfl, _, hn⟩ := DataW.trod_int ht h
  exact ⟨n, rfl, wf64 hn⟩
theorem opens_bool {P : Program} {t : TypeId} (ht : P.underlying t = some .bool) : Opens P t boolR := by
  intro H enc w fuel cs d p h hw
  obtain ⟨n, rfl, _⟩ := DataW.trod_bool ht h
  exact ⟨n, rfl⟩
theorem opens_str {P : Program} {t : TypeId} (ht : P.underlying t = some .string) : Opens P t strR := by
  intro H enc w fuel cs d p h hw
  obtain ⟨n, rfl, _, hn⟩ := DataW.trod_string ht h
  exact ⟨n, rfl, hn⟩

/-- A slice's value, as one cell. -/
def slR {α : Type} (size bytes : Nat) (R : Rd α) : Rd (List α) := fun w S xs cs => ∃ v, cs = [v] ∧ SlV size bytes R w S xs v
theorem keeps_sl {α : Type} {size bytes : Nat} {R : Rd α} (h : Keeps R) : Keeps (slR size bytes R) := keeps_slv h

theorem weights_all {H : Type} {P : Program} {e : TypeId} {d : DataW H} : ∀ {l : List (DataW H)}, d ∈ l → ∀ n ∈ d.weights P e, n ∈ DataW.weightsAll P e l
  | x :: r, h, n, hn => by
    simp only [DataW.weightsAll, List.mem_append]
    rcases List.mem_cons.1 h with rfl | h
    · exact .inl hn
    · exact .inr (weights_all h n hn)

theorem list_of {α : Type} {Q : Nat → α → Prop} : ∀ (n : Nat), (∀ i, i < n → ∃ x, Q i x) → ∃ xs : List α, xs.length = n ∧ ∀ i x, xs[i]? = some x → Q i x
  | 0, _ => ⟨[], rfl, fun i x h => by simp at h⟩
  | n + 1, h => by
    obtain ⟨xs, hl, hx⟩ := list_of n fun i hi => h i (by omega)
    obtain ⟨y, hy⟩ := h n (by omega)
    refine ⟨xs ++ [y], by simp [hl], fun i x hi => ?_⟩
    rw [List.getElem?_append] at hi
    split at hi
    · exact hx i x hi
    · have hlt := (List.getElem?_eq_some_iff.1 hi).1
      have : i = n := by simp at hlt; omega
      subst this
      rw [hl] at hi
      simp at hi
      subst hi
      exact hy

theorem opens_slice {α : Type} {P : Program} {t e : TypeId} {size bytes : Nat} {R : Rd α} (ht : P.underlying t = some (.slice e)) (hs : P.cellsOf e = size) (hb : P.bytesOf e = bytes) (h0 : 0 < size)
    (he : Opens P e R) : Opens P t (slR size bytes R) := by
  intro H enc w fuel cs d p h hw
  rcases open_slice ht h with ⟨rfl, hx⟩ | ⟨a, len, cap, m, n, D, Pl, rfl, _, hl, hm, hmm, hx, hi⟩
  · exact ⟨[], _, rfl, none, 0, rfl, Nat.le_refl _, by omega, by simp, SlR.nil⟩
  · simp only [if_true] at hmm
    subst hmm
    simp only [Prod.mk.injEq] at hx
    obtain ⟨rfl, _⟩ := hx
    have hwt : ∀ i, i < m → ∀ k ∈ (D i).weights P e, k ≤ reachBytes := by
      intro i him k hk
      refine hw k ?_
      simp only [DataW.weights, ht, List.mem_cons, List.mem_append]
      rcases Nat.lt_or_ge i len with hlt | hge
      · exact .inr (.inl (weights_all (by simp; exact ⟨i, hlt, rfl⟩) k hk))
      · exact .inr (.inr (weights_all (by simp; exact ⟨i - len, by omega, by congr 1; omega⟩) k hk))
    have hown : (len + (m - len)) * bytes ≤ reachBytes := by
      refine hw _ ?_
      simp only [DataW.weights, ht, List.length_map, List.length_range, hb]
      exact List.mem_cons_self
    obtain ⟨xs, hxl, hxs⟩ := list_of (Q := fun i x => ∃ b off cs', a = ⟨b, off, none⟩ ∧ b < w.heap.size ∧ R w (In w) x cs' ∧ cs'.length = size ∧ ∀ j v, cs'[j]? = some v → w.cell? ⟨b, off + i * size + j, none⟩ = some v) len (by
      intro i hi'
      obtain ⟨cs', hc, ht'⟩ := hi i (by omega)
      obtain ⟨_, hcl, hat⟩ := World.cells?_some hc
      rw [hs] at hcl hat
      obtain ⟨x, hx⟩ := he H enc w n cs' _ _ ht' (hwt i (by omega))
      obtain ⟨b, off, spot⟩ := a
      have c0 := hat 0 h0
      have hsome : ∃ v, cs'[0]? = some v := ⟨_, List.getElem?_eq_getElem (by omega)⟩
      obtain ⟨v0, hv0⟩ := hsome
      rw [hv0] at c0
      obtain ⟨cs0, hc0, _⟩ := hi 0 (by omega)
      obtain ⟨_, hcl0, hat0⟩ := World.cells?_some hc0
      rw [hs] at hcl0 hat0
      have hz0 := hat0 0 h0
      rw [List.getElem?_eq_getElem (by omega)] at hz0
      have hspot := World.cell?_spot hz0
      have hspot' : spot = none := by simpa [Addr.add] using hspot
      subst hspot'
      have hin := cell_in c0
      refine ⟨x, b, off, cs', rfl, by simpa [block_add] using hin, hx, hcl, fun j v hv => ?_⟩
      have hj : j < size := by rw [← hcl]; exact (List.getElem?_eq_some_iff.1 hv).1
      have := hat j hj
      rw [hv] at this
      rw [← this]
      congr 1
      simp only [Addr.add]
      by_cases h1 : i * size = 0 <;> by_cases h2 : j = 0 <;> simp [h1, h2] <;> omega)
    have hr : reachBytes = 140737488351232 := rfl
    have hlm : len ≤ len + (m - len) := by omega
    have h47 : len * bytes ≤ 140737488355328 := by
      have := Nat.mul_le_mul_right bytes hlm
      omega
    refine ⟨xs, _, rfl, some a, m, by rw [hxl], by omega, hm, by rw [hxl]; exact h47, fun i x hx => ?_⟩
    obtain ⟨b, off, cs', rfl, h1, h2, h3, h4⟩ := hxs i x hx
    exact ⟨b, off, cs', rfl, h1, h2, h3, h4⟩

theorem weights_each {H : Type} {P : Program} : ∀ {ts : List TypeId} {ds : List (DataW H)} {j : Nat} {t : TypeId} {d : DataW H}, ts[j]? = some t → ds[j]? = some d → ∀ n ∈ d.weights P t, n ∈ DataW.weightsEach P ts ds :=
  DataW.weights_mem_each

/-- A structure, field by field. -/
theorem open_fields {H : Type} {enc : TypeId × Value → H} {P : Program} {w : World} {fuel : Nat} {t : TypeId} {cs : List Value} {d : DataW H} {p : List MemPlace} {fs : Array Field}
    (ht : P.underlying t = some (.struct fs)) (h : DataW.trod enc P w 0 (fun _ => true) true fuel t cs = some (d, p)) (hw : ∀ n ∈ d.weights P t, n ≤ reachBytes) :
    cs.length = P.cellsOf t ∧ ∀ (i : Nat) (f : Field), fs[i]? = some f → ∀ {α : Type} {R : Rd α}, Opens P f.type R → ∃ x, R w (In w) x ((cs.drop f.offset).take (P.cellsOf f.type)) := by
  obtain ⟨xs, n, _, hx, hl, hxl, hf⟩ := DataW.trod_struct ht h
  simp only [Prod.mk.injEq] at hx
  obtain ⟨rfl, _⟩ := hx
  refine ⟨hl, fun i f hi α R hR => ?_⟩
  have h1 := hf i f hi
  have hlt : i < xs.length := by rw [hxl]; exact (Array.getElem?_eq_some_iff.1 hi).1
  rw [List.getElem?_eq_getElem hlt] at h1
  refine hR H enc w n _ _ _ h1 fun k hk => hw k ?_
  simp only [DataW.weights, ht]
  refine weights_each (j := i) ?_ ?_ k hk
  · simp [hi]
  · simp [List.getElem?_eq_getElem hlt]
end Go.Proofs.Ytkfhfjcgegimbaa
