/- What is proved here: plain facts on slices that a call makes itself and appends to (no statement of the seat). -/
import Derived.Test.YtkfhfjcgegimbaaBase
import Derived.Maps.AppendAt
import Derived.Deep.AppendLies
import Derived.OwnWalk
import Derived.Deep.DeepMust
namespace Go.Proofs.Ytkfhfjcgegimbaa
open Go.RowKit
set_option linter.unusedVariables false

/-- The blocks that are not the row of v. -/
def Off (w : World) (v : Value) : Nat → Prop := fun b => b < w.heap.size ∧ some b ≠ v.ownBlock

/-- v is a slice of the call's own, whose elements are xs; nothing that they lead to lies in its row. -/
def OwnL {α : Type} (size : Nat) (e : TypeId) (R : Rd α) (base : Nat) (w : World) (v : Value) (xs : List α) : Prop :=
  ∃ css : List (List Value), css.length = xs.length ∧ (∀ c ∈ css, c.length = size) ∧ w.ownsRow base e size v xs.length css.flatten ∧
    ∀ (i : Nat) (x : α) (cs : List Value), xs[i]? = some x → css[i]? = some cs → R w (Off w v) x cs

theorem OwnL.nil {α : Type} {size : Nat} {e : TypeId} {R : Rd α} {base : Nat} {w : World} : OwnL size e R base w (.slice none 0 0) ([] : List α) :=
  ⟨[], rfl, by simp, World.ownsRow_nil _ _ _ _, fun i x cs h => by simp at h⟩

theorem ownsRow_of_block {w w' : World} {base : Nat} {e : TypeId} {size : Nat} {v : Value} {n : Nat} {xs : List Value} (h : w.ownsRow base e size v n xs)
    (hb : ∀ g, v.ownBlock = some g → w'.heap[g]? = w.heap[g]?) : w'.ownsRow base e size v n xs := by
  refine ⟨h.1, ?_⟩
  rcases h.2 with h0 | ⟨g, cap, cur, rfl, h1, h2, h3⟩
  · exact .inl h0
  · exact .inr ⟨g, cap, cur, rfl, h1, (hb g rfl).trans h2, h3⟩

theorem OwnL.keep {α : Type} {size : Nat} {e : TypeId} {R : Rd α} (hR : Keeps R) {base : Nat} {w w' : World} {v : Value} {xs : List α} (h : OwnL size e R base w v xs) (hw : Ext w w') : OwnL size e R base w' v xs := by
  obtain ⟨css, h1, h2, h3, h4⟩ := h
  refine ⟨css, h1, h2, ownsRow_of_block h3 fun g hg => hw.block g (h3.lt g hg).2, fun i x cs hx hc => ?_⟩
  exact hR _ _ _ _ _ _ (fun b hb => hw.block b hb.1) (fun b hb => ⟨Nat.lt_of_lt_of_le hb.1 hw.size, hb.2⟩) (h4 i x cs hx hc)

theorem flatten_at {size : Nat} : ∀ {css : List (List Value)}, (∀ c ∈ css, c.length = size) → ∀ {i j : Nat} {cs : List Value} {u : Value}, css[i]? = some cs → cs[j]? = some u → css.flatten[i * size + j]? = some u
  | [], _, i, j, cs, u, h, _ => by simp at h
  | c :: r, hl, 0, j, cs, u, h, hu => by
    simp at h
    subst h
    have hj := (List.getElem?_eq_some_iff.1 hu).1
    simp [List.getElem?_append, hj]
    exact (List.getElem?_eq_some_iff.1 hu).2
  | c :: r, hl, i + 1, j, cs, u, h, hu => by
    have hc := hl c (by simp)
    have := flatten_at (css := r) (fun x hx => hl x (by simp [hx])) (i := i) (j := j) (cs := cs) (u := u) (by simpa using h) hu
    simp only [List.flatten_cons]
    rw [List.getElem?_append_right (by rw [hc, Nat.add_mul]; omega), hc]
    rw [← this]
    congr 1
    rw [Nat.add_mul]; omega

/-- What is owned is read. -/
theorem OwnL.read {α : Type} {size bytes : Nat} {e : TypeId} {R : Rd α} (hR : Keeps R) {base : Nat} {w : World} {v : Value} {xs : List α} (h : OwnL size e R base w v xs) (hb : xs.length * bytes ≤ 140737488355328) : SlV size bytes R w (In w) xs v := by
  obtain ⟨css, h1, h2, h3, h4⟩ := h
  rcases h3.2 with ⟨rfl, h0⟩ | ⟨g, cap, cur, hv, hg, hh, hn, hm, hs, ht⟩
  · have : xs = [] := List.eq_nil_of_length_eq_zero h0
    subst this
    exact ⟨none, 0, rfl, Nat.le_refl _, by omega, by simp, SlR.nil⟩
  · subst hv
    refine ⟨some ⟨g, 0, none⟩, cap, rfl, hn, by simpa [maxLen] using hm, hb, fun i x hx => ?_⟩
    have hi := (List.getElem?_eq_some_iff.1 hx).1
    obtain ⟨cs, hcs⟩ : ∃ cs, css[i]? = some cs := ⟨_, List.getElem?_eq_getElem (by omega)⟩
    refine ⟨g, 0, cs, rfl, (h3.lt g rfl).2, hR _ _ _ _ _ _ (fun _ _ => rfl) (fun b hb => hb.1) (h4 i x cs hx hcs), h2 cs (List.mem_of_getElem? hcs), fun j u hu => ?_⟩
    have := h3.cells (g := g) rfl (i * size + j) u (flatten_at h2 hcs hu)
    rw [← this]
    congr 1
    simp only [Addr.add]
    split
    · simp
    · simp

/-- append(out, x), x just built. -/
theorem run_app_one {α : Type} {P : Program} {R : Rd α} (hK : Keeps R) (W : World) (t ty e : TypeId) (base : Nat) {z : Value} {size bytes : Nat} (hinfo : (P.info? e).map (fun i => (i.zero, i.size, i.bytes)) = some (some z, size, bytes))
    (ht : P.underlying t = some (.slice e)) (hzs : z.cells.size = size) (hsz : 0 < size) (v : Value) (xs : List α) (hown : OwnL size e R base W v xs) (y : α) (arr : Array Value) (hR : R W (Off W v) y arr.toList)
    (hcl : arr.size = size) (h1 : ∀ u ∈ arr.toList, u.oneCell' = true) (c : Nat) (hbytes : (xs.length + 1) * bytes ≤ 140737488355328) (hmax : xs.length + 1 ≤ maxLen) (hbase : base ≤ W.heap.size) :
    ∃ v' w', (Builtin.append_ #[t, t] ty #[v, .slice (some ⟨W.heap.size, 0, none⟩) 1 c]).run P (W.alloc (.cells arr e)) = .ok v' w' ∧ OwnL size e R base w' v' (xs ++ [y]) ∧ Below base W w' ∧ W.heap.size < w'.heap.size ∧
      (∀ b, b < W.heap.size → some b ≠ v.ownBlock → w'.heap[b]? = W.heap[b]?) ∧ (v'.ownBlock = v.ownBlock ∨ v'.ownBlock = some (W.heap.size + 1)) := by
  obtain ⟨i0, hi, hz0, hz1, hz2⟩ := info_parts hinfo
  obtain ⟨css, k1, k2, k3, k4⟩ := hown
  obtain ⟨v', w', hrun, g1, g2, _, g4⟩ := run_append_own_at (P := P) (W.alloc (.cells arr e)) base t ty e i0 z size bytes ht hi hz0 hz1 hz2 hzs hsz v xs.length css.flatten (k3.alloc _)
    ⟨W.heap.size, 0, none⟩ 1 c arr.toList (by simp [hcl]) (by
      intro j u hu
      have : (⟨W.heap.size, 0, none⟩ : Addr).add j = ⟨W.heap.size, j, none⟩ := by simp only [Addr.add]; split <;> simp_all
      rw [this, World.cell?_alloc_new]
      simpa using hu) h1 hmax hbytes (by simp; omega)
  have hkeep : ∀ b, b < W.heap.size → some b ≠ v.ownBlock → w'.heap[b]? = W.heap[b]? := fun b hb hne => (g2.block b (by simp; omega) hne).trans (Below.heap_alloc W _ b hb)
  have hsz' : W.heap.size < w'.heap.size := by have := g2.size; rw [World.size_alloc] at this; omega
  refine ⟨v', w', hrun, ⟨css ++ [arr.toList], by simp [k1], ?_, ?_, ?_⟩, ?_, hsz', hkeep, ?_⟩
  · intro c hc
    rcases List.mem_append.1 hc with hc | hc
    · exact k2 c hc
    · simp at hc; subst hc; simpa using hcl
  · have e1 : (css ++ [arr.toList]).flatten = css.flatten ++ arr.toList := by simp
    rw [e1, List.length_append, List.length_singleton]
    exact g1
  · have hoff : ∀ b, Off W v b → Off w' v' b := by
      rintro b ⟨hb, hne⟩
      refine ⟨by omega, ?_⟩
      rcases g4 with h | h
      · rw [h]; exact hne
      · rw [h]; simp; omega
    intro i x cs hx hc
    rw [List.getElem?_append] at hx hc
    rw [k1] at hc
    split at hx
    · rename_i hlt
      rw [if_pos hlt] at hc
      exact hK _ _ _ _ _ _ (fun b hb => hkeep b hb.1 hb.2) hoff (k4 i x cs hx hc)
    · rename_i hlt
      rw [if_neg hlt] at hc
      have h0 : i - xs.length = 0 := by
        have := (List.getElem?_eq_some_iff.1 hx).1
        simp at this; omega
      rw [h0] at hx hc
      simp at hx hc
      subst hx hc
      exact hK _ _ _ _ _ _ (fun b hb => hkeep b hb.1 hb.2) hoff hR
  · have hb0 : Below base W (W.alloc (.cells arr e)) := (Below.refl _ _).alloc hbase _
    exact hb0.grown g2 (by simp; omega) (fun k hk => (k3.lt k hk).1)
  · rcases g4 with h | h
    · exact .inl h
    · exact .inr (by simpa using h)

theorem wpList_app_one {α : Type} {P : Program} {R : Rd α} (hK : Keeps R) (W : World) {ops : Array Oper} {rest : List Oper} {o : Oper} {a : Act} {Q : Exit → Act → World → Prop} (hgd : o.guard = none) (s x : Operand) (t e : TypeId)
    (ho : o.op = .call { callee := .builtin .append, args := #[s, x], argTypes := #[t, t] }) (base : Nat) {z : Value} {size bytes : Nat} (hinfo : (P.info? e).map (fun i => (i.zero, i.size, i.bytes)) = some (some z, size, bytes))
    (ht : P.underlying t = some (.slice e)) (hzs : z.cells.size = size) (hsz : 0 < size) (v : Value) (xs : List α) (hs : a.eval s = v) (hown : OwnL size e R base W v xs) (y : α) (arr : Array Value) (c g : Nat) (hx : a.eval x = .slice (some ⟨g, 0, none⟩) 1 c) (hg : g = W.heap.size)
    (hR : R W (Off W v) y arr.toList)
    (hcl : arr.size = size) (h1 : ∀ u ∈ arr.toList, u.oneCell' = true) (hbytes : (xs.length + 1) * bytes ≤ 140737488355328) (hmax : xs.length + 1 ≤ maxLen) (hbase : base ≤ W.heap.size)
    (h : ∀ v' w', OwnL size e R base w' v' (xs ++ [y]) → Below base W w' → W.heap.size < w'.heap.size → (∀ b, b < W.heap.size → some b ≠ v.ownBlock → w'.heap[b]? = W.heap[b]?) → (v'.ownBlock = v.ownBlock ∨ v'.ownBlock = some (W.heap.size + 1)) → wpList P ops Q rest (a.put o.dst v') w') :
    wpList P ops Q (o :: rest) a (W.alloc (.cells arr e)) := by
  subst hg
  obtain ⟨v', w', hrun, g1, g2, g3, g4, g5⟩ := run_app_one hK W t o.type e base hinfo ht hzs hsz v xs hown y arr hR hcl h1 c hbytes hmax hbase
  refine wpList_plain hgd fun K hKK => ?_
  unfold Oper.wp execOp
  simp only [ho, resolve, invoke, builtin, Sem.run_bind, Sem.run_pure, Result.andThen_ok, List.map_toArray, List.map_cons, List.map_nil, hs, hx, hrun]
  exact hKK _ _ (h v' w' g1 g2 g3 g4 g5)
end Go.Proofs.Ytkfhfjcgegimbaa
