/- What is proved here: an argument of small bulk reads as plain data of the machine; contracts of library functions as the machine wants them (no statement of the seat). -/
import Derived.Test.YtgkjfochkhiojaaDoorM7
import Derived.Test.YtgkjfochkhiojaaDoorRows
import Derived.Deep.DeepHandedRow
import Derived.Shelf.Vars
namespace Go.Proofs.YtgkjfochkhiojaaDoor.M
open Go.ChangeShapes Go.WideShapes Go.ChangeAt Go.RowKit Go.Deep
set_option linter.unusedVariables false
set_option linter.unusedSimpArgs false

theorem bulks.one_le {H : Type} (d : DataW H) : 1 ≤ Rows.uptoBulk d := by
  cases d with
  | lit l => cases l <;> simp [Rows.uptoBulk]
  | nil => simp [Rows.uptoBulk]
  | ptr d => simp [Rows.uptoBulk]
  | slice elems spare => simp [Rows.uptoBulk]
  | agg parts => simp [Rows.uptoBulk]
  | iface t d => simp [Rows.uptoBulk]
  | map entries => simp [Rows.uptoBulk]
  | held h => simp [Rows.uptoBulk]

theorem bulks.part_le {H : Type} {d : DataW H} {l : List (DataW H)} (h : d ∈ l) : Rows.uptoBulk d ≤ Rows.uptoBulkAll l := by
  induction l with
  | nil => cases h
  | cons x r ih =>
    simp only [Rows.uptoBulkAll]
    cases List.mem_cons.1 h with
    | inl e => subst e; omega
    | inr e => have := ih e; omega

theorem bulks.length_le {H : Type} (l : List (DataW H)) : l.length ≤ Rows.uptoBulkAll l := by
  induction l with
  | nil => simp [Rows.uptoBulkAll]
  | cons x r ih => have := bulks.one_le x; simp only [Rows.uptoBulkAll, List.length_cons]; omega

theorem bulks.bound {H : Type} {l : List (DataW H)} (hk : Rows.uptoSmall H l = true) : Rows.uptoBulkAll l ≤ 1048576 := by
  simpa [Rows.uptoSmall] using hk

/-- Whatever reads as type t, within the reach and of small bulk, is data whose cells are E, and K. -/
def OpnU {α : Type} (P : Program) (t : TypeId) (E : α → List AV) (K : α → Prop) : Prop :=
  ∀ (H : Type) (enc : TypeId × Value → H) (w : World) (fuel : Nat) (cs : List Value) (d : DataW H) (p : List MemPlace),
    DataW.trod enc P w 0 (fun _ => true) true fuel t cs = some (d, p) → (∀ n ∈ d.weights P t, n ≤ reachBytes) → Rows.uptoBulk d ≤ 1048576 → ∃ x, RL (R0 w (Inn w)) (E x) cs ∧ K x

theorem Opn.small {α : Type} {P : Program} {t : TypeId} {E : α → List AV} {K : α → Prop} (h : Opn P t E K) : OpnU P t E K :=
  fun H enc w fuel cs d p h1 h2 _ => h H enc w fuel cs d p h1 h2

/-- A short string. -/
def smS (s : ByteArray) : Prop := s.size ≤ 1048576

theorem opnU_str {P : Program} {t : TypeId} (ht : P.underlying t = some .string) : OpnU P t cS smS := by
  intro H enc w fuel cs d p h hw hb
  obtain ⟨n, rfl, hd, hn⟩ := DataW.trod_string ht h
  refine ⟨n, ⟨.v hn, trivial⟩, ?_⟩
  unfold smS
  first | (obtain ⟨rfl, _⟩ := Prod.mk.inj hd) | (obtain rfl := hd) | (have hd := congrArg Prod.fst hd; simp only at hd; subst hd)
  simp only [Rows.uptoBulk] at hb
  have : n.data.toList.length = n.size := by simp
  omega

/-- What a slice's length is bounded by. -/
def KU {α : Type} (K : α → Prop) (xs : List α) : Prop := xs.length ≤ 1048576 ∧ ∀ x ∈ xs, K x

theorem opnU_slice {α : Type} {P : Program} {t e : TypeId} {size bytes : Nat} {E : α → List AV} {K : α → Prop} (ht : P.underlying t = some (.slice e)) (hs : P.cellsOf e = size) (hb : P.bytesOf e = bytes) (h0 : 0 < size) (hE : ∀ x, (E x).length = size)
    (he : OpnU P e E K) : OpnU P t (cSl E) (KU K) := by
  intro H enc w fuel cs d p h hw hbk
  rcases open_slice ht h with ⟨rfl, hx⟩ | ⟨a, len, cap, m, n, D, Pl, rfl, _, hl, hm, hmm, hx, hi⟩
  · refine ⟨[], ⟨?_, trivial⟩, by simp [KU], by simp⟩
    exact R0.sl (rows := []) (size := 0) (b := 0) (off := 0) (vals := fun _ _ => .nilFunc) (by simp) (by simp) (by simp) (by simp) (by simp) (by simp)
  · simp only [if_true] at hmm
    subst hmm
    simp only [Prod.mk.injEq] at hx
    obtain ⟨rfl, _⟩ := hx
    have hwt : ∀ i, i < m → ∀ k ∈ (D i).weights P e, k ≤ reachBytes := by
      intro i him k hk
      refine hw k ?_
      simp only [DataW.weights, ht, List.mem_cons, List.mem_append]
      rcases Nat.lt_or_ge i len with hlt | hge
      · exact .inr (.inl (weights_all (by simp; exact ⟨i, hlt, rfl⟩) k hk))
      · exact .inr (.inr (weights_all (by simp; exact ⟨i - len, by omega, by congr 1; omega⟩) k hk))
    have hbl : ∀ i, i < m → Rows.uptoBulk (D i) ≤ 1048576 := by
      intro i him
      rcases Nat.lt_or_ge i len with hlt | hge
      · refine Nat.le_trans (bulks.part_le (l := (List.range len).map D) (by simp; exact ⟨i, hlt, rfl⟩)) ?_
        simp only [Rows.uptoBulk] at hbk; omega
      · refine Nat.le_trans (bulks.part_le (l := (List.range (m - len)).map fun i => D (len + i)) (by simp; exact ⟨i - len, by omega, by congr 1; omega⟩)) ?_
        simp only [Rows.uptoBulk] at hbk; omega
    have hlen : len ≤ 1048576 := by
      have := bulks.length_le ((List.range len).map D)
      simp only [Rows.uptoBulk] at hbk
      rw [List.length_map, List.length_range] at this
      omega
    have hown : (len + (m - len)) * bytes ≤ reachBytes := by
      refine hw _ ?_
      simp only [DataW.weights, ht, List.length_map, List.length_range, hb]
      exact List.mem_cons_self
    obtain ⟨xs, hxl, hxs⟩ := list_of (Q := fun i x => ∃ b off cs', a = ⟨b, off, none⟩ ∧ b < w.heap.size ∧ RL (R0 w (Inn w)) (E x) cs' ∧ K x ∧ cs'.length = size ∧ ∀ j v, cs'[j]? = some v → w.cell? ⟨b, off + i * size + j, none⟩ = some v) len (by
      intro i hi'
      obtain ⟨cs', hc, ht'⟩ := hi i (by omega)
      obtain ⟨_, hcl, hat⟩ := World.cells?_some hc
      rw [hs] at hcl hat
      obtain ⟨x, hx, hk⟩ := he H enc w n cs' _ _ ht' (hwt i (by omega)) (hbl i (by omega))
      obtain ⟨b, off, spot⟩ := a
      obtain ⟨cs0, hc0, _⟩ := hi 0 (by omega)
      obtain ⟨_, hcl0, hat0⟩ := World.cells?_some hc0
      rw [hs] at hcl0 hat0
      have hz0 := hat0 0 h0
      rw [List.getElem?_eq_getElem (by omega)] at hz0
      have hspot := World.cell?_spot hz0
      have hspot' : spot = none := by simpa [Addr.add] using hspot
      subst hspot'
      have hcell : ∀ j v, cs'[j]? = some v → w.cell? ⟨b, off + i * size + j, none⟩ = some v := by
        intro j v hv
        have hj : j < size := by rw [← hcl]; exact (List.getElem?_eq_some_iff.1 hv).1
        have := hat j hj
        rw [hv] at this
        rw [← this]
        congr 1
        simp only [Addr.add]
        by_cases h1 : i * size = 0 <;> by_cases h2 : j = 0 <;> simp [h1, h2] <;> omega
      have hin := cell_in (hcell 0 _ (List.getElem?_eq_getElem (by omega)))
      exact ⟨x, b, off, cs', rfl, hin, hx, hk, hcl, hcell⟩)
    have hr : reachBytes = 140737488351232 := rfl
    have hlm : len ≤ len + (m - len) := by omega
    have h47 : len * bytes ≤ 140737488351232 := by
      have := Nat.mul_le_mul_right bytes hlm
      omega
    have hm' : m ≤ 9223372036854775807 := by have : m ≤ maxLen := hm; simpa [maxLen] using this
    refine ⟨xs, ⟨?_, trivial⟩, by rw [hxl]; exact hlen, fun x hx => ?_⟩
    · obtain ⟨b, off, spot⟩ := a
      have hval : ∀ (i : Nat), ∃ cs' : List Value, ∀ x, xs[i]? = some x → spot = none ∧ b < w.heap.size ∧ RL (R0 w (Inn w)) (E x) cs' ∧ ∀ j v, cs'[j]? = some v → w.cell? ⟨b, off + i * size + j, none⟩ = some v := by
        intro i
        cases hx : xs[i]? with
        | none => exact ⟨[], fun x h => by cases h⟩
        | some x =>
          obtain ⟨b', off', cs', e1, h1, h2, h3, h4, h5⟩ := hxs i x hx
          cases e1
          exact ⟨cs', fun y hy => by cases hy; exact ⟨rfl, h1, h2, h5⟩⟩
      let vals : Nat → Nat → Value := fun i j => ((Classical.choose (hval i))[j]?).getD .nilFunc
      have hv := fun i => Classical.choose_spec (hval i)
      have hne : xs.map E ≠ [] → spot = none ∧ b < w.heap.size := by
        intro hn
        cases xs with
        | nil => exact absurd rfl hn
        | cons x xs =>
          obtain ⟨q1, q2, _⟩ := hv 0 x rfl
          exact ⟨q1, q2⟩
      have key : ∀ (i j : Nat) (row : Row) (c : AV), (xs.map E)[i]? = some row → row[j]? = some c → w.cell? ⟨b, off + i * size + j, none⟩ = some (vals i j) ∧ R0 w (Inn w) c (vals i j) := by
        intro i j row c hi hj
        simp only [List.getElem?_map, Option.map_eq_some_iff] at hi
        obtain ⟨x, hx, rfl⟩ := hi
        obtain ⟨_, _, h2, h5⟩ := hv i x hx
        obtain ⟨v, hv1, hv2⟩ := h2.get hj
        have e : vals i j = v := by show ((Classical.choose (hval i))[j]?).getD .nilFunc = v; rw [hv1]; rfl
        rw [e]
        exact ⟨h5 j v hv1, hv2⟩
      have hlen : (xs.map E).length = len := by simp [hxl]
      have := R0.sl (w := w) (S := Inn w) (rows := xs.map E) (A := some ⟨b, off, spot⟩) (cap := m) (size := size) (b := b) (off := off) (vals := vals) (by rw [hlen]; omega) hm'
        (fun hn => by obtain ⟨q1, q2⟩ := hne hn; subst q1; exact ⟨rfl, q2⟩)
        (fun i row hi => by
          simp only [List.getElem?_map, Option.map_eq_some_iff] at hi
          obtain ⟨x, _, rfl⟩ := hi
          exact hE x)
        (fun i j row c hi hj => (key i j row c hi hj).1) (fun i j row c hi hj => (key i j row c hi hj).2)
      rw [hlen] at this
      exact this
    · obtain ⟨i, hi⟩ := List.getElem?_of_mem hx
      obtain ⟨_, _, _, _, _, _, hk, _⟩ := hxs i x hi
      exact hk


/-- A structure, field by field. -/
theorem opnU_fields {H : Type} {enc : TypeId × Value → H} {P : Program} {w : World} {fuel : Nat} {t : TypeId} {cs : List Value} {d : DataW H} {p : List MemPlace} {fs : Array Field}
    (ht : P.underlying t = some (.struct fs)) (h : DataW.trod enc P w 0 (fun _ => true) true fuel t cs = some (d, p)) (hw : ∀ n ∈ d.weights P t, n ≤ reachBytes) (hbk : Rows.uptoBulk d ≤ 1048576) :
    cs.length = P.cellsOf t ∧ ∀ (i : Nat) (f : Field), fs[i]? = some f → ∀ {α : Type} {E : α → List AV} {K : α → Prop}, OpnU P f.type E K → ∃ x, RL (R0 w (Inn w)) (E x) ((cs.drop f.offset).take (P.cellsOf f.type)) ∧ K x := by
  obtain ⟨xs, n, _, hx, hl, hxl, hf⟩ := DataW.trod_struct ht h
  simp only [Prod.mk.injEq] at hx
  obtain ⟨rfl, _⟩ := hx
  refine ⟨hl, fun i f hi α E K hR => ?_⟩
  have h1 := hf i f hi
  have hlt : i < xs.length := by rw [hxl]; exact (Array.getElem?_eq_some_iff.1 hi).1
  rw [List.getElem?_eq_getElem hlt] at h1
  refine hR H enc w n _ _ _ h1 (fun k hk => hw k ?_) ?_
  · simp only [DataW.weights, ht]
    refine weights_each (j := i) ?_ ?_ k hk
    · simp [hi]
    · simp [List.getElem?_eq_getElem hlt]
  · refine Nat.le_trans (bulks.part_le (l := xs.map (·.1)) (List.mem_map.2 ⟨xs[i], List.getElem_mem hlt, rfl⟩)) ?_
    simp only [Rows.uptoBulk] at hbk
    omega


/-- A library function on plain values that reads variables, and lays blocks. -/
theorem SpecP.below1 {P : Program} {G : Nat → Option GR} {f : FuncId} {x : Value} {r : AV} {rv : Value} (hr : ∀ w S, RV w S noKeys r rv)
    (h : okAtom x → ∀ w (S : Nat → Prop), (∀ g r, G g = some r → GlobAt w S g r) → Calls P f #[x] w fun e w' => e = .returned rv ∧ Below w.heap.size w w') : SpecP P G f [.v x] r [] := by
  intro w S cargs hlt hg hargs
  match cargs, hargs with
  | [u], ⟨h1, _⟩ =>
    obtain ⟨rfl, k1⟩ := rv_v h1
    refine (h k1 w S hg).mono ?_
    rintro e w' ⟨rfl, hb⟩
    exact ⟨rv, S, noKeys, rfl, hb, fun _ h => h, fun _ h => .inl h, fun b h => Nat.lt_of_lt_of_le (hlt b h) hb.size, (fun _ _ _ _ h => by cases h), (fun _ _ h => by cases h), (fun _ _ h => by cases h), (fun _ _ h => by cases h), hr _ _⟩
theorem SpecP.below2 {P : Program} {G : Nat → Option GR} {f : FuncId} {x y : Value} {r : AV} {rv : Value} (hr : ∀ w S, RV w S noKeys r rv)
    (h : okAtom x → okAtom y → ∀ w (S : Nat → Prop), (∀ g r, G g = some r → GlobAt w S g r) → Calls P f #[x, y] w fun e w' => e = .returned rv ∧ Below w.heap.size w w') : SpecP P G f [.v x, .v y] r [] := by
  intro w S cargs hlt hg hargs
  match cargs, hargs with
  | [u, v], ⟨h1, h2, _⟩ =>
    obtain ⟨rfl, k1⟩ := rv_v h1
    obtain ⟨rfl, k2⟩ := rv_v h2
    refine (h k1 k2 w S hg).mono ?_
    rintro e w' ⟨rfl, hb⟩
    exact ⟨rv, S, noKeys, rfl, hb, fun _ h => h, fun _ h => .inl h, fun b h => Nat.lt_of_lt_of_le (hlt b h) hb.size, (fun _ _ _ _ h => by cases h), (fun _ _ h => by cases h), (fun _ _ h => by cases h), (fun _ _ h => by cases h), hr _ _⟩

/-- What is listed of a variable, as a fact of its cells. -/
theorem var_cells {P : Program} {w : World} {n : String} {cs : Array Value} {g : Nat} (hn : P.globalNamed n = some g) (h : w.var? P n = some cs) : ∃ ty o, w.heap[g]? = some (.cells cs ty o) := by
  simp only [World.var?, hn, Option.bind_some] at h
  split at h
  · rename_i hh
    cases h
    exact ⟨_, _, hh⟩
  · cases h
theorem glob_mk {w : World} {g : Nat} {cs : Array Value} {ty : TypeId} {o : Nat × Nat} {c : Array Value → Prop} (h : w.heap[g]? = some (.cells cs ty o)) (hc : c cs) : GlobAt w (Inn w) g ⟨[], c⟩ :=
  ⟨(Array.getElem?_eq_some_iff.1 h).1, cs, ty, o, h, fun j a ha => by simp at ha, hc⟩

theorem GlobAt.cell {w : World} {S : Nat → Prop} {g : Nat} {r : GR} (h : GlobAt w S g r) : ∃ cs, r.cond cs ∧ ∀ j, w.cell? ⟨g, j, none⟩ = cs[j]? := by
  obtain ⟨cs, ty, o, h1, h2⟩ := h.cells
  exact ⟨cs, h2, fun j => by simp [World.cell?, h1]⟩

end Go.Proofs.YtgkjfochkhiojaaDoor.M
