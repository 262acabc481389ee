/- What is proved here: an argument that can be read as data reads as plain data of the machine (no statement of the seat). -/
import Derived.Test.YtgkjfochkhiojaaDoorM6
import Derived.ProofKit
import Derived.Deep.Slices
import Derived.SizedLaws
import Derived.OpenShut
import Derived.ShutString
import Derived.ChangeOld
import Derived.JoinedTies
namespace Go.Proofs.YtgkjfochkhiojaaDoor.M
open Go.ChangeShapes Go.WideShapes Go.ChangeAt Go.RowKit Go.Deep
set_option linter.unusedVariables false
set_option linter.unusedSimpArgs false

/-- The blocks that are there. -/
def Inn (w : World) : Nat → Prop := fun b => b < w.heap.size

/-- Whatever reads as type t, within the reach, is data whose cells are E, and K. -/
def Opn {α : Type} (P : Program) (t : TypeId) (E : α → List AV) (K : α → Prop) : Prop :=
  ∀ (H : Type) (enc : TypeId × Value → H) (w : World) (fuel : Nat) (cs : List Value) (d : DataW H) (p : List MemPlace),
    DataW.trod enc P w 0 (fun _ => true) true fuel t cs = some (d, p) → (∀ n ∈ d.weights P t, n ≤ reachBytes) → ∃ x, RL (R0 w (Inn w)) (E x) cs ∧ K x

def cI (n : Int) : List AV := [.v (.int .i64 n)]
def cB (b : Bool) : List AV := [.v (.bool b)]
def cS (s : ByteArray) : List AV := [.v (.string s)]
def cSl {α : Type} (E : α → List AV) (xs : List α) : List AV := [.sl (xs.map E)]

theorem opn_int {P : Program} {t : TypeId} (ht : P.underlying t = some (.int .i64)) : Opn P t cI (fun _ => True) := by
  intro H enc w fuel cs d p h hw
  obtain ⟨n, rfl, _, hn⟩ := DataW.trod_int ht h
  refine ⟨n, ⟨.v ?_, trivial⟩, trivial⟩
  have := bounds_i64 hn
  simp only [okAtom, IntKind.min, IntKind.max, IntKind.signed, IntKind.bits]
  simp
  omega
theorem opn_bool {P : Program} {t : TypeId} (ht : P.underlying t = some .bool) : Opn P t cB (fun _ => True) := by
  intro H enc w fuel cs d p h hw
  obtain ⟨n, rfl, _⟩ := DataW.trod_bool ht h
  exact ⟨n, ⟨.v trivial, trivial⟩, trivial⟩
theorem opn_str {P : Program} {t : TypeId} (ht : P.underlying t = some .string) : Opn P t cS (fun _ => True) := by
  intro H enc w fuel cs d p h hw
  obtain ⟨n, rfl, _, hn⟩ := DataW.trod_string ht h
  exact ⟨n, ⟨.v hn, trivial⟩, trivial⟩

theorem weights_all {H : Type} {P : Program} {e : TypeId} {d : DataW H} : ∀ {l : List (DataW H)}, d ∈ l → ∀ n ∈ d.weights P e, n ∈ DataW.weightsAll P e l
  | x :: r, h, n, hn => by
    simp only [DataW.weightsAll, List.mem_append]
    rcases List.mem_cons.1 h with rfl | h
    · exact .inl hn
    · exact .inr (weights_all h n hn)

theorem list_of {α : Type} {Q : Nat → α → Prop} : ∀ (n : Nat), (∀ i, i < n → ∃ x, Q i x) → ∃ xs : List α, xs.length = n ∧ ∀ i x, xs[i]? = some x → Q i x
  | 0, _ => ⟨[], rfl, fun i x h => by simp at h⟩
  | n + 1, h => by
    obtain ⟨xs, hl, hx⟩ := list_of n fun i hi => h i (by omega)
    obtain ⟨y, hy⟩ := h n (by omega)
    refine ⟨xs ++ [y], by simp [hl], fun i x hi => ?_⟩
    rw [List.getElem?_append] at hi
    split at hi
    · exact hx i x hi
    · have hlt := (List.getElem?_eq_some_iff.1 hi).1
      have : i = n := by simp at hlt; omega
      subst this
      rw [hl] at hi
      simp at hi
      subst hi
      exact hy

/-- What a slice's length is bounded by. -/
def KS {α : Type} (bytes : Nat) (K : α → Prop) (xs : List α) : Prop := xs.length * bytes ≤ 140737488351232 ∧ ∀ x ∈ xs, K x

theorem cell_in {w : World} {b o : Nat} {v : Value} (h : w.cell? ⟨b, o, none⟩ = some v) : b < w.heap.size := by
  simp only [World.cell?] at h
  cases hb : w.heap[b]? with
  | none => rw [hb] at h; cases h
  | some x => exact (Array.getElem?_eq_some_iff.1 hb).1

theorem opn_slice {α : Type} {P : Program} {t e : TypeId} {size bytes : Nat} {E : α → List AV} {K : α → Prop} (ht : P.underlying t = some (.slice e)) (hs : P.cellsOf e = size) (hb : P.bytesOf e = bytes) (h0 : 0 < size) (hE : ∀ x, (E x).length = size)
    (he : Opn P e E K) : Opn P t (cSl E) (KS bytes K) := by
  intro H enc w fuel cs d p h hw
  rcases open_slice ht h with ⟨rfl, hx⟩ | ⟨a, len, cap, m, n, D, Pl, rfl, _, hl, hm, hmm, hx, hi⟩
  · refine ⟨[], ⟨?_, trivial⟩, by simp [KS], by simp⟩
    exact R0.sl (rows := []) (size := 0) (b := 0) (off := 0) (vals := fun _ _ => .nilFunc) (by simp) (by simp) (by simp) (by simp) (by simp) (by simp)
  · simp only [if_true] at hmm
    subst hmm
    simp only [Prod.mk.injEq] at hx
    obtain ⟨rfl, _⟩ := hx
    have hwt : ∀ i, i < m → ∀ k ∈ (D i).weights P e, k ≤ reachBytes := by
      intro i him k hk
      refine hw k ?_
      simp only [DataW.weights, ht, List.mem_cons, List.mem_append]
      rcases Nat.lt_or_ge i len with hlt | hge
      · exact .inr (.inl (weights_all (by simp; exact ⟨i, hlt, rfl⟩) k hk))
      · exact .inr (.inr (weights_all (by simp; exact ⟨i - len, by omega, by congr 1; omega⟩) k hk))
    have hown : (len + (m - len)) * bytes ≤ reachBytes := by
      refine hw _ ?_
      simp only [DataW.weights, ht, List.length_map, List.length_range, hb]
      exact List.mem_cons_self
    obtain ⟨xs, hxl, hxs⟩ := list_of (Q := fun i x => ∃ b off cs', a = ⟨b, off, none⟩ ∧ b < w.heap.size ∧ RL (R0 w (Inn w)) (E x) cs' ∧ K x ∧ cs'.length = size ∧ ∀ j v, cs'[j]? = some v → w.cell? ⟨b, off + i * size + j, none⟩ = some v) len (by
      intro i hi'
      obtain ⟨cs', hc, ht'⟩ := hi i (by omega)
      obtain ⟨_, hcl, hat⟩ := World.cells?_some hc
      rw [hs] at hcl hat
      obtain ⟨x, hx, hk⟩ := he H enc w n cs' _ _ ht' (hwt i (by omega))
      obtain ⟨b, off, spot⟩ := a
      obtain ⟨cs0, hc0, _⟩ := hi 0 (by omega)
      obtain ⟨_, hcl0, hat0⟩ := World.cells?_some hc0
      rw [hs] at hcl0 hat0
      have hz0 := hat0 0 h0
      rw [List.getElem?_eq_getElem (by omega)] at hz0
      have hspot := World.cell?_spot hz0
      have hspot' : spot = none := by simpa [Addr.add] using hspot
      subst hspot'
      have hcell : ∀ j v, cs'[j]? = some v → w.cell? ⟨b, off + i * size + j, none⟩ = some v := by
        intro j v hv
        have hj : j < size := by rw [← hcl]; exact (List.getElem?_eq_some_iff.1 hv).1
        have := hat j hj
        rw [hv] at this
        rw [← this]
        congr 1
        simp only [Addr.add]
        by_cases h1 : i * size = 0 <;> by_cases h2 : j = 0 <;> simp [h1, h2] <;> omega
      have hin := cell_in (hcell 0 _ (List.getElem?_eq_getElem (by omega)))
      exact ⟨x, b, off, cs', rfl, hin, hx, hk, hcl, hcell⟩)
    have hr : reachBytes = 140737488351232 := rfl
    have hlm : len ≤ len + (m - len) := by omega
    have h47 : len * bytes ≤ 140737488351232 := by
      have := Nat.mul_le_mul_right bytes hlm
      omega
    have hm' : m ≤ 9223372036854775807 := by have : m ≤ maxLen := hm; simpa [maxLen] using this
    refine ⟨xs, ⟨?_, trivial⟩, by rw [hxl]; exact h47, fun x hx => ?_⟩
    · obtain ⟨b, off, spot⟩ := a
      have hval : ∀ (i : Nat), ∃ cs' : List Value, ∀ x, xs[i]? = some x → spot = none ∧ b < w.heap.size ∧ RL (R0 w (Inn w)) (E x) cs' ∧ ∀ j v, cs'[j]? = some v → w.cell? ⟨b, off + i * size + j, none⟩ = some v := by
        intro i
        cases hx : xs[i]? with
        | none => exact ⟨[], fun x h => by cases h⟩
        | some x =>
          obtain ⟨b', off', cs', e1, h1, h2, h3, h4, h5⟩ := hxs i x hx
          cases e1
          exact ⟨cs', fun y hy => by cases hy; exact ⟨rfl, h1, h2, h5⟩⟩
      let vals : Nat → Nat → Value := fun i j => ((Classical.choose (hval i))[j]?).getD .nilFunc
      have hv := fun i => Classical.choose_spec (hval i)
      have hne : xs.map E ≠ [] → spot = none ∧ b < w.heap.size := by
        intro hn
        cases xs with
        | nil => exact absurd rfl hn
        | cons x xs =>
          obtain ⟨q1, q2, _⟩ := hv 0 x rfl
          exact ⟨q1, q2⟩
      have key : ∀ (i j : Nat) (row : Row) (c : AV), (xs.map E)[i]? = some row → row[j]? = some c → w.cell? ⟨b, off + i * size + j, none⟩ = some (vals i j) ∧ R0 w (Inn w) c (vals i j) := by
        intro i j row c hi hj
        simp only [List.getElem?_map, Option.map_eq_some_iff] at hi
        obtain ⟨x, hx, rfl⟩ := hi
        obtain ⟨_, _, h2, h5⟩ := hv i x hx
        obtain ⟨v, hv1, hv2⟩ := h2.get hj
        have e : vals i j = v := by show ((Classical.choose (hval i))[j]?).getD .nilFunc = v; rw [hv1]; rfl
        rw [e]
        exact ⟨h5 j v hv1, hv2⟩
      have hlen : (xs.map E).length = len := by simp [hxl]
      have := R0.sl (w := w) (S := Inn w) (rows := xs.map E) (A := some ⟨b, off, spot⟩) (cap := m) (size := size) (b := b) (off := off) (vals := vals) (by rw [hlen]; omega) hm'
        (fun hn => by obtain ⟨q1, q2⟩ := hne hn; subst q1; exact ⟨rfl, q2⟩)
        (fun i row hi => by
          simp only [List.getElem?_map, Option.map_eq_some_iff] at hi
          obtain ⟨x, _, rfl⟩ := hi
          exact hE x)
        (fun i j row c hi hj => (key i j row c hi hj).1) (fun i j row c hi hj => (key i j row c hi hj).2)
      rw [hlen] at this
      exact this
    · obtain ⟨i, hi⟩ := List.getElem?_of_mem hx
      obtain ⟨_, _, _, _, _, _, hk, _⟩ := hxs i x hi
      exact hk

theorem weights_each {H : Type} {P : Program} : ∀ {ts : List TypeId} {ds : List (DataW H)} {j : Nat} {t : TypeId} {d : DataW H}, ts[j]? = some t → ds[j]? = some d → ∀ n ∈ d.weights P t, n ∈ DataW.weightsEach P ts ds :=
  DataW.weights_mem_each

/-- A structure, field by field. -/
theorem opn_fields {H : Type} {enc : TypeId × Value → H} {P : Program} {w : World} {fuel : Nat} {t : TypeId} {cs : List Value} {d : DataW H} {p : List MemPlace} {fs : Array Field}
    (ht : P.underlying t = some (.struct fs)) (h : DataW.trod enc P w 0 (fun _ => true) true fuel t cs = some (d, p)) (hw : ∀ n ∈ d.weights P t, n ≤ reachBytes) :
    cs.length = P.cellsOf t ∧ ∀ (i : Nat) (f : Field), fs[i]? = some f → ∀ {α : Type} {E : α → List AV} {K : α → Prop}, Opn P f.type E K → ∃ x, RL (R0 w (Inn w)) (E x) ((cs.drop f.offset).take (P.cellsOf f.type)) ∧ K x := by
  obtain ⟨xs, n, _, hx, hl, hxl, hf⟩ := DataW.trod_struct ht h
  simp only [Prod.mk.injEq] at hx
  obtain ⟨rfl, _⟩ := hx
  refine ⟨hl, fun i f hi α E K hR => ?_⟩
  have h1 := hf i f hi
  have hlt : i < xs.length := by rw [hxl]; exact (Array.getElem?_eq_some_iff.1 hi).1
  rw [List.getElem?_eq_getElem hlt] at h1
  refine hR H enc w n _ _ _ h1 fun k hk => hw k ?_
  simp only [DataW.weights, ht]
  refine weights_each (j := i) ?_ ?_ k hk
  · simp [hi]
  · simp [List.getElem?_eq_getElem hlt]

/-- The law's contract at its arguments. -/
theorem orc_at {α : Type} {P : Program} {G : Nat → Option GR} {f : FuncId} {flat : Bool} {enc : α → List AV} {pre : α → Bool} {res : α → AV × Heap} (h : OrcOK P G (orc f flat enc pre res)) (hi : ∀ a a', enc a = enc a' → a = a') (a : α) (hp : pre a = true) :
    SpecP P G f (enc a) (res a).1 (res a).2 := by
  refine h.spec (enc a) _ _ ?_
  simp only [orc, unenc_of hi a rfl, T.val, hp]
/-- What a law of the machine says of a call. -/
theorem law_calls {P : Program} {G : Nat → Option GR} {f : FuncId} {args : List AV} {W : World} (h : SpecP P G f args (.v (.bool true)) []) (hG : ∀ g r, G g = some r → GlobAt W (Inn W) g r) {cargs : List Value} (hargs : RL (RV W (Inn W) noKeys) args cargs) :
    Calls P f cargs.toArray W fun e W1 => e = .returned (.bool true) ∧ Below W.heap.size W W1 := by
  refine (h W (Inn W) cargs (fun _ h => h) hG hargs).mono ?_
  rintro e W1 ⟨v, S', β', rfl, hb, _, _, _, _, _, _, _, hr⟩
  rw [(rv_v hr).1]
  exact ⟨rfl, hb⟩
/-- Library functions on plain values. -/
theorem SpecP.pure1 {P : Program} {G : Nat → Option GR} {f : FuncId} {x r : Value} (hr : okAtom r) (h : okAtom x → ∀ w, Calls P f #[x] w fun e w' => e = .returned r ∧ w' = w) : SpecP P G f [.v x] (.v r) [] := by
  intro w S cargs hlt hg hargs
  match cargs, hargs with
  | [u], ⟨h1, _⟩ =>
    obtain ⟨rfl, k1⟩ := rv_v h1
    refine (h k1 w).mono ?_
    rintro e w' ⟨rfl, rfl⟩
    exact ⟨r, S, noKeys, rfl, Below.refl _ _, fun _ h => h, fun _ h => .inl h, hlt, (fun _ _ _ _ h => by cases h), (fun _ _ h => by cases h), (fun _ _ h => by cases h), (fun _ _ h => by cases h), rv_mk hr⟩
theorem SpecP.pure2 {P : Program} {G : Nat → Option GR} {f : FuncId} {x y r : Value} (hr : okAtom r) (h : okAtom x → okAtom y → ∀ w, Calls P f #[x, y] w fun e w' => e = .returned r ∧ w' = w) : SpecP P G f [.v x, .v y] (.v r) [] := by
  intro w S cargs hlt hg hargs
  match cargs, hargs with
  | [u, v], ⟨h1, h2, _⟩ =>
    obtain ⟨rfl, k1⟩ := rv_v h1
    obtain ⟨rfl, k2⟩ := rv_v h2
    refine (h k1 k2 w).mono ?_
    rintro e w' ⟨rfl, rfl⟩
    exact ⟨r, S, noKeys, rfl, Below.refl _ _, fun _ h => h, fun _ h => .inl h, hlt, (fun _ _ _ _ h => by cases h), (fun _ _ h => by cases h), (fun _ _ h => by cases h), (fun _ _ h => by cases h), rv_mk hr⟩
theorem rv_agg_of {w : World} {S : Nat → Prop} {cs : List AV} {vs : Array Value} (h : RL (R0 w S) cs vs.toList) : RV w S noKeys (.agg cs) (.agg vs) := ⟨vs.toList, by simp, h.imp fun _ _ _ h => h.rc⟩
theorem rv_sl_of {w : World} {S : Nat → Prop} {rows : List Row} {v : Value} (h : RL (R0 w S) [.sl rows] [v]) : RV w S noKeys (.sl rows) v := h.1
theorem rv_int_of {w : World} {S : Nat → Prop} {n : Int} (h : (Lit.int .i64 n).wf = true) : RV w S noKeys (.v (.int .i64 n)) (.int .i64 n) := by
  refine rv_mk ?_
  have := bounds_i64 h
  simp only [okAtom, IntKind.min, IntKind.max, IntKind.signed, IntKind.bits]
  simp
  omega
theorem rv_str_of {w : World} {S : Nat → Prop} {s : ByteArray} (h : s.size ≤ 9223372036854775807) : RV w S noKeys (.v (.string s)) (.string s) := rv_mk h
theorem rv_bool_of {w : World} {S : Nat → Prop} {b : Bool} : RV w S noKeys (.v (.bool b)) (.bool b) := rv_mk trivial

end Go.Proofs.YtgkjfochkhiojaaDoor.M
