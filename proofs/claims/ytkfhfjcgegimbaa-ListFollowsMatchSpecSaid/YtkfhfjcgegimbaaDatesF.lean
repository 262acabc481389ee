/- What is proved here: the plain meaning of the dates of a list's entries (chapter 6), with no program in sight. -/
import Derived.Test.YtkfhfjcgegimbaaList3
namespace Go.Proofs.Ytkfhfjcgegimbaa
set_option linter.unusedVariables false

def stepF (p : Option Int) (pm : Int) (e : Ent) : Option Int := if 0 ≤ e.date then some e.date else if e.brk = false then p.map (· + pm) else none
def fwdO (p : Option Int) (pm : Int) : List Ent → List (Option Int)
  | [] => []
  | e :: r => stepF p pm e :: fwdO (stepF p pm e) e.milli r
/-- The date of an entry backwards: it has d, the entries behind it are r, whose dates are rest. -/
def stepB (e : Ent) (d : Option Int) (r : List Ent) (rest : List (Option Int)) : Option Int :=
  match d with
  | some x => some x
  | none => match r, rest with
    | e2 :: _, some y :: _ => if e2.brk = false then some (y - e.milli) else none
    | _, _ => none
def bwdO : List Ent → List (Option Int) → List (Option Int)
  | e :: r, d :: ds => stepB e d r (bwdO r ds) :: bwdO r ds
  | _, _ => []
def forO (es : List Ent) : List (Option Int) := fwdO none 0 es
def datO (es : List Ent) : List (Option Int) := bwdO es (forO es)
def okD : Option Int → Bool
  | none => true
  | some x => decide (0 ≤ x) && decide (x ≤ 253402300799999)
def gd (d : Option Int) : Int := d.getD (-1)
def datesF (es : List Ent) : List Int × Int := if (datO es).all okD = true then ((datO es).map gd, 0) else ([], 1)

theorem fwdO_len : ∀ (es : List Ent) (p : Option Int) (pm : Int), (fwdO p pm es).length = es.length
  | [], _, _ => rfl
  | e :: r, p, pm => by simp [fwdO, fwdO_len r]
theorem forO_len (es : List Ent) : (forO es).length = es.length := fwdO_len es _ _
theorem bwdO_len : ∀ (es : List Ent) (ds : List (Option Int)), ds.length = es.length → (bwdO es ds).length = es.length
  | [], ds, h => by cases ds <;> simp_all [bwdO]
  | e :: r, [], h => by simp at h
  | e :: r, d :: ds, h => by simp [bwdO, bwdO_len r ds (by simpa using h)]
theorem datO_len (es : List Ent) : (datO es).length = es.length := bwdO_len _ _ (forO_len es)

theorem fwdO_zero (e : Ent) (r : List Ent) (p : Option Int) (pm : Int) : (fwdO p pm (e :: r))[0]? = some (stepF p pm e) := rfl
theorem fwdO_next : ∀ (es : List Ent) (p : Option Int) (pm : Int) (k : Nat) (h : k + 1 < es.length) (d : Option Int), (fwdO p pm es)[k]? = some d → (fwdO p pm es)[k + 1]? = some (stepF d (es[k]'(by omega)).milli (es[k + 1]'h))
  | [], _, _, _, h, _, _ => by simp at h
  | [e], _, _, _, h, _, _ => by simp at h
  | e :: e2 :: r, p, pm, 0, h, d, hd => by simp [fwdO] at hd ⊢; rw [← hd]
  | e :: e2 :: r, p, pm, k + 1, h, d, hd => by
    have := fwdO_next (e2 :: r) (stepF p pm e) e.milli k (by simpa using h) d (by simpa [fwdO] using hd)
    simpa [fwdO] using this
theorem forO_0 {es : List Ent} (h : 0 < es.length) : (forO es)[0]? = some (stepF none 0 es[0]) := by
  rcases es with _ | ⟨e, r⟩
  · simp at h
  · rfl
theorem forO_at {es : List Ent} {k : Nat} (h : k < es.length) : ∃ d, (forO es)[k]? = some d := ⟨_, List.getElem?_eq_getElem (by rw [forO_len]; exact h)⟩
theorem forO_next {es : List Ent} {k : Nat} {d : Option Int} (h : k + 1 < es.length) (hd : (forO es)[k]? = some d) : (forO es)[k + 1]? = some (stepF d (es[k]'(by omega)).milli es[k + 1]) := fwdO_next es none 0 k h d hd
/-- Known forwards: not below 0. -/
theorem fwdO_pos : ∀ (es : List Ent) (p : Option Int) (pm : Int), (∀ x, p = some x → 0 ≤ x) → 0 ≤ pm → (∀ e ∈ es, 1 ≤ e.milli ∧ e.milli ≤ 3600000) → ∀ x, some x ∈ fwdO p pm es → 0 ≤ x
  | [], _, _, _, _, _, x, h => by simp [fwdO] at h
  | e :: r, p, pm, hp, hpm, hg, x, h => by
    have hs : ∀ x, stepF p pm e = some x → 0 ≤ x := by
      intro y hy
      unfold stepF at hy
      split at hy
      · injection hy; omega
      · split at hy
        · rcases p with _ | q
          · simp at hy
          · simp at hy; have := hp q rfl; omega
        · cases hy
    simp only [fwdO, List.mem_cons] at h
    rcases h with h | h
    · exact hs x h.symm
    · exact fwdO_pos r _ _ hs (by have := hg e (by simp); omega) (fun y hy => hg y (by simp [hy])) x h
theorem forO_pos {es : List Ent} (hg : Good es) {k : Nat} {x : Int} (h : (forO es)[k]? = some (some x)) : 0 ≤ x :=
  fwdO_pos es none 0 (by simp) (by omega) hg.2 x (List.mem_of_getElem? h)

theorem bwdO_at : ∀ (es : List Ent) (ds : List (Option Int)) (k : Nat) (hk : k < es.length) (d : Option Int), ds.length = es.length → ds[k]? = some d → (bwdO es ds)[k]? = some (stepB (es[k]'hk) d (es.drop (k + 1)) ((bwdO es ds).drop (k + 1)))
  | [], _, _, h, _, _, _ => by simp at h
  | e :: r, [], _, _, _, h, _ => by simp at h
  | e :: r, x :: ds, 0, _, d, _, hd => by simp at hd; subst hd; simp [bwdO]
  | e :: r, x :: ds, k + 1, hk, d, hl, hd => by
    have := bwdO_at r ds k (by simpa using hk) d (by simpa using hl) (by simpa using hd)
    simpa [bwdO] using this
theorem datO_at {es : List Ent} {k : Nat} {d : Option Int} (hk : k < es.length) (hd : (forO es)[k]? = some d) : (datO es)[k]? = some (stepB es[k] d (es.drop (k + 1)) ((datO es).drop (k + 1))) :=
  bwdO_at es (forO es) k hk d (forO_len es) hd
theorem datO_some {es : List Ent} {k : Nat} {x : Int} (h : (forO es)[k]? = some (some x)) : (datO es)[k]? = some (some x) := by
  have hk : k < es.length := by rw [← forO_len es]; exact (List.getElem?_eq_some_iff.1 h).1
  rw [datO_at hk h]; rfl
theorem datO_none {es : List Ent} {k : Nat} (hk : k + 1 < es.length) (h : (forO es)[k]? = some none) {y : Option Int} (hy : (datO es)[k + 1]? = some y) :
    (datO es)[k]? = some (if es[k + 1].brk = false then y.map (· - (es[k]'(by omega)).milli) else none) := by
  rw [datO_at (by omega) h]
  have h2 : k + 1 < (datO es).length := by rw [datO_len]; exact hk
  have hyy : (datO es)[k + 1] = y := by rw [List.getElem?_eq_getElem h2] at hy; injection hy
  unfold stepB
  rw [List.drop_eq_getElem_cons hk, List.drop_eq_getElem_cons h2, hyy]
  cases y with
  | none => simp
  | some y => simp
theorem datO_last {es : List Ent} {d : Option Int} (hk : 0 < es.length) (h : (forO es)[es.length - 1]? = some d) : (datO es)[es.length - 1]? = some d := by
  rw [datO_at (by omega) h]
  unfold stepB
  rw [List.drop_eq_nil_of_le (by omega)]
  cases d <;> rfl
theorem datesF_bad {es : List Ent} {k : Nat} {d : Option Int} (h : (datO es)[k]? = some d) (hb : okD d = false) : datesF es = ([], 1) := by
  unfold datesF
  rw [if_neg]
  intro ha
  have := List.all_eq_true.1 ha d (List.mem_of_getElem? h)
  rw [this] at hb; cases hb
theorem datesF_ok {es : List Ent} (h : ∀ (k : Nat) (d : Option Int), (datO es)[k]? = some d → okD d = true) : datesF es = ((datO es).map gd, 0) := by
  unfold datesF
  rw [if_pos]
  exact List.all_eq_true.2 fun d hd => by
    obtain ⟨k, hk⟩ := List.getElem?_of_mem hd
    exact h k d hk
end Go.Proofs.Ytkfhfjcgegimbaa
