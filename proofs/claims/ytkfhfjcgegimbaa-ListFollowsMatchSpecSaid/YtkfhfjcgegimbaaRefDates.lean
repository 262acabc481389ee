/- What is proved here: what dates of the reference returns (chapter 6). -/
import Derived.Test.YtkfhfjcgegimbaaDates
namespace Go.Proofs.Ytkfhfjcgegimbaa
open Go.RowKit
set_option linter.unusedVariables false

theorem info_bool : (Try.prog.info? 4).map (fun i => (i.zero, i.size, i.bytes)) = some (some (.bool false), 1, 1) := by kernel_rfl

/-- Known forwards: not much above the last date. -/
theorem fwdO_top : ∀ (es : List Ent) (p : Option Int) (pm t : Int), (∀ x, p = some x → x + pm ≤ t) → 253402300799999 ≤ t → (∀ e ∈ es, (1 ≤ e.milli ∧ e.milli ≤ 3600000) ∧ e.date ≤ 253402300799999) → ∀ (k : Nat) (x : Int), (fwdO p pm es)[k]? = some (some x) → x ≤ t + 3600000 * k
  | [], _, _, _, _, _, _, k, x, h => by simp [fwdO] at h
  | e :: r, p, pm, t, hp, ht, hg, k, x, h => by
    have hs : ∀ x, stepF p pm e = some x → x ≤ t := by
      intro y hy
      unfold stepF at hy
      split at hy
      · injection hy; have := (hg e (by simp)).2; omega
      · split at hy
        · rcases p with _ | q
          · simp at hy
          · simp at hy; have := hp q rfl; omega
        · cases hy
    rcases k with _ | k
    · simp [fwdO] at h; have := hs x h; omega
    · have := fwdO_top r (stepF p pm e) e.milli (t + 3600000) (fun y hy => by have := hs y hy; have := (hg e (by simp)).1; omega) (by omega) (fun y hy => hg y (by simp [hy])) k x (by simpa [fwdO] using h)
      omega
theorem forO_top {es : List Ent} (hg : GoodD es) {k : Nat} {x : Int} (h : (forO es)[k]? = some (some x)) : x ≤ 253402300799999 + 3600000 * k :=
  fwdO_top es none 0 _ (by simp) (by omega) (fun e he => ⟨hg.1.2 e he, (hg.2 e he).2⟩) k x h
/-- Backwards: not much below 0. -/
theorem datO_low {es : List Ent} (hg : GoodD es) : ∀ (i k : Nat) (x : Int), es.length = k + 1 + i → (datO es)[k]? = some (some x) → -3600000 * (i : Int) ≤ x ∧ x ≤ 253402300799999 + 3600000 * 1000
  | 0, k, x, hk, h => by
    have hlt : k < es.length := by omega
    obtain ⟨f, hf⟩ := forO_at hlt
    have hke : k = es.length - 1 := by omega
    rw [hke] at hf h
    have := datO_last (by omega) hf
    rw [this] at h
    injection h with h
    subst h
    have h1 := forO_pos hg.1 hf
    have h2 := forO_top hg hf
    have h3 := hg.1.1
    omega
  | i + 1, k, x, hk, h => by
    have hlt : k < es.length := by omega
    have hlt1 : k + 1 < es.length := by omega
    obtain ⟨f, hf⟩ := forO_at hlt
    rcases f with _ | f
    · obtain ⟨y, hy⟩ : ∃ y, (datO es)[k + 1]? = some y := ⟨_, List.getElem?_eq_getElem (by rw [datO_len]; exact hlt1)⟩
      rw [datO_none hlt1 hf hy] at h
      split at h
      · rcases y with _ | y
        · simp at h
        · have := datO_low hg i (k + 1) y (by omega) hy
          have hm := hg.1.at hlt
          simp at h
          omega
      · simp at h
    · rw [datO_some hf] at h
      injection h with h
      injection h with h
      subst h
      have h1 := forO_pos hg.1 hf
      have h2 := forO_top hg hf
      have h3 := hg.1.1
      omega

/-- The state of the reference's loops. -/
def FwdR (es : List Ent) (xs : List Int) (ks : List Bool) (k : Nat) : Prop :=
  xs.length = k ∧ ks.length = es.length ∧ (∀ (j : Nat) (d : Option Int), j < k → (forO es)[j]? = some d → xs[j]? = some (gd d) ∧ ks[j]? = some d.isSome) ∧ ∀ j, k ≤ j → j < es.length → ks[j]? = some false
theorem FwdR.step {es : List Ent} {xs : List Int} {ks : List Bool} {k : Nat} {d : Option Int} {ks' : List Bool} {v : Int} (h : FwdR es xs ks k) (hk : k < es.length) (hd : (forO es)[k]? = some d) (hv : v = gd d)
    (hl : ks'.length = ks.length) (hj : ∀ j, j ≠ k → ks'[j]? = ks[j]?) (hs : ks'[k]? = some d.isSome) : FwdR es (xs ++ [v]) ks' (k + 1) := by
  subst hv
  refine ⟨by simp [h.1], hl.trans h.2.1, fun j d' hj' hd' => ?_, fun j hj1 hj2 => by rw [hj j (by omega)]; exact h.2.2.2 j (by omega) hj2⟩
  rcases Nat.lt_or_ge j k with hlt | hge
  · rw [List.getElem?_append_left (by rw [h.1]; exact hlt), hj j (by omega)]
    exact h.2.2.1 j d' hlt hd'
  · have : j = k := by omega
    subst this
    rw [hd] at hd'
    injection hd' with hd'
    subst hd'
    refine ⟨?_, hs⟩
    rw [List.getElem?_append_right (by rw [h.1]; exact Nat.le_refl _), h.1]
    simp
def BwdR (es : List Ent) (xs : List Int) (ks : List Bool) (z : Int) : Prop :=
  xs.length = es.length ∧ ks.length = es.length ∧ (∀ (j : Nat) (d : Option Int), z < j → (datO es)[j]? = some d → xs[j]? = some (gd d) ∧ ks[j]? = some d.isSome) ∧ (∀ (j : Nat) (d : Option Int), (j : Int) ≤ z → (forO es)[j]? = some d → xs[j]? = some (gd d) ∧ ks[j]? = some d.isSome)
theorem BwdR.start {es : List Ent} {xs : List Int} {ks : List Bool} (h : FwdR es xs ks es.length) : BwdR es xs ks ((es.length : Int) - 2) := by
  refine ⟨h.1, h.2.1, fun j d hj hd => ?_, fun j d hj hd => h.2.2.1 j d (by omega) hd⟩
  have hlt : j < es.length := by rw [← datO_len es]; exact (List.getElem?_eq_some_iff.1 hd).1
  obtain ⟨f, hf⟩ := forO_at hlt
  have hje : j = es.length - 1 := by omega
  subst hje
  have hd2 := datO_last (by omega) hf
  rw [hd2] at hd
  injection hd with hd
  subst hd
  exact h.2.2.1 _ f hlt hf
theorem BwdR.step {es : List Ent} {xs : List Int} {ks : List Bool} {k : Nat} {d : Option Int} (h : BwdR es xs ks k) (hk : k < es.length) (hd : (datO es)[k]? = some d) (hx : xs[k]? = some (gd d) ∧ ks[k]? = some d.isSome) : BwdR es xs ks ((k : Int) - 1) := by
  refine ⟨h.1, h.2.1, fun j d' hj hd' => ?_, fun j d' hj hd' => h.2.2.2 j d' (by omega) hd'⟩
  rcases Nat.lt_or_ge k j with hlt | hge
  · exact h.2.2.1 j d' (by omega) hd'
  · have : j = k := by omega
    subst this
    rw [hd] at hd'
    injection hd' with hd'
    subst hd'
    exact hx
theorem BwdR.stepSet {es : List Ent} {xs : List Int} {ks : List Bool} {k : Nat} {v : Int} (h : BwdR es xs ks k) (hk : k < es.length) (hd : (datO es)[k]? = some (some v)) : BwdR es (xs.set k v) (ks.set k true) ((k : Int) - 1) := by
  refine ⟨by simp [h.1], by simp [h.2.1], fun j d' hj hd' => ?_, fun j d' hj hd' => ?_⟩
  · rcases Nat.lt_or_ge k j with hlt | hge
    · rw [List.getElem?_set_ne (by omega), List.getElem?_set_ne (by omega)]
      exact h.2.2.1 j d' (by omega) hd'
    · have : j = k := by omega
      subst this
      rw [hd] at hd'
      injection hd' with hd'
      subst hd'
      exact ⟨by rw [List.getElem?_set_self (by rw [h.1]; exact hk)]; rfl, by rw [List.getElem?_set_self (by rw [h.2.1]; exact hk)]; rfl⟩
  · rw [List.getElem?_set_ne (by omega), List.getElem?_set_ne (by omega)]
    exact h.2.2.2 j d' (by omega) hd'
end Go.Proofs.Ytkfhfjcgegimbaa
