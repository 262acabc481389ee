/- What is proved here: the contract of desk.levels for the machine, and what Watched and Peak of the program return on plain data (no statement of the seat). -/
import Derived.Test.YtnkaadiofjoacaaB91
import Derived.Test.YtnkaadiofjoacaaB80
namespace Go.Proofs.Ytnkaadiofjoacaa
open Go Go.RowKit
set_option linter.unusedVariables false
set_option linter.unusedSimpArgs false
set_option maxHeartbeats 1000000

namespace M

def encLvs1 (l : List Beat) (q : Int) : List AV := [.sl (l.map eBeat), vI q]

def encLvs (a : (List Beat) × Int) : List AV := encLvs1 a.1 a.2

theorem encLvs_inj (a a' : (List Beat) × Int) (h : encLvs a = encLvs a') : a = a' := by
  simp only [encLvs, encLvs1] at h
  try simp [strs_inj, ints_inj, bools_inj, eL_eIs_inj, eBeats_inj, eBeat_iff, eL_eBeats_inj, eSpans_inj, eSpan_iff, eHoles_inj, eHole_iff, eLevels_inj, eLevel_iff, eFigss_inj, eFigs_iff, eRatios_inj, eRatio_iff, eReps_inj, eRep_iff, eStays_inj, eStay_iff] at h
  grind

theorem unLvs (l : List Beat) (q : Int) : unenc encLvs ([AV.sl (List.map eBeat l), (vI q)]) = some (l, q) := unenc_of encLvs_inj (l, q) rfl

def resLvs1 (l : List Beat) (q : Int) : AV × Heap := (.sl ((F.levels q l).map eLevel), [])

def preLvs1 (l : List Beat) (q : Int) : Bool := decide (l.length ≤ 3000)

noncomputable def oLvs : Orc := orc 21 false encLvs (fun a => preLvs1 a.1 a.2) fun a => resLvs1 a.1 a.2

theorem lvCells_at : ∀ (L : List Level) (i j : Nat) (x : Level), L[i]? = some x → (lvCells L)[i * 2 + j]? = ([.int .i64 x.time, .int .i64 x.many] : List Value)[j]? ∨ 2 ≤ j
  | [], i, j, x, h => by simp at h
  | y :: r, 0, j, x, h => by
    simp at h; subst h
    by_cases hj : 2 ≤ j
    · exact .inr hj
    · refine .inl ?_
      match j, hj with
      | 0, _ => rfl
      | 1, _ => rfl
      | j + 2, hj => omega
  | y :: r, i + 1, j, x, h => by
    have h2 : r[i]? = some x := by simpa using h
    have e : (lvCells (y :: r))[(i + 1) * 2 + j]? = (lvCells r)[i * 2 + j]? := by
      rw [show (i + 1) * 2 + j = i * 2 + j + 2 by omega]
      rfl
    rw [e]
    exact lvCells_at r i j x h2

/-- A row of levels that the call made, as data. -/
theorem levels_r0 {w : World} {S : Nat → Prop} {base : Nat} {t : TypeId} {v : Value} {L : List Level} (h : w.ownsRow base t 2 v L.length (lvCells L)) (hS : ∀ g, base ≤ g → g < w.heap.size → S g)
    (hw : ∀ x ∈ L, okAtom (.int .i64 x.time) ∧ okAtom (.int .i64 x.many)) : R0 w S (.sl (L.map eLevel)) v := by
  obtain ⟨g, cap, A, rfl, hA, hcap, hcap2, hcell⟩ : ∃ g cap A, v = .slice A L.length cap ∧ (L ≠ [] → A = some ⟨g, 0, none⟩ ∧ base ≤ g ∧ g < w.heap.size) ∧ L.length ≤ cap ∧ cap ≤ 9223372036854775807 ∧
      ∀ (i j : Nat) (x : Level) (u : Value), L[i]? = some x → ([.int .i64 x.time, .int .i64 x.many] : List Value)[j]? = some u → w.cell? ⟨g, 0 + i * 2 + j, none⟩ = some u := by
    rcases h.2 with ⟨rfl, h0⟩ | ⟨g, cap, cur, rfl, hbase, hb, h1, h2, h3, h4⟩
    · obtain rfl : L = [] := List.eq_nil_of_length_eq_zero h0
      exact ⟨0, 0, none, rfl, fun h => absurd rfl h, Nat.le_refl _, by decide, fun i j x u hi => by simp at hi⟩
    · refine ⟨g, cap, _, rfl, fun _ => ⟨rfl, hbase, (Array.getElem?_eq_some_iff.1 hb).1⟩, h1, h2, fun i j x u hi hj => ?_⟩
      have hj2 := (List.getElem?_eq_some_iff.1 hj).1
      have hi2 := (List.getElem?_eq_some_iff.1 hi).1
      simp only [List.length_cons, List.length_nil] at hj2
      have e := (lvCells_at L i j x hi).resolve_right (by omega)
      rw [hj, ← h4, List.getElem?_take_of_lt (by omega)] at e
      unfold World.cell?
      simp only [hb, Nat.zero_add]
      simpa using e
  have hrow : ∀ (i : Nat) (row : Row), (L.map eLevel)[i]? = some row → ∃ x, L[i]? = some x ∧ row = eLevel x := fun i row hr => by
    rw [List.getElem?_map, Option.map_eq_some_iff] at hr
    obtain ⟨x, hx, rfl⟩ := hr
    exact ⟨x, hx, rfl⟩
  have e : (Value.slice A L.length cap) = .slice A (L.map eLevel).length cap := by rw [List.length_map]
  rw [e]
  refine .sl (size := 2) (b := g) (off := 0) (vals := fun i j => match L[i]? with | some x => (([.int .i64 x.time, .int .i64 x.many] : List Value)[j]?).getD undef | none => undef) (by rw [List.length_map]; exact hcap) hcap2
    (fun hne => ?_) (fun i row hr => ?_) (fun i j row a hr ha => ?_) (fun i j row a hr ha => ?_)
  · obtain ⟨h1, h2, h3⟩ := hA (fun e => hne (by rw [e]; rfl))
    exact ⟨h1, hS g h2 h3⟩
  · obtain ⟨x, hx, rfl⟩ := hrow i row hr
    rfl
  · obtain ⟨x, hx, rfl⟩ := hrow i row hr
    simp only [hx]
    match j, ha with
    | 0, ha => exact hcell i 0 x _ hx rfl
    | 1, ha => exact hcell i 1 x _ hx rfl
  · obtain ⟨x, hx, rfl⟩ := hrow i row hr
    simp only [hx]
    have hwx := hw x (List.mem_of_getElem? hx)
    match j, ha with
    | 0, ha => cases ha; exact .v hwx.1
    | 1, ha => cases ha; exact .v hwx.2

theorem okLvs : OrcOK Try.prog noG oLvs := by
  refine orc_ok ⟨Try.f21, by kernel_rfl, by kernel_rfl, by kernel_rfl⟩ (fun a hp hok => ?_) (fun h => by cases h)
  obtain ⟨l, q⟩ := a
  have hlen : l.length ≤ 3000 := of_decide_eq_true hp
  intro w S cargs hS hG hargs
  match cargs, hargs with
  | [vl, vq], ⟨h1, h2, _⟩ =>
    obtain ⟨rfl, hq⟩ := rv_v h2
    refine (levels_any (q := q) hlen hS h1 hq).mono ?_
    rintro e w' ⟨v, rfl, hb, hrow, hwf⟩
    have hsz := hb.size
    refine ⟨v, fun b => S b ∨ (w.heap.size ≤ b ∧ b < w'.heap.size), noKeys, rfl, hb, fun b h => .inl h, fun b h => h.imp (fun h => h) (fun h => h.1), fun b h => ?_, (fun k k' x x' h => by cases h), (fun k x h => by cases h), (fun k x h => by cases h), (fun k bl h => by cases h), ?_⟩
    · rcases h with h | h
      · exact Nat.lt_of_lt_of_le (hS b h) hsz
      · exact h.2
    · refine levels_r0 hrow (fun g h1 h2 => .inr ⟨h1, h2⟩) fun x hx => ⟨?_, ?_⟩
      · have := wf_bounds (hwf x hx)
        simp [okAtom, IntKind.min, IntKind.max, IntKind.signed, IntKind.bits]
        omega
      · obtain ⟨m, hm⟩ := (F.lvA_ok _ _ _ x hx).2
        rw [hm, IntKind.wrap_i64]
        simp [okAtom, IntKind.min, IntKind.max, IntKind.signed, IntKind.bits]
        omega

end M
end Go.Proofs.Ytnkaadiofjoacaa
