/- What is proved here: the contract of costs of the reference for the machine (no statement of the seat). -/
import Derived.Test.YtlnflhmepnbcmaaDoorC102
namespace Go.Proofs.YtlnflhmepnbcmaaDoor
open Go Go.RowKit
set_option linter.unusedVariables false
set_option linter.unusedSimpArgs false
set_option maxHeartbeats 1000000

namespace F

def i64 (x : Int) : Prop := -9223372036854775808 ≤ x ∧ x ≤ 9223372036854775807

theorem cj_ok (x z : Nat → Int) : ∀ (f j : Nat) (a : Int), i64 a → i64 (cj x z f j a)
  | 0, _, a, h => h
  | f + 1, j, a, h => by
    rw [cj]
    cases x j == far
    · refine cj_ok x z f (j + 1) _ ?_
      have hw := IntKind.wrap_i64 (x j + z j)
      unfold i64 at h ⊢
      omega
    · exact h

theorem cz_ok (ws : List ByteArray) (w : Int) (k i : Nat) : i64 (cz ws w k i) := by
  cases k with
  | zero =>
    rw [cz]
    cases i == ws.length
    · unfold i64; simp only [cond_false, far]; omega
    · unfold i64; simp only [cond_true]; omega
  | succ k =>
    rw [cz]
    exact cj_ok _ _ _ _ _ (by unfold i64 far; omega)

/-- The matrix. -/
def costR (ws : List ByteArray) (w : Int) (R i : Nat) : List Int := (List.range (R + 1)).map fun k => cz ws w k i

def costM (ws : List ByteArray) (w : Int) (R : Nat) : List (List Int) := (List.range (ws.length + 1)).map (costR ws w R)

theorem costM_at {ws : List ByteArray} {w : Int} {R i : Nat} (h : i ≤ ws.length) : (costM ws w R)[i]? = some (costR ws w R i) := by
  unfold costM
  rw [List.getElem?_map, List.getElem?_range (by omega)]; rfl

theorem costR_at {ws : List ByteArray} {w : Int} {R i k : Nat} (h : k ≤ R) : (costR ws w R i)[k]? = some (cz ws w k i) := by
  unfold costR
  rw [List.getElem?_map, List.getElem?_range (by omega)]; rfl

end F

namespace M

def encCst1 (ws : List ByteArray) (wd : Int) (R : Nat) : List AV := [.sl (ws.map eStr), vI wd, vI R]

def encCst (a : (List ByteArray) × Int × Nat) : List AV := encCst1 a.1 a.2.1 a.2.2

theorem encCst_inj (a a' : (List ByteArray) × Int × Nat) (h : encCst a = encCst a') : a = a' := by
  simp only [encCst, encCst1] at h
  try simp [strs_inj, ints_inj, bools_inj, eL_eIs_inj, eCaps_inj, eCap_iff, eL_eCaps_inj, eMchs_inj, eMch_iff, eWrds_inj, eWrd_iff, eFnds_inj, eFnd_iff, eRatios_inj, eRatio_iff, eWays_inj, eWay_iff] at h
  grind

theorem unCst (ws : List ByteArray) (wd : Int) (R : Nat) : unenc encCst ([AV.sl (List.map eStr ws), (vI wd), (vI (↑R : Int))]) = some (ws, wd, R) := unenc_of encCst_inj (ws, wd, R) rfl

def resCst1 (ws : List ByteArray) (wd : Int) (R : Nat) : AV × Heap := (.sl ((F.costM ws wd R).map eL_eI), [])

def preCst1 (ws : List ByteArray) (wd : Int) (R : Nat) : Bool := decide (ws.length ≤ 2000 ∧ R ≤ 15) && F.smL ws

noncomputable def oCst : Orc := orc 35 false encCst (fun a => preCst1 a.1 a.2.1 a.2.2) fun a => resCst1 a.1 a.2.1 a.2.2

theorem ints_r0 {w : World} {S : Nat → Prop} {b : Nat} {t : TypeId} {L : List Int} (h : w.rowIs b t L.length (fun k => .int .i64 (L.getD k 0))) (hS : S b) (hl : L.length ≤ 9223372036854775807) (hw : ∀ x ∈ L, okAtom (.int .i64 x)) : R0 w S (.sl (L.map eI)) (.slice (some ⟨b, 0, none⟩) L.length L.length) := by
  have e : (Value.slice (some ⟨b, 0, none⟩) L.length L.length) = .slice (some ⟨b, 0, none⟩) (L.map eI).length L.length := by rw [List.length_map]
  have hrow : ∀ (i : Nat) (row : Row), (L.map eI)[i]? = some row → ∃ x, L[i]? = some x ∧ row = eI x := fun i row hr => by
    rw [List.getElem?_map, Option.map_eq_some_iff] at hr
    obtain ⟨x, hx, rfl⟩ := hr
    exact ⟨x, hx, rfl⟩
  rw [e]
  refine .sl (size := 1) (b := b) (off := 0) (vals := fun i _ => .int .i64 (L.getD i 0)) (by rw [List.length_map]; exact Nat.le_refl _) hl (fun _ => ⟨rfl, hS⟩) (fun i row hr => ?_) (fun i j row a hr ha => ?_) (fun i j row a hr ha => ?_)
  · obtain ⟨x, hx, rfl⟩ := hrow i row hr
    rfl
  · obtain ⟨x, hx, rfl⟩ := hrow i row hr
    match j, ha with
    | 0, ha =>
      have := h.cell (List.getElem?_eq_some_iff.1 hx).1
      simpa using this
  · obtain ⟨x, hx, rfl⟩ := hrow i row hr
    match j, ha with
    | 0, ha =>
      cases ha
      have : L.getD i 0 = x := by simp [List.getD, hx]
      rw [this]
      exact .v (hw x (List.mem_of_getElem? hx))

theorem okCst : OrcOK Tryd.prog noG oCst := by
  refine orc_ok ⟨Tryd.f35, by kernel_rfl, by kernel_rfl, by kernel_rfl⟩ (fun a hp hok => ?_) (fun h => by cases h)
  obtain ⟨ws, wd, R⟩ := a
  simp only [preCst1, Bool.and_eq_true, decide_eq_true_eq] at hp
  obtain ⟨⟨h1, h2⟩, h3⟩ := hp
  intro w S cargs hS hG hargs
  match cargs, hargs with
  | [vw, v1, v2], ⟨a1, a2, a3, _⟩ =>
    obtain ⟨rfl, o1⟩ := rv_v a2
    obtain ⟨rfl, o2⟩ := rv_v a3
    refine (costs_any h1 h2 h3 hS hG a1 o1).mono ?_
    rintro e w' ⟨g, rfl, hO⟩
    have hsz := hO.since.size
    have hb : Below w.heap.size w w' := ⟨hO.since.os, hO.since.tape, hO.since.output, hO.since.size, fun b hb => hO.since.block b hb⟩
    refine ⟨_, fun b => S b ∨ (w.heap.size ≤ b ∧ b < w'.heap.size), noKeys, rfl, hb, fun b h => .inl h, fun b h => h.imp (fun h => h) (fun h => h.1), fun b h => ?_, (fun k k' x x' h => by cases h), (fun k x h => by cases h), (fun k x h => by cases h), (fun k bl h => by cases h), ?_⟩
    · rcases h with h | h
      · exact Nat.lt_of_lt_of_le (hS b h) hsz
      · exact h.2
    · show R0 w' _ (.sl ((F.costM ws wd R).map eL_eI)) _
      have hlen : ((F.costM ws wd R).map eL_eI).length = ws.length + 1 := by simp [F.costM]
      have e : (Value.slice (some ⟨w.heap.size, 0, none⟩) (ws.length + 1) (ws.length + 1)) = .slice (some ⟨w.heap.size, 0, none⟩) ((F.costM ws wd R).map eL_eI).length (ws.length + 1) := by rw [hlen]
      have hrow : ∀ (i : Nat) (row : Row), ((F.costM ws wd R).map eL_eI)[i]? = some row → i ≤ ws.length ∧ row = [.sl ((F.costR ws wd R i).map eI)] := fun i row hr => by
        have hi := (List.getElem?_eq_some_iff.1 hr).1
        rw [hlen] at hi
        rw [List.getElem?_map, F.costM_at (by omega)] at hr
        cases hr
        exact ⟨by omega, rfl⟩
      rw [e]
      refine .sl (size := 1) (b := w.heap.size) (off := 0) (vals := fun i _ => .slice (some ⟨g i, 0, none⟩) (R + 1) (R + 1)) (by rw [hlen]; exact Nat.le_refl _) (by omega) (fun _ => ⟨rfl, .inr ⟨Nat.le_refl _, hO.top.lt⟩⟩) (fun i row hr => ?_) (fun i j row a hr ha => ?_) (fun i j row a hr ha => ?_)
      · rw [(hrow i row hr).2]; rfl
      · obtain ⟨hi, rfl⟩ := hrow i row hr
        match j, ha with
        | 0, ha =>
          have := hO.top.cell (i := i) (by omega)
          rw [if_pos (Nat.zero_le _)] at this
          simpa using this
      · obtain ⟨hi, rfl⟩ := hrow i row hr
        match j, ha with
        | 0, ha =>
          cases ha
          have hd := hO.done i (Nat.zero_le _) hi
          have hg := hO.lt i (Nat.zero_le _) hi
          have hL : (F.costR ws wd R i).length = R + 1 := by simp [F.costR]
          have := ints_r0 (w := w') (S := fun b => S b ∨ (w.heap.size ≤ b ∧ b < w'.heap.size)) (b := g i) (t := 3) (L := F.costR ws wd R i) (by
            rw [hL]
            refine hd.congr fun k hk => ?_
            have : (F.costR ws wd R i).getD k 0 = F.cz ws wd k i := by simp [List.getD, F.costR_at (show k ≤ R by omega)]
            rw [this]) (.inr ⟨by omega, hg.2⟩) (by rw [hL]; omega) (fun x hx => by
              obtain ⟨k, hk⟩ := List.getElem?_of_mem hx
              have hk2 := (List.getElem?_eq_some_iff.1 hk).1
              rw [hL] at hk2
              rw [F.costR_at (by omega)] at hk
              cases hk
              have := F.cz_ok ws wd k i
              unfold F.i64 at this
              simp [okAtom, IntKind.min, IntKind.max, IntKind.signed, IntKind.bits]
              omega)
          rw [hL] at this
          exact this

end M
end Go.Proofs.YtlnflhmepnbcmaaDoor
