/- What is proved here: what the parts of captions are, on lists (no statement of the seat). -/
import Derived.Test.YtlnflhmepnbcmaaDoorC73
namespace Go.Proofs.YtlnflhmepnbcmaaDoor
open Go Go.RowKit
set_option linter.unusedVariables false
set_option linter.unusedSimpArgs false
set_option maxHeartbeats 1000000

/-- The number of the first of a list that is asked for. -/
def F.findI {α : Type} (p : α → Bool) (k : Nat) : List α → Option Nat
  | [] => none
  | y :: l => bif p y then some k else F.findI p (k + 1) l

def F.idxI (o : Option Nat) : Int := bif F.found o then ((F.got o 0 : Nat) : Int) else -1

theorem F.idx_any {α : Type} (p : α → Bool) (k : Nat) (l : List α) : decide (0 ≤ F.idxI (F.findI p k l)) = l.any p := by
  have h : F.found (F.findI p k l) = l.any p := by
    induction l generalizing k with
    | nil => rfl
    | cons y l ih =>
      simp only [F.findI, List.any_cons]
      cases p y
      · simp only [cond_false, Bool.false_or]; exact ih (k + 1)
      · rfl
  unfold F.idxI
  rw [h]
  cases l.any p
  · rfl
  · simp only [cond_true]; exact decide_eq_true (by omega)


def F.smLL (l : List (List Cap)) : Bool := l.all F.smC

theorem F.findI_lt {α : Type} {p : α → Bool} : ∀ {l : List α} {k r : Nat}, F.findI p k l = some r → k ≤ r ∧ r < k + l.length
  | [], _, _, h => by cases h
  | y :: l, k, r, h => by
    unfold F.findI at h
    cases hc : p y
    · rw [hc, cond_false] at h
      have := F.findI_lt h
      simp only [List.length_cons]
      omega
    · rw [hc, cond_true] at h
      cases h
      simp

namespace Jn

theorem seq_symm (a b : ByteArray) : F.seq a b = F.seq b a := by
  unfold F.seq
  by_cases h : a.toList = b.toList
  · rw [h]
  · have h2 : ¬ b.toList = a.toList := fun e => h e.symm
    rw [beq_eq_false_iff_ne.2 h, beq_eq_false_iff_ne.2 h2]

theorem sameSs_symm : ∀ (a b : List ByteArray), F.sameSs (a.zip b) = F.sameSs (b.zip a)
  | [], _ => by simp [F.sameSs]
  | _ :: _, [] => by simp [F.sameSs]
  | x :: a, y :: b => by
    have ih := sameSs_symm a b
    unfold F.sameSs at ih ⊢
    simp only [List.zip_cons_cons, List.all_cons]
    rw [ih, seq_symm]

theorem sameSL_symm (a b : List ByteArray) : F.sameSL a b = F.sameSL b a := by
  unfold F.sameSL
  rw [sameSs_symm]
  congr 1
  by_cases h : a.length = b.length
  · rw [decide_eq_true h, decide_eq_true h.symm]
  · rw [decide_eq_false h, decide_eq_false (fun e => h e.symm)]

def key (u v : Cap) : Bool := (u.row == v.row) && F.sameSL u.lines v.lines

theorem key_symm (u v : Cap) : key u v = key v u := by
  unfold key
  rw [sameSL_symm]
  congr 1
  by_cases h : u.row = v.row
  · rw [h]
  · rw [beq_eq_false_iff_ne.2 h, beq_eq_false_iff_ne.2 (fun e => h e.symm)]

theorem key_refl (u : Cap) : key u u = true := by simp [key, F.sameSL_refl]

def cut (a b : Int) (c : Cap) : Cap := ⟨max c.fr a, min c.to b, c.lines, c.row, c.bef || F.lt c.fr (max c.fr a), c.aft || F.lt (min c.to b) c.to⟩

def act (a b : Int) (c : Cap) : Bool := !F.le (min c.to b) (max c.fr a)

theorem cut_eq (a b : Int) : ∀ l : List Cap, l.filterMap (F.cutC a b) = (l.filter (act a b)).map (cut a b)
  | [] => rfl
  | c :: l => by
    rw [List.filterMap_cons, List.filter_cons, cut_eq a b l]
    unfold F.cutC act
    cases F.le (min c.to b) (max c.fr a) <;> rfl

/-- What is right, and sorted, has no fault. -/
theorem chk_of_srt : ∀ {l : List Cap} {p : Option Cap}, K.Srt F.ltC l → (∀ c ∈ l, F.capF none c = 0) → (∀ q, p = some q → ∀ x ∈ l, F.ltC x q = false) → F.chkP F.capF p l = 0
  | [], _, _, _, _ => rfl
  | c :: l, p, hs, hc, hp => by
    have h0 := hc c (by simp)
    have hcap : F.capF p c = 0 := by
      have hb : F.befP p c = false := by
        cases p with
        | none => rfl
        | some q =>
          have := hp q rfl c (by simp)
          rw [F.ltC_eq] at this
          exact this
      have hb0 : F.befP none c = false := rfl
      unfold F.capF at h0 ⊢
      rw [hb]
      rw [hb0] at h0
      exact h0
    rw [F.chkP, M.bne0 hcap, cond_false]
    exact chk_of_srt (List.pairwise_cons.1 hs).2 (fun d hd => hc d (by simp [hd])) (fun q hq x hx => by
      cases hq
      exact (List.pairwise_cons.1 hs).1 x hx)

theorem noTime_iff {n : Int} : F.noTime n = false ↔ 0 ≤ n ∧ n ≤ 359999999 := by
  unfold F.noTime F.out
  simp

theorem bnd_chk : ∀ {bs : List Int} {p : Option Int}, F.chkP F.bndF p bs = 0 → bs.Pairwise (· < ·) ∧ (∀ t ∈ bs, F.noTime t = false) ∧ ∀ q, p = some q → ∀ t ∈ bs, q < t
  | [], _, _ => ⟨List.Pairwise.nil, fun _ h => absurd h List.not_mem_nil, fun _ _ _ h => absurd h List.not_mem_nil⟩
  | t :: bs, p, h => by
    rw [F.chkP] at h
    by_cases h1 : F.bndF p t = 0
    · rw [M.bne0 h1, cond_false] at h
      obtain ⟨i1, i2, i3⟩ := bnd_chk h
      have hn : F.noTime t = false := by
        unfold F.bndF at h1
        cases hh : F.noTime t
        · rfl
        · rw [hh] at h1; cases h1
      have hl : F.leP p t = false := by
        unfold F.bndF at h1
        rw [hn, cond_false] at h1
        cases hh : F.leP p t
        · rfl
        · rw [hh] at h1; cases h1
      refine ⟨List.Pairwise.cons (fun x hx => i3 t rfl x hx) i1, fun x hx => ?_, fun q hq x hx => ?_⟩
      · rcases List.mem_cons.1 hx with rfl | hx
        · exact hn
        · exact i2 x hx
      · subst hq
        have : q < t := by simpa [F.leP, F.le] using hl
        rcases List.mem_cons.1 hx with rfl | hx
        · exact this
        · exact Int.lt_trans this (i3 t rfl x hx)
    · rw [M.bne1 h1, cond_true] at h; exact absurd h h1

theorem bnds_spec {bs : List Int} (h : F.bnds bs = 0) : bs.Pairwise (· < ·) ∧ ∀ t ∈ bs, F.noTime t = false := by
  obtain ⟨h1, h2⟩ := F.bnds_ok h
  unfold F.bnds at h
  rw [decide_eq_false (by omega), cond_false, decide_eq_false (by omega), cond_false] at h
  obtain ⟨i1, i2, -⟩ := bnd_chk h
  exact ⟨i1, i2⟩

theorem split_mem {l : List Cap} : ∀ {bs : List Int} {p : List Cap}, p ∈ F.splitB l bs → ∃ a ∈ bs, ∃ b ∈ bs, p = K.srt F.ltC (l.filterMap (F.cutC a b))
  | [], p, h => absurd h List.not_mem_nil
  | [_], p, h => absurd h List.not_mem_nil
  | a :: b :: r, p, h => by
    rw [F.splitB] at h
    rcases List.mem_cons.1 h with rfl | h
    · exact ⟨a, by simp, b, by simp, rfl⟩
    · obtain ⟨a', h1, b', h2, h3⟩ := split_mem h
      exact ⟨a', List.mem_cons_of_mem _ h1, b', List.mem_cons_of_mem _ h2, h3⟩

theorem split_len {l : List Cap} : ∀ {bs : List Int}, bs ≠ [] → (F.splitB l bs).length + 1 = bs.length
  | [], h => absurd rfl h
  | [_], _ => rfl
  | a :: b :: r, _ => by
    have := split_len (l := l) (bs := b :: r) (by simp)
    rw [F.splitB, List.length_cons, this]
    rfl

/-- What a part is. -/
theorem part_of {l : List Cap} {a b : Int} {q : Cap} (h : q ∈ K.srt F.ltC (l.filterMap (F.cutC a b))) : ∃ c ∈ l, F.le (min c.to b) (max c.fr a) = false ∧ q = cut a b c := by
  have h := (K.srt_stb F.swC _).perm.mem_iff.1 h
  rw [List.mem_filterMap] at h
  obtain ⟨c, hc, hq⟩ := h
  unfold F.cutC at hq
  cases hh : F.le (min c.to b) (max c.fr a)
  · rw [hh, cond_false] at hq
    exact ⟨c, hc, hh, (Option.some.inj hq).symm⟩
  · rw [hh] at hq; cases hq

theorem part_chk {l : List Cap} {a b : Int} (hc : F.chkC l = 0) (ha : F.noTime a = false) (hb : F.noTime b = false) : F.chkC (K.srt F.ltC (l.filterMap (F.cutC a b))) = 0 := by
  have h1 := F.chk_len hc
  have h2 := F.filterMap_len (F.cutC a b) l
  unfold F.chkC
  rw [K.srt_len F.swC, decide_eq_false (by omega), cond_false]
  refine chk_of_srt (K.srt_stb F.swC _).ord (fun q hq => ?_) (fun _ h => by cases h)
  obtain ⟨c, hcl, hle, rfl⟩ := part_of hq
  obtain ⟨q0, hq0⟩ := F.chk_at hc hcl
  obtain ⟨k1, k2, k3, -, k5, k6⟩ := F.capF_ok hq0
  rw [noTime_iff] at k1 k2 ha hb
  have n1 : F.noTime (max c.fr a) = false := noTime_iff.2 (by omega)
  have n2 : F.noTime (min c.to b) = false := noTime_iff.2 (by omega)
  have hb0 : F.befP none (cut a b c) = false := rfl
  unfold F.capF
  rw [hb0]
  simp only [cut]
  rw [n1, n2, hle, k5, k6]
  rfl

theorem split_sm {l : List Cap} (h : F.smC l = true) (bs : List Int) : F.smLL (F.splitB l bs) = true := by
  refine List.all_eq_true.2 fun p hp => List.all_eq_true.2 fun q hq => ?_
  obtain ⟨a, _, b, _, rfl⟩ := split_mem hp
  obtain ⟨c, hcl, -, rfl⟩ := part_of hq
  exact List.all_eq_true.1 h c hcl

end Jn
end Go.Proofs.YtlnflhmepnbcmaaDoor
