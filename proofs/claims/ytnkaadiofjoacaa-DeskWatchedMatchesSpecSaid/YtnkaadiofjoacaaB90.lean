/- What is proved here: the contract of desk.levels (a walk by hand: a map, its keys collected and sorted) (no statement of the seat). -/
import Derived.Test.YtnkaadiofjoacaaB5
import Derived.Test.YtnkaadiofjoacaaB79
import Derived.Maps.OwnOps
import Derived.Maps.OwnSet
import Derived.Maps.RangeWalk
import Derived.Maps.AppendAt
import Derived.OwnWalk
import Derived.WalkKit
import Derived.Lib.Hide
namespace Go.Proofs.Ytnkaadiofjoacaa
open Go Go.RowKit Go.Lib Go.Maps
set_option linter.unusedVariables false
set_option linter.unusedSimpArgs false
set_option maxHeartbeats 4000000
set_option maxRecDepth 100000

namespace F

/-- How a stay changes the number of sessions at a time. -/
def stp (s : Stay) (x : Int) : Int := (bif s.sp.fr == x then 1 else 0) - (bif s.sp.to == x then 1 else 0)

def net : List Stay → Int → Int
  | [], _ => 0
  | s :: r, x => stp s x + net r x

theorem net_append (A B : List Stay) (x : Int) : net (A ++ B) x = net A x + net B x := by
  induction A with
  | nil => simp [net]
  | cons s r ih => simp only [List.cons_append, net, ih]; omega

theorem stp_le (s : Stay) (x : Int) : -1 ≤ stp s x ∧ stp s x ≤ 1 := by
  unfold stp
  cases s.sp.fr == x <;> cases s.sp.to == x <;> simp

theorem net_le (T : List Stay) (x : Int) : -(T.length : Int) ≤ net T x ∧ net T x ≤ T.length := by
  induction T with
  | nil => simp [net]
  | cons s r ih =>
    have := stp_le s x
    simp only [net, List.length_cons]; omega

theorem net_none {T : List Stay} {x : Int} (h : ∀ s ∈ T, s.sp.fr ≠ x ∧ s.sp.to ≠ x) : net T x = 0 := by
  induction T with
  | nil => rfl
  | cons s r ih =>
    have h1 := h s (List.mem_cons_self ..)
    have e : stp s x = 0 := by
      unfold stp
      rw [beq_eq_false_iff_ne.2 h1.1, beq_eq_false_iff_ne.2 h1.2]; rfl
    rw [net, e, ih fun t ht => h t (List.mem_cons_of_mem _ ht)]; rfl

/-- The keys, each once, in order. -/
def uniqI : List Int → List Int
  | [] => []
  | x :: r => bif r.head? == some x then uniqI r else x :: uniqI r

def times (T : List Stay) : List Int := (uniqI (srtI (T.map (fun s => s.sp.fr) ++ T.map (fun s => s.sp.to)))).filter fun x => net T x != 0

theorem srtI_le (xs : List Int) : (srtI xs).Pairwise (· ≤ ·) := by
  have h := List.pairwise_mergeSort (le := fun x y : Int => decide (x ≤ y)) (fun a b c h1 h2 => by simp at h1 h2 ⊢; omega) (fun a b => by simp; omega) xs
  exact h.imp fun h => by simpa using h

theorem srtI_mem {xs : List Int} {x : Int} : x ∈ srtI xs ↔ x ∈ xs := List.mem_mergeSort

theorem srtI_lt {xs : List Int} (h : xs.Nodup) : (srtI xs).Pairwise (· < ·) := by
  have h1 := srtI_le xs
  have h2 : (srtI xs).Nodup := (List.mergeSort_perm ..).nodup_iff.2 h
  exact (List.Pairwise.and h1 h2).imp fun ⟨a, b⟩ => by omega

theorem ext_lt : ∀ {a b : List Int}, a.Pairwise (· < ·) → b.Pairwise (· < ·) → (∀ x, x ∈ a ↔ x ∈ b) → a = b
  | [], [], _, _, _ => rfl
  | [], y :: b, _, _, h => absurd ((h y).2 (List.mem_cons_self ..)) (by simp)
  | x :: a, [], _, _, h => absurd ((h x).1 (List.mem_cons_self ..)) (by simp)
  | x :: a, y :: b, h1, h2, h => by
    obtain ⟨p1, q1⟩ := List.pairwise_cons.1 h1
    obtain ⟨p2, q2⟩ := List.pairwise_cons.1 h2
    have e : x = y := by
      rcases List.mem_cons.1 ((h x).1 (List.mem_cons_self ..)) with e | m1
      · exact e
      · rcases List.mem_cons.1 ((h y).2 (List.mem_cons_self ..)) with e | m2
        · exact e.symm
        · have := p2 x m1
          have := p1 y m2
          omega
    subst e
    refine congrArg _ (ext_lt q1 q2 fun z => ?_)
    have hz := h z
    rw [List.mem_cons, List.mem_cons] at hz
    constructor
    · intro m
      rcases hz.1 (.inr m) with e | m'
      · exact absurd (p1 z m) (by omega)
      · exact m'
    · intro m
      rcases hz.2 (.inr m) with e | m'
      · exact absurd (p2 z m) (by omega)
      · exact m'

theorem uniqI_mem : ∀ {l : List Int} {x : Int}, x ∈ uniqI l ↔ x ∈ l
  | [], _ => Iff.rfl
  | y :: r, x => by
    rw [uniqI]
    cases hq : r.head? == some y with
    | false => simp only [cond_false, List.mem_cons, uniqI_mem (l := r)]
    | true =>
      simp only [cond_true, List.mem_cons, uniqI_mem (l := r)]
      have hh : r.head? = some y := by simpa using hq
      constructor
      · exact .inr
      · rintro (rfl | h)
        · exact List.mem_of_head? hh
        · exact h

theorem uniqI_lt : ∀ {l : List Int}, l.Pairwise (· ≤ ·) → (uniqI l).Pairwise (· < ·)
  | [], _ => List.Pairwise.nil
  | y :: r, h => by
    obtain ⟨h1, h2⟩ := List.pairwise_cons.1 h
    rw [uniqI]
    cases hq : r.head? == some y with
    | true => exact uniqI_lt h2
    | false =>
      refine List.pairwise_cons.2 ⟨fun z hz => ?_, uniqI_lt h2⟩
      have hz := uniqI_mem.1 hz
      have h3 := h1 z hz
      have hne : r.head? ≠ some y := by simpa using hq
      match r, h2, hz, hne, h1 with
      | a :: s, h2, hz, hne, h1 =>
        have ha : a ≠ y := fun e => hne (by simp [e])
        have h4 := h1 a (List.mem_cons_self ..)
        rcases List.mem_cons.1 hz with rfl | hz
        · omega
        · have := (List.pairwise_cons.1 h2).1 z hz
          omega

theorem times_mem {T : List Stay} {x : Int} : x ∈ times T ↔ net T x ≠ 0 := by
  unfold times
  rw [List.mem_filter, uniqI_mem, srtI_mem]
  constructor
  · rintro ⟨_, h⟩
    simpa using h
  · intro h
    refine ⟨?_, by simpa using h⟩
    refine Decidable.byContradiction fun hn => h (net_none fun s hs => ⟨fun e => hn ?_, fun e => hn ?_⟩)
    · exact List.mem_append_left _ (List.mem_map.2 ⟨s, hs, e⟩)
    · exact List.mem_append_right _ (List.mem_map.2 ⟨s, hs, e⟩)

theorem times_lt (T : List Stay) : (times T).Pairwise (· < ·) := (uniqI_lt (srtI_le _)).sublist List.filter_sublist

/-- The numbers from time to time. -/
def lvA (T : List Stay) (n : Int) : List Int → List Level
  | [] => []
  | x :: r => ⟨x, IntKind.i64.wrap (n + net T x)⟩ :: lvA T (IntKind.i64.wrap (n + net T x)) r

theorem lvA_ok (T : List Stay) : ∀ (ts : List Int) (n : Int), ∀ y ∈ lvA T n ts, y.time ∈ ts ∧ ∃ m, y.many = IntKind.i64.wrap m
  | [], _, y, hy => by cases hy
  | x :: r, n, y, hy => by
    rw [lvA] at hy
    rcases List.mem_cons.1 hy with rfl | hy
    · exact ⟨List.mem_cons_self .., _, rfl⟩
    · obtain ⟨h1, h2⟩ := lvA_ok T r _ y hy
      exact ⟨List.mem_cons_of_mem _ h1, h2⟩

theorem lvA_len (T : List Stay) : ∀ (ts : List Int) (n : Int), (lvA T n ts).length = ts.length
  | [], _ => rfl
  | x :: r, n => by rw [lvA, List.length_cons, List.length_cons, lvA_len T r]

theorem uniqI_len : ∀ (l : List Int), (uniqI l).length ≤ l.length
  | [] => Nat.le_refl _
  | x :: r => by
    have := uniqI_len r
    rw [uniqI]
    cases r.head? == some x <;> simp <;> omega

theorem times_len (T : List Stay) : (times T).length ≤ 2 * T.length := by
  unfold times
  refine Nat.le_trans (List.length_filter_le _ _) (Nat.le_trans (uniqI_len _) ?_)
  rw [srtI_len]; simp; omega

def levels (q : Int) (l : List Beat) : List Level := lvA (stays q l) 0 (times (stays q l))

theorem levels_len (q : Int) (l : List Beat) : (levels q l).length ≤ 2 * l.length := by
  unfold levels
  rw [lvA_len]
  have h1 := times_len (stays q l)
  have h2 := staysA_len q l []
  simp only [List.length_nil, Nat.zero_add] at h2
  unfold stays at h1 ⊢
  omega

end F
end Go.Proofs.Ytnkaadiofjoacaa
