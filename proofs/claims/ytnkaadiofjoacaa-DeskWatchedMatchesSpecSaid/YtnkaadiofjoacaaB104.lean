/- What is proved here: the reference's levels and those of the program are the same, on plain data (no statement of the seat). -/
import Derived.Test.YtnkaadiofjoacaaB94
import Derived.Test.YtnkaadiofjoacaaB102
namespace Go.Proofs.Ytnkaadiofjoacaa
open Go Go.RowKit
set_option linter.unusedVariables false
set_option linter.unusedSimpArgs false

namespace F

def stpS (s : Span) (x : Int) : Int := (bif s.fr == x then 1 else 0) - (bif s.to == x then 1 else 0)

def netS : List Span → Int → Int
  | [], _ => 0
  | s :: r, x => stpS s x + netS r x

theorem netS_append (A B : List Span) (x : Int) : netS (A ++ B) x = netS A x + netS B x := by
  induction A with
  | nil => simp [netS]
  | cons s r ih => simp only [List.cons_append, netS, ih]; omega

theorem snoc_cases {α : Type} : ∀ l : List α, l = [] ∨ ∃ i x, l = i ++ [x] := snoc_ind (.inl rfl) fun l x _ => .inr ⟨l, x, rfl⟩

theorem netS_add (l : List Span) (s : Span) (x : Int) : netS (addSpan l s) x = netS l x + stpS s x := by
  unfold addSpan
  rcases snoc_cases l with rfl | ⟨i, o, rfl⟩
  · have : (lt 0 (([] : List Span).length)) = false := by simp [lt]
    rw [this, Bool.false_and, cond_false, netS_append]; simp [netS]
  · have e1 : (i ++ [o]).length - 1 = i.length := by simp
    have e2 : (i ++ [o]).getD i.length ⟨0, 0⟩ = o := by simp
    rw [e1, e2]
    cases hq : lt 0 (i ++ [o]).length && (o.to == s.fr)
    · rw [cond_false, netS_append (i ++ [o]) [s]]; simp [netS]
    · simp only [Bool.and_eq_true, beq_iff_eq] at hq
      rw [cond_true, List.set_append_right _ _ (Nat.le_refl _), Nat.sub_self, List.set_cons_zero, netS_append, netS_append]
      simp only [netS, stpS, hq.2]
      omega

theorem netS_there (x : ByteArray) (y : Int) : ∀ (T : List Stay) (acc : List Span), netS (thereA x acc T) y = netS acc y + net (T.filter fun s => s.beat.session.toList == x.toList) y
  | [], acc => by simp [thereA, net]
  | s :: T, acc => by
    have ih := netS_there x y T
    unfold thereA at ih ⊢
    rw [List.foldl_cons, ih, thereS, List.filter_cons]
    cases s.beat.session.toList == x.toList
    · simp
    · simp only [cond_true, if_true, netS_add, net]
      have : stp s y = stpS s.sp y := rfl
      rw [this]; omega

def sumX (g : ByteArray → Int) : List ByteArray → Int
  | [] => 0
  | x :: r => g x + sumX g r

theorem netS_flat (f : ByteArray → List Span) (y : Int) : ∀ X : List ByteArray, netS (X.flatMap f) y = sumX (fun x => netS (f x) y) X
  | [] => rfl
  | x :: X => by rw [List.flatMap_cons, netS_append, netS_flat f y X, sumX]

theorem sumX_one {a : ByteArray} {c : Int} (g : ByteArray → Int) : ∀ {X : List ByteArray}, X.Nodup → (a ∈ X → sumX (fun x => (bif a.toList == x.toList then c else 0) + g x) X = c + sumX g X) ∧ (a ∉ X → sumX (fun x => (bif a.toList == x.toList then c else 0) + g x) X = sumX g X)
  | [], _ => ⟨(fun h => by cases h), fun _ => rfl⟩
  | x :: X, hn => by
    obtain ⟨h1, h2⟩ := List.nodup_cons.1 hn
    obtain ⟨i1, i2⟩ := sumX_one (a := a) (c := c) g h2
    constructor
    · intro h
      by_cases e : a = x
      · subst e
        simp only [sumX]
        rw [i2 h1, beq_self_eq_true, cond_true]; omega
      · have : (a.toList == x.toList) = false := by
          cases hq : (a.toList == x.toList)
          · rfl
          · exact absurd (seq_iff.1 hq) e
        simp only [sumX]
        rw [i1 ((List.mem_cons.1 h).resolve_left e), this, cond_false]; omega
    · intro h
      have : (a.toList == x.toList) = false := by
        cases hq : (a.toList == x.toList)
        · rfl
        · exact absurd (List.mem_cons.2 (.inl (seq_iff.1 hq))) h
      simp only [sumX]
      rw [i2 (fun hm => h (List.mem_cons_of_mem _ hm)), this, cond_false]; omega

theorem sumX_zero : ∀ X : List ByteArray, sumX (fun _ => 0) X = 0
  | [] => rfl
  | x :: X => by rw [sumX, sumX_zero X]; rfl

theorem net_split {X : List ByteArray} (hX : X.Nodup) (y : Int) : ∀ T : List Stay, (∀ s ∈ T, s.beat.session ∈ X) → sumX (fun x => net (T.filter fun s => s.beat.session.toList == x.toList) y) X = net T y
  | [], _ => by simp only [List.filter_nil, net]; exact sumX_zero X
  | s :: T, h => by
    have ih := net_split hX y T fun z hz => h z (List.mem_cons_of_mem _ hz)
    have e : (fun x : ByteArray => net ((s :: T).filter fun s => s.beat.session.toList == x.toList) y) = fun x => (bif s.beat.session.toList == x.toList then stp s y else 0) + net (T.filter fun s => s.beat.session.toList == x.toList) y := by
      funext x
      rw [List.filter_cons]
      cases s.beat.session.toList == x.toList
      · simp
      · simp [net]
    rw [e, (sumX_one _ hX).1 (h s (List.mem_cons_self ..)), ih, net]

/-- All spans of all sessions. -/
def spansR (q : Int) (l : List Beat) : List Span := (sess l).flatMap fun x => rthA q x [] l

theorem netR {q : Int} {l : List Beat} (hs : l.Pairwise bef) (y : Int) : netS (spansR q l) y = net (stays q l) y := by
  obtain ⟨h1, h2⟩ := sess_ok _ l (Nat.le_refl _) hs
  have e : ∀ x, netS (rthA q x [] l) y = net ((stays q l).filter fun s => s.beat.session.toList == x.toList) y := fun x => by
    rw [← there_eq, netS_there]
    simp [netS, stays]
  unfold spansR
  rw [netS_flat, ← net_split h1 y (stays q l) fun s hs => (h2 _).2 ⟨s.beat, (stays_sub q l).subset (List.mem_map.2 ⟨s, hs, rfl⟩), rfl⟩]
  congr 1
  funext x
  exact e x

theorem netS_count (R : List Span) (y : Int) : netS R y = ((R.map (·.fr)).count y : Int) - ((R.map (·.to)).count y : Int) := by
  induction R with
  | nil => rfl
  | cons s R ih =>
    simp only [netS, stpS, List.map_cons, List.count_cons, ih]
    cases s.fr == y <;> cases s.to == y <;> simp <;> omega

/-- How many of the first elements are this one. -/
def kW (t : Int) (l : List Int) : Nat := (l.takeWhile (· == t)).length

theorem kW_drop (t : Int) (l : List Int) : l.drop (kW t l) = l.dropWhile (· == t) := by
  unfold kW
  induction l with
  | nil => rfl
  | cons x r ih =>
    rw [List.takeWhile_cons, List.dropWhile_cons]
    cases x == t
    · rfl
    · simp only [if_true, List.length_cons, List.drop_succ_cons]; exact ih

theorem kW_count {t : Int} : ∀ {l : List Int}, l.Pairwise (· ≤ ·) → (∀ y ∈ l, t ≤ y) → kW t l = l.count t ∧ (l.dropWhile (· == t)).Pairwise (· ≤ ·) ∧ (∀ y ∈ l.dropWhile (· == t), y ∈ l ∧ y ≠ t) ∧ ∀ y, y ≠ t → (l.dropWhile (· == t)).count y = l.count y
  | [], _, _ => ⟨rfl, List.Pairwise.nil, (fun y hy => by cases hy), fun _ _ => rfl⟩
  | x :: r, h, hb => by
    obtain ⟨h1, h2⟩ := List.pairwise_cons.1 h
    obtain ⟨i1, i2, i3, i4⟩ := kW_count h2 fun y hy => hb y (List.mem_cons_of_mem _ hy)
    rw [kW, List.takeWhile_cons, List.dropWhile_cons, List.count_cons]
    by_cases e : x = t
    · subst e
      rw [beq_self_eq_true]
      simp only [if_true, List.length_cons]
      refine ⟨by rw [← i1]; rfl, i2, fun y hy => ⟨List.mem_cons_of_mem _ (i3 y hy).1, (i3 y hy).2⟩, fun y hy => ?_⟩
      rw [i4 y hy, List.count_cons, beq_eq_false_iff_ne.2 (Ne.symm hy)]; simp
    · have hx : t < x := by have := hb x (List.mem_cons_self ..); omega
      have hall : ∀ y ∈ x :: r, y ≠ t := fun y hy => by
        rcases List.mem_cons.1 hy with rfl | hy
        · exact e
        · have := h1 y hy; omega
      have hc : r.count t = 0 := List.count_eq_zero.2 fun hm => hall t (List.mem_cons_of_mem _ hm) rfl
      rw [beq_eq_false_iff_ne.2 e]
      simp only [Bool.false_eq_true, if_false, List.length_nil, hc]
      exact ⟨trivial, h, fun y hy => ⟨hy, hall y hy⟩, fun y _ => trivial⟩

/-- The levels by what changes. -/
def lvG (net : Int → Int) (n : Int) : List Int → List Level
  | [] => []
  | x :: r => bif net x != 0 then ⟨x, n + net x⟩ :: lvG net (n + net x) r else lvG net n r

theorem lvG_congr {f g : Int → Int} : ∀ {l : List Int} {n : Int}, (∀ y ∈ l, f y = g y) → lvG f n l = lvG g n l
  | [], _, _ => rfl
  | x :: r, n, h => by
    have h2 : ∀ m, lvG f m r = lvG g m r := fun m => lvG_congr fun y hy => h y (List.mem_cons_of_mem _ hy)
    rw [lvG, lvG, h x (List.mem_cons_self ..), h2, h2]

/-- The rounds of the reference. -/
def refL : List Int → Int → List Int → List Int → List Level → List Level
  | [], _, _, _, out => out
  | t :: r, n, bs, es, out => refL r (n + kW t bs - kW t es) (bs.drop (kW t bs)) (es.drop (kW t es)) (bif (n + kW t bs - kW t es) != n then out ++ [⟨t, n + kW t bs - kW t es⟩] else out)

theorem refL_eq : ∀ (ts : List Int) (n : Int) (bs es : List Int) (out : List Level), ts.Pairwise (· < ·) → bs.Pairwise (· ≤ ·) → es.Pairwise (· ≤ ·) → (∀ y ∈ bs, y ∈ ts) → (∀ y ∈ es, y ∈ ts) →
    refL ts n bs es out = out ++ lvG (fun t => (bs.count t : Int) - (es.count t : Int)) n ts
  | [], n, bs, es, out, _, _, _, _, _ => by simp [refL, lvG]
  | t :: r, n, bs, es, out, h, hb, he, mb, me => by
    obtain ⟨h1, h2⟩ := List.pairwise_cons.1 h
    have ge : ∀ {l : List Int}, (∀ y ∈ l, y ∈ t :: r) → ∀ y ∈ l, t ≤ y := fun hl y hy => by
      rcases List.mem_cons.1 (hl y hy) with rfl | hy
      · exact Int.le_refl _
      · have := h1 y hy; omega
    obtain ⟨b1, b2, b3, b4⟩ := kW_count hb (ge mb)
    obtain ⟨e1, e2, e3, e4⟩ := kW_count he (ge me)
    rw [refL, kW_drop, kW_drop, refL_eq r _ _ _ _ h2 b2 e2 (fun y hy => (List.mem_cons.1 (mb y (b3 y hy).1)).resolve_left (b3 y hy).2) (fun y hy => (List.mem_cons.1 (me y (e3 y hy).1)).resolve_left (e3 y hy).2), lvG]
    have hc : ∀ m, lvG (fun z => ((bs.dropWhile (· == t)).count z : Int) - ((es.dropWhile (· == t)).count z : Int)) m r = lvG (fun z => (bs.count z : Int) - (es.count z : Int)) m r := fun m =>
      lvG_congr fun y hy => by have := h1 y hy; rw [b4 y (by omega), e4 y (by omega)]
    rw [hc, b1, e1]
    by_cases hz : ((bs.count t : Int) - (es.count t : Int)) = 0
    · have z1 : ((n + (bs.count t : Int) - (es.count t : Int)) != n) = false := by simp; omega
      have z2 : (((bs.count t : Int) - (es.count t : Int)) != 0) = false := by simp; omega
      rw [z1, z2, cond_false, cond_false]
      congr 2
      omega
    · have z1 : ((n + (bs.count t : Int) - (es.count t : Int)) != n) = true := by simp; omega
      have z2 : (((bs.count t : Int) - (es.count t : Int)) != 0) = true := by simp; omega
      have z3 : n + (bs.count t : Int) - (es.count t : Int) = n + ((bs.count t : Int) - (es.count t : Int)) := by omega
      rw [z1, z2, cond_true, cond_true, z3, List.append_assoc]; rfl

theorem lvA_lvG {T : List Stay} (hT : T.length ≤ 3000) (U : List Int) : ∀ n : Int, -1000000000000000 + U.length * 3000 ≤ n → n + U.length * 3000 ≤ 1000000000000000 → lvA T n (U.filter fun x => net T x != 0) = lvG (net T) n U := by
  induction U with
  | nil => intro n _ _; rfl
  | cons x r ih =>
    intro n h1 h2
    have hb := net_le T x
    rw [List.length_cons] at h1 h2
    have hw : IntKind.i64.wrap (n + net T x) = n + net T x := by rw [IntKind.wrap_i64]; omega
    rw [List.filter_cons, lvG]
    cases hq : net T x != 0
    · rw [cond_false, if_neg (by simp), ih n (by omega) (by omega)]
    · rw [cond_true, if_pos rfl, lvA, hw, ih _ (by omega) (by omega)]

theorem cmpI_mem {xs : List Int} {y : Int} : y ∈ cmpI xs ↔ y ∈ xs := by
  refine ⟨M.mem_cmpI, fun h => ?_⟩
  -- the first place of y
  obtain ⟨i, hi, e, hmin⟩ : ∃ i, i < xs.length ∧ xs.toArray[i]! = y ∧ ∀ j, j < i → xs.toArray[j]! ≠ y := by
    obtain ⟨k, hk⟩ := List.getElem?_of_mem h
    have hkl := (List.getElem?_eq_some_iff.1 hk).1
    have hky : xs.toArray[k]! = y := M.getD_ints xs k y hk
    clear hk
    induction k using Nat.strongRecOn with
    | ind k ih =>
      by_cases hj : ∃ j, j < k ∧ xs.toArray[j]! = y
      · obtain ⟨j, h1, h2⟩ := hj
        exact ih j h1 (by omega) h2
      · exact ⟨k, hkl, hky, fun j h1 h2 => hj ⟨j, h1, h2⟩⟩
  unfold cmpI Lib.compact Lib.compactUpTo
  refine List.mem_map.2 ⟨i, List.mem_filter.2 ⟨List.mem_range.2 hi, ?_⟩, e⟩
  unfold Lib.keeps
  refine decide_eq_true ?_
  rcases Nat.eq_zero_or_pos i with h0 | h0
  · exact .inl h0
  · exact .inr fun e2 => hmin (i - 1) (by omega) (by rw [← e2]; exact e)

theorem cmpI_lt {xs : List Int} (h : xs.Pairwise (· ≤ ·)) : (cmpI xs).Pairwise (· < ·) := by
  have hle : ∀ i j, i ≤ j → j < xs.length → xs.toArray[i]! ≤ xs.toArray[j]! := fun i j hij hj => by
    rw [getElem!_pos _ i (by simp; omega), getElem!_pos _ j (by simpa using hj)]
    rcases Nat.lt_or_ge i j with hlt | hge
    · simpa using List.pairwise_iff_getElem.1 h i j (by omega) hj hlt
    · have : i = j := by omega
      subst this; exact Int.le_refl _
  unfold cmpI Lib.compact Lib.compactUpTo
  rw [List.pairwise_map]
  refine List.Pairwise.imp_of_mem ?_ (List.Pairwise.filter _ List.pairwise_lt_range)
  intro i j hi hj hij
  have hj1 := List.mem_range.1 (List.mem_filter.1 hj).1
  have hj2 := (List.mem_filter.1 hj).2
  unfold Lib.keeps at hj2
  have hj2 := of_decide_eq_true hj2
  rcases hj2 with h0 | hne
  · omega
  · have a1 := hle i (j - 1) (by omega) (by omega)
    have a2 := hle (j - 1) j (by omega) hj1
    have := Ne.symm hne
    omega

/-- The reference's levels. -/
def rlevels (q : Int) (l : List Beat) : List Level :=
  refL (cmpI (srtI ((spansR q l).map (·.fr) ++ (spansR q l).map (·.to)))) 0 (srtI ((spansR q l).map (·.fr))) (srtI ((spansR q l).map (·.to))) []

theorem addSpan_there (x : ByteArray) : ∀ (T : List Stay) (acc : List Span), ((thereA x acc T).length : Int) ≤ acc.length + ((T.filter fun s => s.beat.session.toList == x.toList).length : Int)
  | [], acc => by simp [thereA]
  | s :: T, acc => by
    have ih := addSpan_there x T
    unfold thereA at ih ⊢
    rw [List.foldl_cons, thereS, List.filter_cons]
    cases s.beat.session.toList == x.toList
    · simp only [cond_false, Bool.false_eq_true, if_false]; exact ih acc
    · simp only [cond_true, if_true, List.length_cons]
      have h1 := ih (addSpan acc s.sp)
      have h2 := addSpan_len acc s.sp
      omega

theorem sumX_le {f g : ByteArray → Int} (h : ∀ x, f x ≤ g x) : ∀ X : List ByteArray, sumX f X ≤ sumX g X
  | [] => Int.le_refl _
  | x :: X => by
    have := h x
    have := sumX_le h X
    rw [sumX, sumX]; omega

theorem len_split {X : List ByteArray} (hX : X.Nodup) : ∀ T : List Stay, (∀ s ∈ T, s.beat.session ∈ X) → sumX (fun x => ((T.filter fun s => s.beat.session.toList == x.toList).length : Int)) X = T.length
  | [], _ => by simp only [List.filter_nil, List.length_nil]; exact sumX_zero X
  | s :: T, h => by
    have ih := len_split hX T fun z hz => h z (List.mem_cons_of_mem _ hz)
    have e : (fun x : ByteArray => (((s :: T).filter fun s => s.beat.session.toList == x.toList).length : Int)) = fun x => (bif s.beat.session.toList == x.toList then 1 else 0) + ((T.filter fun s => s.beat.session.toList == x.toList).length : Int) := by
      funext x
      rw [List.filter_cons]
      cases s.beat.session.toList == x.toList
      · simp
      · simp; omega
    rw [e, (sumX_one _ hX).1 (h s (List.mem_cons_self ..)), ih]
    simp; omega

theorem flat_len (f : ByteArray → List Span) : ∀ X : List ByteArray, ((X.flatMap f).length : Int) = sumX (fun x => ((f x).length : Int)) X
  | [] => rfl
  | x :: X => by rw [List.flatMap_cons, List.length_append, sumX, ← flat_len f X]; simp

theorem spansR_len {q : Int} {l : List Beat} (hs : l.Pairwise bef) : (spansR q l).length ≤ l.length := by
  obtain ⟨h1, h2⟩ := sess_ok _ l (Nat.le_refl _) hs
  have e1 := len_split h1 (stays q l) fun s hs => (h2 _).2 ⟨s.beat, (stays_sub q l).subset (List.mem_map.2 ⟨s, hs, rfl⟩), rfl⟩
  have e2 := flat_len (fun x => rthA q x [] l) (sess l)
  have e3 : sumX (fun x => ((rthA q x [] l).length : Int)) (sess l) ≤ sumX (fun x => (((stays q l).filter fun s => s.beat.session.toList == x.toList).length : Int)) (sess l) := sumX_le (fun x => by
    rw [← there_eq]
    have := addSpan_there x (stays q l) []
    simpa [stays] using this) _
  have e4 := stays_len q l
  unfold spansR
  omega

theorem rlevels_eq {q : Int} {l : List Beat} (hc : checkB l = 0) (hl : l.length ≤ 3000) (hR : (spansR q l).length ≤ 9000000) : rlevels q l = levels q l := by
  have hs := (checkB_sorted hc).1
  have hn : ∀ y, net (stays q l) y = ((((spansR q l).map (·.fr)).count y : Nat) : Int) - ((((spansR q l).map (·.to)).count y : Nat) : Int) := fun y => by rw [← netR hs, netS_count]
  have hT : (stays q l).length ≤ 3000 := Nat.le_trans (stays_len q l) hl
  unfold rlevels levels
  generalize stays q l = T at *
  generalize spansR q l = R at *
  generalize hA : R.map (·.fr) = A at *
  generalize hB : R.map (·.to) = B at *
  have hAl : A.length ≤ 9000000 := by rw [← hA]; simpa using hR
  have hBl : B.length ≤ 9000000 := by rw [← hB]; simpa using hR
  have hTS := cmpI_lt (srtI_le (A ++ B))
  have hmem : ∀ y, y ∈ cmpI (srtI (A ++ B)) ↔ y ∈ A ∨ y ∈ B := fun y => by rw [cmpI_mem, srtI_mem, List.mem_append]
  have hlen : (cmpI (srtI (A ++ B))).length ≤ 18000000 := by
    have h1 := cmpI_len (srtI (A ++ B))
    rw [srtI_len, List.length_append] at h1
    omega
  generalize cmpI (srtI (A ++ B)) = TS at *
  rw [refL_eq TS 0 _ _ _ hTS (srtI_le A) (srtI_le B) (fun y hy => (hmem y).2 (.inl (srtI_mem.1 hy))) (fun y hy => (hmem y).2 (.inr (srtI_mem.1 hy))), List.nil_append]
  have e1 : (fun t => ((srtI A).count t : Int) - ((srtI B).count t : Int)) = net T := by
    funext t
    rw [hn t, show (srtI A).count t = A.count t from (List.mergeSort_perm ..).count_eq t, show (srtI B).count t = B.count t from (List.mergeSort_perm ..).count_eq t]
  rw [e1, ← lvA_lvG hT TS 0 (by omega) (by omega)]
  congr 1
  refine ext_lt (hTS.sublist List.filter_sublist) (times_lt T) fun x => ?_
  rw [times_mem, List.mem_filter]
  refine ⟨fun h => by simpa using h.2, fun h => ⟨(hmem x).2 ?_, by simpa using h⟩⟩
  refine Decidable.byContradiction fun hno => h ?_
  rw [hn x, List.count_eq_zero.2 fun hm => hno (.inl hm), List.count_eq_zero.2 fun hm => hno (.inr hm)]; rfl

end F
end Go.Proofs.Ytnkaadiofjoacaa
