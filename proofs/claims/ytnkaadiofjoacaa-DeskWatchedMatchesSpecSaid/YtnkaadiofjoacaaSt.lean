/- What is proved here: sorting that keeps the order of equals, on lists (no statement of the seat). -/
import Derived.Test.YtnkaadiofjoacaaM6
set_option linter.unusedVariables false
set_option maxHeartbeats 4000000
namespace Go.Proofs.Ytnkaadiofjoacaa
namespace K
variable {α : Type}
/-- A strict weak order. -/
structure SW (lt : α → α → Bool) : Prop where
  asym : ∀ a b, lt a b = true → lt b a = false
  tr : ∀ a b c, lt b a = false → lt c b = false → lt c a = false

def eqv (lt : α → α → Bool) (z a : α) : Bool := !lt z a && !lt a z

def Srt (lt : α → α → Bool) (xs : List α) : Prop := xs.Pairwise fun a b => lt b a = false

structure Stb (lt : α → α → Bool) (xs ys : List α) : Prop where
  perm : ys.Perm xs
  ord : Srt lt ys
  fil : ∀ z, ys.filter (eqv lt z) = xs.filter (eqv lt z)

variable {lt : α → α → Bool}

theorem SW.irr (h : SW lt) (a : α) : lt a a = false := by
  cases e : lt a a
  · rfl
  · rw [h.asym a a e] at e; cases e

theorem SW.eqv_self (h : SW lt) (a : α) : eqv lt a a = true := by simp [eqv, h.irr]

theorem mem_fil (h : SW lt) {xs : List α} {a : α} : a ∈ xs ↔ a ∈ xs.filter (eqv lt a) := by simp [h.eqv_self]

theorem srt_uniq (h : SW lt) : ∀ {ys zs : List α}, Srt lt ys → Srt lt zs → (∀ z, ys.filter (eqv lt z) = zs.filter (eqv lt z)) → ys = zs
  | [], [], _, _, _ => rfl
  | [], z :: zs, _, _, e => by
    have := (mem_fil h (a := z)).1 (List.mem_cons_self (a := z) (l := zs))
    rw [← e z] at this; cases this
  | y :: ys, [], _, _, e => by
    have := (mem_fil h (a := y)).1 (List.mem_cons_self (a := y) (l := ys))
    rw [e y] at this; cases this
  | y :: ys, z :: zs, h1, h2, e => by
    have m1 := (mem_fil h (a := y)).1 (List.mem_cons_self (a := y) (l := ys))
    have m2 := (mem_fil h (a := z)).1 (List.mem_cons_self (a := z) (l := zs))
    rw [e y] at m1; rw [← e z] at m2
    have m1 := (mem_fil h).2 m1
    have m2 := (mem_fil h).2 m2
    obtain ⟨p1, p2⟩ := List.pairwise_cons.1 h1
    obtain ⟨q1, q2⟩ := List.pairwise_cons.1 h2
    have a1 : lt z y = false := by rcases List.mem_cons.1 m2 with rfl | m
                                   · exact h.irr _
                                   · exact p1 _ m
    have a2 : lt y z = false := by rcases List.mem_cons.1 m1 with rfl | m
                                   · exact h.irr _
                                   · exact q1 _ m
    have ey := e y
    rw [List.filter_cons_of_pos (h.eqv_self y), List.filter_cons_of_pos (by simp [eqv, a1, a2])] at ey
    have e0 : y = z := (List.cons.inj ey).1
    subst e0
    rw [srt_uniq h p2 q2 fun w => ?_]
    have ew := e w
    by_cases hw : eqv lt w y = true
    · rw [List.filter_cons_of_pos hw, List.filter_cons_of_pos hw] at ew
      exact (List.cons.inj ew).2
    · rw [List.filter_cons_of_neg hw, List.filter_cons_of_neg hw] at ew
      exact ew

theorem Stb.uniq (h : SW lt) {xs ys zs : List α} (h1 : Stb lt xs ys) (h2 : Stb lt xs zs) : ys = zs :=
  srt_uniq h h1.ord h2.ord fun z => (h1.fil z).trans (h2.fil z).symm

theorem Stb.refl {xs : List α} (h1 : Srt lt xs) : Stb lt xs xs := ⟨.refl _, h1, fun _ => rfl⟩

theorem Stb.trans {xs ys zs : List α} (h1 : Stb lt xs ys) (h2 : Stb lt ys zs) : Stb lt xs zs := ⟨h2.perm.trans h1.perm, h2.ord, fun z => (h2.fil z).trans (h1.fil z)⟩

def Le (lt : α → α → Bool) (xs ys : List α) : Prop := ∀ a ∈ xs, ∀ b ∈ ys, lt b a = false

def Lt (lt : α → α → Bool) (xs ys : List α) : Prop := ∀ a ∈ xs, ∀ b ∈ ys, lt a b = true

theorem Stb.app {a b c d : List α} (h1 : Stb lt a c) (h2 : Stb lt b d) (h : Le lt a b) : Stb lt (a ++ b) (c ++ d) :=
  ⟨h1.perm.append h2.perm, List.pairwise_append.2 ⟨h1.ord, h2.ord, fun x hx y hy => h x (h1.perm.subset hx) y (h2.perm.subset hy)⟩, fun z => by rw [List.filter_append, List.filter_append, h1.fil, h2.fil]⟩

theorem fil_none (h : SW lt) {a b : List α} (hab : Lt lt a b) (z : α) : a.filter (eqv lt z) = [] ∨ b.filter (eqv lt z) = [] := by
  by_cases ha : a.filter (eqv lt z) = []
  · exact .inl ha
  · right
    obtain ⟨x, hx⟩ := List.exists_mem_of_ne_nil _ ha
    obtain ⟨hx, hxz⟩ := List.mem_filter.1 hx
    simp only [eqv, Bool.and_eq_true, Bool.not_eq_true'] at hxz
    refine List.filter_eq_nil_iff.2 fun y hy hyz => ?_
    simp only [eqv, Bool.and_eq_true, Bool.not_eq_true'] at hyz
    have := hab x hx y hy
    rw [h.tr y z x hyz.1 hxz.2] at this
    cases this

theorem fil_comm (h : SW lt) {a b : List α} (hab : Lt lt a b) (z : α) : (a ++ b).filter (eqv lt z) = (b ++ a).filter (eqv lt z) := by
  rw [List.filter_append, List.filter_append]
  rcases fil_none h hab z with e | e <;> rw [e] <;> simp

/-- One more element, behind its equals. -/
def ins (lt : α → α → Bool) (c : α) : List α → List α
  | [] => [c]
  | x :: l => bif lt c x then c :: x :: l else x :: ins lt c l

def srt (lt : α → α → Bool) (xs : List α) : List α := xs.foldl (fun out c => ins lt c out) []

theorem ins_mem {c a : α} : ∀ {l : List α}, a ∈ ins lt c l → a = c ∨ a ∈ l
  | [], h => .inl (List.mem_singleton.1 h)
  | x :: l, h => by
    unfold ins at h
    cases e : lt c x <;> rw [e] at h
    · rcases List.mem_cons.1 h with rfl | h
      · exact .inr (List.mem_cons_self ..)
      · exact (ins_mem h).imp id (List.mem_cons_of_mem _)
    · rcases List.mem_cons.1 h with rfl | h
      · exact .inl rfl
      · exact .inr h

theorem ins_perm {c : α} : ∀ {l : List α}, (ins lt c l).Perm (l ++ [c])
  | [] => .refl _
  | x :: l => by
    unfold ins
    cases lt c x
    · exact ins_perm.cons x
    · exact (List.perm_append_singleton c (x :: l)).symm

theorem ins_srt (h : SW lt) {c : α} : ∀ {l : List α}, Srt lt l → Srt lt (ins lt c l)
  | [], _ => List.pairwise_singleton ..
  | x :: l, hl => by
    obtain ⟨p1, p2⟩ := List.pairwise_cons.1 hl
    unfold ins
    cases e : lt c x
    · refine List.pairwise_cons.2 ⟨fun y hy => ?_, ins_srt h p2⟩
      rcases ins_mem hy with rfl | hy
      · exact e
      · exact p1 _ hy
    · refine List.pairwise_cons.2 ⟨fun y hy => ?_, hl⟩
      rcases List.mem_cons.1 hy with rfl | hy
      · exact h.asym _ _ e
      · exact h.tr _ _ _ (h.asym _ _ e) (p1 _ hy)

theorem ins_fil (h : SW lt) {c : α} (z : α) : ∀ {l : List α}, Srt lt l → (ins lt c l).filter (eqv lt z) = (l ++ [c]).filter (eqv lt z)
  | [], _ => rfl
  | x :: l, hl => by
    obtain ⟨p1, p2⟩ := List.pairwise_cons.1 hl
    unfold ins
    cases e : lt c x
    · rw [cond_false, List.cons_append, List.filter_cons, List.filter_cons, ins_fil h z p2]
    · rw [cond_true]
      refine fil_comm h (a := [c]) (b := x :: l) (fun a ha b hb => ?_) z
      rcases List.mem_singleton.1 ha with rfl
      rcases List.mem_cons.1 hb with rfl | hb
      · exact e
      · cases e2 : lt a b
        · rw [h.tr x b a (p1 b hb) e2] at e; cases e
        · rfl

theorem ins_stb (h : SW lt) {c : α} {xs ys : List α} (h1 : Stb lt xs ys) : Stb lt (xs ++ [c]) (ins lt c ys) :=
  ⟨ins_perm.trans (h1.perm.append_right _), ins_srt h h1.ord, fun z => by rw [ins_fil h z h1.ord, List.filter_append, List.filter_append, h1.fil]⟩

theorem srt_snoc {xs : List α} {c : α} : srt lt (xs ++ [c]) = ins lt c (srt lt xs) := by unfold srt; rw [List.foldl_append]; rfl

theorem srt_stb (h : SW lt) (xs : List α) : Stb lt xs (srt lt xs) := by
  rw [← List.reverse_reverse xs]
  generalize xs.reverse = r
  induction r with
  | nil => exact ⟨.refl _, .nil, fun _ => rfl⟩
  | cons c r ih => rw [List.reverse_cons, srt_snoc]; exact ins_stb h ih

theorem Stb.eq (h : SW lt) {xs ys : List α} (h1 : Stb lt xs ys) : ys = srt lt xs := h1.uniq h (srt_stb h xs)

theorem srt_id (h : SW lt) {xs : List α} (h1 : Srt lt xs) : srt lt xs = xs := ((Stb.refl h1).eq h).symm

theorem srt_len {xs : List α} (h : SW lt) : (srt lt xs).length = xs.length := (srt_stb h xs).perm.length_eq

theorem srt_app (h : SW lt) (a b : List α) : srt lt (srt lt a ++ srt lt b) = srt lt (a ++ b) := by
  have h1 := srt_stb h (srt lt a ++ srt lt b)
  refine Stb.eq h ⟨h1.perm.trans ((srt_stb h a).perm.append (srt_stb h b).perm), h1.ord, fun z => ?_⟩
  rw [h1.fil, List.filter_append, List.filter_append, (srt_stb h a).fil, (srt_stb h b).fil]

/-- A merge in two halves. -/
theorem merge_two (h : SW lt) {a1 a2 b1 b2 : List α} (ha : Srt lt (a1 ++ a2)) (hb : Srt lt (b1 ++ b2)) (h1 : Le lt a1 b2) (h2 : Lt lt b1 a2) : srt lt (a1 ++ b1) ++ srt lt (a2 ++ b2) = srt lt (a1 ++ a2 ++ (b1 ++ b2)) := by
  obtain ⟨p1, p2, p3⟩ := List.pairwise_append.1 ha
  obtain ⟨q1, q2, q3⟩ := List.pairwise_append.1 hb
  have hs := (srt_stb h (a1 ++ b1)).app (srt_stb h (a2 ++ b2)) (fun x hx y hy => by
    rcases List.mem_append.1 hx with hx | hx <;> rcases List.mem_append.1 hy with hy | hy
    · exact p3 x hx y hy
    · exact h1 x hx y hy
    · exact h.asym _ _ (h2 x hx y hy)
    · exact q3 x hx y hy)
  refine Stb.eq h ⟨hs.perm.trans ?_, hs.ord, fun z => (hs.fil z).trans ?_⟩
  · rw [List.append_assoc, List.append_assoc, ← List.append_assoc b1, ← List.append_assoc a2]
    exact (List.perm_append_comm.append_right _).append_left _
  · have e := fil_comm h h2 z
    simp only [List.filter_append] at e ⊢
    rw [List.append_assoc, ← List.append_assoc (b1.filter _), e]
    simp

end K
namespace K
variable {α : Type} {lt : α → α → Bool}

/-- Two elements change places. -/
def sw2 (xs : List α) (i j : Nat) : List α := match xs[i]?, xs[j]? with
  | some x, some y => (xs.set i y).set j x
  | _, _ => xs

theorem sw2_eq {xs : List α} {i j : Nat} {x y : α} (hi : xs[i]? = some x) (hj : xs[j]? = some y) : sw2 xs i j = (xs.set i y).set j x := by
  unfold sw2; rw [hi, hj]

theorem sw2_len {xs : List α} {i j : Nat} : (sw2 xs i j).length = xs.length := by
  unfold sw2; split <;> simp

theorem sw2_parts {P M Q : List α} {x y : α} {i j : Nat} (h1 : P.length = i) (h2 : i + 1 + M.length = j) : sw2 (P ++ x :: (M ++ y :: Q)) i j = P ++ y :: (M ++ x :: Q) := by
  have e1 : (P ++ x :: (M ++ y :: Q))[i]? = some x := by rw [List.getElem?_append_right (by omega)]; simp [h1]
  have e2 : (P ++ x :: (M ++ y :: Q))[j]? = some y := by
    rw [List.getElem?_append_right (by omega), show j - P.length = M.length + 1 by omega, List.getElem?_cons_succ, List.getElem?_append_right (Nat.le_refl _)]; simp
  rw [sw2_eq e1 e2, List.set_append_right _ _ (by omega), List.set_append_right _ _ (by omega)]
  congr 1
  rw [show i - P.length = 0 by omega, show j - P.length = M.length + 1 by omega, List.set_cons_zero, List.set_cons_succ, List.set_append_right _ _ (Nat.le_refl _), Nat.sub_self, List.set_cons_zero]

theorem sw2_comm {xs : List α} {i j : Nat} (h : i ≠ j) : sw2 xs i j = sw2 xs j i := by
  unfold sw2
  cases xs[i]? <;> cases xs[j]? <;> try rfl
  exact List.set_comm _ _ h

/-- n neighbours change places with n others. -/
def swr (a b : Nat) : Nat → List α → List α
  | 0, xs => xs
  | n + 1, xs => swr (a + 1) (b + 1) n (sw2 xs a b)

theorem swr_len : ∀ (n a b : Nat) (xs : List α), (swr a b n xs).length = xs.length
  | 0, _, _, _ => rfl
  | n + 1, a, b, xs => by rw [swr, swr_len, sw2_len]

theorem swr_parts : ∀ (X Y P Z Q : List α) (a b n : Nat), P.length = a → X.length = n → Y.length = n → a + n + Z.length = b → swr a b n (P ++ X ++ Z ++ Y ++ Q) = P ++ Y ++ Z ++ X ++ Q
  | [], Y, P, Z, Q, a, b, n, h1, h2, h3, h4 => by
    have : Y = [] := List.length_eq_zero_iff.1 (by rw [h3, ← h2]; rfl)
    subst this
    have : n = 0 := h2.symm
    subst this
    rfl
  | x :: X, [], P, Z, Q, a, b, n, h1, h2, h3, h4 => by rw [← h2] at h3; cases h3
  | x :: X, y :: Y, P, Z, Q, a, b, n, h1, h2, h3, h4 => by
    cases n with
    | zero => cases h2
    | succ n =>
      have h2 : X.length = n := Nat.succ.inj h2
      have h3 : Y.length = n := Nat.succ.inj h3
      have e : P ++ x :: X ++ Z ++ y :: Y ++ Q = P ++ x :: ((X ++ Z) ++ y :: (Y ++ Q)) := by simp
      rw [swr, e, sw2_parts h1 (by rw [List.length_append]; omega)]
      have e2 : P ++ y :: (X ++ Z ++ x :: (Y ++ Q)) = (P ++ [y]) ++ X ++ (Z ++ [x]) ++ Y ++ Q := by simp
      rw [e2, swr_parts X Y (P ++ [y]) (Z ++ [x]) Q (a + 1) (b + 1) n (by simp [h1]) h2 h3 (by simp; omega)]
      simp

/-- Two neighbouring parts change places. -/
def rotS (m i j : Nat) (xs : List α) : List α := xs.take (m - i) ++ ((xs.drop m).take j ++ ((xs.drop (m - i)).take i ++ xs.drop (m + j)))

theorem rotS_parts {P X Y Q : List α} {m i j : Nat} (h1 : P.length + i = m) (h2 : X.length = i) (h3 : Y.length = j) : rotS m i j (P ++ (X ++ (Y ++ Q))) = P ++ (Y ++ (X ++ Q)) := by
  subst h1 h2 h3
  unfold rotS
  rw [show P.length + X.length - X.length = P.length by omega, List.take_left, List.drop_left, List.take_left]
  have e1 : (P ++ (X ++ (Y ++ Q))).drop (P.length + X.length) = Y ++ Q := by
    rw [show P ++ (X ++ (Y ++ Q)) = (P ++ X) ++ (Y ++ Q) by simp, show P.length + X.length = (P ++ X).length by simp, List.drop_left]
  have e2 : (P ++ (X ++ (Y ++ Q))).drop (P.length + X.length + Y.length) = Q := by
    rw [show P ++ (X ++ (Y ++ Q)) = (P ++ X ++ Y) ++ Q by simp, show P.length + X.length + Y.length = (P ++ X ++ Y).length by simp; omega, List.drop_left]
  rw [e1, e2, List.take_left]

theorem parts4 (xs : List α) {m i j : Nat} (h1 : i ≤ m) (h2 : m + j ≤ xs.length) : ∃ P X Y Q, xs = P ++ (X ++ (Y ++ Q)) ∧ P.length + i = m ∧ X.length = i ∧ Y.length = j := by
  refine ⟨xs.take (m - i), (xs.drop (m - i)).take i, (xs.drop m).take j, xs.drop (m + j), ?_, by rw [List.length_take]; omega, by rw [List.length_take, List.length_drop]; omega, by rw [List.length_take, List.length_drop]; omega⟩
  have e1 : xs.drop (m + j) = (xs.drop m).drop j := by rw [List.drop_drop]
  have e2 : xs.drop m = (xs.drop (m - i)).drop i := by rw [List.drop_drop]; congr 1; omega
  rw [e1, List.take_append_drop, e2, List.take_append_drop, List.take_append_drop]

theorem rotS_len {xs : List α} {m i j : Nat} (h1 : i ≤ m) (h2 : m + j ≤ xs.length) : (rotS m i j xs).length = xs.length := by
  obtain ⟨P, X, Y, Q, rfl, e1, e2, e3⟩ := parts4 xs h1 h2
  rw [rotS_parts e1 e2 e3]
  simp; omega

theorem rotS_gt {xs : List α} {m i j : Nat} (h1 : i ≤ m) (h2 : m + j ≤ xs.length) (h : j < i) : rotS m (i - j) j (swr (m - i) m j xs) = rotS m i j xs := by
  obtain ⟨P, X, Y, Q, rfl, e1, e2, e3⟩ := parts4 xs h1 h2
  rw [rotS_parts e1 e2 e3]
  have ex : X = X.take j ++ X.drop j := (List.take_append_drop ..).symm
  have l1 : (X.take j).length = j := by rw [List.length_take]; omega
  have l2 : (X.drop j).length = i - j := by rw [List.length_drop]; omega
  generalize X.take j = A at ex l1
  generalize X.drop j = B at ex l2
  subst ex
  have e : P ++ ((A ++ B) ++ (Y ++ Q)) = P ++ A ++ B ++ Y ++ Q := by simp
  rw [e, swr_parts A Y P B Q (m - i) m j (by omega) l1 e3 (by omega)]
  have e' : P ++ Y ++ B ++ A ++ Q = (P ++ Y) ++ (B ++ (A ++ Q)) := by simp
  rw [e', rotS_parts (by rw [List.length_append]; omega) l2 l1]
  simp

theorem rotS_lt {xs : List α} {m i j : Nat} (h1 : i ≤ m) (h2 : m + j ≤ xs.length) (h : i < j) : rotS m i (j - i) (swr (m - i) (m + j - i) i xs) = rotS m i j xs := by
  obtain ⟨P, X, Y, Q, rfl, e1, e2, e3⟩ := parts4 xs h1 h2
  rw [rotS_parts e1 e2 e3]
  have ex : Y = Y.take (j - i) ++ Y.drop (j - i) := (List.take_append_drop ..).symm
  have l1 : (Y.take (j - i)).length = j - i := by rw [List.length_take]; omega
  have l2 : (Y.drop (j - i)).length = i := by rw [List.length_drop]; omega
  generalize Y.take (j - i) = A at ex l1
  generalize Y.drop (j - i) = B at ex l2
  subst ex
  have e : P ++ (X ++ ((A ++ B) ++ Q)) = P ++ X ++ A ++ B ++ Q := by simp
  rw [e, swr_parts X B P A Q (m - i) (m + j - i) i (by omega) e2 l2 (by omega)]
  have e' : P ++ B ++ A ++ X ++ Q = P ++ (B ++ (A ++ (X ++ Q))) := by simp
  rw [e', rotS_parts (by omega) l2 l1]
  simp

theorem rotS_eq {xs : List α} {m i : Nat} (h1 : i ≤ m) (h2 : m + i ≤ xs.length) : swr (m - i) m i xs = rotS m i i xs := by
  obtain ⟨P, X, Y, Q, rfl, e1, e2, e3⟩ := parts4 xs h1 h2
  rw [rotS_parts e1 e2 e3]
  have e : P ++ (X ++ (Y ++ Q)) = P ++ X ++ [] ++ Y ++ Q := by simp
  rw [e, swr_parts X Y P [] Q (m - i) m i (by omega) e2 e3 (by simp; omega)]
  simp

/-- An element goes down. -/
def sink (lt : α → α → Bool) (a : Nat) : Nat → List α → List α
  | 0, xs => xs
  | j + 1, xs => match xs[j + 1]?, xs[j]? with
    | some x, some y => bif decide (a < j + 1) && lt x y then sink lt a j (sw2 xs (j + 1) j) else xs
    | _, _ => xs

theorem sink_len (a : Nat) : ∀ (j : Nat) (xs : List α), (sink lt a j xs).length = xs.length
  | 0, _ => rfl
  | j + 1, xs => by
    unfold sink
    split
    · rename_i x y _ _
      cases decide (a < j + 1) && lt x y
      · rfl
      · rw [cond_true, sink_len, sw2_len]
    · rfl

/-- One more element into a sorted list, from behind. -/
theorem ins_app (h : SW lt) {c : α} {A B : List α} (h1 : Srt lt (A ++ B)) (h2 : ∀ a ∈ A, lt c a = false) : ins lt c (A ++ B) = A ++ ins lt c B := by
  induction A with
  | nil => rfl
  | cons x A ih =>
    rw [List.cons_append, ins, h2 x (List.mem_cons_self ..), cond_false, ih (List.pairwise_cons.1 h1).2 fun a ha => h2 a (List.mem_cons_of_mem _ ha)]
    rfl

theorem ins_none (h : SW lt) {c : α} {A : List α} (h1 : Srt lt A) (h2 : ∀ a ∈ A, lt c a = false) : ins lt c A = A ++ [c] := by
  have := ins_app h (A := A) (B := []) (by rw [List.append_nil]; exact h1) h2
  rw [List.append_nil] at this
  exact this

theorem ins_head {c : α} {D : List α} (hd : ∀ d ∈ D, lt c d = true) : ins lt c D = c :: D := by
  cases D with
  | nil => rfl
  | cons d D => rw [ins, hd d (List.mem_cons_self ..)]; rfl

theorem sink_stop (a : Nat) (xs : List α) : sink lt a a xs = xs := by
  cases a with
  | zero => rfl
  | succ j =>
    unfold sink
    split
    · rw [decide_eq_false (Nat.lt_irrefl _)]; rfl
    · rfl

theorem sink_parts (h : SW lt) (P Q : List α) : ∀ (r : List α) (D : List α) (c : α) (a j : Nat), P.length = a → a + r.length = j → Srt lt (r.reverse ++ D) → (∀ d ∈ D, lt c d = true) → sink lt a j (P ++ (r.reverse ++ (c :: (D ++ Q)))) = P ++ (ins lt c (r.reverse ++ D) ++ Q)
  | [], D, c, a, j, h1, h2, hs, hd => by
    have hj : j = a := by rw [← h2]; rfl
    subst hj
    rw [sink_stop, List.reverse_nil, List.nil_append, List.nil_append, ins_head hd]
    rfl
  | x :: r, D, c, a, j, h1, h2, hs, hd => by
    have hl : (x :: r).length = r.length + 1 := rfl
    obtain ⟨k, rfl⟩ : ∃ k, j = k + 1 := ⟨a + r.length, by omega⟩
    have e1 : P ++ ((x :: r).reverse ++ (c :: (D ++ Q))) = (P ++ r.reverse) ++ x :: ([] ++ c :: (D ++ Q)) := by simp
    have hk : (P ++ r.reverse).length = k := by simp; omega
    have ej : ((P ++ r.reverse) ++ x :: ([] ++ c :: (D ++ Q)))[k + 1]? = some c := by
      rw [List.getElem?_append_right (by omega), hk, show k + 1 - k = 1 by omega]; rfl
    have ek : ((P ++ r.reverse) ++ x :: ([] ++ c :: (D ++ Q)))[k]? = some x := by
      rw [List.getElem?_append_right (by omega), hk, Nat.sub_self]; rfl
    rw [e1, sink, ej, ek]
    simp only
    rw [decide_eq_true (show a < k + 1 by omega), Bool.true_and]
    have er : (x :: r).reverse ++ D = r.reverse ++ x :: D := by simp
    cases hc : lt c x
    · rw [cond_false]
      rw [er] at hs ⊢
      have hx : ∀ y ∈ r.reverse, lt x y = false := fun y hy => (List.pairwise_append.1 hs).2.2 y hy x (List.mem_cons_self ..)
      rw [ins_app h hs fun y hy => h.tr _ _ _ (hx y hy) hc, ins, hc, cond_false, ins_head hd]
      simp
    · rw [cond_true, sw2_comm (by omega), sw2_parts hk (by simp)]
      have e2 : (P ++ r.reverse) ++ c :: ([] ++ x :: (D ++ Q)) = P ++ (r.reverse ++ (c :: ((x :: D) ++ Q))) := by simp
      rw [e2, sink_parts h P Q r (x :: D) c a k h1 (by omega) (by rw [← er]; exact hs) (fun d hd' => by
        rcases List.mem_cons.1 hd' with rfl | hd'
        · exact hc
        · exact hd d hd'), er]

/-- A part made anew. -/
def seg (a b : Nat) (f : List α → List α) (xs : List α) : List α := xs.take a ++ (f ((xs.drop a).take (b - a)) ++ xs.drop b)

theorem seg_parts {P M Q : List α} {a b : Nat} {f : List α → List α} (h1 : P.length = a) (h2 : a + M.length = b) : seg a b f (P ++ (M ++ Q)) = P ++ (f M ++ Q) := by
  subst h1 h2
  unfold seg
  rw [List.take_left, List.drop_left, Nat.add_sub_cancel_left, List.take_left]
  congr 2
  rw [← List.drop_drop, List.drop_left, List.drop_left]

theorem parts3 (xs : List α) {a b : Nat} (h1 : a ≤ b) (h2 : b ≤ xs.length) : ∃ P M Q, xs = P ++ (M ++ Q) ∧ P.length = a ∧ a + M.length = b := by
  refine ⟨xs.take a, (xs.drop a).take (b - a), xs.drop b, ?_, by rw [List.length_take]; omega, by rw [List.length_take, List.length_drop]; omega⟩
  have e1 : xs.drop b = (xs.drop a).drop (b - a) := by rw [List.drop_drop]; congr 1; omega
  rw [e1, List.take_append_drop, List.take_append_drop]

theorem seg_len (h : SW lt) {a b : Nat} {xs : List α} (h1 : a ≤ b) (h2 : b ≤ xs.length) : (seg a b (srt lt) xs).length = xs.length := by
  obtain ⟨P, M, Q, rfl, e1, e2⟩ := parts3 xs h1 h2
  rw [seg_parts e1 e2]
  simp [srt_len h]

/-- Sorting by insertion. -/
def isort (lt : α → α → Bool) (a : Nat) : Nat → Nat → List α → List α
  | 0, _, xs => xs
  | n + 1, i, xs => isort lt a n (i + 1) (sink lt a i xs)

theorem isort_parts (h : SW lt) (P : List α) : ∀ (n : Nat) (L M Q : List α) (i a : Nat), P.length = a → a + L.length = i → M.length = n → isort lt a n i (P ++ (srt lt L ++ (M ++ Q))) = P ++ (srt lt (L ++ M) ++ Q)
  | 0, L, [], Q, i, a, _, _, _ => by simp [isort]
  | 0, L, x :: M, Q, i, a, _, _, h3 => by cases h3
  | n + 1, L, [], Q, i, a, _, _, h3 => by cases h3
  | n + 1, L, x :: M, Q, i, a, h1, h2, h3 => by
    have e := sink_parts h P (M ++ Q) (srt lt L).reverse [] x a i h1 (by rw [List.length_reverse, srt_len h, h2]) (by rw [List.reverse_reverse, List.append_nil]; exact (srt_stb h L).ord) (fun d hd => by cases hd)
    rw [List.reverse_reverse, List.append_nil] at e
    rw [isort, List.cons_append, ← List.nil_append (M ++ Q), e, ← srt_snoc, isort_parts h P n (L ++ [x]) M Q (i + 1) a h1 (by simp; omega) (Nat.succ.inj h3)]
    simp

theorem isort_seg (h : SW lt) {a b : Nat} {xs : List α} (h1 : a ≤ b) (h2 : b ≤ xs.length) : isort lt a (b - (a + 1)) (a + 1) xs = seg a b (srt lt) xs := by
  obtain ⟨P, M, Q, rfl, e1, e2⟩ := parts3 xs h1 h2
  rw [seg_parts e1 e2]
  cases M with
  | nil =>
    have : b - (a + 1) = 0 := by simp at e2; omega
    rw [this]; rfl
  | cons x M =>
    have := isort_parts h P (b - (a + 1)) [x] M Q (a + 1) a e1 (by simp) (by simp at e2; omega)
    exact this

end K
namespace K
variable {α : Type} {lt : α → α → Bool}

/-- Halving: the place where p ends. -/
def bs (p : Nat → Bool) (i j : Nat) : Nat :=
  if i < j then bif p ((i + j) / 2) then bs p ((i + j) / 2 + 1) j else bs p i ((i + j) / 2) else i
termination_by j - i

theorem bs_spec (p : Nat → Bool) (i j : Nat) : i ≤ j → i ≤ bs p i j ∧ bs p i j ≤ j ∧ (bs p i j = i ∨ ∃ k, bs p i j = k + 1 ∧ i ≤ k ∧ p k = true) ∧ (bs p i j = j ∨ p (bs p i j) = false) := by
  intro h
  induction i, j using bs.induct (p := p) with
  | case1 i j hlt hp ih =>
    obtain ⟨a1, a2, a3, a4⟩ := ih (by omega)
    rw [bs, if_pos hlt, hp, cond_true]
    refine ⟨by omega, a2, ?_, a4⟩
    rcases a3 with e | ⟨k, e1, e2, e3⟩
    · exact .inr ⟨(i + j) / 2, e, by omega, hp⟩
    · exact .inr ⟨k, e1, by omega, e3⟩
  | case2 i j hlt hp ih =>
    obtain ⟨a1, a2, a3, a4⟩ := ih (by omega)
    have hp : p ((i + j) / 2) = false := by simpa using hp
    rw [bs, if_pos hlt, hp, cond_false]
    refine ⟨a1, by omega, a3, ?_⟩
    rcases a4 with e | e
    · exact .inr (by rw [e]; exact hp)
    · exact .inr e
  | case3 i j hlt =>
    rw [bs, if_neg hlt]
    exact ⟨Nat.le_refl _, h, .inl rfl, .inl (by omega)⟩

/-- An element goes up by n places. -/
def bubU : Nat → Nat → List α → List α
  | 0, _, xs => xs
  | n + 1, k, xs => bubU n (k + 1) (sw2 xs k (k + 1))

/-- An element goes down by n places. -/
def bubD : Nat → Nat → List α → List α
  | 0, _, xs => xs
  | n + 1, k, xs => bubD n (k - 1) (sw2 xs k (k - 1))

theorem bubU_parts : ∀ (M P Q : List α) (x : α) (k n : Nat), P.length = k → M.length = n → bubU n k (P ++ x :: (M ++ Q)) = P ++ (M ++ x :: Q)
  | [], P, Q, x, k, n, h1, h2 => by cases h2; rfl
  | y :: M, P, Q, x, k, n, h1, h2 => by
    cases n with
    | zero => cases h2
    | succ n =>
      have e : P ++ x :: (y :: M ++ Q) = P ++ x :: ([] ++ y :: (M ++ Q)) := rfl
      rw [bubU, e, sw2_parts h1 (by simp)]
      have e2 : P ++ y :: ([] ++ x :: (M ++ Q)) = (P ++ [y]) ++ x :: (M ++ Q) := by simp
      rw [e2, bubU_parts M (P ++ [y]) Q x (k + 1) n (by simp [h1]) (Nat.succ.inj h2)]
      simp

theorem bubD_parts : ∀ (r P Q : List α) (x : α) (k n : Nat), P.length + n = k → r.length = n → bubD n k (P ++ (r.reverse ++ x :: Q)) = P ++ x :: (r.reverse ++ Q)
  | [], P, Q, x, k, n, h1, h2 => by cases h2; rfl
  | y :: r, P, Q, x, k, n, h1, h2 => by
    cases n with
    | zero => cases h2
    | succ n =>
      have h2 : r.length = n := Nat.succ.inj h2
      have e : P ++ ((y :: r).reverse ++ x :: Q) = (P ++ r.reverse) ++ y :: ([] ++ x :: Q) := by simp
      rw [bubD, sw2_comm (by omega), e, sw2_parts (by simp; omega) (by simp; omega)]
      have e2 : (P ++ r.reverse) ++ x :: ([] ++ y :: Q) = P ++ (r.reverse ++ x :: (y :: Q)) := by simp
      rw [e2, bubD_parts r P (y :: Q) x (k - 1) n (by omega) h2]
      simp

theorem srt_cons (h : SW lt) {x : α} {A B : List α} (h1 : Srt lt (A ++ B)) (h2 : Lt lt A [x]) (h3 : Le lt [x] B) : srt lt (x :: (A ++ B)) = A ++ x :: B := by
  have h0 : Srt lt (A ++ x :: B) := by
    obtain ⟨p1, p2, p3⟩ := List.pairwise_append.1 h1
    refine List.pairwise_append.2 ⟨p1, List.pairwise_cons.2 ⟨fun y hy => h3 x (List.mem_singleton.2 rfl) y hy, p2⟩, fun a ha b hb => ?_⟩
    rcases List.mem_cons.1 hb with rfl | hb
    · exact h.asym _ _ (h2 a ha b (List.mem_singleton.2 rfl))
    · exact p3 a ha b hb
  refine (Stb.eq h ⟨?_, h0, fun z => ?_⟩).symm
  · exact List.perm_middle
  · have := fil_comm h h2 z
    rw [show A ++ x :: B = (A ++ [x]) ++ B by simp, show x :: (A ++ B) = ([x] ++ A) ++ B by simp, List.filter_append, this, ← List.filter_append]

theorem srt_snoc2 (h : SW lt) {x : α} {A B : List α} (h1 : Srt lt (A ++ B)) (h2 : Le lt A [x]) (h3 : Lt lt [x] B) : srt lt (A ++ B ++ [x]) = A ++ x :: B := by
  rw [srt_snoc, srt_id h h1, ins_app h h1 fun a ha => h2 a ha x (List.mem_singleton.2 rfl), ins_head fun d hd => h3 x (List.mem_singleton.2 rfl) d hd]

/-- A part is sorted. -/
def SrtAt (lt : α → α → Bool) (a b : Nat) (xs : List α) : Prop := Srt lt ((xs.drop a).take (b - a))

theorem SrtAt_parts {P M Q : List α} {a b : Nat} (h1 : P.length = a) (h2 : a + M.length = b) : SrtAt lt a b (P ++ (M ++ Q)) ↔ Srt lt M := by
  subst h1 h2
  unfold SrtAt
  rw [List.drop_left, Nat.add_sub_cancel_left, List.take_left]

theorem parts2 (xs : List α) {a : Nat} (h1 : a ≤ xs.length) : ∃ P Q, xs = P ++ Q ∧ P.length = a := ⟨xs.take a, xs.drop a, (List.take_append_drop ..).symm, by rw [List.length_take]; omega⟩

theorem at_parts {P Q : List α} {i : Nat} (h : P.length ≤ i) : (P ++ Q)[i]? = Q[i - P.length]? := List.getElem?_append_right h

/-- One element before a sorted part. -/
theorem sym_one (h : SW lt) {a b : Nat} {xs : List α} {x : α} (hb : b ≤ xs.length) (hab : a + 1 ≤ b) (hx : xs[a]? = some x) (hs : SrtAt lt (a + 1) b xs) (p : Nat → Bool) (hp : ∀ k y, xs[k]? = some y → p k = lt y x) :
    bubU (bs p (a + 1) b - 1 - a) a xs = seg a b (srt lt) xs := by
  obtain ⟨s1, s2, s3, s4⟩ := bs_spec p (a + 1) b hab
  generalize bs p (a + 1) b = i at s1 s2 s3 s4
  obtain ⟨P, M, Q, rfl, e1, e2⟩ := parts3 xs (show a ≤ b by omega) hb
  cases M with
  | nil => simp at e2; omega
  | cons x' M =>
    have hx' : x' = x := by
      rw [at_parts (by omega), e1, Nat.sub_self] at hx
      simpa using hx
    subst hx'
    rw [show P ++ (x' :: M ++ Q) = (P ++ [x']) ++ (M ++ Q) by simp, SrtAt_parts (by simp [e1]) (by simp at e2; omega)] at hs
    have hM : a + 1 + M.length = b := by simp at e2; omega
    obtain ⟨A, B, rfl, hA⟩ := parts2 M (show i - (a + 1) ≤ M.length by omega)
    have hl : A.length + B.length = (A ++ B).length := by simp
    obtain ⟨q1, q2, q3⟩ := List.pairwise_append.1 hs
    have at2 : ∀ k, a + 1 ≤ k → k < b → ∀ y, (A ++ B)[k - (a + 1)]? = some y → (P ++ ((x' :: (A ++ B)) ++ Q))[k]? = some y := fun k h1 h2 y hy => by
      rw [at_parts (by omega), e1, show k - a = k - (a + 1) + 1 by omega, List.cons_append, List.getElem?_cons_succ, List.getElem?_append_left (by omega)]
      exact hy
    have hLt : Lt lt A [x'] := by
      rcases s3 with e | ⟨k, e3, e4, e5⟩
      · have : A = [] := List.length_eq_zero_iff.1 (by omega)
        subst this
        intro a ha; cases ha
      · intro c hc d hd
        rcases List.mem_singleton.1 hd with rfl
        have hz : A[A.length - 1]? = some A[A.length - 1] := List.getElem?_eq_getElem (by omega)
        have h0 := at2 k e4 (by omega) A[A.length - 1] (by rw [List.getElem?_append_left (by omega), show k - (a + 1) = A.length - 1 by omega]; exact hz)
        rw [hp k _ h0] at e5
        generalize A[A.length - 1] = z at e5 hz
        obtain ⟨j, hj, hj2⟩ := List.mem_iff_getElem.1 hc
        by_cases hlast : j = A.length - 1
        · subst hlast
          rw [List.getElem?_eq_getElem hj] at hz
          rw [← hj2, Option.some.inj hz]; exact e5
        · have hle : lt z c = false := by
            have := List.pairwise_iff_getElem.1 q1 j (A.length - 1) hj (by omega) (by omega)
            rw [hj2] at this
            have hz2 : A[A.length - 1] = z := by
              have := List.getElem?_eq_getElem (l := A) (i := A.length - 1) (by omega)
              rw [hz] at this; exact (Option.some.inj this).symm
            rw [hz2] at this; exact this
          cases hcd : lt c d
          · rw [h.tr d c z hcd hle] at e5; cases e5
          · rfl
    have hLe : Le lt [x'] B := by
      intro c hc d hd
      rcases List.mem_singleton.1 hc with rfl
      rcases s4 with e | e
      · have : B = [] := List.length_eq_zero_iff.1 (by omega)
        subst this; cases hd
      · cases B with
        | nil => cases hd
        | cons z B =>
          have hlB : (A ++ z :: B).length = A.length + (B.length + 1) := by simp
          have h0 := at2 i (by omega) (by omega) z (by rw [show i - (a + 1) = A.length by omega, List.getElem?_append_right (Nat.le_refl _), Nat.sub_self]; rfl)
          rw [hp i _ h0] at e
          rcases List.mem_cons.1 hd with rfl | hd
          · exact e
          · exact h.tr _ _ _ e ((List.pairwise_cons.1 q2).1 d hd)
    rw [seg_parts e1 e2, srt_cons h hs hLt hLe]
    have e : P ++ ((x' :: (A ++ B)) ++ Q) = P ++ x' :: (A ++ (B ++ Q)) := by simp
    rw [e, bubU_parts A P (B ++ Q) x' a (i - 1 - a) e1 (by omega)]
    simp

/-- One element behind a sorted part. -/
theorem sym_last (h : SW lt) {a m : Nat} {xs : List α} {x : α} (hb : m + 1 ≤ xs.length) (hab : a ≤ m) (hx : xs[m]? = some x) (hs : SrtAt lt a m xs) (p : Nat → Bool) (hp : ∀ k y, xs[k]? = some y → p k = !lt x y) :
    bubD (m - bs p a m) m xs = seg a (m + 1) (srt lt) xs := by
  obtain ⟨s1, s2, s3, s4⟩ := bs_spec p a m hab
  generalize bs p a m = i at s1 s2 s3 s4
  obtain ⟨P, M0, Q, rfl, e1, e2⟩ := parts3 xs (show a ≤ m + 1 by omega) hb
  obtain ⟨M, N, rfl, hM⟩ := parts2 M0 (show m - a ≤ M0.length by omega)
  have hN : N.length = 1 := by simp at e2; omega
  obtain ⟨x', rfl⟩ := List.length_eq_one_iff.1 hN
  have hx' : x' = x := by
    rw [at_parts (by omega), e1, List.append_assoc, at_parts (by omega), hM, Nat.sub_self] at hx
    simpa using hx
  subst hx'
  rw [show P ++ ((M ++ [x']) ++ Q) = P ++ (M ++ ([x'] ++ Q)) by simp, SrtAt_parts e1 (by omega)] at hs
  obtain ⟨A, B, rfl, hA⟩ := parts2 M (show i - a ≤ M.length by omega)
  have hl : A.length + B.length = (A ++ B).length := by simp
  obtain ⟨q1, q2, q3⟩ := List.pairwise_append.1 hs
  have at2 : ∀ k, a ≤ k → k < m → ∀ y, (A ++ B)[k - a]? = some y → (P ++ ((A ++ B ++ [x']) ++ Q))[k]? = some y := fun k h1 h2 y hy => by
    rw [at_parts (by omega), e1, List.append_assoc, List.getElem?_append_left (by omega)]
    exact hy
  have hLe : Le lt A [x'] := by
    rcases s3 with e | ⟨k, e3, e4, e5⟩
    · have : A = [] := List.length_eq_zero_iff.1 (by omega)
      subst this
      intro a ha; cases ha
    · intro c hc d hd
      rcases List.mem_singleton.1 hd with rfl
      have hz : A[A.length - 1]? = some A[A.length - 1] := List.getElem?_eq_getElem (by omega)
      have h0 := at2 k e4 (by omega) A[A.length - 1] (by rw [List.getElem?_append_left (by omega), show k - a = A.length - 1 by omega]; exact hz)
      rw [hp k _ h0, Bool.not_eq_true'] at e5
      generalize hzz : A[A.length - 1] = z at e5 hz
      obtain ⟨j, hj, hj2⟩ := List.mem_iff_getElem.1 hc
      by_cases hlast : j = A.length - 1
      · subst hlast
        rw [← hj2, hzz]; exact e5
      · have hle := List.pairwise_iff_getElem.1 q1 j (A.length - 1) hj (by omega) (by omega)
        rw [hj2, hzz] at hle
        exact h.tr c z d hle e5
  have hLt : Lt lt [x'] B := by
    intro c hc d hd
    rcases List.mem_singleton.1 hc with rfl
    rcases s4 with e | e
    · have : B = [] := List.length_eq_zero_iff.1 (by omega)
      subst this; cases hd
    · cases B with
      | nil => cases hd
      | cons z B =>
        have hlB : (A ++ z :: B).length = A.length + (B.length + 1) := by simp
        have h0 := at2 i (by omega) (by omega) z (by rw [show i - a = A.length by omega, List.getElem?_append_right (Nat.le_refl _), Nat.sub_self]; rfl)
        rw [hp i _ h0, Bool.not_eq_false'] at e
        rcases List.mem_cons.1 hd with rfl | hd
        · exact e
        · cases hcd : lt c d
          · rw [h.tr z d c ((List.pairwise_cons.1 q2).1 d hd) hcd] at e; cases e
          · rfl
  rw [seg_parts e1 e2, srt_snoc2 h hs hLe hLt]
  have e : P ++ ((A ++ B ++ [x']) ++ Q) = (P ++ A) ++ (B.reverse.reverse ++ x' :: Q) := by simp
  rw [e, bubD_parts B.reverse (P ++ A) Q x' m (m - i) (by rw [List.length_append]; omega) (by rw [List.length_reverse]; omega)]
  simp

end K
namespace K
variable {α : Type} {lt : α → α → Bool}

theorem Le_ends (h : SW lt) {A B : List α} {x y : α} (hA : Srt lt (A ++ [x])) (hB : Srt lt (y :: B)) (e : lt y x = false) : Le lt (A ++ [x]) (y :: B) := by
  intro a ha b hb
  have h1 : lt x a = false := by
    rcases List.mem_append.1 ha with ha | ha
    · exact (List.pairwise_append.1 hA).2.2 a ha x (List.mem_singleton.2 rfl)
    · rcases List.mem_singleton.1 ha with rfl; exact h.irr _
  have h2 : lt b y = false := by
    rcases List.mem_cons.1 hb with rfl | hb
    · exact h.irr _
    · exact (List.pairwise_cons.1 hB).1 b hb
  exact h.tr _ _ _ (h.tr _ _ _ h1 e) h2

theorem Lt_ends (h : SW lt) {A B : List α} {x y : α} (hA : Srt lt (A ++ [x])) (hB : Srt lt (y :: B)) (e : lt x y = true) : Lt lt (A ++ [x]) (y :: B) := by
  intro a ha b hb
  have h1 : lt x a = false := by
    rcases List.mem_append.1 ha with ha | ha
    · exact (List.pairwise_append.1 hA).2.2 a ha x (List.mem_singleton.2 rfl)
    · rcases List.mem_singleton.1 ha with rfl; exact h.irr _
  have h2 : lt b y = false := by
    rcases List.mem_cons.1 hb with rfl | hb
    · exact h.irr _
    · exact (List.pairwise_cons.1 hB).1 b hb
  cases hab : lt a b
  · rw [h.tr y b x h2 (h.tr b a x hab h1)] at e; cases e
  · rfl

theorem Le_of (h : SW lt) {A B : List α} (hA : Srt lt A) (hB : Srt lt B) (e : A = [] ∨ B = [] ∨ ∃ x y, A[A.length - 1]? = some x ∧ B[0]? = some y ∧ lt y x = false) : Le lt A B := by
  rcases e with rfl | rfl | ⟨x, y, hx, hy, e⟩
  · intro a ha; cases ha
  · intro a _ b hb; cases hb
  · rcases List.eq_nil_or_concat A with rfl | ⟨A', x', rfl⟩
    · cases hx
    · cases B with
      | nil => cases hy
      | cons y' B =>
        rw [List.concat_eq_append] at hx hA ⊢
        rw [List.length_append, List.length_singleton, Nat.add_sub_cancel, List.getElem?_append_right (Nat.le_refl _), Nat.sub_self] at hx
        cases hx; cases hy
        exact Le_ends h hA hB e

theorem Lt_of (h : SW lt) {A B : List α} (hA : Srt lt A) (hB : Srt lt B) (e : A = [] ∨ B = [] ∨ ∃ x y, A[A.length - 1]? = some x ∧ B[0]? = some y ∧ lt x y = true) : Lt lt A B := by
  rcases e with rfl | rfl | ⟨x, y, hx, hy, e⟩
  · intro a ha; cases ha
  · intro a _ b hb; cases hb
  · rcases List.eq_nil_or_concat A with rfl | ⟨A', x', rfl⟩
    · cases hx
    · cases B with
      | nil => cases hy
      | cons y' B =>
        rw [List.concat_eq_append] at hx hA ⊢
        rw [List.length_append, List.length_singleton, Nat.add_sub_cancel, List.getElem?_append_right (Nat.le_refl _), Nat.sub_self] at hx
        cases hx; cases hy
        exact Lt_ends h hA hB e

theorem seg_id (h : SW lt) {a b : Nat} {xs : List α} (h1 : a ≤ b) (h2 : b ≤ xs.length) (hs : SrtAt lt a b xs) : seg a b (srt lt) xs = xs := by
  obtain ⟨P, M, Q, rfl, e1, e2⟩ := parts3 xs h1 h2
  rw [seg_parts e1 e2, srt_id h ((SrtAt_parts e1 e2).1 hs)]

theorem rotS_zeroL {m j : Nat} {xs : List α} (h2 : m + j ≤ xs.length) : rotS m 0 j xs = xs := by
  obtain ⟨P, X, Y, Q, rfl, e1, e2, e3⟩ := parts4 xs (Nat.zero_le m) h2
  have : X = [] := List.length_eq_zero_iff.1 e2
  subst this
  rw [rotS_parts e1 e2 e3]; rfl

theorem rotS_zeroR {m i : Nat} {xs : List α} (h1 : i ≤ m) (h2 : m ≤ xs.length) : rotS m i 0 xs = xs := by
  obtain ⟨P, X, Y, Q, rfl, e1, e2, e3⟩ := parts4 xs h1 (j := 0) (by omega)
  have : Y = [] := List.length_eq_zero_iff.1 e3
  subst this
  rw [rotS_parts e1 e2 e3]; rfl

/-- The two halves of a merge. -/
structure SymOK (lt : α → α → Bool) (a m b s e : Nat) (xs : List α) : Prop where
  has : a ≤ s
  hsm : s ≤ m
  hme : m ≤ e
  heb : e ≤ b
  hsd : s ≤ (a + b) / 2
  hde : (a + b) / 2 ≤ e
  heq : e + s = (a + b) / 2 + m
  s1 : SrtAt lt a s (rotS m (m - s) (e - m) xs)
  s2 : SrtAt lt s ((a + b) / 2) (rotS m (m - s) (e - m) xs)
  s3 : SrtAt lt ((a + b) / 2) e (seg a ((a + b) / 2) (srt lt) (rotS m (m - s) (e - m) xs))
  s4 : SrtAt lt e b (seg a ((a + b) / 2) (srt lt) (rotS m (m - s) (e - m) xs))
  res : seg ((a + b) / 2) b (srt lt) (seg a ((a + b) / 2) (srt lt) (rotS m (m - s) (e - m) xs)) = seg a b (srt lt) xs

theorem sym_two (h : SW lt) {a m b s0 r0 : Nat} {xs : List α} (hb : b ≤ xs.length) (ham : a < m) (hmb : m < b) (h1 : SrtAt lt a m xs) (h2 : SrtAt lt m b xs)
    (h0 : ((a + b) / 2 < m ∧ s0 = (a + b) / 2 + m - b ∧ r0 = (a + b) / 2) ∨ (m ≤ (a + b) / 2 ∧ s0 = a ∧ r0 = m)) (p : Nat → Bool)
    (hp : ∀ k x y, xs[k]? = some x → xs[(a + b) / 2 + m - 1 - k]? = some y → p k = !lt y x) :
    SymOK lt a m b (bs p s0 r0) ((a + b) / 2 + m - bs p s0 r0) xs := by
  obtain ⟨t1, t2, t3, t4⟩ := bs_spec p s0 r0 (by omega)
  generalize bs p s0 r0 = s at t1 t2 t3 t4
  generalize hd : (a + b) / 2 = d at h0 hp t1 t2 t3 t4
  have hd1 : 2 * d ≤ a + b := by omega
  have hd2 : a + b ≤ 2 * d + 1 := by omega
  generalize he : d + m - s = e
  have q1 : a ≤ s := by omega
  have q2 : s ≤ m := by omega
  have q3 : m ≤ e := by omega
  have q4 : e ≤ b := by omega
  have q5 : s ≤ d := by omega
  have q6 : d ≤ e := by omega
  have q7 : e + s = d + m := by omega
  obtain ⟨P, AB, Q, rfl, e1, e2⟩ := parts3 xs (show a ≤ b by omega) hb
  obtain ⟨A, B, rfl, hA⟩ := parts2 AB (show m - a ≤ AB.length by omega)
  obtain ⟨A1, A2, rfl, hA1⟩ := parts2 A (show s - a ≤ A.length by omega)
  obtain ⟨B1, B2, rfl, hB1⟩ := parts2 B (show e - m ≤ B.length by rw [List.length_append] at e2; omega)
  simp only [List.length_append] at e2 hA
  have l2 : A2.length = m - s := by omega
  have l4 : B2.length = b - e := by omega
  have hsA : Srt lt (A1 ++ A2) := (SrtAt_parts (b := m) (Q := (B1 ++ B2) ++ Q) e1 (by rw [List.length_append]; omega)).1 (by rw [← List.append_assoc (A1 ++ A2)]; exact h1)
  have hsB : Srt lt (B1 ++ B2) := (SrtAt_parts (a := m) (b := b) (P := P ++ (A1 ++ A2)) (Q := Q) (by simp only [List.length_append]; omega) (by rw [List.length_append]; omega)).1 (by rw [List.append_assoc P, ← List.append_assoc (A1 ++ A2)]; exact h2)
  obtain ⟨pa1, pa2, pa3⟩ := List.pairwise_append.1 hsA
  obtain ⟨pb1, pb2, pb3⟩ := List.pairwise_append.1 hsB
  have hLe : Le lt A1 B2 := by
    refine Le_of h pa1 pb2 ?_
    rcases t3 with t3 | ⟨k, k1, k2, k3⟩
    · rcases h0 with ⟨g1, g2, g3⟩ | ⟨g1, g2, g3⟩
      · exact .inr (.inl (List.length_eq_zero_iff.1 (by omega)))
      · exact .inl (List.length_eq_zero_iff.1 (by omega))
    · right; right
      have hx : A1[A1.length - 1]? = some A1[A1.length - 1] := List.getElem?_eq_getElem (by omega)
      have hy : B2[0]? = some B2[0] := List.getElem?_eq_getElem (by omega)
      generalize A1[A1.length - 1] = x at hx
      generalize B2[0] = y at hy
      refine ⟨x, y, hx, hy, ?_⟩
      have := hp k x y (by
        rw [at_parts (by omega), List.append_assoc, List.append_assoc, List.getElem?_append_left (by omega), show k - P.length = A1.length - 1 by omega]; exact hx) (by
        rw [show d + m - 1 - k = e by omega, at_parts (by omega), List.append_assoc, List.append_assoc, at_parts (by omega), at_parts (by omega), List.append_assoc, at_parts (by omega), List.getElem?_append_left (by omega), show e - P.length - A1.length - A2.length - B1.length = 0 by omega]; exact hy)
      rw [k3] at this
      simpa using this.symm
  have hLt : Lt lt B1 A2 := by
    refine Lt_of h pb1 pa2 ?_
    rcases t4 with t4 | t4
    · rcases h0 with ⟨g1, g2, g3⟩ | ⟨g1, g2, g3⟩
      · exact .inl (List.length_eq_zero_iff.1 (by omega))
      · exact .inr (.inl (List.length_eq_zero_iff.1 (by omega)))
    · by_cases hr : s = r0
      · rcases h0 with ⟨g1, g2, g3⟩ | ⟨g1, g2, g3⟩
        · exact .inl (List.length_eq_zero_iff.1 (by omega))
        · exact .inr (.inl (List.length_eq_zero_iff.1 (by omega)))
      · right; right
        have hx : B1[B1.length - 1]? = some B1[B1.length - 1] := List.getElem?_eq_getElem (by omega)
        have hy : A2[0]? = some A2[0] := List.getElem?_eq_getElem (by omega)
        generalize B1[B1.length - 1] = x at hx
        generalize A2[0] = y at hy
        refine ⟨x, y, hx, hy, ?_⟩
        have := hp s y x (by
          rw [at_parts (by omega), List.append_assoc, List.append_assoc, at_parts (by omega), List.getElem?_append_left (by omega), show s - P.length - A1.length = 0 by omega]; exact hy) (by
          rw [show d + m - 1 - s = e - 1 by omega, at_parts (by omega), List.append_assoc, List.append_assoc, at_parts (by omega), at_parts (by omega), List.append_assoc, List.getElem?_append_left (by omega), show e - 1 - P.length - A1.length - A2.length = B1.length - 1 by omega]; exact hx)
        rw [t4] at this
        simpa using this.symm
  have ex : P ++ (A1 ++ A2 ++ (B1 ++ B2) ++ Q) = (P ++ A1) ++ (A2 ++ (B1 ++ (B2 ++ Q))) := by simp
  have er : rotS m (m - s) (e - m) (P ++ (A1 ++ A2 ++ (B1 ++ B2) ++ Q)) = P ++ (A1 ++ (B1 ++ (A2 ++ (B2 ++ Q)))) := by
    rw [ex, rotS_parts (by rw [List.length_append]; omega) l2 hB1]
    simp
  have ez : seg a d (srt lt) (P ++ (A1 ++ (B1 ++ (A2 ++ (B2 ++ Q))))) = P ++ (srt lt (A1 ++ B1) ++ (A2 ++ (B2 ++ Q))) := by
    rw [← List.append_assoc A1, seg_parts e1 (by rw [List.length_append]; omega)]
  have hln : (srt lt (A1 ++ B1)).length = d - a := by rw [srt_len h, List.length_append]; omega
  have ey : seg d b (srt lt) (P ++ (srt lt (A1 ++ B1) ++ (A2 ++ (B2 ++ Q)))) = P ++ (srt lt (A1 ++ B1) ++ (srt lt (A2 ++ B2) ++ Q)) := by
    rw [← List.append_assoc A2, ← List.append_assoc P, seg_parts (by rw [List.length_append]; omega) (by rw [List.length_append]; omega), List.append_assoc]
  refine ⟨q1, q2, q3, q4, hd ▸ q5, hd ▸ q6, hd ▸ q7, ?_, ?_, ?_, ?_, ?_⟩ <;> (try rw [hd]) <;> rw [er]
  · exact (SrtAt_parts e1 (by omega)).2 pa1
  · rw [← List.append_assoc P]
    exact (SrtAt_parts (by rw [List.length_append]; omega) (by omega)).2 pb1
  · rw [ez, ← List.append_assoc P]
    exact (SrtAt_parts (by rw [List.length_append]; omega) (by omega)).2 pa2
  · rw [ez, ← List.append_assoc P, ← List.append_assoc (P ++ _)]
    exact (SrtAt_parts (by simp only [List.length_append]; omega) (by omega)).2 pb2
  · rw [ez, ey, seg_parts e1 (by simp only [List.length_append]; omega), ← merge_two h hsA hsB hLe hLt]
    simp

end K
namespace K
variable {α : Type} {lt : α → α → Bool}

/-- Parts of k elements, each sorted. -/
def runs (lt : α → α → Bool) (k : Nat) (xs : List α) : List α :=
  if h : 0 < k ∧ 0 < xs.length then srt lt (xs.take k) ++ runs lt k (xs.drop k) else []
termination_by xs.length
decreasing_by rw [List.length_drop]; omega

theorem runs_nil {k : Nat} : runs lt k [] = [] := by rw [runs]; simp

theorem runs_short {k : Nat} {xs : List α} (hk : 0 < k) (h : xs.length ≤ k) : runs lt k xs = srt lt xs := by
  rw [runs]
  by_cases h0 : 0 < xs.length
  · rw [dif_pos ⟨hk, h0⟩, List.take_of_length_le h, List.drop_of_length_le h, runs_nil, List.append_nil]
  · rw [dif_neg (fun e => h0 e.2)]
    have : xs = [] := List.length_eq_zero_iff.1 (by omega)
    subst this; rfl

theorem runs_cons {k : Nat} {M R : List α} (hk : 0 < k) (h : M.length = k) : runs lt k (M ++ R) = srt lt M ++ runs lt k R := by
  subst h
  rw [runs, dif_pos ⟨hk, by rw [List.length_append]; omega⟩, List.take_left, List.drop_left]

theorem runs_len (h : SW lt) {k : Nat} (hk : 0 < k) (xs : List α) : (runs lt k xs).length = xs.length := by
  rw [runs]
  by_cases h0 : 0 < xs.length
  · have : (xs.drop k).length < xs.length := by rw [List.length_drop]; omega
    rw [dif_pos ⟨hk, h0⟩, List.length_append, srt_len h, runs_len h hk (xs.drop k), ← List.length_append, List.take_append_drop]
  · rw [dif_neg (fun e => h0 e.2)]
    simp; omega
termination_by xs.length

theorem runs_app {k : Nat} (hk : 0 < k) (B : List α) (A : List α) (t : Nat) (h : A.length = t * k) : runs lt k (A ++ B) = runs lt k A ++ runs lt k B := by
  induction t generalizing A with
  | zero =>
    have : A = [] := List.length_eq_zero_iff.1 (by omega)
    subst this; rw [runs_nil]; rfl
  | succ t ih =>
    rw [Nat.succ_mul] at h
    have e : A = A.take k ++ A.drop k := (List.take_append_drop ..).symm
    have l1 : (A.take k).length = k := by rw [List.length_take]; omega
    have l2 : (A.drop k).length = t * k := by rw [List.length_drop]; omega
    generalize A.take k = X at e l1
    generalize A.drop k = Y at e l2
    subst e
    rw [List.append_assoc, runs_cons hk l1, runs_cons hk l1, ih Y l2, List.append_assoc]

/-- Parts of 20, sorted one after another. -/
def blk1 (lt : α → α → Bool) (a : Nat) (H : List α) : Nat × List α :=
  if h : a + 20 ≤ H.length ∧ (seg a (a + 20) (srt lt) H).length = H.length then blk1 lt (a + 20) (seg a (a + 20) (srt lt) H) else (a, H)
termination_by H.length - a
decreasing_by rw [h.2]; omega

/-- Two parts of k become one, one after another. -/
def mrg (lt : α → α → Bool) (k a : Nat) (H : List α) : Nat × List α :=
  if h : (0 < k ∧ a + 2 * k ≤ H.length) ∧ (seg a (a + 2 * k) (srt lt) H).length = H.length then mrg lt k (a + 2 * k) (seg a (a + 2 * k) (srt lt) H) else (a, H)
termination_by H.length - a
decreasing_by rw [h.2]; omega

theorem blk1_go (h : SW lt) {a : Nat} {H : List α} (ha : a + 20 ≤ H.length) : blk1 lt a H = blk1 lt (a + 20) (seg a (a + 20) (srt lt) H) := by
  rw [blk1, dif_pos ⟨ha, seg_len h (by omega) ha⟩]

theorem blk1_stop {a : Nat} {H : List α} (ha : ¬ a + 20 ≤ H.length) : blk1 lt a H = (a, H) := by
  rw [blk1, dif_neg (fun e => ha e.1)]

theorem mrg_go (h : SW lt) {k a : Nat} {H : List α} (hk : 0 < k) (ha : a + 2 * k ≤ H.length) : mrg lt k a H = mrg lt k (a + 2 * k) (seg a (a + 2 * k) (srt lt) H) := by
  rw [mrg, dif_pos ⟨⟨hk, ha⟩, seg_len h (by omega) ha⟩]

theorem mrg_stop {k a : Nat} {H : List α} (ha : ¬ a + 2 * k ≤ H.length) : mrg lt k a H = (a, H) := by
  rw [mrg, dif_neg (fun e => ha e.1.2)]

/-- What lies behind a is in parts of k. -/
def InRuns (lt : α → α → Bool) (k a : Nat) (H : List α) : Prop := ∃ A B, H = A ++ runs lt k B ∧ A.length = a

theorem InRuns.at (h : SW lt) {k a : Nat} {H : List α} (hk : 0 < k) (hr : InRuns lt k a H) (hb : a + k < H.length) (b : Nat) (hb1 : a + k < b) (hb2 : b ≤ a + 2 * k) (hb3 : b ≤ H.length) (hb4 : b = a + 2 * k ∨ b = H.length) :
    SrtAt lt a (a + k) H ∧ SrtAt lt (a + k) b H ∧ ∀ A M B, H = A ++ runs lt k (M ++ B) → A.length = a → a + M.length = b → seg a b (srt lt) H = A ++ (srt lt M ++ runs lt k B) := by
  obtain ⟨A, B, rfl, hA⟩ := hr
  rw [List.length_append, runs_len h hk] at hb hb3 hb4
  obtain ⟨M1, B1, rfl, h1⟩ := parts2 B (show k ≤ B.length by omega)
  obtain ⟨M2, B2, rfl, h2⟩ := parts2 B1 (show b - (a + k) ≤ B1.length by simp only [List.length_append] at hb3; omega)
  simp only [List.length_append] at hb hb3 hb4
  have e : runs lt k (M1 ++ (M2 ++ B2)) = srt lt M1 ++ (srt lt M2 ++ runs lt k B2) := by
    rw [runs_cons hk h1]
    congr 1
    rcases hb4 with hb4 | hb4
    · rw [runs_cons hk (by omega)]
    · have : B2 = [] := List.length_eq_zero_iff.1 (by omega)
      subst this
      rw [List.append_nil, runs_nil, List.append_nil, runs_short hk (by omega)]
  refine ⟨?_, ?_, fun A' M B' e1 e2 e3 => ?_⟩
  · rw [e, SrtAt_parts hA (by rw [srt_len h]; omega)]; exact (srt_stb h M1).ord
  · rw [e, ← List.append_assoc A, SrtAt_parts (by rw [List.length_append, srt_len h]; omega) (by rw [srt_len h]; omega)]; exact (srt_stb h M2).ord
  · have hA' : A' = A := by
      have := congrArg (List.take a) e1
      rw [List.take_left' hA, List.take_left' e2] at this
      exact this.symm
    subst hA'
    rw [e1]
    have e4 : ∃ X, runs lt k (M ++ B') = X ++ runs lt k B' ∧ X.length = M.length ∧ srt lt X = srt lt M := by
      obtain ⟨N1, N2, rfl, g1⟩ := parts2 M (show k ≤ M.length by omega)
      rw [List.length_append] at e3
      refine ⟨srt lt N1 ++ srt lt N2, ?_, by simp [srt_len h], srt_app h _ _⟩
      have hl := congrArg List.length e1
      simp only [List.length_append, runs_len h hk] at hl
      rw [List.append_assoc, runs_cons hk g1, List.append_assoc]
      congr 1
      rcases hb4 with hb4 | hb4
      · rw [runs_cons hk (by omega)]
      · have : B' = [] := List.length_eq_zero_iff.1 (by omega)
        subst this
        rw [List.append_nil, runs_nil, List.append_nil, runs_short hk (by omega)]
    obtain ⟨X, x1, x2, x3⟩ := e4
    rw [x1, seg_parts e2 (by omega), x3]

theorem blk1_all (h : SW lt) (n : Nat) : ∀ (A B : List α) (t : Nat), A.length = t * 20 → B.length ≤ n → ∃ A' B', A ++ B = A' ++ B' ∧ B'.length < 20 ∧ (∃ t', A'.length = t' * 20) ∧ blk1 lt A.length (runs lt 20 A ++ B) = (A'.length, runs lt 20 A' ++ B') := by
  induction n with
  | zero =>
    intro A B t hA hB
    refine ⟨A, B, rfl, by omega, ⟨t, hA⟩, blk1_stop ?_⟩
    rw [List.length_append, runs_len h (by omega)]; omega
  | succ n ih =>
    intro A B t hA hB
    by_cases hb : 20 ≤ B.length
    · obtain ⟨M, R, rfl, hM⟩ := parts2 B hb
      rw [List.length_append] at hB
      rw [blk1_go h (by simp only [List.length_append, runs_len h (show 0 < 20 by omega)]; omega), seg_parts (runs_len h (by omega) A) (by omega)]
      have e : runs lt 20 A ++ (srt lt M ++ R) = runs lt 20 (A ++ M) ++ R := by
        rw [runs_app (by omega) M A t hA, runs_short (by omega) (by omega : M.length ≤ 20), List.append_assoc]
      have := ih (A ++ M) R (t + 1) (by rw [List.length_append]; omega) (by omega)
      rw [List.append_assoc] at this
      rw [e, show A.length + 20 = (A ++ M).length by rw [List.length_append, hM]]
      exact this
    · refine ⟨A, B, rfl, by omega, ⟨t, hA⟩, blk1_stop ?_⟩
      rw [List.length_append, runs_len h (by omega)]; omega

/-- The first part of a stable sort. -/
def stab1 (lt : α → α → Bool) (xs : List α) : List α := seg (blk1 lt 0 xs).1 xs.length (srt lt) (blk1 lt 0 xs).2

theorem stab1_eq (h : SW lt) (xs : List α) : stab1 lt xs = runs lt 20 xs := by
  obtain ⟨A, B, e, hB, ⟨t, ht⟩, hb⟩ := blk1_all h xs.length [] xs 0 rfl (Nat.le_refl _)
  rw [runs_nil, List.nil_append, List.length_nil] at hb
  rw [List.nil_append] at e
  subst e
  unfold stab1
  rw [hb]
  have e2 : runs lt 20 A ++ B = runs lt 20 A ++ (B ++ []) := by simp
  rw [e2, seg_parts (runs_len h (by omega) A) (by rw [List.length_append]), List.append_nil, runs_app (by omega) B A t ht, runs_short (by omega) (by omega : B.length ≤ 20)]

theorem blk1_bd (h : SW lt) (xs : List α) : (blk1 lt 0 xs).1 ≤ xs.length ∧ (blk1 lt 0 xs).2.length = xs.length := by
  obtain ⟨A, B, e, hB, ⟨t, ht⟩, hb⟩ := blk1_all h xs.length [] xs 0 rfl (Nat.le_refl _)
  rw [runs_nil, List.nil_append, List.length_nil] at hb
  rw [List.nil_append] at e
  subst e
  rw [hb]
  exact ⟨by simp only [List.length_append]; omega, by simp only [List.length_append, runs_len h (show 0 < 20 by omega)]⟩

theorem mrg_all (h : SW lt) {k : Nat} (hk : 0 < k) (n : Nat) : ∀ (A B : List α) (t : Nat), A.length = t * (2 * k) → B.length ≤ n → ∃ A' B', A ++ B = A' ++ B' ∧ B'.length < 2 * k ∧ (∃ t', A'.length = t' * (2 * k)) ∧ mrg lt k A.length (runs lt (2 * k) A ++ runs lt k B) = (A'.length, runs lt (2 * k) A' ++ runs lt k B') := by
  induction n with
  | zero =>
    intro A B t hA hB
    refine ⟨A, B, rfl, by omega, ⟨t, hA⟩, mrg_stop ?_⟩
    rw [List.length_append, runs_len h (by omega), runs_len h hk]; omega
  | succ n ih =>
    intro A B t hA hB
    by_cases hb : 2 * k ≤ B.length
    · obtain ⟨M, R, rfl, hM⟩ := parts2 B hb
      rw [List.length_append] at hB
      have hl : (runs lt (2 * k) A ++ runs lt k (M ++ R)).length = A.length + (M.length + R.length) := by simp only [List.length_append, runs_len h (show 0 < 2 * k by omega), runs_len h hk]
      rw [mrg_go h hk (by omega), ((InRuns.at h hk ⟨_, _, rfl, runs_len h (by omega) A⟩ (by omega) (A.length + 2 * k) (by omega) (by omega) (by omega) (.inl rfl)).2.2 _ M R rfl (runs_len h (by omega) A) (by omega))]
      have e : runs lt (2 * k) A ++ (srt lt M ++ runs lt k R) = runs lt (2 * k) (A ++ M) ++ runs lt k R := by
        rw [runs_app (by omega) M A t hA, runs_short (by omega) (by omega : M.length ≤ 2 * k), List.append_assoc]
      have := ih (A ++ M) R (t + 1) (by rw [List.length_append, Nat.succ_mul]; omega) (by omega)
      rw [List.append_assoc] at this
      rw [e, show A.length + 2 * k = (A ++ M).length by rw [List.length_append, hM]]
      exact this
    · refine ⟨A, B, rfl, by omega, ⟨t, hA⟩, mrg_stop ?_⟩
      rw [List.length_append, runs_len h (by omega), runs_len h hk]; omega

/-- One round of merges. -/
def rnd (lt : α → α → Bool) (k : Nat) (H : List α) : List α :=
  bif decide ((mrg lt k 0 H).1 + k < H.length) then seg (mrg lt k 0 H).1 H.length (srt lt) (mrg lt k 0 H).2 else (mrg lt k 0 H).2

theorem rnd_eq (h : SW lt) {k : Nat} (hk : 0 < k) (xs : List α) : rnd lt k (runs lt k xs) = runs lt (2 * k) xs := by
  obtain ⟨A, B, e, hB, ⟨t, ht⟩, hb⟩ := mrg_all h hk xs.length [] xs 0 (by simp) (Nat.le_refl _)
  rw [runs_nil, List.nil_append, List.length_nil] at hb
  rw [List.nil_append] at e
  unfold rnd
  rw [hb, runs_len h hk]
  subst e
  rw [runs_app (by omega) B A t ht, runs_short (by omega) (by omega : B.length ≤ 2 * k), List.length_append]
  by_cases hc : A.length + k < A.length + B.length
  · rw [decide_eq_true hc, cond_true]
    have hl : (runs lt (2 * k) A ++ runs lt k B).length = A.length + B.length := by simp only [List.length_append, runs_len h (show 0 < 2 * k by omega), runs_len h hk]
    rw [((InRuns.at h hk ⟨_, _, rfl, runs_len h (by omega) A⟩ (by omega) (A.length + B.length) (by omega) (by omega) (by omega) (.inr hl.symm)).2.2 _ B [] (by rw [List.append_nil]) (runs_len h (by omega) A) rfl), runs_nil, List.append_nil]
  · rw [decide_eq_false hc, cond_false, runs_short hk (by omega)]

theorem mrg_bd (h : SW lt) {k : Nat} (hk : 0 < k) (xs : List α) : (mrg lt k 0 (runs lt k xs)).1 ≤ xs.length ∧ (mrg lt k 0 (runs lt k xs)).2.length = xs.length ∧ InRuns lt k (mrg lt k 0 (runs lt k xs)).1 (mrg lt k 0 (runs lt k xs)).2 ∧ xs.length < (mrg lt k 0 (runs lt k xs)).1 + 2 * k := by
  obtain ⟨A, B, e, hB, ⟨t, ht⟩, hb⟩ := mrg_all h hk xs.length [] xs 0 (by simp) (Nat.le_refl _)
  rw [runs_nil, List.nil_append, List.length_nil] at hb
  rw [List.nil_append] at e
  subst e
  rw [hb]
  refine ⟨by rw [List.length_append]; omega, by simp only [List.length_append, runs_len h (show 0 < 2 * k by omega), runs_len h hk], ⟨_, _, rfl, runs_len h (by omega) A⟩, by rw [List.length_append]; omega⟩

theorem mrg_step (h : SW lt) {k a : Nat} {H : List α} (hk : 0 < k) (hr : InRuns lt k a H) (hb : a + 2 * k ≤ H.length) : InRuns lt k (a + 2 * k) (seg a (a + 2 * k) (srt lt) H) := by
  obtain ⟨A, B, e, hA⟩ := hr
  have hl := congrArg List.length e
  rw [List.length_append, runs_len h hk] at hl
  obtain ⟨M, R, rfl, hM⟩ := parts2 B (show 2 * k ≤ B.length by omega)
  rw [(InRuns.at h hk ⟨A, _, e, hA⟩ (by omega) (a + 2 * k) (by omega) (by omega) hb (.inl rfl)).2.2 A M R e hA (by omega), ← List.append_assoc]
  exact ⟨_, _, rfl, by rw [List.length_append, srt_len h]; omega⟩

end K
namespace K
variable {α : Type} {lt : α → α → Bool}

theorem srt_runs (h : SW lt) {k : Nat} (hk : 0 < k) (xs : List α) : srt lt (runs lt k xs) = srt lt xs := by
  rw [runs]
  by_cases h0 : 0 < xs.length
  · have : (xs.drop k).length < xs.length := by rw [List.length_drop]; omega
    rw [dif_pos ⟨hk, h0⟩, ← srt_app h, srt_id h (srt_stb h _).ord, srt_runs h hk (xs.drop k), srt_app h, List.take_append_drop]
  · rw [dif_neg (fun e => h0 e.2)]
    have : xs = [] := List.length_eq_zero_iff.1 (by omega)
    subst this; rfl
termination_by xs.length

/-- In parts of k. -/
def AllRuns (lt : α → α → Bool) (k : Nat) (H : List α) : Prop := ∃ xs, H = runs lt k xs

theorem AllRuns.start (h : SW lt) (xs : List α) : AllRuns lt 20 (stab1 lt xs) ∧ srt lt (stab1 lt xs) = srt lt xs ∧ (stab1 lt xs).length = xs.length := by
  rw [stab1_eq h]
  exact ⟨⟨xs, rfl⟩, srt_runs h (by omega) xs, runs_len h (by omega) xs⟩

theorem AllRuns.next (h : SW lt) {k : Nat} (hk : 0 < k) {H : List α} (hr : AllRuns lt k H) : AllRuns lt (2 * k) (rnd lt k H) ∧ srt lt (rnd lt k H) = srt lt H ∧ (rnd lt k H).length = H.length := by
  obtain ⟨xs, rfl⟩ := hr
  rw [rnd_eq h hk]
  exact ⟨⟨xs, rfl⟩, by rw [srt_runs h (by omega), srt_runs h hk], by rw [runs_len h (by omega), runs_len h hk]⟩

theorem AllRuns.done (h : SW lt) {k : Nat} (hk : 0 < k) {H : List α} (hr : AllRuns lt k H) (hl : H.length ≤ k) : srt lt H = H := by
  obtain ⟨xs, rfl⟩ := hr
  rw [runs_len h hk] at hl
  rw [srt_runs h hk, runs_short hk hl]

theorem AllRuns.inRuns {k : Nat} {H : List α} (hr : AllRuns lt k H) : InRuns lt k 0 H := by
  obtain ⟨xs, e⟩ := hr
  exact ⟨[], xs, e, rfl⟩

theorem InRuns.srts (h : SW lt) {k a b : Nat} {H : List α} (hk : 0 < k) (hr : InRuns lt k a H) (hb : a + k < b) (hb2 : b = a + 2 * k ∨ b = H.length) (hb3 : b ≤ H.length) (hb4 : b ≤ a + 2 * k) : SrtAt lt a (a + k) H ∧ SrtAt lt (a + k) b H := by
  have := InRuns.at h hk hr (by omega) b hb hb4 hb3 hb2
  exact ⟨this.1, this.2.1⟩

theorem AllRuns.mrg_bd (h : SW lt) {k : Nat} (hk : 0 < k) {H : List α} (hr : AllRuns lt k H) : (mrg lt k 0 H).1 ≤ H.length ∧ (mrg lt k 0 H).2.length = H.length ∧ InRuns lt k (mrg lt k 0 H).1 (mrg lt k 0 H).2 ∧ H.length < (mrg lt k 0 H).1 + 2 * k := by
  obtain ⟨xs, rfl⟩ := hr
  have := K.mrg_bd h hk xs
  rw [runs_len h hk]
  exact this

end K
end Go.Proofs.Ytnkaadiofjoacaa
