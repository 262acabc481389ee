/- What is proved here: captions written in the long form, plain (no statement of the seat). -/
import Derived.Test.YthcfbeckhgngiaaGreatDoorC140
import Derived.Test.YthcfbeckhgngiaaGreatDoorC136
import Derived.Lib.Replace
namespace Go.Proofs.YthcfbeckhgngiaaGreatDoor
open Go Go.RowKit
set_option linter.unusedVariables false
set_option linter.unusedSimpArgs false

namespace F

/-- A text, if it is not too long. -/
def bndS (s : ByteArray) : ByteArray := bif decide (200000 < s.size) then ⟨⟨[]⟩⟩ else s

def bndF (s : ByteArray) : Int := bif decide (200000 < s.size) then 2 else 0

/-- What a caption must have to be written. -/
def capW (c : Cap) : Bool := decide (0 ≤ c.fr) && decide (c.fr ≤ 359999999) && decide (0 ≤ c.to) && decide (c.to ≤ 359999999) && decide (0 ≤ c.row) && decide (c.row ≤ 15) && decide (c.lines.length ≤ 15) && decide (c.lines ≠ []) && allL c.lines

theorem chkP_mem {α : Type} {f : Option α → α → Int} : ∀ {l : List α} {p : Option α}, chkP f p l = 0 → ∀ c ∈ l, ∃ q, f q c = 0
  | x :: l, p, h, c, hc => by
    rw [chkP] at h
    cases hx : f p x != 0
    · rw [hx, cond_false] at h
      rcases List.mem_cons.1 hc with rfl | hc
      · exact ⟨p, by simpa using hx⟩
      · exact chkP_mem h c hc
    · rw [hx, cond_true] at h
      rw [h] at hx; simp at hx

theorem capF_w {q : Option Cap} {c : Cap} (h : capF q c = 0) : capW c = true := by
  unfold capF at h
  cases h1 : noTime c.fr
  · cases h2 : noTime c.to
    · rw [h1, h2] at h
      simp only [Bool.or_self, cond_false] at h
      cases h3 : (le c.to c.fr || befP q c)
      · rw [h3, cond_false] at h
        cases h4 : out c.row 0 15
        · rw [h4, cond_false] at h
          unfold linesF at h
          cases h5 : c.lines.isEmpty
          · rw [h5, cond_false] at h
            cases h6 : decide (15 < c.lines.length)
            · rw [h6, cond_false] at h
              cases h7 : allL c.lines
              · rw [h7, cond_false] at h; cases h
              · simp only [noTime, out, Bool.or_eq_false_iff, decide_eq_false_iff_not] at h1 h2 h4 h6
                have h8 : c.lines ≠ [] := by rintro e; rw [e] at h5; cases h5
                unfold capW
                rw [h7, decide_eq_true h8, decide_eq_true (show 0 ≤ c.fr by omega), decide_eq_true (show c.fr ≤ 359999999 by omega), decide_eq_true (show 0 ≤ c.to by omega), decide_eq_true (show c.to ≤ 359999999 by omega), decide_eq_true (show 0 ≤ c.row by omega), decide_eq_true (show c.row ≤ 15 by omega), decide_eq_true (show c.lines.length ≤ 15 by omega)]
                rfl
            · rw [h6, cond_true] at h; cases h
          · rw [h5, cond_true] at h; cases h
        · rw [h4, cond_true] at h; cases h
      · rw [h3, cond_true] at h; cases h
    · rw [h1, h2] at h; cases h
  · rw [h1] at h; cases h

theorem chkC_w {l : List Cap} (h : chkC l = 0) : l.length ≤ 500 ∧ l.all capW = true := by
  unfold chkC at h
  cases h1 : decide (500 < l.length)
  · rw [h1, cond_false] at h
    refine ⟨by simpa using h1, List.all_eq_true.2 fun c hc => ?_⟩
    obtain ⟨q, hq⟩ := chkP_mem h c hc
    exact capF_w hq
  · rw [h1, cond_true] at h; cases h

theorem capW_spec {c : Cap} (h : capW c = true) : 0 ≤ c.fr ∧ c.fr ≤ 359999999 ∧ 0 ≤ c.to ∧ c.to ≤ 359999999 ∧ 0 ≤ c.row ∧ c.row ≤ 15 ∧ c.lines.length ≤ 15 ∧ c.lines ≠ [] ∧ ∀ s ∈ c.lines, line s = true := by
  unfold capW at h
  simp only [Bool.and_eq_true, decide_eq_true_eq] at h
  obtain ⟨⟨⟨⟨⟨⟨⟨⟨h1, h2⟩, h3⟩, h4⟩, h5⟩, h6⟩, h7⟩, h8⟩, h9⟩ := h
  exact ⟨h1, h2, h3, h4, h5, h6, h7, h8, List.all_eq_true.1 h9⟩

theorem line_size {s : ByteArray} (h : line s = true) : s.size ≤ 200 := by
  unfold line at h
  rw [Bool.and_eq_true, decide_eq_true_eq] at h
  exact h.1

theorem bs_join (xs : List ByteArray) (p : ByteArray) : bs (join xs p) = Lib.join (xs.map bs) (bs p) := rfl

/-- Lines, each with its end. -/
def lnB (xs : List ByteArray) : List UInt8 := xs.flatMap fun x => bs x ++ [10]

theorem bs_join_nl : ∀ {xs : List ByteArray}, xs ≠ [] → bs (join xs nl) ++ [10] = lnB xs
  | x :: r, _ => by
    rw [bs_join, List.map_cons, Lib.join_cons]
    have key : ∀ r : List ByteArray, Lib.joinTail (bs nl) (r.map bs) ++ [10] = [10] ++ lnB r := fun r => by
      induction r with
      | nil => rfl
      | cons y r ih =>
        have e : Lib.joinTail (bs nl) ((y :: r).map bs) = [10] ++ bs y ++ Lib.joinTail (bs nl) (r.map bs) := rfl
        rw [e, List.append_assoc, ih]
        unfold lnB
        simp
    rw [List.append_assoc, key r]
    unfold lnB
    simp

theorem lnB_len : ∀ {xs : List ByteArray}, (∀ x ∈ xs, x.size ≤ 200) → (lnB xs).length ≤ 201 * xs.length
  | [], _ => Nat.le_refl 0
  | x :: r, h => by
    have ih := lnB_len (xs := r) fun y hy => h y (List.mem_cons_of_mem _ hy)
    have hx := h x (List.mem_cons_self ..)
    have e : lnB (x :: r) = bs x ++ [10] ++ lnB r := rfl
    rw [e, List.length_append, List.length_append, ← size_bs, List.length_cons]
    simp only [List.length_cons, List.length_nil] at *
    omega

theorem join_nl_size {xs : List ByteArray} (h0 : xs ≠ []) (h1 : xs.length ≤ 15) (h : ∀ x ∈ xs, x.size ≤ 200) : (join xs nl).size ≤ 3015 := by
  have h2 := congrArg List.length (bs_join_nl h0)
  have h3 := lnB_len h
  rw [List.length_append, ← size_bs, List.length_singleton] at h2
  omega

theorem tms_size {c : Cap} {p : ByteArray} (h : capW c = true) (hp : p.size = 1) : (tms c p).size = 29 := by
  obtain ⟨h1, h2, h3, h4, _⟩ := capW_spec h
  have s1 : (clk c.fr p).size = 12 := by
    obtain ⟨k, hk⟩ := Int.eq_ofNat_of_zero_le h1
    rw [hk, clk_size (by omega), hp]
  have s2 : (clk c.to p).size = 12 := by
    obtain ⟨k, hk⟩ := Int.eq_ofNat_of_zero_le h3
    rw [hk, clk_size (by omega), hp]
  unfold tms
  rw [ByteArray.size_append, ByteArray.size_append, s1, s2]
  rfl

theorem sp1_cut (c : UInt8) : ∀ (a r : List UInt8), (∀ b ∈ a, b ≠ c) → sp1 c (a ++ c :: r) = a :: sp1 c r
  | [], r, _ => by rw [List.nil_append, sp1, beq_self_eq_true, cond_true]
  | b :: a, r, h => by
    have ih := sp1_cut c a r fun x hx => h x (List.mem_cons_of_mem _ hx)
    rw [List.cons_append, sp1, beq_eq_false_iff_ne.2 (h b (List.mem_cons_self ..)), cond_false, ih]

theorem sp1_lnB : ∀ (L : List ByteArray), (∀ x ∈ L, ∀ b ∈ bs x, b ≠ 10) → sp1 10 (lnB L) = L.map bs ++ [[]]
  | [], _ => rfl
  | x :: L, h => by
    have e : lnB (x :: L) = bs x ++ 10 :: lnB L := by
      show (bs x ++ [10]) ++ lnB L = _
      rw [List.append_assoc]; rfl
    rw [e, sp1_cut 10 _ _ (h x (List.mem_cons_self ..)), sp1_lnB L fun y hy => h y (List.mem_cons_of_mem _ hy)]
    rfl

/-- The lines of a text of lines. -/
theorem lns_lnB {T : ByteArray} {L : List ByteArray} (h : ∀ x ∈ L, ∀ b ∈ bs x, b ≠ 10) (hT : bs T = lnB L) : lns T = L := by
  have h1 : (split T nl).map (·.data.toList) = L.map bs ++ [[]] := by
    rw [← sp1_lnB L h, ← hT]
    exact split_bytes T 10
  have h2 : split T nl = L ++ [⟨⟨[]⟩⟩] := bmap_inj (by rw [h1, List.map_append]; rfl)
  unfold lns
  rw [h2]
  simp only [List.length_append, List.length_singleton, Nat.add_sub_cancel]
  have h3 : (L ++ [(⟨⟨[]⟩⟩ : ByteArray)]).getD L.length ⟨#[]⟩ = ⟨⟨[]⟩⟩ := by
    rw [List.getD_eq_getElem?_getD, List.getElem?_append_right (Nat.le_refl _)]
    simp
  rw [h3, show emp (⟨⟨[]⟩⟩ : ByteArray) = true from by simp [emp], cond_true, List.take_left]

theorem lnB_app (a b : List ByteArray) : lnB (a ++ b) = lnB a ++ lnB b := by
  unfold lnB
  rw [List.flatMap_append]

theorem lnB_cons (x : ByteArray) (b : List ByteArray) : lnB (x :: b) = bs x ++ ([10] ++ lnB b) := by
  show (bs x ++ [10]) ++ lnB b = _
  rw [List.append_assoc]

theorem dig_ne {b : UInt8} (h : digB b = true) : b ≠ 10 := by
  rintro rfl
  exact absurd h (by decide)

theorem itoa_ne (k : Nat) : ∀ b ∈ bs (itoa (k : Int)), b ≠ 10 := fun b hb => by
  rw [bs_itoa] at hb
  exact dig_ne (List.all_eq_true.1 (dec_all k) b hb)

theorem clk_ne {t : Int} {p : ByteArray} {q : UInt8} (hp : bs p = [q]) (hq : q ≠ 10) (h0 : 0 ≤ t) (h1 : t ≤ 359999999) : ∀ b ∈ bs (clk t p), b ≠ 10 := by
  obtain ⟨k, rfl⟩ := Int.eq_ofNat_of_zero_le h0
  intro b hb
  rw [bs_clk (by omega), hp] at hb
  simp only [List.cons_append, List.nil_append, List.mem_cons, List.not_mem_nil, or_false] at hb
  have D : ∀ n, n < 10 → dg n ≠ 10 := fun n hn => dig_ne (dg_dig hn)
  rcases hb with rfl | rfl | rfl | rfl | rfl | rfl | rfl | rfl | rfl | rfl | rfl | rfl
  all_goals first | exact hq | exact D _ (by omega) | decide

theorem tms_ne {c : Cap} {p : ByteArray} {q : UInt8} (hp : bs p = [q]) (hq : q ≠ 10) (h : capW c = true) : ∀ b ∈ bs (tms c p), b ≠ 10 := by
  obtain ⟨h1, h2, h3, h4, _⟩ := capW_spec h
  intro b hb
  unfold tms at hb
  rw [bs_cat, bs_cat, List.mem_append, List.mem_append] at hb
  rcases hb with (hb | hb) | hb
  · exact clk_ne hp hq h1 h2 b hb
  · have hb : b ∈ ([32, 45, 45, 62, 32] : List UInt8) := hb
    simp only [List.mem_cons, List.not_mem_nil, or_false] at hb
    rcases hb with rfl | rfl | rfl | rfl | rfl <;> decide
  · exact clk_ne hp hq h3 h4 b hb

theorem line_ne {s : ByteArray} (h : line s = true) : (∀ b ∈ bs s, b ≠ 10) ∧ s.size ≠ 0 := by
  unfold line clean at h
  simp only [Bool.and_eq_true, decide_eq_true_eq] at h
  refine ⟨fun b hb => ?_, h.2.1.1.1.1.1⟩
  have := List.all_eq_true.1 h.2.2 b hb
  rintro rfl
  exact absurd this (by decide)

theorem take_at {L : List ByteArray} {a : Nat} {x : ByteArray} {t : List ByteArray} (h : L.drop a = x :: t) : tkB L a = true ∧ tkS L a = x ∧ L.drop (a + 1) = t ∧ a < L.length := by
  have hlt : a < L.length := by
    rcases Nat.lt_or_ge a L.length with h' | h'
    · exact h'
    · rw [List.drop_eq_nil_of_le h'] at h; cases h
  have h0 : L[a]? = some x := by
    have : (L.drop a)[0]? = some x := by rw [h]; rfl
    rw [List.getElem?_drop] at this
    simpa using this
  have hB : tkB L a = true := decide_eq_true hlt
  refine ⟨hB, ?_, ?_, hlt⟩
  · unfold tkS
    rw [hB, cond_true, List.getD_eq_getElem?_getD, h0]; rfl
  · have : (L.drop a).drop 1 = t := by rw [h]; rfl
    rw [List.drop_drop] at this
    exact this


/-- All of a byte written otherwise. -/
def rpl (s old new : ByteArray) : ByteArray := ⟨(Lib.replaceAll (bs s) (bs old) (bs new)).toArray⟩

theorem index_hit (c : UInt8) (l : List UInt8) : Lib.index (c :: l) [c] = ((0 : Nat) : Int) := by
  rw [Lib.index]; simp [List.isPrefixOf]

theorem replaceK_eq (c : UInt8) (new : List UInt8) (k : Nat) (l : List UInt8) : Lib.replaceK [c] new (k + 1) (c :: l) = new ++ Lib.replaceK [c] new k l := by
  rw [Lib.replaceK_hit [c] new k (c :: l) 0 (index_hit c l)]
  rfl

theorem replaceK_ne {b c : UInt8} (h : b ≠ c) (new : List UInt8) (k : Nat) (l : List UInt8) : Lib.replaceK [c] new k (b :: l) = b :: Lib.replaceK [c] new k l := by
  cases k with
  | zero => rfl
  | succ k =>
    have hp : ([c] : List UInt8).isPrefixOf (b :: l) = false := by simp [List.isPrefixOf, Ne.symm h]
    have hix : Lib.index (b :: l) [c] = if Lib.index l [c] == -1 then -1 else Lib.index l [c] + 1 := by rw [Lib.index, hp]; simp
    by_cases hm : Lib.index l [c] = -1
    · rw [Lib.replaceK, Lib.replaceK, hix, hm]
      simp
    · have hge := Lib.index_ge l [c]
      obtain ⟨j, hj⟩ : ∃ j : Nat, Lib.index l [c] = j := ⟨(Lib.index l [c]).toNat, by omega⟩
      have hix' : Lib.index (b :: l) [c] = ((j + 1 : Nat) : Int) := by rw [hix, if_neg (fun e => hm (beq_iff_eq.1 e)), hj]; omega
      rw [Lib.replaceK_hit [c] new k (b :: l) (j + 1) hix', Lib.replaceK_hit [c] new k l j hj]
      rw [List.take_succ_cons, show j + 1 + [c].length = (j + [c].length) + 1 by omega, List.drop_succ_cons]
      rfl

theorem replace_map (c : UInt8) (new : List UInt8) : ∀ l : List UInt8, Lib.replaceK [c] new (Lib.count l [c]) l = l.flatMap fun b => bif b == c then new else [b]
  | [] => by
    rw [Lib.count_one]
    rfl
  | b :: l => by
    by_cases h : b = c
    · subst h
      rw [Lib.count_cons_eq, Nat.add_comm, replaceK_eq, replace_map b new l, List.flatMap_cons, beq_self_eq_true, cond_true]
    · rw [Lib.count_cons_ne b c l h, replaceK_ne h, replace_map c new l, List.flatMap_cons, beq_eq_false_iff_ne.2 h, cond_false]
      rfl

theorem bs_rpl (s : ByteArray) (c : UInt8) (new : List UInt8) (hn : new ≠ [c]) : bs (rpl s ⟨⟨[c]⟩⟩ ⟨⟨new⟩⟩) = (bs s).flatMap fun b => bif b == c then new else [b] := by
  show (Lib.replaceAll (bs s) [c] new).toArray.toList = _
  unfold Lib.replaceAll Lib.replace Lib.replaceNum
  have h : ([c] == new) = false := beq_eq_false_iff_ne.2 fun e => hn e.symm
  rw [h]
  simp only [Bool.false_eq_true, if_false]
  rw [if_pos (by omega)]
  simpa using replace_map c new (bs s)

/-- A line as it is written. -/
def esc (s : ByteArray) : ByteArray := rpl (rpl s ampB amp5) ltB lt4

def escB (b : UInt8) : List UInt8 := bif b == 38 then [38, 97, 109, 112, 59] else bif b == 60 then [38, 108, 116, 59] else [b]

theorem bs_esc (s : ByteArray) : bs (esc s) = (bs s).flatMap escB := by
  unfold esc ampB amp5 ltB lt4
  rw [bs_rpl _ 60 _ (by decide), bs_rpl _ 38 _ (by decide), List.flatMap_assoc]
  congr 1
  funext b
  unfold escB
  cases h1 : b == 38
  · simp only [cond_false, List.flatMap_cons, List.flatMap_nil, List.append_nil]
  · simp only [cond_true]
    rfl

theorem escB_len (b : UInt8) : 1 ≤ (escB b).length ∧ (escB b).length ≤ 5 := by
  unfold escB
  cases b == 38
  · cases b == 60
    · simp
    · simp
  · simp

theorem flat_len : ∀ l : List UInt8, l.length ≤ (l.flatMap escB).length ∧ (l.flatMap escB).length ≤ 5 * l.length
  | [] => ⟨Nat.le_refl _, Nat.le_refl _⟩
  | b :: l => by
    have h1 := escB_len b
    have h2 := flat_len l
    rw [List.flatMap_cons, List.length_append, List.length_cons]
    omega

theorem esc_size (s : ByteArray) : s.size ≤ (esc s).size ∧ (esc s).size ≤ 5 * s.size := by
  have := flat_len (bs s)
  rw [size_bs (esc s), bs_esc, size_bs s]
  exact this

theorem esc_ne {s : ByteArray} (h : ∀ b ∈ bs s, b ≠ 10) : ∀ b ∈ bs (esc s), b ≠ 10 := by
  intro b hb
  rw [bs_esc, List.mem_flatMap] at hb
  obtain ⟨x, hx, hb⟩ := hb
  unfold escB at hb
  cases h1 : x == 38
  · cases h2 : x == 60
    · rw [h1, h2] at hb
      simp only [cond_false, List.mem_singleton] at hb
      rw [hb]; exact h x hx
    · rw [h1, h2] at hb
      simp only [cond_false, cond_true, List.mem_cons, List.not_mem_nil, or_false] at hb
      rcases hb with rfl | rfl | rfl | rfl <;> decide
  · rw [h1] at hb
    simp only [cond_true, List.mem_cons, List.not_mem_nil, or_false] at hb
    rcases hb with rfl | rfl | rfl | rfl | rfl <;> decide

theorem hasP_pre {s p : ByteArray} {r : List UInt8} (h : bs s = bs p ++ r) : hasP s p = true := by
  rw [hasP_take, h, size_bs, List.take_left]
  simp

/-- What was written otherwise is read as it was. -/
theorem plB_esc : ∀ (l : List UInt8) (f : Nat) (T out : ByteArray), bs T = l.flatMap escB → T.size ≤ f → ∃ o, plB f T out = some o ∧ bs o = bs out ++ l
  | [], f, T, out, hT, hf => by
    have he : emp T = true := by rw [emp_size, size_bs, hT]; rfl
    refine ⟨out, ?_, by simp⟩
    cases f with
    | zero => rfl
    | succ f => rw [plB, he]; rfl
  | b :: l, f, T, out, hT, hf => by
    rw [List.flatMap_cons] at hT
    have hl := escB_len b
    have hz : T.size = (escB b).length + (l.flatMap escB).length := by rw [size_bs, hT, List.length_append]
    obtain ⟨f, rfl⟩ : ∃ g, f = g + 1 := ⟨f - 1, by omega⟩
    have he : emp T = false := by rw [emp_size]; exact decide_eq_false (by omega)
    rw [plB, he, cond_false]
    by_cases h1 : b = 38
    · subst h1
      have hp : hasP T amp5 = true := hasP_pre (p := amp5) hT
      obtain ⟨o, o1, o2⟩ := plB_esc l f (T.extract 5 T.size) (out ++ ampB) (by rw [bs_from, hT]; rfl) (by rw [ext_sz]; omega)
      refine ⟨o, by rw [hp, cond_true]; exact o1, ?_⟩
      rw [o2, bs_app, List.append_assoc]
      rfl
    · by_cases h2 : b = 60
      · subst h2
        have hT2 : bs T = [38, 108, 116, 59] ++ l.flatMap escB := hT
        have hp5 : hasP T amp5 = false := by
          unfold hasP Lib.hasPrefix
          rw [hT2]
          rfl
        have hp : hasP T lt4 = true := hasP_pre (p := lt4) hT2
        obtain ⟨o, o1, o2⟩ := plB_esc l f (T.extract 4 T.size) (out ++ ltB) (by rw [bs_from, hT2]; rfl) (by rw [ext_sz]; omega)
        refine ⟨o, by rw [hp5, cond_false, hp, cond_true]; exact o1, ?_⟩
        rw [o2, bs_app, List.append_assoc]
        rfl
      · have hb : escB b = [b] := by
          unfold escB
          rw [beq_eq_false_iff_ne.2 h1, beq_eq_false_iff_ne.2 h2]
          rfl
        rw [hb] at hT
        obtain ⟨p5, p4⟩ := hasP_head (s := T) (b := b) (r := l.flatMap escB) hT h1
        have hs : sgn T = false := by
          unfold sgn
          rw [hT]
          show (b == 38 || b == 60) = false
          rw [beq_eq_false_iff_ne.2 h1, beq_eq_false_iff_ne.2 h2]
          rfl
        obtain ⟨o, o1, o2⟩ := plB_esc l f (T.extract 1 T.size) (out ++ T.extract 0 1) (by rw [bs_from, hT]; rfl) (by rw [ext_sz]; omega)
        refine ⟨o, by rw [p5, cond_false, p4, cond_false, hs, cond_false]; exact o1, ?_⟩
        rw [o2, bs_app, bs_upto, hT, List.append_assoc]
        rfl

theorem plR_esc (s : ByteArray) : plR (esc s) = some s := by
  obtain ⟨o, o1, o2⟩ := plB_esc (bs s) (esc s).size (esc s) ⟨⟨[]⟩⟩ (bs_esc s) (Nat.le_refl _)
  unfold plR
  rw [o1]
  have : o = s := bsx (by rw [o2]; rfl)
  rw [this]

theorem plOk_esc {s : ByteArray} (h : line s = true) : plOk (esc s) = true ∧ plV (esc s) = s := by
  have e : plV (esc s) = s := by unfold plV; rw [plR_esc]; rfl
  refine ⟨?_, e⟩
  unfold plOk
  rw [e, h]
  unfold plG
  rw [plR_esc]
  rfl

/-- The marks of a caption. -/
def mks (row : Int) (b a : Bool) : ByteArray := (bif row != 0 then lineB ++ itoa row else ⟨⟨[]⟩⟩) ++ (bif b then befB else ⟨⟨[]⟩⟩) ++ (bif a then aftB else ⟨⟨[]⟩⟩)

def dig16 (k : Nat) : List UInt8 := bif Nat.blt k 10 then [UInt8.ofNat (48 + k)] else [UInt8.ofNat (48 + k / 10), UInt8.ofNat (48 + k % 10)]

theorem dec16 {k : Nat} (h : k < 100) : Lib.decDigits k = dig16 k := by
  unfold dig16
  by_cases h1 : k < 10
  · rw [Lib.decDigits_one h1, show Nat.blt k 10 = true from by rw [Nat.blt_eq]; exact h1]; rfl
  · rw [Lib.decDigits_two h1 h, show Nat.blt k 10 = false from by rw [← Bool.not_eq_true, Nat.blt_eq]; exact h1]; rfl

def mksL (k : Nat) (b a : Bool) : List UInt8 := (bif k != 0 then [32, 108, 105, 110, 101, 58] ++ dig16 k else []) ++ (bif b then [32, 98, 101, 102, 111, 114, 101] else []) ++ (bif a then [32, 97, 102, 116, 101, 114] else [])

theorem bs_mks {k : Nat} (h : k < 100) (b a : Bool) : bs (mks (k : Int) b a) = mksL k b a := by
  unfold mks mksL
  rw [bs_app, bs_app]
  have e1 : ((k : Int) != 0) = (k != 0) := by
    by_cases hk : k = 0
    · subst hk; rfl
    · rw [bne_iff_ne.2 (show (k : Int) ≠ 0 by omega), bne_iff_ne.2 hk]
  rw [e1]
  congr 1
  · congr 1
    · cases k != 0
      · rfl
      · simp only [cond_true]
        rw [bs_app, bs_itoa, dec16 h]
        rfl
    · cases b <;> rfl
  · cases a <;> rfl

theorem mks_read : ∀ (k : Fin 16) (b a : Bool), mkOk ⟨⟨mksL k.val b a⟩⟩ = true ∧ mkRow ⟨⟨mksL k.val b a⟩⟩ = (k.val : Int) ∧ mkBef ⟨⟨mksL k.val b a⟩⟩ = b ∧ mkAft ⟨⟨mksL k.val b a⟩⟩ = a := by decide +kernel

end F
end Go.Proofs.YthcfbeckhgngiaaGreatDoor
