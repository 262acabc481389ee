/- What is proved here: what was written in the short form is read again, plain (no statement of the seat). -/
import Derived.Test.YthcfbeckhgngiaaDoorC145
namespace Go.Proofs.YthcfbeckhgngiaaDoor
open Go Go.RowKit
set_option linter.unusedVariables false
set_option linter.unusedSimpArgs false

namespace F

theorem sp1_cut (c : UInt8) : ∀ (a r : List UInt8), (∀ b ∈ a, b ≠ c) → sp1 c (a ++ c :: r) = a :: sp1 c r
  | [], r, _ => by rw [List.nil_append, sp1, beq_self_eq_true, cond_true]
  | b :: a, r, h => by
    have ih := sp1_cut c a r fun x hx => h x (List.mem_cons_of_mem _ hx)
    rw [List.cons_append, sp1, beq_eq_false_iff_ne.2 (h b (List.mem_cons_self ..)), cond_false, ih]

theorem sp1_lnB : ∀ (L : List ByteArray), (∀ x ∈ L, ∀ b ∈ bs x, b ≠ 10) → sp1 10 (lnB L) = L.map bs ++ [[]]
  | [], _ => rfl
  | x :: L, h => by
    have e : lnB (x :: L) = bs x ++ 10 :: lnB L := by
      show (bs x ++ [10]) ++ lnB L = _
      rw [List.append_assoc]; rfl
    rw [e, sp1_cut 10 _ _ (h x (List.mem_cons_self ..)), sp1_lnB L fun y hy => h y (List.mem_cons_of_mem _ hy)]
    rfl

/-- The lines of a text of lines. -/
theorem lns_lnB {T : ByteArray} {L : List ByteArray} (h : ∀ x ∈ L, ∀ b ∈ bs x, b ≠ 10) (hT : bs T = lnB L) : lns T = L := by
  have h1 : (split T nl).map (·.data.toList) = L.map bs ++ [[]] := by
    rw [← sp1_lnB L h, ← hT]
    exact split_bytes T 10
  have h2 : split T nl = L ++ [⟨⟨[]⟩⟩] := bmap_inj (by rw [h1, List.map_append]; rfl)
  unfold lns
  rw [h2]
  simp only [List.length_append, List.length_singleton, Nat.add_sub_cancel]
  have h3 : (L ++ [(⟨⟨[]⟩⟩ : ByteArray)]).getD L.length ⟨#[]⟩ = ⟨⟨[]⟩⟩ := by
    rw [List.getD_eq_getElem?_getD, List.getElem?_append_right (Nat.le_refl _)]
    simp
  rw [h3, show emp (⟨⟨[]⟩⟩ : ByteArray) = true from by simp [emp], cond_true, List.take_left]

/-- The lines that are written. -/
def shLn : List Cap → Nat → List ByteArray
  | [], _ => []
  | c :: r, i => itoa ((i + 1 : Nat) : Int) :: tms c comma :: (c.lines ++ ⟨⟨[]⟩⟩ :: shLn r (i + 1))

theorem lnB_app (a b : List ByteArray) : lnB (a ++ b) = lnB a ++ lnB b := by
  unfold lnB
  rw [List.flatMap_append]

theorem lnB_cons (x : ByteArray) (b : List ByteArray) : lnB (x :: b) = bs x ++ ([10] ++ lnB b) := by
  show (bs x ++ [10]) ++ lnB b = _
  rw [List.append_assoc]

theorem bs_shW : ∀ (m : List Cap) (i : Nat) (s : ByteArray), (∀ c ∈ m, c.lines ≠ []) → bs (shW m i s) = bs s ++ lnB (shLn m i)
  | [], i, s, _ => by rw [shW]; simp [shLn, lnB]
  | c :: r, i, s, h => by
    rw [shW, bs_shW r (i + 1) _ fun d hd => h d (List.mem_cons_of_mem _ hd), bs_app, shLn, lnB_cons, lnB_cons, lnB_app, lnB_cons, ← bs_join_nl (h c (List.mem_cons_self ..))]
    unfold shT
    simp only [bs_app, List.append_assoc, show bs nl = [10] from rfl, show bs nlnl = [10, 10] from rfl, show bs (⟨⟨[]⟩⟩ : ByteArray) = [] from rfl, List.nil_append, List.cons_append]

theorem dig_ne {b : UInt8} (h : digB b = true) : b ≠ 10 := by
  rintro rfl
  exact absurd h (by decide)

theorem itoa_ne (k : Nat) : ∀ b ∈ bs (itoa (k : Int)), b ≠ 10 := fun b hb => by
  rw [bs_itoa] at hb
  exact dig_ne (List.all_eq_true.1 (dec_all k) b hb)

theorem clk_ne {t : Int} {p : ByteArray} {q : UInt8} (hp : bs p = [q]) (hq : q ≠ 10) (h0 : 0 ≤ t) (h1 : t ≤ 359999999) : ∀ b ∈ bs (clk t p), b ≠ 10 := by
  obtain ⟨k, rfl⟩ := Int.eq_ofNat_of_zero_le h0
  intro b hb
  rw [bs_clk (by omega), hp] at hb
  simp only [List.cons_append, List.nil_append, List.mem_cons, List.not_mem_nil, or_false] at hb
  have D : ∀ n, n < 10 → dg n ≠ 10 := fun n hn => dig_ne (dg_dig hn)
  rcases hb with rfl | rfl | rfl | rfl | rfl | rfl | rfl | rfl | rfl | rfl | rfl | rfl
  all_goals first | exact hq | exact D _ (by omega) | decide

theorem tms_ne {c : Cap} {p : ByteArray} {q : UInt8} (hp : bs p = [q]) (hq : q ≠ 10) (h : capW c = true) : ∀ b ∈ bs (tms c p), b ≠ 10 := by
  obtain ⟨h1, h2, h3, h4, _⟩ := capW_spec h
  intro b hb
  unfold tms at hb
  rw [bs_app, bs_app, List.mem_append, List.mem_append] at hb
  rcases hb with (hb | hb) | hb
  · exact clk_ne hp hq h1 h2 b hb
  · have hb : b ∈ ([32, 45, 45, 62, 32] : List UInt8) := hb
    simp only [List.mem_cons, List.not_mem_nil, or_false] at hb
    rcases hb with rfl | rfl | rfl | rfl | rfl <;> decide
  · exact clk_ne hp hq h3 h4 b hb

theorem line_ne {s : ByteArray} (h : line s = true) : (∀ b ∈ bs s, b ≠ 10) ∧ s.size ≠ 0 := by
  unfold line clean at h
  simp only [Bool.and_eq_true, decide_eq_true_eq] at h
  refine ⟨fun b hb => ?_, h.2.1.1.1.1.1⟩
  have := List.all_eq_true.1 h.2.2 b hb
  rintro rfl
  exact absurd this (by decide)

theorem shLn_ne : ∀ (m : List Cap) (i : Nat), (∀ c ∈ m, capW c = true) → ∀ x ∈ shLn m i, ∀ b ∈ bs x, b ≠ 10
  | [], i, _, x, hx => by cases hx
  | c :: r, i, h, x, hx => by
    have hc := h c (List.mem_cons_self ..)
    obtain ⟨h1, h2, h3, h4, h5, h6, h7, h8, h9⟩ := capW_spec hc
    rw [shLn, List.mem_cons, List.mem_cons, List.mem_append, List.mem_cons] at hx
    rcases hx with rfl | rfl | hx | rfl | hx
    · exact itoa_ne _
    · exact tms_ne rfl (by decide) hc
    · exact (line_ne (h9 x hx)).1
    · intro b hb; cases hb
    · exact shLn_ne r (i + 1) (fun d hd => h d (List.mem_cons_of_mem _ hd)) x hx

theorem take_at {L : List ByteArray} {a : Nat} {x : ByteArray} {t : List ByteArray} (h : L.drop a = x :: t) : tkB L a = true ∧ tkS L a = x ∧ L.drop (a + 1) = t ∧ a < L.length := by
  have hlt : a < L.length := by
    rcases Nat.lt_or_ge a L.length with h' | h'
    · exact h'
    · rw [List.drop_eq_nil_of_le h'] at h; cases h
  have h0 : L[a]? = some x := by
    have : (L.drop a)[0]? = some x := by rw [h]; rfl
    rw [List.getElem?_drop] at this
    simpa using this
  have hB : tkB L a = true := decide_eq_true hlt
  refine ⟨hB, ?_, ?_, hlt⟩
  · unfold tkS
    rw [hB, cond_true, List.getD_eq_getElem?_getD, h0]; rfl
  · have : (L.drop a).drop 1 = t := by rw [h]; rfl
    rw [List.drop_drop] at this
    exact this

theorem bd_lines (E : ByteArray) (hE : emp E = true) (M : List ByteArray) : ∀ (ls acc : List ByteArray) (a : Nat), (∀ x ∈ ls, line x = true) → acc ++ ls ≠ [] → bd (ls ++ E :: M) acc a = (true, acc ++ ls, a + ls.length)
  | [], acc, a, _, h => by
    have he : acc.isEmpty = false := by cases acc; exact absurd rfl h; rfl
    rw [List.nil_append, bd, hE, he]
    simp
  | x :: r, acc, a, hl, h => by
    have hx := hl x (List.mem_cons_self ..)
    have he : emp x = false := by rw [emp_size, decide_eq_false_iff_not]; exact (line_ne hx).2
    rw [List.cons_append, bd, he, Bool.false_and, cond_false, hx, cond_true, bd_lines E hE M r (acc ++ [x]) (a + 1) (fun y hy => hl y (List.mem_cons_of_mem _ hy)) (by simp)]
    rw [List.append_assoc, List.singleton_append, List.length_cons]
    congr 2
    omega

theorem lead_shLn (m : List Cap) (i : Nat) : lead (shLn m i) = 0 := by
  cases m with
  | nil => rfl
  | cons c r =>
    have h := dec_len_pos (i + 1)
    rw [shLn, lead, emp_size, size_bs, bs_itoa, decide_eq_false (by omega)]
    rfl
where
  dec_len_pos (u : Nat) : 1 ≤ (Lib.decDigits u).length := by
    rw [Lib.decDigits_length]
    exact Lib.nDigits_pos u

theorem shL_back : ∀ (m : List Cap) (i : Nat) (L : List ByteArray) (out : List Cap) (a f : Nat), L.drop a = shLn m i → a ≤ L.length → m.length ≤ f → (∀ c ∈ m, capW c = true) → shS m i = true → i + m.length ≤ 500 →
    shL L f out a = (true, out ++ m, L.length)
  | [], i, L, out, a, f, hd, ha, _, _, _, _ => by
    have he : a = L.length := by
      have := congrArg List.length hd
      rw [List.length_drop] at this
      simp [shLn] at this
      omega
    have ht : tkB L a = false := decide_eq_false (by omega)
    cases f with
    | zero => rw [shL, List.append_nil, he]
    | succ f => rw [shL, ht, cond_false, List.append_nil, he]
  | c :: r, i, L, out, a, 0, hd, ha, hf, _, _, _ => by simp at hf
  | c :: r, i, L, out, a, f + 1, hd, ha, hf, hw, hs, hn => by
    have hc := hw c (List.mem_cons_self ..)
    obtain ⟨h1, h2, h3, h4, h5, h6, h7, h8, h9⟩ := capW_spec hc
    rw [shLn] at hd
    obtain ⟨a1, a2, a3, a4⟩ := take_at hd
    obtain ⟨b1, b2, b3, b4⟩ := take_at a3
    rw [List.length_cons] at hf hn
    have hnum : isNum (itoa ((i + 1 : Nat) : Int)) = true := isNum_itoa (by omega)
    obtain ⟨x, hx⟩ := Int.eq_ofNat_of_zero_le h1
    obtain ⟨y, hy⟩ := Int.eq_ofNat_of_zero_le h3
    obtain ⟨r1, r2, r3, r4⟩ := rtP_tms (a := x) (b := y) (s := tms c comma) (p := comma) (q := 44) rfl (by decide) (by omega) (by omega) (r := []) (by unfold tms; rw [hx, hy, List.append_nil])
    have htm : tmOk L (a + 1) = true := by
      unfold tmOk
      rw [b1, b2, r4, emp_size, size_bs, r3]
      rfl
    rw [shS, Bool.and_eq_true] at hs
    have hB : shB c = false := by simpa using hs.1
    have hcap : capOf (tms c comma) c.lines = c := by
      unfold capOf
      rw [r1, r2]
      unfold shB at hB
      simp only [Bool.or_eq_false_iff] at hB
      obtain ⟨⟨k1, k2⟩, k3⟩ := hB
      have k1 : c.row = 0 := by simpa using k1
      obtain ⟨fr, tt, ls, row, be, af⟩ := c
      simp only at hx hy k1 k2 k3 ⊢
      rw [hx, hy, k1, k2, k3]
    have hbd := bd_lines (⟨⟨[]⟩⟩ : ByteArray) (by simp [emp]) (shLn r (i + 1)) c.lines [] (a + 1 + 1) h9 (by simpa using h8)
    rw [← b3, List.nil_append] at hbd
    have hd2 : L.drop (a + 1 + 1 + c.lines.length) = ⟨⟨[]⟩⟩ :: shLn r (i + 1) := by
      rw [← List.drop_drop, b3, List.drop_left]
    obtain ⟨d1, d2, d3, d4⟩ := take_at hd2
    have hlead : lead (L.drop (a + 1 + 1 + c.lines.length)) = 1 := by
      rw [hd2, lead, lead_shLn, show emp (⟨⟨[]⟩⟩ : ByteArray) = true from by simp [emp]]
      rfl
    have ih := shL_back r (i + 1) L (out ++ [c]) (a + 1 + 1 + c.lines.length + 1) f d3 (by omega) (by omega) (fun d hd => hw d (List.mem_cons_of_mem _ hd)) hs.2 (by omega)
    rw [shL, a1, cond_true, a2, hnum, cond_true, htm, cond_true, hbd]
    simp only [cond_true, hlead, b2, hcap]
    rw [ih, List.append_assoc]
    rfl

theorem shLn_len : ∀ (m : List Cap) (i : Nat), m.length ≤ (shLn m i).length
  | [], i => Nat.le_refl _
  | c :: r, i => by
    have := shLn_len r (i + 1)
    rw [shLn]
    simp only [List.length_cons, List.length_append]
    omega

/-- What was written is read. -/
theorem short_back {l : List Cap} (h : shortF l = 0) : rdSh (shortS l) = (l, 0, 0) := by
  unfold shortF at h
  cases hc : chkC l != 0
  · have hc0 : chkC l = 0 := by simpa using hc
    obtain ⟨g1, g2⟩ := chkC_w hc0
    have hw := List.all_eq_true.1 g2
    rw [hc, cond_false] at h
    cases hs : shS l 0
    · rw [hs] at h; cases h
    · rw [hs, cond_true] at h
      unfold bndF at h
      cases hb : decide (200000 < (shW l 0 ⟨⟨[]⟩⟩).size)
      · have e1 : shortS l = shW l 0 ⟨⟨[]⟩⟩ := by unfold shortS bndS; rw [hc, hs, hb]; rfl
        have hT : bs (shW l 0 ⟨⟨[]⟩⟩) = lnB (shLn l 0) := by rw [bs_shW l 0 _ fun c hc => (capW_spec (hw c hc)).2.2.2.2.2.2.2.1]; rfl
        have hL : lns (shW l 0 ⟨⟨[]⟩⟩) = shLn l 0 := lns_lnB (shLn_ne l 0 hw) hT
        have hA : shA (shLn l 0) 0 = (true, l, (shLn l 0).length) := by
          unfold shA
          rw [List.drop_zero, lead_shLn]
          exact shL_back l 0 (shLn l 0) [] 0 _ rfl (Nat.zero_le _) (by have := shLn_len l 0; omega) hw hs (by omega)
        rw [e1]
        unfold rdSh
        rw [hb, hL, hA]
        unfold rdK
        simp only [cond_true, cond_false, hc]
      · rw [hb] at h; cases h
  · rw [hc, cond_true] at h
    rw [h] at hc; simp at hc

end F
end Go.Proofs.YthcfbeckhgngiaaDoor
