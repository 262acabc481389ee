/- What is proved here: what was written in the long form is read again, plain (no statement of the seat). -/
import Derived.Test.YthcfbeckhgngiaaGreatDoorC151
namespace Go.Proofs.YthcfbeckhgngiaaGreatDoor
open Go Go.RowKit
set_option linter.unusedVariables false
set_option linter.unusedSimpArgs false

namespace F

/-- The lines that are written. -/
def lgLn : List Cap → List ByteArray
  | [] => []
  | c :: r => (tms c dot ++ mks c.row c.bef c.aft) :: (c.lines.map esc ++ ⟨⟨[]⟩⟩ :: lgLn r)

theorem bs_lgW : ∀ (m : List ByteArray) (s : ByteArray), bs (lgW m s) = bs s ++ lnB (m.map esc)
  | [], s => by rw [lgW]; simp [lnB]
  | x :: r, s => by
    rw [lgW, bs_lgW r, bs_cat, bs_cat, List.map_cons, lnB_cons]
    simp only [List.append_assoc]
    rfl

theorem bs_lgH (c : Cap) (s : ByteArray) : bs (lgH c s) = bs s ++ (bs (tms c dot ++ mks c.row c.bef c.aft) ++ [10]) := by
  unfold lgH mks
  have e : bs (⟨⟨[]⟩⟩ : ByteArray) = [] := rfl
  cases c.aft <;> cases c.bef <;> cases (c.row != 0) <;> simp only [cond_true, cond_false, bs_cat, e, List.append_nil, List.nil_append, List.append_assoc] <;> rfl

theorem bs_lgA1 : ∀ (m : List Cap) (s : ByteArray), bs (lgA1 m s) = bs s ++ lnB (lgLn m)
  | [], s => by rw [lgA1]; simp [lgLn, lnB]
  | c :: r, s => by
    rw [lgA1, bs_lgA1 r, lgLn, lnB_cons, lnB_app, lnB_cons]
    unfold lgC
    rw [bs_cat, bs_lgW, bs_lgH]
    simp only [List.append_assoc, show bs nl = [10] from rfl, show bs (⟨⟨[]⟩⟩ : ByteArray) = [] from rfl, List.nil_append, List.cons_append]

theorem mks_ne {k : Nat} (h : k < 16) (b a : Bool) : ∀ x ∈ mksL k b a, x ≠ 10 := by
  have key : ∀ (k : Fin 16) (b a : Bool), ((mksL k.val b a).all fun x => x != 10) = true := by decide +kernel
  intro x hx
  have := List.all_eq_true.1 (key ⟨k, h⟩ b a) x hx
  simpa using this

theorem lgLn_ne : ∀ (m : List Cap), (∀ c ∈ m, capW c = true) → ∀ x ∈ lgLn m, ∀ b ∈ bs x, b ≠ 10
  | [], _, x, hx => by cases hx
  | c :: r, h, x, hx => by
    have hc := h c (List.mem_cons_self ..)
    obtain ⟨h1, h2, h3, h4, h5, h6, h7, h8, h9⟩ := capW_spec hc
    obtain ⟨k, hk⟩ := Int.eq_ofNat_of_zero_le h5
    rw [lgLn, List.mem_cons, List.mem_append, List.mem_cons] at hx
    rcases hx with rfl | hx | rfl | hx
    · intro b hb
      rw [bs_cat, List.mem_append, hk, bs_mks (by omega)] at hb
      rcases hb with hb | hb
      · exact tms_ne rfl (by decide) hc b hb
      · exact mks_ne (by omega) _ _ b hb
    · obtain ⟨y, hy, rfl⟩ := List.mem_map.1 hx
      exact esc_ne (line_ne (h9 y hy)).1
    · intro b hb; cases hb
    · exact lgLn_ne r (fun d hd => h d (List.mem_cons_of_mem _ hd)) x hx

theorem bdP_lines (E : ByteArray) (hE : emp E = true) (M : List ByteArray) : ∀ (ls acc : List ByteArray) (a : Nat), (∀ x ∈ ls, line x = true) → acc ++ ls ≠ [] → bdP (ls.map esc ++ E :: M) acc a = (true, acc ++ ls, a + ls.length)
  | [], acc, a, _, h => by
    have he : acc.isEmpty = false := by cases acc; exact absurd rfl h; rfl
    rw [List.map_nil, List.nil_append, bdP, hE, he]
    simp
  | x :: r, acc, a, hl, h => by
    have hx := hl x (List.mem_cons_self ..)
    obtain ⟨p1, p2⟩ := plOk_esc hx
    have he : emp (esc x) = false := by rw [emp_size, decide_eq_false_iff_not]; have := (line_ne hx).2; have := (esc_size x).1; omega
    rw [List.map_cons, List.cons_append, bdP, he, Bool.false_and, cond_false, p1, cond_true, p2, bdP_lines E hE M r (acc ++ [x]) (a + 1) (fun y hy => hl y (List.mem_cons_of_mem _ hy)) (by simp)]
    rw [List.append_assoc, List.singleton_append, List.length_cons]
    congr 2
    omega

theorem lead_lgLn (m : List Cap) (h : ∀ c ∈ m, capW c = true) : lead (lgLn m) = 0 := by
  cases m with
  | nil => rfl
  | cons c r =>
    have h1 := tms_size (h c (List.mem_cons_self ..)) (show dot.size = 1 from rfl)
    rw [lgLn, lead, emp_size, decide_eq_false (by rw [ByteArray.size_append]; omega)]
    rfl

theorem lgL_back : ∀ (m : List Cap) (L : List ByteArray) (out : List Cap) (a f : Nat), L.drop a = lgLn m → a ≤ L.length → m.length ≤ f → (∀ c ∈ m, capW c = true) →
    lgL L f out a = (true, out ++ m, L.length)
  | [], L, out, a, f, hd, ha, _, _ => by
    have he : a = L.length := by
      have := congrArg List.length hd
      rw [List.length_drop] at this
      simp [lgLn] at this
      omega
    have ht : tkB L a = false := decide_eq_false (by omega)
    cases f with
    | zero => rw [lgL, List.append_nil, he]
    | succ f => rw [lgL, ht, cond_false, List.append_nil, he]
  | c :: r, L, out, a, 0, hd, ha, hf, _ => by simp at hf
  | c :: r, L, out, a, f + 1, hd, ha, hf, hw => by
    have hc := hw c (List.mem_cons_self ..)
    obtain ⟨h1, h2, h3, h4, h5, h6, h7, h8, h9⟩ := capW_spec hc
    rw [lgLn] at hd
    obtain ⟨a1, a2, a3, a4⟩ := take_at hd
    rw [List.length_cons] at hf
    obtain ⟨x, hx⟩ := Int.eq_ofNat_of_zero_le h1
    obtain ⟨y, hy⟩ := Int.eq_ofNat_of_zero_le h3
    obtain ⟨z, hz⟩ := Int.eq_ofNat_of_zero_le h5
    obtain ⟨r1, r2, r3, r4⟩ := rtP_tms (a := x) (b := y) (s := tms c dot ++ mks c.row c.bef c.aft) (p := dot) (q := 46) rfl (by decide) (by omega) (by omega) (r := mksL z c.bef c.aft) (by rw [bs_cat, hz, bs_mks (by omega)]; unfold tms; rw [hx, hy])
    have hr : (rtP (tms c dot ++ mks c.row c.bef c.aft) dot).2.2.1 = ⟨⟨mksL z c.bef c.aft⟩⟩ := bsx r3
    obtain ⟨m1, m2, m3, m4⟩ := mks_read ⟨z, by omega⟩ c.bef c.aft
    have hok : lgOk (tms c dot ++ mks c.row c.bef c.aft) = true := by
      unfold lgOk
      rw [r4, hr, m1]
      rfl
    have hcap : lgCap (tms c dot ++ mks c.row c.bef c.aft) c.lines = c := by
      unfold lgCap
      rw [r1, r2, hr, m2, m3, m4, ← hx, ← hy]
      show (⟨c.fr, c.to, c.lines, (z : Int), c.bef, c.aft⟩ : Cap) = c
      rw [← hz]
    have hbd := bdP_lines (⟨⟨[]⟩⟩ : ByteArray) (by simp [emp]) (lgLn r) c.lines [] (a + 1) h9 (by simpa using h8)
    rw [← a3, List.nil_append] at hbd
    have hd2 : L.drop (a + 1 + c.lines.length) = ⟨⟨[]⟩⟩ :: lgLn r := by
      rw [← List.drop_drop, a3, List.drop_left' (by rw [List.length_map])]
    obtain ⟨d1, d2, d3, d4⟩ := take_at hd2
    have hlead : lead (L.drop (a + 1 + c.lines.length)) = 1 := by
      rw [hd2, lead, lead_lgLn r fun d hd => hw d (List.mem_cons_of_mem _ hd), show emp (⟨⟨[]⟩⟩ : ByteArray) = true from by simp [emp]]
      rfl
    have ih := lgL_back r L (out ++ [c]) (a + 1 + c.lines.length + 1) f d3 (by omega) (by omega) (fun d hd => hw d (List.mem_cons_of_mem _ hd))
    rw [lgL, a1, cond_true, a2, hok, cond_true, hbd]
    simp only [cond_true, hlead, hcap]
    rw [ih, List.append_assoc]
    rfl

theorem lgLn_len : ∀ (m : List Cap), m.length ≤ (lgLn m).length
  | [] => Nat.le_refl _
  | c :: r => by
    have := lgLn_len r
    rw [lgLn]
    simp only [List.length_cons, List.length_append]
    omega

/-- What was written is read. -/
theorem long_back {l : List Cap} (h : longF l = 0) : rdLo (longS l) = (l, 0, 0) := by
  unfold longF at h
  cases hc : chkC l != 0
  · have hc0 : chkC l = 0 := by simpa using hc
    obtain ⟨g1, g2⟩ := chkC_w hc0
    have hw := List.all_eq_true.1 g2
    rw [hc, cond_false] at h
    unfold bndF at h
    cases hb : decide (200000 < (longT l).size)
    · have e1 : longS l = longT l := by unfold longS bndS; rw [hc, hb]; rfl
      have hT : bs (longT l) = lnB (webB :: ⟨⟨[]⟩⟩ :: lgLn l) := by
        unfold longT
        rw [bs_lgA1, lnB_cons, lnB_cons]
        rfl
      have hne : ∀ x ∈ webB :: ⟨⟨[]⟩⟩ :: lgLn l, ∀ b ∈ bs x, b ≠ 10 := by
        intro x hx
        rw [List.mem_cons, List.mem_cons] at hx
        rcases hx with rfl | rfl | hx
        · intro b hb
          have hb : b ∈ ([87, 69, 66, 86, 84, 84] : List UInt8) := hb
          simp only [List.mem_cons, List.not_mem_nil, or_false] at hb
          rcases hb with rfl | rfl | rfl | rfl | rfl | rfl <;> decide
        · intro b hb; cases hb
        · exact lgLn_ne l hw x hx
      have hL : lns (longT l) = webB :: ⟨⟨[]⟩⟩ :: lgLn l := lns_lnB hne hT
      have hlead : lead ((webB :: ⟨⟨[]⟩⟩ :: lgLn l).drop 1) = 1 := by
        rw [List.drop_succ_cons, List.drop_zero, lead, lead_lgLn l hw, show emp (⟨⟨[]⟩⟩ : ByteArray) = true from by simp [emp]]
        rfl
      have hA : lgA (webB :: ⟨⟨[]⟩⟩ :: lgLn l) = (true, l, (webB :: ⟨⟨[]⟩⟩ :: lgLn l).length) := by
        obtain ⟨t1, t2, _, _⟩ := take_at (L := webB :: ⟨⟨[]⟩⟩ :: lgLn l) (a := 0) (x := webB) (t := ⟨⟨[]⟩⟩ :: lgLn l) rfl
        unfold lgA hd1 hd2
        rw [t1, t2, seq_refl, hlead]
        have := lgLn_len l
        exact lgL_back l (webB :: ⟨⟨[]⟩⟩ :: lgLn l) [] (1 + 1) _ rfl (by simp) (by simp only [List.length_cons]; omega) hw
      rw [e1]
      unfold rdLo
      rw [hb, hL, hA]
      unfold rdKL
      simp only [cond_true, cond_false, hc]
    · rw [hb] at h; cases h
  · rw [hc, cond_true] at h
    rw [h] at hc; simp at hc

end F
end Go.Proofs.YthcfbeckhgngiaaGreatDoor
