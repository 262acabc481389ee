/- What is proved here: lists of beats come together in one way (no statement of the seat). -/
import Derived.Test.YtlnflhmepnbcmaaB73
import Derived.Test.YtlnflhmepnbcmaaB74
namespace Go.Proofs.Ytlnflhmepnbcmaa
open Go Go.RowKit
set_option linter.unusedVariables false
set_option linter.unusedSimpArgs false

namespace F

theorem cmp_neg (a b : ByteArray) : F.cmp b a = - F.cmp a b := K.cb_neg _ _

theorem border_neg (a b : Beat) : border b a = - border a b := by
  unfold border
  rw [cmp_neg a.session b.session]
  by_cases h : F.cmp a.session b.session = 0
  · rw [h]
    by_cases h3 : a.no < b.no
    · have h4 : ¬ b.no < a.no := by omega
      simp [h3, h4]
    · by_cases h4 : b.no < a.no
      · simp [h3, h4]
      · simp [h3, h4]
  · have h2 : ¬ - F.cmp a.session b.session = 0 := by omega
    rw [M.bne1 h, M.bne1 h2]
    rfl

theorem lt_iff {a b : Beat} : ltB a b = true ↔ border a b < 0 := by unfold ltB; exact decide_eq_true_iff

theorem lt_iff' {a b : Beat} : ltB b a = true ↔ 0 < border a b := by rw [lt_iff, border_neg a b]; omega

theorem lt_fls {a b : Beat} : ltB a b = false ↔ 0 ≤ border a b := by
  rw [← Bool.not_eq_true, lt_iff]; omega

theorem lt_fls' {a b : Beat} : ltB b a = false ↔ border a b ≤ 0 := by
  rw [← Bool.not_eq_true, lt_iff']; omega

theorem lt_trans {a b c : Beat} (h1 : ltB a b = true) (h2 : ltB b c = true) : ltB a c = true := by
  cases h : ltB a c
  · exfalso
    have := swB.tr b c a (swB.asym b c h2) h
    rw [h1] at this; cases this
  · rfl

theorem lt_le {a b c : Beat} (h1 : ltB a b = true) (h2 : ltB c b = false) : ltB a c = true := by
  cases h : ltB a c
  · exfalso
    have := swB.tr b c a h2 h
    rw [h1] at this; cases this
  · rfl

theorem lt_irr (a : Beat) : ltB a a = false := by
  cases h : ltB a a
  · rfl
  · have := swB.asym a a h; rw [h] at this; cases this

/-- Each one is before all behind it. -/
def SS (l : List Beat) : Prop := l.Pairwise fun x y => ltB x y = true

theorem SS.cmp {l : List Beat} (h : SS l) {x y : Beat} (hx : x ∈ l) (hy : y ∈ l) : x = y ∨ ltB x y = true ∨ ltB y x = true := by
  induction l with
  | nil => cases hx
  | cons z l ih =>
    obtain ⟨h1, h2⟩ := List.pairwise_cons.1 h
    rcases List.mem_cons.1 hx with e | hx'
    · rcases List.mem_cons.1 hy with e' | hy'
      · exact .inl (e.trans e'.symm)
      · rw [e]; exact .inr (.inl (h1 y hy'))
    · rcases List.mem_cons.1 hy with e' | hy'
      · rw [e']; exact .inr (.inr (h1 x hx'))
      · exact ih h2 hx' hy'

theorem SS.only {l : List Beat} (h : SS l) {x y : Beat} (hx : x ∈ l) (hy : y ∈ l) (h0 : border x y = 0) : x = y := by
  rcases h.cmp hx hy with e | e | e
  · exact e
  · rw [lt_iff] at e; omega
  · rw [lt_iff'] at e; omega

theorem SS.uniq : ∀ {l m : List Beat}, SS l → SS m → (∀ z, z ∈ l ↔ z ∈ m) → l = m
  | [], [], _, _, _ => rfl
  | [], y :: m, _, _, h => by have := (h y).2 (List.mem_cons_self ..); cases this
  | x :: l, [], _, _, h => by have := (h x).1 (List.mem_cons_self ..); cases this
  | x :: l, y :: m, hl, hm, h => by
    obtain ⟨l1, l2⟩ := List.pairwise_cons.1 hl
    obtain ⟨m1, m2⟩ := List.pairwise_cons.1 hm
    have e : x = y := by
      rcases List.mem_cons.1 ((h x).1 (List.mem_cons_self ..)) with e | hx
      · exact e
      · rcases List.mem_cons.1 ((h y).2 (List.mem_cons_self ..)) with e | hy
        · exact e.symm
        · have := swB.asym _ _ (m1 x hx); rw [l1 y hy] at this; cases this
    subst e
    congr 1
    refine SS.uniq l2 m2 fun z => ⟨fun hz => ?_, fun hz => ?_⟩
    · rcases List.mem_cons.1 ((h z).1 (List.mem_cons_of_mem _ hz)) with rfl | hz'
      · have := l1 z hz; rw [lt_irr] at this; cases this
      · exact hz'
    · rcases List.mem_cons.1 ((h z).2 (List.mem_cons_of_mem _ hz)) with rfl | hz'
      · have := m1 z hz; rw [lt_irr] at this; cases this
      · exact hz'

/-! What is checked is in order. -/

theorem chkB_ss : ∀ {l : List Beat} {p : Option Beat}, chkB p l = 0 → SS l ∧ ∀ o, p = some o → ∀ z ∈ l, ltB o z = true
  | [], _, _ => ⟨.nil, fun _ _ z hz => by cases hz⟩
  | b :: l, p, h => by
    unfold chkB at h
    by_cases h1 : beatF1 b = 0
    · rw [M.bne0 h1, cond_false] at h
      have h3 : chkB (some b) l = 0 ∧ ∀ o, p = some o → ltB o b = true := by
        cases p with
        | none => exact ⟨h, fun o ho => by cases ho⟩
        | some o =>
          simp only at h
          by_cases h4 : beatF2 o b = 0
          · rw [M.bne0 h4, cond_false] at h
            refine ⟨h, fun o' ho => ?_⟩
            cases ho
            unfold beatF2 at h4
            cases h5 : decide (0 ≤ border o b)
            · rw [lt_iff]; have := of_decide_eq_false h5; omega
            · rw [h5] at h4; simp at h4
          · rw [M.bne1 h4, cond_true] at h; exact absurd h h4
      obtain ⟨h5, h6⟩ := chkB_ss h3.1
      refine ⟨List.pairwise_cons.2 ⟨h6 b rfl, h5⟩, fun o ho z hz => ?_⟩
      rcases List.mem_cons.1 hz with rfl | hz
      · exact h3.2 o ho
      · exact lt_trans (h3.2 o ho) (h6 b rfl z hz)
    · rw [M.bne1 h1, cond_true] at h; exact absurd h h1

theorem check_ss {l : List Beat} (h : checkB l = 0) : SS l := by
  unfold checkB at h
  by_cases h2 : 3000 < l.length
  · rw [decide_eq_true h2, cond_true] at h; cases h
  · rw [decide_eq_false h2, cond_false] at h; exact (chkB_ss h).1

/-! What comes of both. -/

theorem ddT_mem : ∀ {r : List Beat} {p z : Beat}, (z = p ∨ z ∈ ddT p r) ↔ (z = p ∨ z ∈ r)
  | [], p, z => Iff.rfl
  | y :: r, p, z => by
    unfold ddT
    cases hq : M.eqBeat y p
    · simp only [cond_false, List.mem_cons]
      have := @ddT_mem r y z
      constructor
      · rintro (h | h)
        · exact .inl h
        · exact .inr (this.1 h)
      · rintro (h | h)
        · exact .inl h
        · exact .inr (this.2 h)
    · simp only [cond_true, List.mem_cons]
      have e := eqBeat_iff.1 hq
      subst e
      have := @ddT_mem r y z
      constructor
      · intro h; exact (this.1 h).imp id .inr
      · rintro (h | h | h)
        · exact .inl h
        · exact .inl h
        · exact this.2 (.inr h)

theorem dd_mem {l : List Beat} {z : Beat} : z ∈ dd l ↔ z ∈ l := by
  cases l with
  | nil => exact Iff.rfl
  | cons x r =>
    show z ∈ x :: ddT x r ↔ z ∈ x :: r
    rw [List.mem_cons, List.mem_cons]
    exact ddT_mem

theorem ddT_sub : ∀ {r : List Beat} {p : Beat}, List.Sublist (ddT p r) r
  | [], _ => .slnil
  | y :: r, p => by
    unfold ddT
    cases M.eqBeat y p
    · exact .cons_cons y ddT_sub
    · exact .cons y ddT_sub

theorem dd_sub {l : List Beat} : List.Sublist (dd l) l := by
  cases l with
  | nil => exact .slnil
  | cons x r => exact .cons_cons x ddT_sub

theorem ddT_ndd : ∀ {r : List Beat} {p : Beat}, nd p (ddT p r) = true
  | [], _ => rfl
  | y :: r, p => by
    unfold ddT
    cases hq : M.eqBeat y p
    · simp only [cond_false, nd, hq, Bool.not_false, Bool.true_and]
      exact ddT_ndd
    · simp only [cond_true]
      have e := eqBeat_iff.1 hq
      subst e
      exact ddT_ndd

/-- Two of a list are of one place, and not the same. -/
def Clash (l : List Beat) : Prop := ∃ x y, x ∈ l ∧ y ∈ l ∧ x ≠ y ∧ border x y = 0

theorem cl_clash : ∀ {r : List Beat} {p : Beat}, nd p r = true → cl p r = true → Clash (p :: r)
  | [], _, _, h => by cases h
  | y :: r, p, h1, h2 => by
    simp only [nd, Bool.and_eq_true, Bool.not_eq_true'] at h1
    simp only [cl, Bool.or_eq_true, beq_iff_eq] at h2
    rcases h2 with h2 | h2
    · refine ⟨p, y, List.mem_cons_self .., List.mem_cons_of_mem _ (List.mem_cons_self ..), fun e => ?_, h2⟩
      rw [e, M.eqBeat_refl] at h1
      cases h1.1
    · obtain ⟨u, v, hu, hv, h3⟩ := cl_clash h1.2 h2
      exact ⟨u, v, List.mem_cons_of_mem _ hu, List.mem_cons_of_mem _ hv, h3⟩

theorem clL_clash {l : List Beat} (h : clL (dd l) = true) : Clash (dd l) := by
  cases l with
  | nil => cases h
  | cons x r => exact cl_clash ddT_ndd h

theorem cl_ss : ∀ {r : List Beat} {p : Beat}, K.Srt ltB (p :: r) → cl p r = false → SS (p :: r)
  | [], p, _, _ => List.pairwise_cons.2 ⟨(fun _ h => by cases h), List.Pairwise.nil⟩
  | y :: r, p, h1, h2 => by
    obtain ⟨h3, h4⟩ := List.pairwise_cons.1 h1
    simp only [cl, Bool.or_eq_false_iff, beq_eq_false_iff_ne] at h2
    have ih := cl_ss h4 h2.2
    have hpy : ltB p y = true := by
      have := h3 y (List.mem_cons_self ..)
      rw [lt_fls'] at this
      rw [lt_iff]
      have := h2.1
      omega
    refine List.pairwise_cons.2 ⟨fun z hz => ?_, ih⟩
    rcases List.mem_cons.1 hz with rfl | hz
    · exact hpy
    · exact lt_trans hpy ((List.pairwise_cons.1 ih).1 z hz)

theorem both_mem {a b : List Beat} {z : Beat} : z ∈ both a b ↔ z ∈ a ∨ z ∈ b := by
  unfold both
  rw [dd_mem, (K.srt_stb swB (a ++ b)).perm.mem_iff, List.mem_append]

theorem both_ss {a b : List Beat} (h : clL (both a b) = false) : SS (both a b) := by
  have hs : K.Srt ltB (both a b) := List.Pairwise.sublist dd_sub (K.srt_stb swB (a ++ b)).ord
  generalize both a b = l at h hs
  cases l with
  | nil => exact .nil
  | cons x r => exact cl_ss hs h

theorem both_clash {a b : List Beat} : clL (both a b) = true ↔ Clash (a ++ b) := by
  constructor
  · intro h
    obtain ⟨x, y, hx, hy, h3⟩ := clL_clash h
    exact ⟨x, y, List.mem_append.2 (both_mem.1 hx), List.mem_append.2 (both_mem.1 hy), h3⟩
  · rintro ⟨x, y, hx, hy, hne, h0⟩
    cases h : clL (both a b)
    · exact absurd ((both_ss h).only (both_mem.2 (List.mem_append.1 hx)) (both_mem.2 (List.mem_append.1 hy)) h0) hne
    · rfl

/-! The reference puts one beat after the other. -/

theorem fstI_spec (c : Beat) : ∀ (l : List Beat) (i : Nat), ∃ A B, l = A ++ B ∧ fstI c l i = i + A.length ∧ (∀ x ∈ A, ltB x c = true) ∧ (∀ y r, B = y :: r → ltB y c = false)
  | [], i => ⟨[], [], rfl, rfl, (fun x hx => by cases hx), (fun y r h => by cases h)⟩
  | y :: l, i => by
    unfold fstI
    cases hq : ltB y c
    · exact ⟨[], y :: l, rfl, rfl, (fun x hx => by cases hx), (fun z r h => by cases h; exact hq)⟩
    · obtain ⟨A, B, h1, h2, h3, h4⟩ := fstI_spec c l (i + 1)
      refine ⟨y :: A, B, by rw [h1]; rfl, ?_, fun x hx => ?_, h4⟩
      · simp only [cond_true, List.length_cons]; omega
      · rcases List.mem_cons.1 hx with rfl | hx
        · exact hq
        · exact h3 x hx

theorem mg_spec : ∀ {l out : List Beat}, SS out → ((mg out l).2 = true → SS (mg out l).1 ∧ ∀ z, z ∈ (mg out l).1 ↔ z ∈ out ∨ z ∈ l) ∧ ((mg out l).2 = false → Clash (out ++ l))
  | [], out, h => ⟨fun _ => ⟨h, (fun z => by simp [mg])⟩, (fun h => by cases h)⟩
  | c :: r, out, h => by
    obtain ⟨A, B, h1, h2, h3, h4⟩ := fstI_spec c out 0
    rw [Nat.zero_add] at h2
    have hI : F.insAt (fstI c out 0) c out = A ++ c :: B := by
      rw [h2, h1]; unfold F.insAt; rw [List.take_left' rfl, List.drop_left' rfl]
    have hS : (∀ y s, B = y :: s → ltB c y = true) → SS (A ++ c :: B) := fun hB => by
      rw [h1] at h
      obtain ⟨p1, p2, p3⟩ := List.pairwise_append.1 h
      have hcB : ∀ z ∈ B, ltB c z = true := fun z hz => by
        cases B with
        | nil => cases hz
        | cons y s =>
          rcases List.mem_cons.1 hz with rfl | hz
          · exact hB _ _ rfl
          · exact lt_trans (hB _ _ rfl) ((List.pairwise_cons.1 p2).1 z hz)
      refine List.pairwise_append.2 ⟨p1, List.pairwise_cons.2 ⟨hcB, p2⟩, fun x hx z hz => ?_⟩
      rcases List.mem_cons.1 hz with rfl | hz
      · exact h3 x hx
      · exact p3 x hx z hz
    have hM : ∀ z, z ∈ A ++ c :: B ↔ z ∈ out ∨ z = c := fun z => by
      rw [h1, List.mem_append, List.mem_cons, List.mem_append, or_assoc, or_comm (a := z ∈ B)]
    have ins : SS (A ++ c :: B) → ((mg (A ++ c :: B) r).2 = true → SS (mg (A ++ c :: B) r).1 ∧ ∀ z, z ∈ (mg (A ++ c :: B) r).1 ↔ z ∈ out ∨ z ∈ c :: r) ∧ ((mg (A ++ c :: B) r).2 = false → Clash (out ++ c :: r)) := fun hs => by
      obtain ⟨i1, i2⟩ := mg_spec (l := r) hs
      refine ⟨fun ht => ⟨(i1 ht).1, fun z => by rw [(i1 ht).2, hM, List.mem_cons, or_assoc]⟩, fun hf => ?_⟩
      obtain ⟨x, y, hx, hy, h5⟩ := i2 hf
      have key : ∀ z, z ∈ A ++ c :: B ++ r → z ∈ out ++ c :: r := fun z hz => by
        rcases List.mem_append.1 hz with hz | hz
        · rcases (hM z).1 hz with hz | rfl
          · exact List.mem_append.2 (.inl hz)
          · exact List.mem_append.2 (.inr (List.mem_cons_self ..))
        · exact List.mem_append.2 (.inr (List.mem_cons_of_mem _ hz))
      exact ⟨x, y, key x hx, key y hy, h5⟩
    unfold mg
    rw [hI, h2]
    cases B with
    | nil =>
      rw [List.append_nil] at h1
      rw [h1, beq_self_eq_true, Bool.true_or, cond_true]
      rw [h1] at ins
      exact ins (hS fun y s e => by cases e)
    | cons y s =>
      have hl : (out.length == A.length) = false := by
        rw [beq_eq_false_iff_ne, h1, List.length_append, List.length_cons]; omega
      have hg : out.getD A.length default = y := by
        rw [h1, List.getD_eq_getElem?_getD, List.getElem?_append_right (Nat.le_refl _), Nat.sub_self]; rfl
      rw [hl, hg, Bool.false_or]
      have hyc := h4 y s rfl
      cases hq : ltB c y
      · simp only [cond_false]
        have h0 : border c y = 0 := by rw [lt_fls] at hq; rw [lt_fls'] at hyc; omega
        have hyo : y ∈ out := by rw [h1]; exact List.mem_append.2 (.inr (List.mem_cons_self ..))
        cases he : M.eqBeat y c
        · simp only [Bool.not_false, cond_true]
          refine ⟨(fun h => by cases h), fun _ => ⟨c, y, List.mem_append.2 (.inr (List.mem_cons_self ..)), List.mem_append.2 (.inl hyo), fun e => ?_, h0⟩⟩
          rw [e, M.eqBeat_refl] at he; cases he
        · simp only [Bool.not_true, cond_false]
          have e := eqBeat_iff.1 he
          subst e
          obtain ⟨i1, i2⟩ := mg_spec (l := r) h
          refine ⟨fun ht => ⟨(i1 ht).1, fun z => ?_⟩, fun hf => ?_⟩
          · rw [(i1 ht).2, List.mem_cons]
            constructor
            · rintro (h | h)
              · exact .inl h
              · exact .inr (.inr h)
            · rintro (h | rfl | h)
              · exact .inl h
              · exact .inl hyo
              · exact .inr h
          · obtain ⟨u, v, hu, hv, h5⟩ := i2 hf
            have key : ∀ z, z ∈ out ++ r → z ∈ out ++ y :: r := fun z hz => by
              rcases List.mem_append.1 hz with hz | hz
              · exact List.mem_append.2 (.inl hz)
              · exact List.mem_append.2 (.inr (List.mem_cons_of_mem _ hz))
            exact ⟨u, v, key u hu, key v hv, h5⟩
      · simp only [cond_true]
        exact ins (hS fun z t e => by cases e; exact hq)

theorem merge_eq (a b : List Beat) : mergeB a b = mergeR a b := by
  unfold mergeB mergeR merge2
  by_cases h1 : checkB a = 0
  case neg => rw [M.bne1 h1]; rfl
  by_cases h2 : checkB b = 0
  case neg => rw [M.bne0 h1, M.bne1 h2]; rfl
  rw [M.bne0 h1, M.bne0 h2]
  simp only [cond_false]
  obtain ⟨m1, m2⟩ := mg_spec (l := b) (check_ss h1)
  cases h3 : (mg a b).2
  · rw [both_clash.2 (m2 h3)]; rfl
  · obtain ⟨m3, m4⟩ := m1 h3
    have h5 : clL (both a b) = false := by
      cases h : clL (both a b)
      · rfl
      · obtain ⟨x, y, hx, hy, hne, h0⟩ := both_clash.1 h
        exact absurd (m3.only ((m4 x).2 (List.mem_append.1 hx)) ((m4 y).2 (List.mem_append.1 hy)) h0) hne
    have e : both a b = (mg a b).1 := SS.uniq (both_ss h5) m3 fun z => by rw [both_mem, m4]
    rw [h5, e]
    rfl

end F
end Go.Proofs.Ytlnflhmepnbcmaa
