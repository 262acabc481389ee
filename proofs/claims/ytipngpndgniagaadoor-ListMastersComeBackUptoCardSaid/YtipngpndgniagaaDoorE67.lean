/- What is proved here: lines and words that are put together and cut again, on plain data (no statement of the seat). -/
import Derived.Test.YtipngpndgniagaaDoorE66
namespace Go.Proofs.YtipngpndgniagaaDoor
open Go Go.RowKit
set_option linter.unusedVariables false
set_option linter.unusedSimpArgs false

theorem F.index_first {c : UInt8} : ∀ {x : List UInt8} {r : List UInt8}, c ∉ x → Lib.indexByte (x ++ c :: r) c = (x.length : Int)
  | [], r, _ => by simp [Lib.indexByte]
  | b :: x, r, h => by
    have hb : (b == c) = false := by
      simp only [beq_eq_false_iff_ne]
      intro e; exact h (by rw [e]; exact List.mem_cons_self ..)
    have ih := F.index_first (x := x) (r := r) (fun hm => h (List.mem_cons_of_mem _ hm))
    rw [List.cons_append, Lib.indexByte, hb, ih]
    have h2 : ((x.length : Int) == -1) = false := by
      rw [beq_eq_false_iff_ne]; omega
    rw [if_neg (by simp), if_neg (by simp [h2])]
    simp

theorem F.index_no {c : UInt8} : ∀ {x : List UInt8}, c ∉ x → Lib.indexByte x c = -1
  | [], _ => rfl
  | b :: x, h => by
    have hb : (b == c) = false := by
      simp only [beq_eq_false_iff_ne]
      intro e; exact h (by rw [e]; exact List.mem_cons_self ..)
    rw [Lib.indexByte, hb, F.index_no (x := x) fun hm => h (List.mem_cons_of_mem _ hm)]
    rfl

theorem F.indexByte_at : ∀ {l : List UInt8} {c : UInt8} {i : Nat}, Lib.indexByte l c = i → l = l.take i ++ c :: l.drop (i + 1)
  | [], c, i, h => by
    have h : (-1 : Int) = i := h
    omega
  | b :: l, c, i, h => by
    unfold Lib.indexByte at h
    split at h
    · rename_i hb
      have : i = 0 := by omega
      subst this
      have hb : b = c := by simpa using hb
      simp [hb]
    · split at h
      · omega
      · rename_i hn
        have hn : Lib.indexByte l c ≠ -1 := by simpa using hn
        cases i with
        | zero =>
          have := Lib.indexByte_ge l c
          omega
        | succ i =>
          have ih := F.indexByte_at (l := l) (c := c) (i := i) (by omega)
          simp only [List.take_succ_cons, List.drop_succ_cons, List.cons_append]
          congr 1

theorem F.cut_eq (s : ByteArray) : Lib.cut (F.bs s) (F.bs F.nl) = if Lib.indexByte (F.bs s) 10 ≥ 0 then ((F.bs s).take (Lib.indexByte (F.bs s) 10).toNat, (F.bs s).drop ((Lib.indexByte (F.bs s) 10).toNat + 1), true) else (F.bs s, [], false) := by
  have h : Lib.index (F.bs s) (F.bs F.nl) = Lib.indexByte (F.bs s) 10 := Lib.index_one ..
  unfold Lib.cut
  rw [h]
  rfl

/-- A line, put before the rest of a text. -/
theorem F.cut_line {s : ByteArray} {a r : List UInt8} (ha : (10 : UInt8) ∉ a) (h : F.bs s = a ++ 10 :: r) : F.cutF s F.nl = true ∧ F.bs (F.cutH s F.nl) = a ∧ F.bs (F.cutT s F.nl) = r := by
  have e := F.cut_eq s
  rw [h, F.index_first ha, if_pos (by omega)] at e
  unfold F.cutF F.cutH F.cutT
  rw [h, e, F.bs_mk, F.bs_mk]
  refine ⟨rfl, ?_, ?_⟩
  · simp
  · rw [show (((a.length : Nat) : Int).toNat + 1) = a.length + 1 by omega, List.drop_append]
    simp

theorem F.cut_back {s : ByteArray} (h : F.cutF s F.nl = true) : F.bs s = F.bs (F.cutH s F.nl) ++ 10 :: F.bs (F.cutT s F.nl) := by
  have e := F.cut_eq s
  unfold F.cutF at h
  unfold F.cutH F.cutT
  rw [F.bs_mk (Lib.cut (F.bs s) (F.bs F.nl)).1, F.bs_mk (Lib.cut (F.bs s) (F.bs F.nl)).2.1]
  split at e
  · rename_i hi
    rw [e]
    exact F.indexByte_at (i := (Lib.indexByte (F.bs s) 10).toNat) (by omega)
  · rw [e] at h; cases h

/-- Words with blanks between, in bytes. -/
def F.jl : List ByteArray → List UInt8
  | [] => []
  | x :: l => F.bs x ++ (match l with | [] => [] | y :: l' => 32 :: F.jl (y :: l'))

def F.join (ws : List ByteArray) : ByteArray := ⟨(F.jl ws).toArray⟩

theorem F.bs_join (ws : List ByteArray) : F.bs (F.join ws) = F.jl ws := F.bs_mk _

theorem F.jl_cons {x : ByteArray} {l : List ByteArray} (h : l ≠ []) : F.jl (x :: l) = F.bs x ++ 32 :: F.jl l := by
  cases l with
  | nil => exact absurd rfl h
  | cons y l => rw [F.jl]

theorem F.jl_one (x : ByteArray) : F.jl [x] = F.bs x := by simp [F.jl]

theorem F.split_join : ∀ {ws : List ByteArray}, ws ≠ [] → (∀ x ∈ ws, (32 : UInt8) ∉ F.bs x) → F.split (F.join ws) F.sp = ws
  | [], h, _ => absurd rfl h
  | [x], _, h => by
    have e : F.join [x] = x := F.bsx (by rw [F.bs_join, F.jl_one])
    have hm : Lib.indexB x F.sp = -1 := by
      show Lib.index x.data.toList [32] = -1
      rw [Lib.index_one]; exact F.index_no (h x (List.mem_singleton.2 rfl))
    rw [e]
    unfold F.split
    rw [Lib.countB_miss _ _ hm, Lib.splitB_zero]
  | x :: y :: l, _, h => by
    have hd : (F.join (x :: y :: l)).data.toList = x.data.toList ++ 32 :: F.jl (y :: l) := (F.bs_join _).trans (F.jl_cons (by simp))
    generalize hs : F.join (x :: y :: l) = s at hd ⊢
    have hi : Lib.indexB s F.sp = ((x.size : Nat) : Int) := by
      show Lib.index s.data.toList [32] = _
      rw [Lib.index_one, hd, show Lib.indexByte (x.data.toList ++ 32 :: F.jl (y :: l)) 32 = (x.data.toList.length : Int) from F.index_first (h x (List.mem_cons_self ..)), Lib.size_eq]
    have hx : s.extract 0 (x.size + 0) = x := F.bsx (by
      show (s.extract 0 (x.size + 0)).data.toList = x.data.toList
      rw [Lib.extract_data, hd, List.drop_zero, Nat.add_zero, Nat.sub_zero, Lib.size_eq, List.take_left])
    have hr : s.extract (x.size + F.sp.size) s.size = F.join (y :: l) := F.bsx (by
      have e1 : F.sp.size = 1 := rfl
      rw [F.bs_join]
      show (s.extract (x.size + F.sp.size) s.size).data.toList = _
      rw [Lib.extract_data, hd, e1, Lib.size_eq s, hd, show x.data.toList ++ 32 :: F.jl (y :: l) = (x.data.toList ++ [32]) ++ F.jl (y :: l) by simp, show x.size + 1 = (x.data.toList ++ [32]).length by rw [Lib.size_eq]; simp, List.drop_left, List.take_of_length_le]
      simp; omega)
    unfold F.split
    rw [Lib.countB_hit s F.sp x.size (Nat.le_refl 1) hi, hr, Nat.add_comm, Lib.splitB_hit _ _ _ _ _ hi, hx, hr]
    have ih := F.split_join (ws := y :: l) (by simp) fun z hz => h z (List.mem_cons_of_mem _ hz)
    unfold F.split at ih
    rw [ih]

/-- What was split at blanks, joined with blanks. -/
theorem F.join_splitB : ∀ (k : Nat) (s : ByteArray), F.jl (Lib.splitB F.sp 0 k s) = s.data.toList
  | 0, s => by rw [Lib.splitB_zero, F.jl_one]; rfl
  | k + 1, s => by
    rcases Lib.indexB_cases s F.sp with h | ⟨i, h, hi⟩
    · rw [Lib.splitB_miss _ _ _ _ h, F.jl_one]; rfl
    · have hsz : F.sp.size = 1 := rfl
      rw [Lib.splitB_hit _ _ _ _ _ h]
      have ih := F.join_splitB k (s.extract (i + F.sp.size) s.size)
      have hne : (Lib.splitB F.sp 0 k (s.extract (i + F.sp.size) s.size)) ≠ [] := by
        cases k with
        | zero => rw [Lib.splitB_zero]; simp
        | succ k =>
          rw [Lib.splitB]
          split <;> simp
      rw [F.jl_cons hne, ih]
      show (s.extract 0 (i + 0)).data.toList ++ _ = _
      rw [Lib.extract_data, Lib.extract_data, hsz]
      have hx : Lib.index s.data.toList [32] = (i : Int) := h
      rw [Lib.index_one] at hx
      have := F.indexByte_at hx
      have e2 : (s.data.toList.drop (i + 1)).take (s.size - (i + 1)) = s.data.toList.drop (i + 1) := by
        apply List.take_of_length_le
        rw [List.length_drop, ← Lib.size_eq]
        exact Nat.le_refl _
      rw [e2, List.drop_zero, Nat.add_zero, Nat.sub_zero]
      exact this.symm

theorem F.join_wds (s : ByteArray) : F.jl (F.wds s) = F.bs s := F.join_splitB _ s

theorem F.vis_no {x : ByteArray} {c : UInt8} (h : F.vis x 33 = true) (hc : c.toNat < 33) : c ∉ F.bs x := by
  intro hm
  have := List.all_eq_true.1 h c hm
  unfold F.visB at this
  simp at this
  omega

theorem F.jl_no {c : UInt8} (hc : c ≠ 32) : ∀ (ws : List ByteArray), (∀ x ∈ ws, c ∉ F.bs x) → c ∉ F.jl ws
  | [], _ => by simp [F.jl]
  | [x], h => by rw [F.jl_one]; exact h x (List.mem_singleton.2 rfl)
  | x :: y :: l, h => by
    rw [F.jl_cons (by simp), List.mem_append, List.mem_cons]
    rintro (h1 | h1 | h1)
    · exact h x (List.mem_cons_self ..) h1
    · exact hc h1
    · exact F.jl_no hc (y :: l) (fun z hz => h z (List.mem_cons_of_mem _ hz)) h1

/-- Two lines: words, and an address. -/
def F.two (w : List ByteArray) (u : ByteArray) : List UInt8 := F.jl w ++ 10 :: (F.bs u ++ [10])

theorem F.two_cut {s : ByteArray} {w : List ByteArray} {u : ByteArray} {r : List UInt8} (hw : F.wOk w = true) (h0 : w ≠ []) (hu : F.vis u 33 = true) (h : F.bs s = F.two w u ++ r) :
    F.cutF s F.nl = true ∧ F.wds (F.cutH s F.nl) = w ∧ F.cutF (F.cutT s F.nl) F.nl = true ∧ F.cutH (F.cutT s F.nl) F.nl = u ∧ F.bs (F.cutT (F.cutT s F.nl) F.nl) = r := by
  have hv : ∀ x ∈ w, F.vis x 33 = true := fun x hx => by
    have := List.all_eq_true.1 hw x hx
    unfold F.wdB at this
    rw [Bool.and_eq_true] at this
    exact this.2
  have e : F.bs s = F.jl w ++ 10 :: (F.bs u ++ 10 :: r) := by rw [h]; simp [F.two]
  obtain ⟨c1, c2, c3⟩ := F.cut_line (F.jl_no (by decide) w fun x hx => F.vis_no (hv x hx) (by decide)) e
  obtain ⟨c4, c5, c6⟩ := F.cut_line (F.vis_no hu (by decide)) c3
  refine ⟨c1, ?_, c4, F.bsx c5, c6⟩
  have : F.cutH s F.nl = F.join w := F.bsx (by rw [c2, F.bs_join])
  rw [this]
  exact F.split_join h0 fun x hx => F.vis_no (hv x hx) (by decide)

theorem F.two_back {s : ByteArray} (h1 : F.cutF s F.nl = true) (h2 : F.cutF (F.cutT s F.nl) F.nl = true) : F.bs s = F.two (F.wds (F.cutH s F.nl)) (F.cutH (F.cutT s F.nl) F.nl) ++ F.bs (F.cutT (F.cutT s F.nl) F.nl) := by
  unfold F.two
  rw [F.join_wds, F.cut_back h1, F.cut_back h2]
  simp

end Go.Proofs.YtipngpndgniagaaDoor
