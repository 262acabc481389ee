/- What is proved here: runes of joined words; words that are joined again (no statement of the seat). -/
import Derived.Test.YtdmccifaggmmkaaDoorC9
import Derived.Lib.RuneCountTail
import Derived.Lib.IndexBytes
namespace Go.Proofs.YtdmccifaggmmkaaDoor
open Go Go.RowKit
set_option linter.unusedVariables false
set_option linter.unusedSimpArgs false

set_option maxHeartbeats 2000000 in
theorem F.decN_cut {n m b0 b1 b2 b3 c1 c2 c3 : Nat} (hm : 1 ≤ m) (hn : m ≤ n) (h1 : c1 = (if 1 < m then b1 else 0)) (h2 : c2 = (if 2 < m then b2 else 0)) (h3 : c3 = (if 3 < m then b3 else 0))
    (k1 : m = 1 → 1 < n → b1 = 32) (k2 : m = 2 → 2 < n → b2 = 32) (k3 : m = 3 → 3 < n → b3 = 32) : Lib.decodeN m b0 c1 c2 c3 = Lib.decodeN n b0 b1 b2 b3 ∧ (Lib.decodeN m b0 c1 c2 c3).2 ≤ m := by
  by_cases e1 : m = 1
  · subst e1
    have : ¬ (1 < n ∧ b1 / 64 = 2) := by
      rintro ⟨a, b⟩
      have := k1 rfl a
      omega
    simp only [Lib.decodeN, Nat.lt_irrefl, false_and, and_false, if_false, this]
    split <;> simp
  by_cases e2 : m = 2
  · subst e2
    simp only [show (1 : Nat) < 2 by omega, if_true] at h1
    subst h1
    have q : ¬ (2 < n ∧ b2 / 64 = 2) := by
      rintro ⟨a, b⟩
      have := k2 rfl a
      omega
    have q1 : (1 < n) = True := eq_true (by omega)
    simp only [Lib.decodeN, Nat.lt_irrefl, false_and, and_false, if_false, q, q1, show ((1 : Nat) < 2) = True from eq_true (by omega), true_and]
    repeat' split
    all_goals simp
  by_cases e3 : m = 3
  · subst e3
    simp only [show (1 : Nat) < 3 by omega, show (2 : Nat) < 3 by omega, if_true] at h1 h2
    subst h1
    subst h2
    have q : ¬ (3 < n ∧ b3 / 64 = 2) := by
      rintro ⟨a, b⟩
      have := k3 rfl a
      omega
    have q1 : (1 < n) = True := eq_true (by omega)
    have q2 : (2 < n) = True := eq_true (by omega)
    simp only [Lib.decodeN, Nat.lt_irrefl, false_and, and_false, if_false, q, q1, q2, show ((1 : Nat) < 3) = True from eq_true (by omega), show ((2 : Nat) < 3) = True from eq_true (by omega), true_and]
    repeat' split
    all_goals simp
  · rw [if_pos (by omega)] at h1 h2 h3
    subst h1
    subst h2
    subst h3
    have q1 : (1 < n) = True := eq_true (by omega)
    have q2 : (2 < n) = True := eq_true (by omega)
    have q3 : (3 < n) = True := eq_true (by omega)
    have p1 : (1 < m) = True := eq_true (by omega)
    have p2 : (2 < m) = True := eq_true (by omega)
    have p3 : (3 < m) = True := eq_true (by omega)
    simp only [Lib.decodeN, q1, q2, q3, p1, p2, p3]
    refine ⟨trivial, ?_⟩
    repeat' split
    all_goals simp <;> omega

theorem F.get_cut {s : ByteArray} {m i : Nat} (hm : m ≤ s.size) : ((s.extract 0 m).get! i) = (if i < m then s.get! i else 0) := by
  rw [← Lib.getD_get!', ← Lib.getD_get!', Lib.extract_data]
  by_cases h : i < m
  · simp [List.getD, List.getElem?_take, h]
  · rw [if_neg h]
    simp [List.getD, List.getElem?_take, h]

theorem F.cut_size {s : ByteArray} {m : Nat} (hm : m ≤ s.size) : (s.extract 0 m).size = m := by
  rw [Lib.size_eq, Lib.extract_data, List.drop_zero, List.length_take, ← Lib.size_eq]
  omega

theorem F.dec_cut {s : ByteArray} {m : Nat} (hm : m ≤ s.size) (hb : m < s.size → (s.get! m).toNat = 32) {pos : Nat} (hp : pos < m) : Utf8.decode (s.extract 0 m) pos = Utf8.decode s pos ∧ pos + (Utf8.decode (s.extract 0 m) pos).2 ≤ m := by
  rw [Lib.decode_at, Lib.decode_at, F.cut_size hm, F.get_cut hm, F.get_cut hm, F.get_cut hm, F.get_cut hm, if_pos hp]
  have e : ∀ j, (if pos + j < m then s.get! (pos + j) else 0).toNat = (if j < m - pos then (s.get! (pos + j)).toNat else 0) := by
    intro j
    by_cases h : pos + j < m
    · rw [if_pos h, if_pos (by omega)]
    · rw [if_neg h, if_neg (by omega)]; rfl
  have := F.decN_cut (n := s.size - pos) (m := m - pos) (b0 := (s.get! pos).toNat) (b1 := (s.get! (pos + 1)).toNat) (b2 := (s.get! (pos + 2)).toNat) (b3 := (s.get! (pos + 3)).toNat) (by omega) (by omega) (e 1) (e 2) (e 3)
    (fun h1 h2 => by rw [show pos + 1 = m by omega]; exact hb (by omega)) (fun h1 h2 => by rw [show pos + 2 = m by omega]; exact hb (by omega)) (fun h1 h2 => by rw [show pos + 3 = m by omega]; exact hb (by omega))
  exact ⟨this.1, by have := this.2; omega⟩

theorem F.count_cut {s : ByteArray} {m : Nat} (hm : m ≤ s.size) (hb : m < s.size → (s.get! m).toNat = 32) : ∀ (f g pos : Nat), pos ≤ m → m - pos ≤ f → s.size - pos ≤ g → Lib.runeCountFrom s g pos = Lib.runeCountFrom (s.extract 0 m) f pos + Lib.runeCountFrom s s.size m
  | 0, g, pos, h1, h2, h3 => by
    have : pos = m := by omega
    subst this
    rw [Lib.fuel_enough s g s.size pos h3 (by omega)]
    simp [Lib.runeCountFrom]
  | f + 1, g, pos, h1, h2, h3 => by
    by_cases hp : pos < m
    · have hs : pos < s.size := by omega
      obtain ⟨d1, d2⟩ := F.dec_cut hm hb hp
      have hw := Lib.decode_width_pos s pos hs
      cases g with
      | zero => omega
      | succ g =>
        rw [d1] at d2
        have ih := F.count_cut hm hb f g (pos + (Utf8.decode s pos).2) d2 (by omega) (by omega)
        conv => lhs; unfold Lib.runeCountFrom
        conv => rhs; arg 1; unfold Lib.runeCountFrom
        rw [if_pos hs, if_pos (by rw [F.cut_size hm]; exact hp), d1, ih]
        omega
    · have : pos = m := by omega
      subst this
      have z : Lib.runeCountFrom (s.extract 0 pos) (f + 1) pos = 0 := Lib.runeCountFrom_end _ _ _ (by rw [F.cut_size hm]; omega)
      rw [Lib.fuel_enough s g s.size pos h3 (by omega), z, Nat.zero_add]

/-- The runes of two texts with a blank between. -/
theorem F.runes_app (a b : List UInt8) : Lib.runeCountL (a ++ 32 :: b) = Lib.runeCountL a + 1 + Lib.runeCountL b := by
  unfold Lib.runeCountL
  generalize hs : (⟨(a ++ 32 :: b).toArray⟩ : ByteArray) = s
  have hd : s.data.toList = a ++ 32 :: b := by rw [← hs]
  have hz : s.size = a.length + 1 + b.length := by rw [Lib.size_eq, hd]; simp; omega
  have hm : a.length ≤ s.size := by omega
  have hget : s.get! a.length = 32 := by rw [← Lib.getD_get!', hd]; simp [List.getD]
  have ha : s.extract 0 a.length = ⟨a.toArray⟩ := by
    apply ByteArray.ext
    apply Array.ext'
    rw [Lib.extract_data, hd]
    simp
  have hb : s.extract (a.length + 1) s.size = ⟨b.toArray⟩ := by
    apply ByteArray.ext
    apply Array.ext'
    rw [Lib.extract_data, hd, hz]
    simp [List.drop_append, List.drop_eq_nil_of_le (show a.length ≤ a.length + 1 by omega)]
  have h1 := F.count_cut hm (fun _ => by rw [hget]; rfl) a.length s.size 0 (Nat.zero_le _) (by omega) (by omega)
  rw [ha] at h1
  have hlt : a.length < s.size := by omega
  have h2 : Lib.runeCountFrom s s.size a.length = 1 + Lib.runeCountFrom s (s.size - (a.length + 1)) (a.length + 1) := by
    have := Lib.head_count s 1 (s.size - (a.length + 1)) a.length (by omega) (fun j h1 h2 => by rw [show j = a.length by omega, hget]; decide)
    rw [← this]
    exact Lib.fuel_enough s _ _ _ (by omega) (by omega)
  have h3 := Lib.tail_count s (a.length + 1) (s.size - (a.length + 1)) 0
  rw [hb, Nat.add_zero] at h3
  have h4 : Lib.runeCount (⟨b.toArray⟩ : ByteArray) = Lib.runeCountFrom ⟨b.toArray⟩ (s.size - (a.length + 1)) 0 := by
    unfold Lib.runeCount
    congr 1
    rw [Lib.size_eq]
    show b.length = _
    omega
  have h5 : Lib.runeCount (⟨a.toArray⟩ : ByteArray) = Lib.runeCountFrom ⟨a.toArray⟩ a.length 0 := by
    unfold Lib.runeCount
    congr 1
  show Lib.runeCountFrom s s.size 0 = _
  rw [h4, h5, h1, h2, ← h3]
  omega

theorem F.indexByte_at : ∀ {l : List UInt8} {c : UInt8} {i : Nat}, Lib.indexByte l c = i → l = l.take i ++ c :: l.drop (i + 1)
  | [], c, i, h => by
    have h : (-1 : Int) = i := h
    omega
  | b :: l, c, i, h => by
    unfold Lib.indexByte at h
    split at h
    · rename_i hb
      have : i = 0 := by omega
      subst this
      have hb : b = c := by simpa using hb
      simp [hb]
    · split at h
      · omega
      · rename_i hn
        have hn : Lib.indexByte l c ≠ -1 := by simpa using hn
        cases i with
        | zero =>
          have := Lib.indexByte_ge l c
          omega
        | succ i =>
          have ih := F.indexByte_at (l := l) (c := c) (i := i) (by omega)
          simp only [List.take_succ_cons, List.drop_succ_cons, List.cons_append]
          congr 1

/-- What was split at blanks, joined with blanks. -/
theorem F.join_splitB : ∀ (k : Nat) (s : ByteArray), Lib.join ((Lib.splitB F.sp 0 k s).map (·.data.toList)) [32] = s.data.toList
  | 0, s => by rw [Lib.splitB_zero, List.map_cons, List.map_nil, Lib.join_one]
  | k + 1, s => by
    rcases Lib.indexB_cases s F.sp with h | ⟨i, h, hi⟩
    · rw [Lib.splitB_miss _ _ _ _ h, List.map_cons, List.map_nil, Lib.join_one]
    · have hsz : F.sp.size = 1 := rfl
      rw [Lib.splitB_hit _ _ _ _ _ h, List.map_cons]
      have ih := F.join_splitB k (s.extract (i + F.sp.size) s.size)
      have hne : (Lib.splitB F.sp 0 k (s.extract (i + F.sp.size) s.size)) ≠ [] := by
        cases k with
        | zero => rw [Lib.splitB_zero]; simp
        | succ k =>
          rw [Lib.splitB]
          split <;> simp
      generalize Lib.splitB F.sp 0 k (s.extract (i + F.sp.size) s.size) = L at ih hne
      cases L with
      | nil => exact absurd rfl hne
      | cons y L =>
        have e : Lib.join (((s.extract 0 (i + 0)).data.toList) :: (y :: L).map (·.data.toList)) [32] = (s.extract 0 (i + 0)).data.toList ++ 32 :: Lib.join ((y :: L).map (·.data.toList)) [32] := by
          simp [Lib.join, List.intercalate, List.intersperse]
        rw [e, ih, Lib.extract_data, Lib.extract_data, hsz]
        have hx : Lib.index s.data.toList [32] = (i : Int) := h
        rw [Lib.index_one] at hx
        have := F.indexByte_at hx
        have e2 : (s.data.toList.drop (i + 1)).take (s.size - (i + 1)) = s.data.toList.drop (i + 1) := by
          apply List.take_of_length_le
          rw [List.length_drop, ← Lib.size_eq]
          exact Nat.le_refl _
        rw [e2, List.drop_zero, Nat.add_zero, Nat.sub_zero]
        exact this.symm

theorem F.join_split (s : ByteArray) : F.join (F.split s F.sp) F.sp = s := by
  apply ByteArray.ext
  apply Array.ext'
  exact F.join_splitB _ s

/-- Words with blanks between, in bytes. -/
def F.jl (ws : List ByteArray) : List UInt8 := Lib.join (ws.map (·.data.toList)) [32]

theorem F.join_jl (ws : List ByteArray) : (F.join ws F.sp).data.toList = F.jl ws := rfl

theorem F.jl_cons {x : ByteArray} {l : List ByteArray} (h : l ≠ []) : F.jl (x :: l) = x.data.toList ++ 32 :: F.jl l := by
  cases l with
  | nil => exact absurd rfl h
  | cons y l => simp [F.jl, Lib.join, List.intercalate, List.intersperse]

theorem F.jl_app : ∀ {a b : List ByteArray}, a ≠ [] → b ≠ [] → F.jl (a ++ b) = F.jl a ++ 32 :: F.jl b
  | [], _, h, _ => absurd rfl h
  | [x], b, _, hb => by
    rw [List.singleton_append, F.jl_cons hb]
    simp [F.jl, Lib.join_one]
  | x :: y :: a, b, _, hb => by
    rw [List.cons_append, F.jl_cons (by simp), F.jl_cons (by simp), F.jl_app (by simp) hb]
    simp

/-- The characters of words, with blanks between. -/
def F.lg (ws : List ByteArray) : Int := (ws.map fun x => F.runes x + 1).sum - 1

theorem F.runes_jl : ∀ {ws : List ByteArray}, ws ≠ [] → (Lib.runeCountL (F.jl ws) : Int) = F.lg ws
  | [], h => absurd rfl h
  | [x], _ => by
    simp only [F.jl, List.map_cons, List.map_nil, Lib.join_one, Lib.runeCountL_eq, F.lg, F.runes, List.sum_cons, List.sum_nil]
    omega
  | x :: y :: l, _ => by
    have ih := F.runes_jl (ws := y :: l) (by simp)
    rw [F.jl_cons (by simp), F.runes_app, Lib.runeCountL_eq]
    unfold F.lg at ih ⊢
    rw [List.map_cons, List.sum_cons]
    unfold F.runes at ih ⊢
    omega

theorem F.runes_join {ws : List ByteArray} (h : ws ≠ []) : F.runes (F.join ws F.sp) = F.lg ws := by
  unfold F.runes
  rw [← Lib.runeCountL_eq, F.join_jl]
  exact F.runes_jl h

end Go.Proofs.YtdmccifaggmmkaaDoor
