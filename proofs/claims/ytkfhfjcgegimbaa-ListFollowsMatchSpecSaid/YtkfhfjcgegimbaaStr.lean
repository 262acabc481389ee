/- What is proved here: what small functions on numbers and strings of the program and of the references return. -/
import Derived.Test.YtkfhfjcgegimbaaRows
import Derived.Test.YtkfhfjcgegimbaaBase
import Derived.Handy
import Derived.Deep.Light
namespace Go.Proofs.Ytkfhfjcgegimbaa
open Go.RowKit
set_option linter.unusedVariables false

theorem ret_bool {a b : Bool} (h : a = b) : Ending.returned (.bool a) = .returned (.bool b) := by rw [h]
theorem ret_int {a b : Int} (h : a = b) : Ending.returned (.int .i64 a) = .returned (.int .i64 b) := by rw [h]

def outB (n l h : Int) : Bool := decide (n < l) || decide (h < n)
theorem outB_f {n l h : Int} (h1 : l ≤ n) (h2 : n ≤ h) : outB n l h = false := by simp [outB]; omega
theorem outB_t {n l h : Int} (h1 : n < l ∨ h < n) : outB n l h = true := by simp [outB]; omega
theorem of_outB_f {n l h : Int} (h1 : outB n l h = false) : l ≤ n ∧ n ≤ h := by simp [outB] at h1; omega
theorem of_outB_t {n l h : Int} (h1 : outB n l h = true) : n < l ∨ h < n := by simp [outB] at h1; omega

theorem out_any (n l h : Int) (w : World) :
    Calls Try.prog 47 #[.int .i64 n, .int .i64 l, .int .i64 h] w fun e w' => e = .returned (.bool (outB n l h)) ∧ w = w' := by
  by_cases h1 : n < l
  all_goals
    go_enter Try.func47, Try.ntmps47
    go_wp2
    go_ret
    exact ⟨ret_bool (by unfold outB; simp [h1]; try omega), rfl⟩

theorem within_any (n l h : Int) (w : World) :
    Calls Try.prog 42 #[.int .i64 n, .int .i64 l, .int .i64 h] w fun e w' => e = .returned (.bool (!outB n l h)) ∧ w = w' := by
  by_cases h1 : n < l
  all_goals
    go_enter Try.func42, Try.ntmps42
    go_wp2
    go_ret
    exact ⟨ret_bool (by rw [Bool.eq_iff_iff]; simp [outB]; try omega), rfl⟩

/-- The bytes of a string. -/
theorem drop_byte (s : ByteArray) (k : Nat) (h : k < s.size) : s.data.toList.drop k = s[k] :: s.data.toList.drop (k + 1) := List.drop_eq_getElem_cons (by simpa using h)
theorem drop_end (s : ByteArray) (k : Nat) (h : s.size ≤ k) : s.data.toList.drop k = [] := List.drop_eq_nil_of_le (by simpa using h)
theorem toList_eq (s : ByteArray) : s.toList = s.data.toList := ByteArray.toList_eq s
theorem nil_of_size {s : ByteArray} (h : s.size = 0) : s.toList = [] := by
  rw [toList_eq]; exact List.eq_nil_of_length_eq_zero (by rw [← h]; rfl)
theorem ne_nil_of_size {s : ByteArray} (h : ¬ s.size = 0) : ¬ s.toList = [] := by
  intro h1; apply h; have := congrArg List.length h1; rw [toList_eq] at this; exact this
def visF (low : Int) : List UInt8 → Bool
  | [] => true
  | c :: r => if (c.toNat : Int) < low ∨ 126 < (c.toNat : Int) then false else visF low r
def visB (s : ByteArray) (low : Int) : Bool := visF low s.data.toList

set_option maxHeartbeats 400000 in
theorem visible_any (s : ByteArray) (low : Int) (w : World) (hs : s.size ≤ 9223372036854775807) :
    Calls Try.prog 73 #[.string s, .int .u8 low] w fun e w' => e = .returned (.bool (visB s low)) ∧ w = w' := by
  go_enter Try.func73, Try.ntmps73
  go_wp2
  go_loop [8] (fun i => ∃ k : Nat, k ≤ s.size ∧ i = .int .i64 k ∧ Hid (visF low (s.data.toList.drop k) = visB s low)) (fun i => s.size - (intOf i).toNat)
  case atStart => exact ⟨0, Nat.zero_le _, rfl, rfl⟩
  case round =>
    obtain ⟨k, hk, rfl, hv⟩ := hrel
    by_cases hlt : k < s.size
    · have hd := Lib.hid (drop_byte s k hlt)
      go_wp2
      all_goals first
        | (go_ret; exact ⟨ret_bool (by rw [← hv.out, hd.out, visF, if_pos (by omega)]), rfl⟩)
        | (go_round
           case rel => exact ⟨k + 1, by omega, by go_num, by have h := hv.out; rw [hd.out, visF, if_neg (by omega)] at h; exact h⟩
           case measure => simp [intOf]; omega)
    · go_wp2
      go_ret
      exact ⟨ret_bool (by rw [← hv.out, drop_end s k (by omega), visF]), rfl⟩

set_option maxHeartbeats 400000 in
theorem printable_any (s : ByteArray) (low : Int) (w : World) (hs : s.size ≤ 9223372036854775807) :
    Calls Try.prog 76 #[.string s, .int .u8 low] w fun e w' => e = .returned (.bool (visB s low)) ∧ w = w' := by
  go_enter Try.func76, Try.ntmps76
  go_wp2
  go_loop [5] (fun i => ∃ k : Nat, k ≤ s.size ∧ i = .int .i64 k ∧ Hid (visF low (s.data.toList.drop k) = visB s low)) (fun i => s.size - (intOf i).toNat)
  case atStart => exact ⟨0, Nat.zero_le _, rfl, rfl⟩
  case round =>
    obtain ⟨k, hk, rfl, hv⟩ := hrel
    by_cases hlt : k < s.size
    · have hd := Lib.hid (drop_byte s k hlt)
      go_wp2
      all_goals first
        | (go_ret; exact ⟨ret_bool (by rw [← hv.out, hd.out, visF, if_pos (by omega)]), rfl⟩)
        | (go_round
           case rel => exact ⟨k + 1, by omega, by go_num, by have h := hv.out; rw [hd.out, visF, if_neg (by omega)] at h; exact h⟩
           case measure => simp [intOf]; omega)
    · go_wp2
      go_ret
      exact ⟨ret_bool (by rw [← hv.out, drop_end s k (by omega), visF]), rfl⟩

/-- Names. -/
def letB (c : Int) : Bool := decide (97 ≤ c) && decide (c ≤ 122)
def nmF : List UInt8 → Bool
  | [] => true
  | c :: r => if (97 ≤ (c.toNat : Int) ∧ (c.toNat : Int) ≤ 122) ∨ (48 ≤ (c.toNat : Int) ∧ (c.toNat : Int) ≤ 57) ∨ (c.toNat : Int) = 45 then nmF r else false
def nameB (s : ByteArray) : Bool := match s.data.toList with
  | [] => false
  | c :: r => decide (s.size ≤ 40) && letB c.toNat && nmF (c :: r)
theorem nameB_small (s : ByteArray) (h : s.size = 0 ∨ 40 < s.size) : nameB s = false := by
  unfold nameB
  split
  · rfl
  · rename_i c r hs
    have : s.size = r.length + 1 := by have := congrArg List.length hs; simpa using this
    simp; intro h1; omega
theorem nameB_head (s : ByteArray) (h0 : 0 < s.size) (h : ¬ (97 ≤ (s[0].toNat : Int) ∧ (s[0].toNat : Int) ≤ 122)) : nameB s = false := by
  have hd := drop_byte s 0 h0
  simp only [List.drop_zero] at hd
  unfold nameB; rw [hd]
  simp only [letB]
  simp; intro _ h1 h2; omega
theorem nameB_eq (s : ByteArray) (h0 : 0 < s.size) (h40 : s.size ≤ 40) (h : 97 ≤ (s[0].toNat : Int) ∧ (s[0].toNat : Int) ≤ 122) : nameB s = nmF s.data.toList := by
  have hd := drop_byte s 0 h0
  simp only [List.drop_zero] at hd
  unfold nameB; rw [hd]
  simp only [letB]
  simp [h40]; omega

set_option maxHeartbeats 800000 in
theorem isName_any (s : ByteArray) (w : World) (hs : s.size ≤ 9223372036854775807) :
    Calls Try.prog 71 #[.string s] w fun e w' => e = .returned (.bool (nameB s)) ∧ w = w' := by
  by_cases h0 : s.size = 0
  · have hb : ((s.size : Int) == 0) = true := by simp [h0]
    have HN := Lib.hid (nameB_small s (by omega))
    clear h0
    go_enter Try.func71, Try.ntmps71
    go_wp2
    go_ret
    exact ⟨ret_bool HN.out.symm, rfl⟩
  · have hb : ((s.size : Int) == 0) = false := by simp [h0]
    by_cases h40 : 40 < s.size
    · have HN := Lib.hid (nameB_small s (by omega))
      go_enter Try.func71, Try.ntmps71
      go_wp2
      go_ret
      exact ⟨ret_bool HN.out.symm, rfl⟩
    · have hp : 0 < s.size := by omega
      by_cases ha : 97 ≤ (s[0].toNat : Int)
      · by_cases hz : (s[0].toNat : Int) ≤ 122
        · have HN := Lib.hid (nameB_eq s hp (by omega) ⟨ha, hz⟩)
          go_enter Try.func71, Try.ntmps71
          go_wp2
          go_loop [20] (fun i => ∃ k : Nat, k ≤ s.size ∧ i = .int .i64 k ∧ Hid (nmF (s.data.toList.drop k) = nmF s.data.toList)) (fun i => s.size - (intOf i).toNat)
          case atStart => exact ⟨0, Nat.zero_le _, rfl, rfl⟩
          case round =>
            obtain ⟨k, hk, rfl, hv⟩ := hrel
            by_cases hlt : k < s.size
            · have hd := Lib.hid (drop_byte s k hlt)
              go_each [97 ≤ (s[k].toNat : Int), (s[k].toNat : Int) ≤ 122, 48 ≤ (s[k].toNat : Int), (s[k].toNat : Int) ≤ 57, (s[k].toNat : Int) = 45] => (
                go_wp2
                first
                | (go_ret; exact ⟨ret_bool (by rw [HN.out, ← hv.out, hd.out, nmF, if_neg (by omega)]), rfl⟩)
                | (go_round
                   case rel => exact ⟨k + 1, by omega, by go_num, by have h := hv.out; rw [hd.out, nmF, if_pos (by omega)] at h; exact h⟩
                   case measure => simp [intOf]; omega))
            · go_wp2
              go_ret
              exact ⟨ret_bool (by rw [HN.out, ← hv.out, drop_end s k (by omega), nmF]), rfl⟩
        · have HN := Lib.hid (nameB_head s hp (by omega))
          go_enter Try.func71, Try.ntmps71
          go_wp2
          go_ret
          exact ⟨ret_bool HN.out.symm, rfl⟩
      · have HN := Lib.hid (nameB_head s hp (by omega))
        go_enter Try.func71, Try.ntmps71
        go_wp2
        go_ret
        exact ⟨ret_bool HN.out.symm, rfl⟩

theorem nameB_zero (s : ByteArray) (k : Nat) (h : nmF (s.data.toList.drop k) = nmF s.data.toList) (hn : nmF (s.data.toList.drop k) = false) : nameB s = false := by
  rw [h] at hn
  unfold nameB
  split
  · rfl
  · rename_i c r hs
    rw [hs] at hn
    simp [hn]
theorem nameB_end (s : ByteArray) (h0 : 0 < s.size → 97 ≤ (s.data.toList[0]?.getD 0).toNat ∧ (s.data.toList[0]?.getD 0).toNat ≤ 122) (h : nmF s.data.toList = true) : nameB s = (decide (s.size ≠ 0) && decide (s.size ≤ 40)) := by
  unfold nameB
  split
  · rename_i hs
    have : s.size = 0 := by have := congrArg List.length hs; simpa using this
    simp [this]
  · rename_i c r hs
    have : s.size = r.length + 1 := by have := congrArg List.length hs; simpa using this
    rw [hs] at h h0
    have h1 := h0 (by omega)
    simp at h1
    simp [h, letB, this]
    intro _
    omega

set_option maxHeartbeats 1600000 in
theorem refIsName_any (s : ByteArray) (w : World) (hs : s.size ≤ 9223372036854775807) :
    Calls Try.prog 75 #[.string s] w fun e w' => e = .returned (.bool (nameB s)) ∧ w = w' := by
  go_enter Try.func75, Try.ntmps75
  go_wp2
  go_loop [3] (fun i => ∃ k : Nat, k ≤ s.size ∧ i = .int .i64 k ∧ Hid (nmF (s.data.toList.drop k) = nmF s.data.toList) ∧ Hid (0 < k → 97 ≤ (s.data.toList[0]?.getD 0).toNat ∧ (s.data.toList[0]?.getD 0).toNat ≤ 122)) (fun i => s.size - (intOf i).toNat)
  case atStart => exact ⟨0, Nat.zero_le _, rfl, rfl, fun h => absurd h (by omega)⟩
  case round =>
    obtain ⟨k, hk, rfl, hv, hz⟩ := hrel
    by_cases hlt : k < s.size
    · have hd := Lib.hid (drop_byte s k hlt)
      by_cases hk0 : k = 0
      · subst hk0
        have h0 := Lib.hid (drop_byte s 0 hlt)
        go_each [97 ≤ (s[0].toNat : Int), (s[0].toNat : Int) ≤ 122] => (
          go_wp2
          first
          | (go_ret; exact ⟨ret_bool (nameB_head s hlt (by omega)).symm, rfl⟩)
          | (go_round
             case rel =>
               refine ⟨1, by omega, by go_num, ?_, fun _ => ?_⟩
               · have h := hv.out; rw [hd.out, nmF, if_pos (by omega)] at h; exact h
               · have h := h0.out; rw [List.drop_zero] at h; rw [h]; simp; omega
             case measure => simp [intOf]; omega))
      · have hkb : ((k : Int) == 0) = false := by simp; omega
        go_each [97 ≤ (s[k].toNat : Int), (s[k].toNat : Int) ≤ 122, (s[k].toNat : Int) = 45, 48 ≤ (s[k].toNat : Int), (s[k].toNat : Int) ≤ 57] => (
          go_wp2
          first
          | (go_ret; exact ⟨ret_bool (nameB_zero s k hv.out (by rw [hd.out, nmF, if_neg (by omega)])).symm, rfl⟩)
          | (go_round
             case rel =>
               refine ⟨k + 1, by omega, by go_num, ?_, fun _ => hz.out (by omega)⟩
               have h := hv.out; rw [hd.out, nmF, if_pos (by omega)] at h; exact h
             case measure => simp [intOf]; omega))
    · have HE := Lib.hid (nameB_end s (fun h => hz.out (by omega)) (by rw [← hv.out, drop_end s k (by omega), nmF]))
      by_cases h0 : s.size = 0
      · have h1 : s.toList = [] := nil_of_size h0
        have h2 : s.toList.isEmpty = true := by simp [h1]
        go_wp2
        go_ret
        exact ⟨ret_bool (by rw [HE.out]; simp [h0]), rfl⟩
      · have h1 : ¬ s.toList = [] := ne_nil_of_size h0
        have h2 : s.toList.isEmpty = false := by simp [h1]
        go_wp2
        go_ret
        exact ⟨ret_bool (by rw [HE.out, decide_eq_true h0, Bool.true_and]; exact decide_eq_decide.2 (by omega)), rfl⟩

/-- The address of a segment. -/
def uriB (s : ByteArray) : Bool := match s.data.toList with
  | [] => false
  | c :: _ => decide (s.size ≤ 200) && decide (c.toNat ≠ 35) && visB s 33
theorem uriB_small (s : ByteArray) (h : s.size = 0 ∨ 200 < s.size) : uriB s = false := by
  unfold uriB
  split
  · rfl
  · rename_i c r hs
    have : s.size = r.length + 1 := by have := congrArg List.length hs; simpa using this
    simp; intro h1; omega
theorem uriB_eq (s : ByteArray) (h0 : 0 < s.size) (h200 : s.size ≤ 200) : uriB s = (decide ((s[0].toNat : Int) ≠ 35) && visB s 33) := by
  have hd := drop_byte s 0 h0
  simp only [List.drop_zero] at hd
  unfold uriB; rw [hd]
  simp [h200]
  congr 1
  rw [Bool.eq_iff_iff]; simp; omega
def uriF (s : ByteArray) : Int := if uriB s then 0 else 3
theorem uriF_t {s : ByteArray} (h : uriB s = true) : uriF s = 0 := by simp [uriF, h]
theorem uriF_f {s : ByteArray} (h : uriB s = false) : uriF s = 3 := by simp [uriF, h]

set_option maxHeartbeats 800000 in
theorem uriFault_any (s : ByteArray) (w : World) (hs : s.size ≤ 9223372036854775807) :
    Calls Try.prog 70 #[.string s] w fun e w' => e = .returned (.int .i64 (uriF s)) ∧ w = w' := by
  by_cases h0 : s.size = 0 ∨ 200 < s.size
  · have HN := Lib.hid (uriB_small s h0)
    have ho : outB (s.size : Int) 1 200 = true := outB_t (by omega)
    go_enter Try.func70, Try.ntmps70
    go_wp2_with (first | (go_at_call 47; refine (out_any _ _ _ _).mono ?_; rintro e w' ⟨rfl, rfl⟩))
    go_ret
    exact ⟨ret_int (uriF_f HN.out).symm, rfl⟩
  · have ho : outB (s.size : Int) 1 200 = false := outB_f (by omega) (by omega)
    have hp : 0 < s.size := by omega
    have HN := Lib.hid (uriB_eq s hp (by omega))
    by_cases h35 : (s[0].toNat : Int) = 35
    · go_enter Try.func70, Try.ntmps70
      go_wp2_with (first | (go_at_call 47; refine (out_any _ _ _ _).mono ?_; rintro e w' ⟨rfl, rfl⟩))
      go_ret
      exact ⟨ret_int (uriF_f (by rw [HN.out]; simp [h35])).symm, rfl⟩
    · have hb : ((s[0].toNat : Int) == 35) = false := by simp; omega
      cases hv : visB s 33
      · have HF := Lib.hid (uriF_f (by rw [HN.out, hv]; simp))
        go_enter Try.func70, Try.ntmps70
        go_wp2_with (first | (go_at_call 47; refine (out_any _ _ _ _).mono ?_; rintro e w' ⟨rfl, rfl⟩) | (go_at_call 73; refine (visible_any _ _ _ hs).mono ?_; rintro e w' ⟨rfl, rfl⟩))
        go_ret
        exact ⟨ret_int HF.out.symm, rfl⟩
      · have HF := Lib.hid (uriF_t (by rw [HN.out, hv]; simp [h35]))
        go_enter Try.func70, Try.ntmps70
        go_wp2_with (first | (go_at_call 47; refine (out_any _ _ _ _).mono ?_; rintro e w' ⟨rfl, rfl⟩) | (go_at_call 73; refine (visible_any _ _ _ hs).mono ?_; rintro e w' ⟨rfl, rfl⟩))
        go_ret
        exact ⟨ret_int HF.out.symm, rfl⟩

set_option maxHeartbeats 800000 in
theorem isUri_any (s : ByteArray) (w : World) (hs : s.size ≤ 9223372036854775807) :
    Calls Try.prog 74 #[.string s] w fun e w' => e = .returned (.bool (uriB s)) ∧ w = w' := by
  by_cases h0 : s.size = 0
  · have HN := Lib.hid (uriB_small s (.inl h0))
    have h1 : s.toList = [] := nil_of_size h0
    have h2 : s.toList.isEmpty = true := by simp [h1]
    go_enter Try.func74, Try.ntmps74
    go_wp2_with fail
    go_ret
    exact ⟨ret_bool HN.out.symm, rfl⟩
  · have h1 : ¬ s.toList = [] := ne_nil_of_size h0
    have h2 : s.toList.isEmpty = false := by simp [h1]
    by_cases h200 : 200 < s.size
    · have HN := Lib.hid (uriB_small s (.inr h200))
      go_enter Try.func74, Try.ntmps74
      go_wp2_with fail
      go_ret
      exact ⟨ret_bool HN.out.symm, rfl⟩
    · have hp : 0 < s.size := by omega
      have HN := Lib.hid (uriB_eq s hp (by omega))
      cases hv : visB s 33
      · go_enter Try.func74, Try.ntmps74
        go_wp2_with (go_at_call 76; refine (printable_any _ _ _ hs).mono ?_; rintro e w' ⟨rfl, rfl⟩)
        go_ret
        exact ⟨ret_bool (by rw [HN.out, hv]; simp), rfl⟩
      · go_enter Try.func74, Try.ntmps74
        go_wp2_with (go_at_call 76; refine (printable_any _ _ _ hs).mono ?_; rintro e w' ⟨rfl, rfl⟩)
        go_ret
        exact ⟨ret_bool (by rw [HN.out, hv]; rw [Bool.eq_iff_iff]; simp), rfl⟩

/-- A prefix. -/
def preB (s p : ByteArray) : Bool := p.data.toList.isPrefixOf s.data.toList
theorem preB_cut (s p : ByteArray) (_h : p.size ≤ s.size) : ((s.extract 0 p.size).toList == p.toList) = preB s p := by
  rw [toList_eq, toList_eq, Bool.eq_iff_iff]
  unfold preB
  rw [List.isPrefixOf_iff_prefix, List.prefix_iff_eq_take, beq_iff_eq]
  have e : (s.extract 0 p.size).data.toList = s.data.toList.take p.size := by simp [ByteArray.data_extract]
  rw [e]
  have e2 : p.size = p.data.toList.length := rfl
  rw [e2]
  exact eq_comm
theorem preB_short (s p : ByteArray) (h : s.size < p.size) : preB s p = false := by
  unfold preB
  rw [Bool.eq_false_iff]; intro hp
  have := (List.isPrefixOf_iff_prefix.1 hp).length_le
  simp at this; omega

set_option maxHeartbeats 800000 in
theorem hasPrefix_any (s p : ByteArray) (w : World) (hs : s.size ≤ 9223372036854775807) (hp : p.size ≤ 9223372036854775807) :
    Calls Try.prog 72 #[.string s, .string p] w fun e w' => e = .returned (.bool (preB s p)) ∧ w = w' := by
  by_cases h0 : s.size < p.size
  · have HN := Lib.hid (preB_short s p h0)
    go_enter Try.func72, Try.ntmps72
    go_wp2
    go_ret
    exact ⟨ret_bool HN.out.symm, rfl⟩
  · go_enter Try.func72, Try.ntmps72
    go_wp2
    go_ret
    refine ⟨ret_bool ?_, rfl⟩
    exact preB_cut s p (by omega)
end Go.Proofs.Ytkfhfjcgegimbaa
