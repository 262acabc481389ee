/- What is proved here: a time that is written is read, and a time that is read is written so (no statement of the seat). -/
import Derived.Test.YtgkjfochkhiojaaDoorE66
import Derived.Test.YtgkjfochkhiojaaDoorE76
import Derived.Test.YtgkjfochkhiojaaDoorE77
import Derived.Test.YtgkjfochkhiojaaDoorE71
namespace Go.Proofs.YtgkjfochkhiojaaDoor
open Go Go.RowKit
set_option linter.unusedVariables false
set_option linter.unusedSimpArgs false
set_option maxHeartbeats 1000000

/-- A number, with noughts ahead. -/
def F.zrs (k : Nat) : ByteArray := ⟨⟨List.replicate k 48⟩⟩

def F.pad (n : Int) (many : Nat) : ByteArray := F.zrs (many - (F.itoa n).size) ++ F.itoa n

theorem F.bs_zrs (k : Nat) : F.bs (F.zrs k) = List.replicate k 48 := rfl

theorem F.zrs_size (k : Nat) : (F.zrs k).size = k := by rw [← F.bs_len, F.bs_zrs, List.length_replicate]

theorem F.zrs_zero : F.zrs 0 = ⟨⟨[]⟩⟩ := rfl

theorem F.zrs_succ (k : Nat) (s : ByteArray) : F.zrs (k + 1) ++ s = F.zrs k ++ ((⟨⟨[48]⟩⟩ : ByteArray) ++ s) := by
  apply F.bsx
  rw [F.bs_app, F.bs_app, F.bs_app, F.bs_zrs, F.bs_zrs, List.replicate_succ', List.append_assoc]
  rfl

theorem F.bs_pad (k many : Nat) : F.bs (F.pad (k : Int) many) = List.replicate (many - (Lib.decDigits k).length) 48 ++ Lib.decDigits k := by
  unfold F.pad
  rw [F.bs_app, F.bs_zrs, F.itoa_n, ← F.bs_len, F.itoa_n]

theorem F.dvA_rep (k : Nat) (l : List UInt8) : F.dvA 0 (List.replicate k 48 ++ l) = F.dvA 0 l := by
  induction k with
  | zero => rfl
  | succ k ih =>
    rw [List.replicate_succ, List.cons_append, F.dvA_cons]
    exact ih

/-- As many digits as asked for, and their number. -/
theorem F.pad_ok {k many : Nat} (h : k < 10 ^ many) (hm : 1 ≤ many) : (F.bs (F.pad (k : Int) many)).length = many ∧ (F.bs (F.pad (k : Int) many)).all F.dgB = true ∧ F.dvA 0 (F.bs (F.pad (k : Int) many)) = k := by
  obtain ⟨j, rfl⟩ : ∃ j, many = j + 1 := ⟨many - 1, by omega⟩
  obtain ⟨d1, d2, d3⟩ := F.dd_ok k
  have d4 := F.dd_len j k h
  rw [F.bs_pad]
  refine ⟨?_, ?_, ?_⟩
  · rw [List.length_append, List.length_replicate]; omega
  · rw [List.all_append, d1, Bool.and_true, List.all_eq_true]
    intro x hx
    rw [(List.mem_replicate.1 hx).2]
    rfl
  · rw [F.dvA_rep, d2]

/-- As many digits with the same number are the same. -/
theorem F.dv_inj : ∀ (k : Nat) (l l' : List UInt8), l.length = k → l'.length = k → l.all F.dgB = true → l'.all F.dgB = true → F.dvA 0 l = F.dvA 0 l' → l = l'
  | 0, l, l', h, h', _, _, _ => by rw [List.length_eq_zero_iff.1 h, List.length_eq_zero_iff.1 h']
  | k + 1, l, l', h, h', h1, h2, hv => by
    have n0 : l ≠ [] := fun e => by rw [e] at h; simp at h
    have n1 : l' ≠ [] := fun e => by rw [e] at h'; simp at h'
    obtain ⟨q, c, rfl⟩ : ∃ q c, l = q ++ [c] := ⟨l.dropLast, l.getLast n0, (List.dropLast_concat_getLast n0).symm⟩
    obtain ⟨m, d, rfl⟩ : ∃ m d, l' = m ++ [d] := ⟨l'.dropLast, l'.getLast n1, (List.dropLast_concat_getLast n1).symm⟩
    rw [List.all_append, Bool.and_eq_true] at h1 h2
    have hc := h1.2
    have hd := h2.2
    simp only [List.all_cons, List.all_nil, Bool.and_true, F.dgB, Bool.and_eq_true, decide_eq_true_eq] at hc hd
    rw [F.dvA_app, F.dvA_app, F.dvA_cons, F.dvA_cons, F.dvA_nil, F.dvA_nil] at hv
    rw [F.dv_inj k q m (by simpa using h) (by simpa using h') h1.1 h2.1 (by omega)]
    have : c = d := UInt8.toNat_inj.1 (by omega)
    rw [this]

theorem F.pad_dv {v : ByteArray} {many : Nat} (hm : 1 ≤ many) (hl : v.size = many) (ha : (F.bs v).all F.dgB = true) : F.pad (F.dv v : Int) many = v := by
  apply F.bsx
  have hlt : F.dv v < 10 ^ many := F.dv_b (by omega) ha
  obtain ⟨p1, p2, p3⟩ := F.pad_ok hlt hm
  exact F.dv_inj many _ _ p1 (by rw [F.bs_len, hl]) p2 ha p3

/-- The year of a day, from a year on. -/
def F.yrL : Nat → Int → Int → Int
  | 0, _, y => y
  | k + 1, d, y => bif decide (F.ydays (y + 1) ≤ d) then F.yrL k d (y + 1) else y

/-- The month of a day of a year, from a month on, and the day of the month. -/
def F.moL : Nat → Int → Int → Int → Int × Int
  | 0, _, d, m => (m, d)
  | k + 1, y, d, m => bif decide (F.mdays y m ≤ d) then F.moL k y (d - F.mdays y m) (m + 1) else (m, d)

def F.dash1 : ByteArray := ⟨⟨[45]⟩⟩

def F.tee : ByteArray := ⟨⟨[84]⟩⟩

def F.colon : ByteArray := ⟨⟨[58]⟩⟩

def F.zed : ByteArray := ⟨⟨[90]⟩⟩

def F.dtP (y m d r : Int) : ByteArray :=
  F.pad y 4 ++ F.dash1 ++ F.pad m 2 ++ F.dash1 ++ F.pad d 2 ++ F.tee ++ F.pad (r.tdiv 3600000) 2 ++ F.colon ++ F.pad ((r.tdiv 60000).tmod 60) 2 ++ F.colon ++ F.pad ((r.tdiv 1000).tmod 60) 2 ++ F.dot ++ F.pad (r.tmod 1000) 3 ++ F.zed

def F.dtY (days : Int) : Int := F.yrL 10000 days (1970 + days.tdiv 366)

def F.dtM (days : Int) : Int × Int := F.moL 20 (F.dtY days) (days - F.ydays (F.dtY days)) 1

/-- A moment, written. -/
def F.dtS (n : Int) : ByteArray := F.dtP (F.dtY (n.tdiv 86400000)) (F.dtM (n.tdiv 86400000)).1 ((F.dtM (n.tdiv 86400000)).2 + 1) (n.tmod 86400000)

theorem F.ydays_mono {a b : Int} (h1 : 1 ≤ a) (h : a ≤ b) : F.ydays a ≤ F.ydays b := by
  have h2 := F.ysum_eq (b - a).toNat a h1
  have h3 := F.ysum_b (b - a).toNat a
  rw [show a + ((b - a).toNat : Nat) = b by omega] at h2
  omega

theorem F.ydays_up {a : Int} (h1 : 1 ≤ a) : F.ydays (a + 1) = F.ydays a + 365 + (bif F.leap a then 1 else 0) := by
  have h2 := F.ysum_eq 1 a h1
  rw [show a + ((1 : Nat) : Int) = a + 1 from rfl] at h2
  rw [h2]
  simp only [F.ysum]
  omega

theorem F.yrL_eq {Y d : Int} (hd1 : F.ydays Y ≤ d) (hd2 : d < F.ydays (Y + 1)) : ∀ (k : Nat) (y : Int), 1 ≤ y → y ≤ Y → Y - y ≤ k → F.yrL k d y = Y
  | 0, y, _, h2, h3 => by
    show y = Y
    omega
  | k + 1, y, h1, h2, h3 => by
    rw [F.yrL]
    by_cases hc : F.ydays (y + 1) ≤ d
    · rw [decide_eq_true hc, cond_true]
      have hne : y ≠ Y := fun e => by rw [e] at hc; omega
      exact F.yrL_eq hd1 hd2 k (y + 1) (by omega) (by omega) (by omega)
    · rw [decide_eq_false hc, cond_false]
      by_cases hy : y = Y
      · exact hy
      · have := F.ydays_mono (a := y + 1) (b := Y) (by omega) (by omega)
        omega

theorem F.yrL_ok {d : Int} : ∀ (k : Nat) (y : Int), 1 ≤ y → F.ydays y ≤ d → d < F.ydays (y + k + 1) → F.ydays (F.yrL k d y) ≤ d ∧ d < F.ydays (F.yrL k d y + 1) ∧ y ≤ F.yrL k d y
  | 0, y, h1, h2, h3 => ⟨h2, (by show d < F.ydays (y + 1); rw [show y + ((0 : Nat) : Int) + 1 = y + 1 by omega] at h3; exact h3), Int.le_refl _⟩
  | k + 1, y, h1, h2, h3 => by
    rw [F.yrL]
    by_cases hc : F.ydays (y + 1) ≤ d
    · rw [decide_eq_true hc, cond_true]
      obtain ⟨i1, i2, i3⟩ := F.yrL_ok k (y + 1) (by omega) hc (by rw [show y + 1 + (k : Int) + 1 = y + ((k + 1 : Nat) : Int) + 1 by omega]; exact h3)
      exact ⟨i1, i2, by omega⟩
    · rw [decide_eq_false hc, cond_false]
      exact ⟨h2, by omega, Int.le_refl _⟩

theorem F.moL_eq (y : Int) : ∀ (j k m : Nat) (D : Int), j ≤ k → 0 ≤ D → D < F.mdays y ((m + j : Nat) : Int) → F.moL k y (F.msum y j m + D) m = (((m + j : Nat) : Int), D)
  | 0, 0, m, D, _, _, _ => by
    show ((m : Int), F.msum y 0 m + D) = _
    rw [F.msum, Int.zero_add, Nat.add_zero]
  | 0, k + 1, m, D, _, h1, h2 => by
    rw [F.moL, F.msum, Int.zero_add]
    rw [Nat.add_zero] at h2 ⊢
    rw [decide_eq_false (by omega), cond_false]
  | j + 1, 0, m, D, h, _, _ => by omega
  | j + 1, k + 1, m, D, h, h1, h2 => by
    have hb := F.msum_b y j (m + 1)
    rw [F.moL, F.msum, decide_eq_true (by omega), cond_true, show F.mdays y m + F.msum y j (m + 1) + D - F.mdays y m = F.msum y j (m + 1) + D by omega, show ((m : Nat) : Int) + 1 = ((m + 1 : Nat) : Int) from rfl]
    rw [F.moL_eq y j k (m + 1) D (by omega) h1 (by rw [show m + 1 + j = m + (j + 1) by omega]; exact h2), show m + 1 + j = m + (j + 1) by omega]

theorem F.moL_ok (y : Int) : ∀ (j k m : Nat) (d : Int), j ≤ k → 0 ≤ d → d < F.msum y j m → ∃ i : Nat, i < j ∧ ∃ D : Int, 0 ≤ D ∧ D < F.mdays y ((m + i : Nat) : Int) ∧ d = F.msum y i m + D ∧ F.moL k y d m = (((m + i : Nat) : Int), D)
  | 0, k, m, d, _, h1, h2 => by
    rw [F.msum] at h2; omega
  | j + 1, 0, m, d, h, _, _ => by omega
  | j + 1, k + 1, m, d, h, h1, h2 => by
    rw [F.msum] at h2
    by_cases hc : F.mdays y m ≤ d
    · obtain ⟨i, i1, D, i2, i3, i4, i5⟩ := F.moL_ok y j k (m + 1) (d - F.mdays y m) (by omega) (by omega) (by omega)
      refine ⟨i + 1, by omega, D, i2, by rw [show m + (i + 1) = m + 1 + i by omega]; exact i3, by rw [F.msum]; omega, ?_⟩
      rw [F.moL, decide_eq_true hc, cond_true, show ((m : Nat) : Int) + 1 = ((m + 1 : Nat) : Int) from rfl, i5, show m + (i + 1) = m + 1 + i by omega]
    · refine ⟨0, by omega, d, h1, by rw [Nat.add_zero]; omega, by rw [F.msum]; omega, ?_⟩
      rw [F.moL, decide_eq_false hc, cond_false, Nat.add_zero]

theorem F.msum_12 (y : Int) : F.msum y 12 1 = 365 + (bif F.leap y then 1 else 0) := by
  simp only [F.msum, F.mdays]
  cases F.leap y <;> rfl

theorem F.sub_of' (y : Int) (h : 1970 ≤ y) : F.ydays y = F.ysum (y - 1970).toNat 1970 := by
  have := F.ysum_eq (y - 1970).toNat 1970 (by omega)
  rw [F.ydays_0, show (1970 : Int) + ((y - 1970).toNat : Nat) = y by omega] at this
  omega

theorem F.ydays_366 {y : Int} (h : 1970 ≤ y) : F.ydays y ≤ 366 * (y - 1970) := by
  have h1 := F.sub_of' y h
  have h2 := F.ysum_b (y - 1970).toNat 1970
  omega

/-- The day of a year, a month and a day. -/
def F.dayN (Y : Int) (M D : Nat) : Int := F.ydays Y + (D : Int) - 1 + F.msum Y (M - 1) 1

/-- A date is found again. -/
theorem F.dt_find {Y : Int} {M D : Nat} (h1 : 1970 ≤ Y) (h2 : Y ≤ 9999) (h3 : 1 ≤ M) (h4 : M ≤ 12) (h5 : 1 ≤ D) (h6 : (D : Int) ≤ F.mdays Y M) :
    F.dtY (F.dayN Y M D) = Y ∧ F.dtM (F.dayN Y M D) = ((M : Int), (D : Int) - 1) ∧ 0 ≤ F.dayN Y M D := by
  have hb := F.msum_b Y (M - 1) 1
  have hy := F.ydays_mono (a := 1970) (b := Y) (by omega) h1
  rw [F.ydays_0] at hy
  have hlt : F.msum Y (M - 1) 1 + (D : Int) ≤ F.msum Y 12 1 := by
    have hs : ∀ (a b j : Nat), F.msum Y (a + b) j = F.msum Y a j + F.msum Y b (j + a) := by
      intro a
      induction a with
      | zero => intro b j; rw [Nat.zero_add, F.msum]; simp
      | succ a ih => intro b j; rw [show a + 1 + b = a + b + 1 by omega, F.msum, F.msum, ih, show j + 1 + a = j + (a + 1) by omega]; omega
    have h7 := hs (M - 1) (12 - (M - 1)) 1
    have h9 : F.msum Y ((12 - M) + 1) M = F.mdays Y M + F.msum Y (12 - M) (M + 1) := rfl
    rw [show M - 1 + (12 - (M - 1)) = 12 by omega, show 12 - (M - 1) = (12 - M) + 1 by omega, show 1 + (M - 1) = M by omega, h9] at h7
    have h8 := F.msum_b Y (12 - M) (M + 1)
    omega
  rw [F.msum_12] at hlt
  have hup := F.ydays_up (a := Y) (by omega)
  have e0 : 0 ≤ F.dayN Y M D := by unfold F.dayN; omega
  have e1 : F.ydays Y ≤ F.dayN Y M D := by unfold F.dayN; omega
  have e2 : F.dayN Y M D < F.ydays (Y + 1) := by unfold F.dayN; omega
  have e3 : 1970 + (F.dayN Y M D).tdiv 366 ≤ Y := by
    have := F.ydays_366 (y := Y + 1) (by omega)
    rw [Int.tdiv_eq_ediv_of_nonneg e0]
    omega
  have hY : F.dtY (F.dayN Y M D) = Y := by
    unfold F.dtY
    refine F.yrL_eq e1 e2 10000 _ ?_ e3 ?_
    · rw [Int.tdiv_eq_ediv_of_nonneg e0]; omega
    · rw [Int.tdiv_eq_ediv_of_nonneg e0]; omega
  refine ⟨hY, ?_, e0⟩
  unfold F.dtM
  rw [hY, show F.dayN Y M D - F.ydays Y = F.msum Y (M - 1) 1 + ((D : Int) - 1) by unfold F.dayN; omega]
  have := F.moL_eq Y (M - 1) 20 1 ((D : Int) - 1) (by omega) (by omega) (by rw [show 1 + (M - 1) = M by omega]; omega)
  rw [show ((1 : Nat) : Int) = 1 from rfl, show 1 + (M - 1) = M by omega] at this
  exact this

/-- A day has a date. -/
theorem F.dt_has {d : Int} (h1 : 0 ≤ d) (h2 : d ≤ 2932896) : ∃ (Y : Int) (M D : Nat), 1970 ≤ Y ∧ Y ≤ 9999 ∧ 1 ≤ M ∧ M ≤ 12 ∧ 1 ≤ D ∧ (D : Int) ≤ F.mdays Y M ∧ d = F.dayN Y M D := by
  have y4 : F.ydays 10000 = 2932897 := by decide
  have hq : 0 ≤ d / 366 := by omega
  obtain ⟨i1, i2, i3⟩ := F.yrL_ok (d := d) 10000 (1970 + d / 366) (by omega) (by have := F.ydays_366 (y := 1970 + d / 366) (by omega); omega) (by
    have := F.ydays_mono (a := 10000) (b := 1970 + d / 366 + ((10000 : Nat) : Int) + 1) (by omega) (by omega)
    omega)
  generalize F.yrL 10000 d (1970 + d / 366) = Y at i1 i2 i3
  have hY : Y ≤ 9999 := by
    by_cases h : Y ≤ 9999
    · exact h
    · have := F.ydays_mono (a := 10000) (b := Y) (by omega) (by omega)
      omega
  have hup := F.ydays_up (a := Y) (by omega)
  obtain ⟨i, j1, D, j2, j3, j4, _⟩ := F.moL_ok Y 12 20 1 (d - F.ydays Y) (by omega) (by omega) (by rw [F.msum_12]; omega)
  refine ⟨Y, 1 + i, D.toNat + 1, by omega, hY, by omega, by omega, by omega, by omega, ?_⟩
  unfold F.dayN
  rw [show 1 + i - 1 = i by omega]
  omega

end Go.Proofs.YtgkjfochkhiojaaDoor

namespace Go.Proofs.YtgkjfochkhiojaaDoor
open Go Go.RowKit
set_option linter.unusedVariables false
set_option linter.unusedSimpArgs false
set_option maxHeartbeats 2000000
set_option maxRecDepth 100000

theorem F.l2 {α : Type} {l : List α} (h : l.length = 2) : ∃ x y, l = [x, y] := by
  obtain ⟨x, l0, h0⟩ := List.exists_cons_of_length_eq_add_one (l := l) (n := 1) h
  rw [h0] at h
  obtain ⟨y, l1, h1⟩ := List.exists_cons_of_length_eq_add_one (l := l0) (n := 0) (by simpa using h)
  rw [h1] at h
  have h2 : l1 = [] := List.length_eq_zero_iff.1 (by simpa using h)
  exact ⟨x, y, by rw [h0, h1, h2]⟩

theorem F.l3 {α : Type} {l : List α} (h : l.length = 3) : ∃ x y z, l = [x, y, z] := by
  obtain ⟨x, l0, h0⟩ := List.exists_cons_of_length_eq_add_one (l := l) (n := 2) h
  rw [h0] at h
  obtain ⟨y, z, h1⟩ := F.l2 (l := l0) (by simpa using h)
  exact ⟨x, y, z, by rw [h0, h1]⟩

theorem F.l4 {α : Type} {l : List α} (h : l.length = 4) : ∃ x y z w, l = [x, y, z, w] := by
  obtain ⟨x, l0, h0⟩ := List.exists_cons_of_length_eq_add_one (l := l) (n := 3) h
  rw [h0] at h
  obtain ⟨y, z, w, h1⟩ := F.l3 (l := l0) (by simpa using h)
  exact ⟨x, y, z, w, by rw [h0, h1]⟩

/-- A date of its pieces. -/
def F.dtQ (a b c d e f g : ByteArray) : ByteArray := a ++ F.dash1 ++ b ++ F.dash1 ++ c ++ F.tee ++ d ++ F.colon ++ e ++ F.colon ++ f ++ F.dot ++ g ++ F.zed

theorem F.bs_dtQ (a b c d e f g : ByteArray) : F.bs (F.dtQ a b c d e f g) = F.bs a ++ 45 :: (F.bs b ++ 45 :: (F.bs c ++ 84 :: (F.bs d ++ 58 :: (F.bs e ++ 58 :: (F.bs f ++ 46 :: (F.bs g ++ [90])))))) := by
  unfold F.dtQ
  simp only [F.bs_app, List.append_assoc, show F.bs F.dash1 = [45] from rfl, show F.bs F.tee = [84] from rfl, show F.bs F.colon = [58] from rfl, show F.bs F.dot = [46] from rfl, show F.bs F.zed = [90] from rfl, List.singleton_append, List.cons_append, List.nil_append]

theorem F.cut_at' {s : ByteArray} {l : List UInt8} (h : F.bs s = l) (a b : Nat) {x : ByteArray} (hx : F.bs x = (l.drop a).take (b - a)) : s.extract a b = x := by
  apply F.bsx
  rw [F.sub_bs, h, hx]

theorem F.dtQ_of {a b c d e f g : ByteArray} (ha : (F.bs a).length = 4) (hb : (F.bs b).length = 2) (hc : (F.bs c).length = 2) (hd : (F.bs d).length = 2) (he : (F.bs e).length = 2) (hf : (F.bs f).length = 2) (hg : (F.bs g).length = 3)
    (da : (F.bs a).all F.dgB = true) (db : (F.bs b).all F.dgB = true) (dc : (F.bs c).all F.dgB = true) (dd : (F.bs d).all F.dgB = true) (de : (F.bs e).all F.dgB = true) (df : (F.bs f).all F.dgB = true) (dg : (F.bs g).all F.dgB = true) :
    (F.dtQ a b c d e f g).size = 24 ∧ F.dfA (F.dtQ a b c d e f g) = true ∧ (F.dtQ a b c d e f g).extract 0 4 = a ∧ (F.dtQ a b c d e f g).extract 5 7 = b ∧ (F.dtQ a b c d e f g).extract 8 10 = c ∧ (F.dtQ a b c d e f g).extract 11 13 = d ∧ (F.dtQ a b c d e f g).extract 14 16 = e ∧ (F.dtQ a b c d e f g).extract 17 19 = f ∧ (F.dtQ a b c d e f g).extract 20 23 = g := by
  have hv := F.bs_dtQ a b c d e f g
  obtain ⟨a0, a1, a2, a3, ea⟩ := F.l4 ha
  obtain ⟨b0, b1, eb⟩ := F.l2 hb
  obtain ⟨c0, c1, ec⟩ := F.l2 hc
  obtain ⟨d0, d1, ed⟩ := F.l2 hd
  obtain ⟨e0, e1, ee⟩ := F.l2 he
  obtain ⟨f0, f1, ef⟩ := F.l2 hf
  obtain ⟨g0, g1, g2, eg⟩ := F.l3 hg
  rw [ea, eb, ec, ed, ee, ef, eg] at hv
  rw [ea] at da
  rw [eb] at db
  rw [ec] at dc
  rw [ed] at dd
  rw [ee] at de
  rw [ef] at df
  rw [eg] at dg
  simp only [List.all_cons, List.all_nil, Bool.and_true, Bool.and_eq_true] at da db dc dd de df dg
  refine ⟨?_, ?_, F.cut_at' hv _ _ (by rw [ea]; rfl), F.cut_at' hv _ _ (by rw [eb]; rfl), F.cut_at' hv _ _ (by rw [ec]; rfl), F.cut_at' hv _ _ (by rw [ed]; rfl), F.cut_at' hv _ _ (by rw [ee]; rfl), F.cut_at' hv _ _ (by rw [ef]; rfl), F.cut_at' hv _ _ (by rw [eg]; rfl)⟩
  · rw [← F.bs_len, hv]; rfl
  · unfold F.dfA F.dfP
    rw [hv]
    have hfm : F.bs F.dForm = [48, 48, 48, 48, 45, 48, 48, 45, 48, 48, 84, 48, 48, 58, 48, 48, 58, 48, 48, 46, 48, 48, 48, 90] := rfl
    rw [hfm]
    simp only [List.cons_append, List.nil_append, List.zip_cons_cons, List.zip_nil_left, List.all_cons, List.all_nil, F.dfB, (by decide : decide ((48 : UInt8) = 48) = true), (by decide : decide ((45 : UInt8) = 48) = false), (by decide : decide ((84 : UInt8) = 48) = false), (by decide : decide ((58 : UInt8) = 48) = false), (by decide : decide ((46 : UInt8) = 48) = false), (by decide : decide ((90 : UInt8) = 48) = false), cond_true, cond_false,
      da, db, dc, dd, de, df, dg, decide_true, Bool.and_self]

theorem F.dtQ_back {v : ByteArray} (h24 : v.size = 24) (hA : F.dfA v = true) : F.dtQ (v.extract 0 4) (v.extract 5 7) (v.extract 8 10) (v.extract 11 13) (v.extract 14 16) (v.extract 17 19) (v.extract 20 23) = v := by
  apply F.bsx
  rw [F.bs_dtQ]
  simp only [F.sub_bs]
  have hl : (F.bs v).length = 24 := by rw [F.bs_len, h24]
  unfold F.dfA F.dfP at hA
  have hg : ∀ (k : Nat) (f : UInt8), (F.bs F.dForm)[k]? = some f → f ≠ 48 → (F.bs v)[k]? = some f := by
    intro k f hf hn
    have hk : k < 24 := by
      obtain ⟨h1, _⟩ := List.getElem?_eq_some_iff.1 hf
      exact h1
    have hy : (F.bs v)[k]? = some ((F.bs v)[k]'(by omega)) := List.getElem?_eq_getElem (by omega)
    generalize (F.bs v)[k]'(by omega) = y at hy
    have hz : ((F.bs v).zip (F.bs F.dForm))[k]? = some (y, f) := List.getElem?_zip_eq_some.2 ⟨hy, hf⟩
    have h1 := List.all_eq_true.1 hA _ (List.mem_of_getElem? hz)
    simp only [F.dfB] at h1
    rw [decide_eq_false hn, cond_false, decide_eq_true_eq] at h1
    rw [hy, h1]
  have s4 := M.drop_y (hg 4 45 rfl (by decide))
  have s7 := M.drop_y (hg 7 45 rfl (by decide))
  have s10 := M.drop_y (hg 10 84 rfl (by decide))
  have s13 := M.drop_y (hg 13 58 rfl (by decide))
  have s16 := M.drop_y (hg 16 58 rfl (by decide))
  have s19 := M.drop_y (hg 19 46 rfl (by decide))
  have s23 := M.drop_y (hg 23 90 rfl (by decide))
  have sp : ∀ (a b : Nat), a ≤ b → ((F.bs v).drop a).take (b - a) ++ (F.bs v).drop b = (F.bs v).drop a := by
    intro a b h
    have := List.take_append_drop (b - a) ((F.bs v).drop a)
    rw [List.drop_drop, show a + (b - a) = b by omega] at this
    exact this
  have e24 : (F.bs v).drop 24 = [] := List.drop_eq_nil_of_le (by omega)
  rw [e24] at s23
  rw [← s23, sp 20 23 (by decide), ← s19, sp 17 19 (by decide), ← s16, sp 14 16 (by decide), ← s13, sp 11 13 (by decide), ← s10, sp 8 10 (by decide), ← s7, sp 5 7 (by decide), ← s4, sp 0 4 (by decide), List.drop_zero]

theorem F.dtS_q (n : Nat) : F.dtS (n : Int) = F.dtQ (F.pad (F.dtY ((n / 86400000 : Nat) : Int)) 4) (F.pad (F.dtM ((n / 86400000 : Nat) : Int)).1 2) (F.pad ((F.dtM ((n / 86400000 : Nat) : Int)).2 + 1) 2) (F.pad ((n % 86400000 / 3600000 : Nat) : Int) 2) (F.pad ((n % 86400000 / 60000 % 60 : Nat) : Int) 2) (F.pad ((n % 86400000 / 1000 % 60 : Nat) : Int) 2) (F.pad ((n % 86400000 % 1000 : Nat) : Int) 3) := rfl

theorem F.dayN_max {Y : Int} {M D : Nat} (h1 : 1970 ≤ Y) (h2 : Y ≤ 9999) (h3 : 1 ≤ M) (h4 : M ≤ 12) (h5 : 1 ≤ D) (h6 : (D : Int) ≤ F.mdays Y M) : F.dayN Y M D ≤ 2932896 := by
  obtain ⟨k1, k2, k3⟩ := F.dt_find h1 h2 h3 h4 h5 h6
  have y4 : F.ydays 10000 = 2932897 := by decide
  have hmono := F.ydays_mono (a := Y + 1) (b := 10000) (by omega) (by omega)
  have hup := F.ydays_up (a := Y) (by omega)
  have hs : ∀ (a b j : Nat), F.msum Y (a + b) j = F.msum Y a j + F.msum Y b (j + a) := by
    intro a
    induction a with
    | zero => intro b j; rw [Nat.zero_add, F.msum]; simp
    | succ a ih => intro b j; rw [show a + 1 + b = a + b + 1 by omega, F.msum, F.msum, ih, show j + 1 + a = j + (a + 1) by omega]; omega
  have h7 := hs (M - 1) (12 - (M - 1)) 1
  have h9 : F.msum Y ((12 - M) + 1) M = F.mdays Y M + F.msum Y (12 - M) (M + 1) := rfl
  rw [show M - 1 + (12 - (M - 1)) = 12 by omega, show 12 - (M - 1) = (12 - M) + 1 by omega, show 1 + (M - 1) = M by omega, h9, F.msum_12] at h7
  have h8 := F.msum_b Y (12 - M) (M + 1)
  unfold F.dayN
  omega

/-- What is written is read. -/
theorem F.dtS_ok {n : Nat} (h : n ≤ 253402300799999) : F.dtOk (F.dtS (n : Int)) = true ∧ F.dtV (F.dtS (n : Int)) = (n : Int) := by
  obtain ⟨Y, M, D, h1, h2, h3, h4, h5, h6, hd⟩ := F.dt_has (d := ((n / 86400000 : Nat) : Int)) (by omega) (by omega)
  obtain ⟨k1, k2, k3⟩ := F.dt_find h1 h2 h3 h4 h5 h6
  rw [← hd] at k1 k2
  have hb := F.mdays_b Y M
  obtain ⟨y, rfl⟩ := Int.eq_ofNat_of_zero_le (show 0 ≤ Y by omega)
  rw [F.dtS_q, k1, k2, show (D : Int) - 1 + 1 = (D : Int) by omega]
  obtain ⟨a1, a2, a3⟩ := F.pad_ok (k := y) (many := 4) (by show y < 10000; omega) (by decide)
  obtain ⟨b1, b2, b3⟩ := F.pad_ok (k := M) (many := 2) (by show M < 100; omega) (by decide)
  obtain ⟨c1, c2, c3⟩ := F.pad_ok (k := D) (many := 2) (by show D < 100; omega) (by decide)
  obtain ⟨d1, d2, d3⟩ := F.pad_ok (k := n % 86400000 / 3600000) (many := 2) (by show _ < 100; omega) (by decide)
  obtain ⟨e1, e2, e3⟩ := F.pad_ok (k := n % 86400000 / 60000 % 60) (many := 2) (by show _ < 100; omega) (by decide)
  obtain ⟨f1, f2, f3⟩ := F.pad_ok (k := n % 86400000 / 1000 % 60) (many := 2) (by show _ < 100; omega) (by decide)
  obtain ⟨g1, g2, g3⟩ := F.pad_ok (k := n % 86400000 % 1000) (many := 3) (by show _ < 1000; omega) (by decide)
  obtain ⟨q1, q2, q3, q4, q5, q6, q7, q8, q9⟩ := F.dtQ_of a1 b1 c1 d1 e1 f1 g1 a2 b2 c2 d2 e2 f2 g2
  generalize hv : F.dtQ (F.pad (y : Int) 4) (F.pad (M : Int) 2) (F.pad (D : Int) 2) (F.pad ((n % 86400000 / 3600000 : Nat) : Int) 2) (F.pad ((n % 86400000 / 60000 % 60 : Nat) : Int) 2) (F.pad ((n % 86400000 / 1000 % 60 : Nat) : Int) 2) (F.pad ((n % 86400000 % 1000 : Nat) : Int) 3) = v at *
  have w1 : F.dN v 0 4 = y := by unfold F.dN; rw [q3]; exact a3
  have w2 : F.dN v 5 7 = M := by unfold F.dN; rw [q4]; exact b3
  have w3 : F.dN v 8 10 = D := by unfold F.dN; rw [q5]; exact c3
  have w4 : F.dN v 11 13 = n % 86400000 / 3600000 := by unfold F.dN; rw [q6]; exact d3
  have w5 : F.dN v 14 16 = n % 86400000 / 60000 % 60 := by unfold F.dN; rw [q7]; exact e3
  have w6 : F.dN v 17 19 = n % 86400000 / 1000 % 60 := by unfold F.dN; rw [q8]; exact f3
  have w7 : F.dN v 20 23 = n % 86400000 % 1000 := by unfold F.dN; rw [q9]; exact g3
  have hok : F.dtOk v = true := by
    unfold F.dtOk F.dtB F.out
    rw [q1, q2, w1, w2, w3, w4, w5, w6, decide_eq_false (by omega : ¬ (y : Int) < 1970), decide_eq_false (by omega : ¬ (M : Int) < 1), decide_eq_false (by omega : ¬ (12 : Int) < (M : Int)), decide_eq_false (by omega : ¬ (D : Int) < 1), decide_eq_false (by omega : ¬ F.mdays (y : Int) (M : Int) < (D : Int)), decide_eq_false (by omega : ¬ (23 : Int) < ((n % 86400000 / 3600000 : Nat) : Int)), decide_eq_false (by omega : ¬ (59 : Int) < ((n % 86400000 / 60000 % 60 : Nat) : Int)), decide_eq_false (by omega : ¬ (59 : Int) < ((n % 86400000 / 1000 % 60 : Nat) : Int))]
    rfl
  refine ⟨hok, ?_⟩
  unfold F.dtV
  rw [hok, cond_true, w1, w2, w3, w4, w5, w6, w7]
  unfold F.dayN at hd
  rw [← hd]
  omega

/-- What is read is written so. -/
theorem F.dtS_of {v : ByteArray} (h : F.dtOk v = true) : F.dtS (F.dtV v) = v ∧ 0 ≤ F.dtV v ∧ F.dtV v ≤ 253402300799999 := by
  have hV : F.dtV v = F.dayN (F.dN v 0 4) (F.dN v 5 7) (F.dN v 8 10) * 86400000 + (F.dN v 11 13 : Nat) * 3600000 + (F.dN v 14 16 : Nat) * 60000 + (F.dN v 17 19 : Nat) * 1000 + (F.dN v 20 23 : Nat) := by
    unfold F.dtV F.dayN
    rw [h, cond_true]
  unfold F.dtOk at h
  rw [Bool.and_eq_true, Bool.and_eq_true, decide_eq_true_eq] at h
  obtain ⟨⟨h24, hA⟩, hB⟩ := h
  have g1 := F.sub_dg h24 hA (a := 0) (b := 4) (by decide) (by decide)
  have g2 := F.sub_dg h24 hA (a := 5) (b := 7) (by decide) (by decide)
  have g3 := F.sub_dg h24 hA (a := 8) (b := 10) (by decide) (by decide)
  have g4 := F.sub_dg h24 hA (a := 11) (b := 13) (by decide) (by decide)
  have g5 := F.sub_dg h24 hA (a := 14) (b := 16) (by decide) (by decide)
  have g6 := F.sub_dg h24 hA (a := 17) (b := 19) (by decide) (by decide)
  have g7 := F.sub_dg h24 hA (a := 20) (b := 23) (by decide) (by decide)
  have z1 : (v.extract 0 4).size = 4 := F.sub_sz h24 (by decide)
  have z2 : (v.extract 5 7).size = 2 := F.sub_sz h24 (by decide)
  have z3 : (v.extract 8 10).size = 2 := F.sub_sz h24 (by decide)
  have z4 : (v.extract 11 13).size = 2 := F.sub_sz h24 (by decide)
  have z5 : (v.extract 14 16).size = 2 := F.sub_sz h24 (by decide)
  have z6 : (v.extract 17 19).size = 2 := F.sub_sz h24 (by decide)
  have z7 : (v.extract 20 23).size = 3 := F.sub_sz h24 (by decide)
  have p1 : F.pad (F.dN v 0 4 : Int) 4 = v.extract 0 4 := F.pad_dv (by decide) z1 g1
  have p2 : F.pad (F.dN v 5 7 : Int) 2 = v.extract 5 7 := F.pad_dv (by decide) z2 g2
  have p3 : F.pad (F.dN v 8 10 : Int) 2 = v.extract 8 10 := F.pad_dv (by decide) z3 g3
  have p4 : F.pad (F.dN v 11 13 : Int) 2 = v.extract 11 13 := F.pad_dv (by decide) z4 g4
  have p5 : F.pad (F.dN v 14 16 : Int) 2 = v.extract 14 16 := F.pad_dv (by decide) z5 g5
  have p6 : F.pad (F.dN v 17 19 : Int) 2 = v.extract 17 19 := F.pad_dv (by decide) z6 g6
  have p7 : F.pad (F.dN v 20 23 : Int) 3 = v.extract 20 23 := F.pad_dv (by decide) z7 g7
  have b1 : F.dN v 0 4 < 10 ^ 4 := F.dv_b (by omega) g1
  have b2 : F.dN v 5 7 < 10 ^ 2 := F.dv_b (by omega) g2
  have b3 : F.dN v 8 10 < 10 ^ 2 := F.dv_b (by omega) g3
  have b7 : F.dN v 20 23 < 10 ^ 3 := F.dv_b (by omega) g7
  unfold F.dtB F.out at hB
  simp only [Bool.not_eq_true', Bool.or_eq_false_iff, decide_eq_false_iff_not] at hB
  obtain ⟨⟨⟨⟨⟨hy, hm⟩, hd⟩, hh⟩, hi⟩, hs⟩ := hB
  rw [hV]
  have hback := F.dtQ_back h24 hA
  rw [← p1, ← p2, ← p3, ← p4, ← p5, ← p6, ← p7] at hback
  generalize F.dN v 0 4 = y at *
  generalize F.dN v 5 7 = m at *
  generalize F.dN v 8 10 = d at *
  generalize F.dN v 11 13 = hr at *
  generalize F.dN v 14 16 = mi at *
  generalize F.dN v 17 19 = se at *
  generalize F.dN v 20 23 = w at *
  obtain ⟨k1, k2, k3⟩ := F.dt_find (Y := y) (M := m) (D := d) (by omega) (by omega) (by omega) (by omega) (by omega) (by omega)
  have kmax := F.dayN_max (Y := y) (M := m) (D := d) (by omega) (by omega) (by omega) (by omega) (by omega) (by omega)
  obtain ⟨N, hN⟩ := Int.eq_ofNat_of_zero_le k3
  rw [hN] at k1 k2 kmax ⊢
  obtain ⟨X, hX⟩ : ∃ X, X = hr * 3600000 + mi * 60000 + se * 1000 + w := ⟨_, rfl⟩
  have hX2 : X < 86400000 := by omega
  have e : (N : Int) * 86400000 + (hr : Int) * 3600000 + (mi : Int) * 60000 + (se : Int) * 1000 + (w : Int) = ((N * 86400000 + X : Nat) : Int) := by omega
  have r1 : (N * 86400000 + X) / 86400000 = N := by omega
  have r2 : (N * 86400000 + X) % 86400000 = X := by omega
  rw [e]
  refine ⟨?_, by omega, by omega⟩
  rw [F.dtS_q, r1, r2]
  have x1 : X / 3600000 = hr := by omega
  have x2 : X / 60000 % 60 = mi := by omega
  have x3 : X / 1000 % 60 = se := by omega
  have x4 : X % 1000 = w := by omega
  have x5 : (d : Int) - 1 + 1 = (d : Int) := by omega
  rw [k1, k2, x1, x2, x3, x4, x5]
  exact hback

end Go.Proofs.YtgkjfochkhiojaaDoor

namespace Go.Proofs.YtgkjfochkhiojaaDoor
open Go Go.RowKit
set_option linter.unusedVariables false
set_option linter.unusedSimpArgs false
set_option maxHeartbeats 1000000

theorem F.numV_nn' (s : ByteArray) (k : Int) : 0 ≤ F.numV s k := by
  unfold F.numV
  cases F.numOk s k
  · exact Int.le_refl _
  · rw [cond_true]; omega

theorem F.cut_c (s : ByteArray) (c : UInt8) : Lib.cut (F.bs s) [c] = if Lib.indexByte (F.bs s) c ≥ 0 then ((F.bs s).take (Lib.indexByte (F.bs s) c).toNat, (F.bs s).drop ((Lib.indexByte (F.bs s) c).toNat + 1), true) else (F.bs s, [], false) := by
  have h : Lib.index (F.bs s) [c] = Lib.indexByte (F.bs s) c := Lib.index_one ..
  unfold Lib.cut
  rw [h]
  rfl

/-- A piece, put before a byte and the rest of a text. -/
theorem F.cut_one {s p : ByteArray} {c : UInt8} {a r : List UInt8} (hp : F.bs p = [c]) (ha : c ∉ a) (h : F.bs s = a ++ c :: r) : F.cutF s p = true ∧ F.bs (F.cutH s p) = a ∧ F.bs (F.cutT s p) = r := by
  have e := F.cut_c s c
  rw [h, F.index_first ha, if_pos (by omega)] at e
  unfold F.cutF F.cutH F.cutT
  rw [hp, h, e, F.bs_mk, F.bs_mk]
  refine ⟨rfl, ?_, ?_⟩
  · simp
  · rw [show (((a.length : Nat) : Int).toNat + 1) = a.length + 1 by omega, List.drop_append]
    simp

theorem F.cut_two {s p : ByteArray} {c : UInt8} (hp : F.bs p = [c]) (h : F.cutF s p = true) : F.bs s = F.bs (F.cutH s p) ++ c :: F.bs (F.cutT s p) := by
  have e := F.cut_c s c
  unfold F.cutF at h
  unfold F.cutH F.cutT
  rw [hp] at h ⊢
  rw [F.bs_mk (Lib.cut (F.bs s) [c]).1, F.bs_mk (Lib.cut (F.bs s) [c]).2.1]
  split at e
  · rename_i hi
    rw [e]
    exact F.indexByte_at (i := (Lib.indexByte (F.bs s) c).toNat) (by omega)
  · rw [e] at h; cases h

/-- A time, written. -/
def F.tmS (n : Int) : ByteArray := F.itoa (n.tdiv 1000) ++ F.dot ++ F.pad (n.tmod 1000) 3

theorem F.dg_no {l : List UInt8} {c : UInt8} (h : l.all F.dgB = true) (hc : F.dgB c = false) : c ∉ l := by
  intro hm
  have := List.all_eq_true.1 h c hm
  rw [hc] at this
  cases this

theorem F.tmS_ok {n : Nat} (h : n ≤ 3600000) : F.milOk (F.tmS (n : Int)) = true ∧ F.milV (F.tmS (n : Int)) = (n : Int) := by
  have e1 : F.tmS (n : Int) = F.itoa ((n / 1000 : Nat) : Int) ++ F.dot ++ F.pad ((n % 1000 : Nat) : Int) 3 := rfl
  obtain ⟨d1, d2, d3⟩ := F.dd_ok (n / 1000)
  obtain ⟨p1, p2, p3⟩ := F.pad_ok (k := n % 1000) (many := 3) (by show _ < 1000; omega) (by decide)
  have hb : F.bs (F.tmS (n : Int)) = F.bs (F.itoa ((n / 1000 : Nat) : Int)) ++ 46 :: F.bs (F.pad ((n % 1000 : Nat) : Int) 3) := by
    rw [e1, F.bs_app, F.bs_app, List.append_assoc]
    rfl
  have hn : (46 : UInt8) ∉ F.bs (F.itoa ((n / 1000 : Nat) : Int)) := by
    rw [F.itoa_n]
    exact F.dg_no d1 (by decide)
  obtain ⟨c1, c2, c3⟩ := F.cut_one (p := F.dot) rfl hn hb
  have c2 : F.cutH (F.tmS (n : Int)) F.dot = F.itoa ((n / 1000 : Nat) : Int) := F.bsx c2
  have c3 : F.cutT (F.tmS (n : Int)) F.dot = F.pad ((n % 1000 : Nat) : Int) 3 := F.bsx c3
  have h16 : (10 : Nat) ^ (15 + 1) = 10000000000000000 := by decide
  obtain ⟨v1, v2⟩ := F.num_itoa_k (n := ((n / 1000 : Nat) : Int)) (w := 15) (by omega) (by rw [h16]; omega)
  have v1 : F.numOk (F.itoa ((n / 1000 : Nat) : Int)) 16 = true := v1
  have v2 : F.numV (F.itoa ((n / 1000 : Nat) : Int)) 16 = ((n / 1000 : Nat) : Int) := v2
  have hsz : (F.pad ((n % 1000 : Nat) : Int) 3).size = 3 := by rw [← F.bs_len]; exact p1
  have hok : F.milOk (F.tmS (n : Int)) = true := by
    unfold F.milOk
    rw [c1, c2, c3, v1, hsz, p2]
    rfl
  refine ⟨hok, ?_⟩
  unfold F.milV F.dv
  rw [hok, cond_true, c2, c3, v2, p3]
  omega

theorem F.tmS_of {v : ByteArray} (h : F.milOk v = true) (hm : F.milV v ≤ 3600000) : F.tmS (F.milV v) = v ∧ 0 ≤ F.milV v := by
  have hV : F.milV v = min (F.numV (F.cutH v F.dot) 16) 1000000000000000 * 1000 + (F.dv (F.cutT v F.dot) : Nat) := by unfold F.milV; rw [h, cond_true]
  unfold F.milOk at h
  simp only [Bool.and_eq_true, decide_eq_true_eq] at h
  obtain ⟨⟨⟨h1, h2⟩, h3⟩, h4⟩ := h
  have hn := F.itoa_num h1
  have hp := F.pad_dv (v := F.cutT v F.dot) (many := 3) (by decide) h3 h4
  have hd := F.dv_b (k := 3) (Nat.le_of_eq h3) h4
  have h0 : 0 ≤ F.numV (F.cutH v F.dot) 16 := F.numV_nn' _ _
  have hb := F.cut_two (p := F.dot) (c := 46) rfl h2
  rw [hV] at hm
  obtain ⟨k, hk⟩ := Int.eq_ofNat_of_zero_le h0
  rw [hk] at hV hm hn
  generalize F.dv (F.cutT v F.dot) = w at *
  have hV2 : F.milV v = ((k * 1000 + w : Nat) : Int) := by rw [hV]; omega
  refine ⟨?_, by rw [hV2]; omega⟩
  have e1 : F.tmS (((k * 1000 + w : Nat) : Int)) = F.itoa (((k * 1000 + w) / 1000 : Nat) : Int) ++ F.dot ++ F.pad (((k * 1000 + w) % 1000 : Nat) : Int) 3 := rfl
  have hw : w < 1000 := hd
  rw [hV2, e1, show (k * 1000 + w) / 1000 = k by omega, show (k * 1000 + w) % 1000 = w by omega, hn, hp]
  apply F.bsx
  rw [F.bs_app, F.bs_app, List.append_assoc, hb]
  rfl

end Go.Proofs.YtgkjfochkhiojaaDoor
