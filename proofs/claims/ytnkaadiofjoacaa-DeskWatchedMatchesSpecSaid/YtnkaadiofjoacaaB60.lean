/- What is proved here: contracts of the sorting functions that swap and insert (no statement of the seat). -/
import Derived.Test.YtnkaadiofjoacaaB19
namespace Go.Proofs.Ytnkaadiofjoacaa
open Go Go.RowKit
set_option linter.unusedVariables false
set_option linter.unusedSimpArgs false
set_option maxHeartbeats 1000000

namespace K
variable {α : Type} {lt : α → α → Bool}

theorem sink_go {a j : Nat} {xs : List α} {x y : α} (hx : xs[j + 1]? = some x) (hy : xs[j]? = some y) (ha : a < j + 1) (hc : lt x y = true) : sink lt a (j + 1) xs = sink lt a j (sw2 xs (j + 1) j) := by
  rw [sink, hx, hy]
  simp only [decide_eq_true ha, hc, Bool.and_true, cond_true]

theorem sink_no {a j : Nat} {xs : List α} {x y : α} (hx : xs[j + 1]? = some x) (hy : xs[j]? = some y) (hc : ¬ a < j + 1 ∨ lt x y = false) : sink lt a (j + 1) xs = xs := by
  rw [sink, hx, hy]
  rcases hc with hc | hc
  · simp only [decide_eq_false hc, Bool.false_and, cond_false]
  · simp only [hc, Bool.and_false, cond_false]

/-- Parts change places, the longer one step by step. -/
def rotL (m i j : Nat) (xs : List α) : Nat × List α :=
  if h : i = 0 ∨ j = 0 ∨ i = j then (i, xs) else if j < i then rotL m (i - j) j (swr (m - i) m j xs) else rotL m i (j - i) (swr (m - i) (m + j - i) i xs)
termination_by i + j

theorem rotL_spec (n : Nat) : ∀ (i j m : Nat) (xs : List α), i + j ≤ n → 0 < i → 0 < j → i ≤ m → m + j ≤ xs.length →
    0 < (rotL m i j xs).1 ∧ (rotL m i j xs).1 ≤ m ∧ m + (rotL m i j xs).1 ≤ xs.length ∧ (rotL m i j xs).2.length = xs.length ∧ swr (m - (rotL m i j xs).1) m (rotL m i j xs).1 (rotL m i j xs).2 = rotS m i j xs := by
  induction n with
  | zero => intro i j m xs h h1; omega
  | succ n ih =>
    intro i j m xs h h1 h2 h3 h4
    rw [rotL]
    by_cases e : i = j
    · subst e
      rw [dif_pos (.inr (.inr rfl))]
      exact ⟨h1, h3, h4, rfl, rotS_eq h3 h4⟩
    · rw [dif_neg (by omega)]
      by_cases e2 : j < i
      · rw [if_pos e2]
        have := ih (i - j) j m (swr (m - i) m j xs) (by omega) (by omega) h2 (by omega) (by rw [swr_len]; exact h4)
        rw [swr_len, rotS_gt h3 h4 e2] at this
        exact this
      · rw [if_neg e2]
        have := ih i (j - i) m (swr (m - i) (m + j - i) i xs) (by omega) h1 (by omega) h3 (by rw [swr_len]; omega)
        rw [swr_len, rotS_lt h3 h4 (by omega)] at this
        exact this

theorem rotL_gt {m i j : Nat} {xs : List α} (h : j < i) (hj : 0 < j) : rotL m i j xs = rotL m (i - j) j (swr (m - i) m j xs) := by
  rw [rotL, dif_neg (by omega), if_pos h]

theorem rotL_lt {m i j : Nat} {xs : List α} (h : i < j) (hi : 0 < i) : rotL m i j xs = rotL m i (j - i) (swr (m - i) (m + j - i) i xs) := by
  rw [rotL, dif_neg (by omega), if_neg (by omega)]

theorem rotL_eq {m i : Nat} {xs : List α} : rotL m i i xs = (i, xs) := by
  rw [rotL, dif_pos (.inr (.inr rfl))]

theorem bs_go1 {p : Nat → Bool} {i j : Nat} (h : i < j) (hp : p ((i + j) / 2) = true) : bs p i j = bs p ((i + j) / 2 + 1) j := by rw [bs, if_pos h, hp, cond_true]

theorem bs_go0 {p : Nat → Bool} {i j : Nat} (h : i < j) (hp : p ((i + j) / 2) = false) : bs p i j = bs p i ((i + j) / 2) := by rw [bs, if_pos h, hp, cond_false]

theorem bs_end {p : Nat → Bool} {i j : Nat} (h : ¬ i < j) : bs p i j = i := by rw [bs, if_neg h]

open Classical in
/-- A part is sorted. -/
noncomputable def srtD (lt : α → α → Bool) (a b : Nat) (xs : List α) : Bool := decide (SrtAt lt a b xs)

open Classical in
noncomputable def inR (lt : α → α → Bool) (k a : Nat) (xs : List α) : Bool := decide (InRuns lt k a xs)

open Classical in
noncomputable def allR (lt : α → α → Bool) (k : Nat) (xs : List α) : Bool := decide (AllRuns lt k xs)

end K

namespace M


theorem at_lt {α : Type} {xs : List α} {k : Nat} (h : k < xs.length) : ∃ y, xs[k]? = some y := ⟨_, List.getElem?_eq_getElem h⟩

theorem w_add {a b : Nat} (h : a + b ≤ 9223372036854775807) : IntKind.i64.wrap ((a : Int) + (b : Int)) = ((a + b : Nat) : Int) := by rw [wrap_id (by omega) (by omega)]; omega

theorem w_sub {a b : Nat} (h : b ≤ a) (h2 : a ≤ 9223372036854775807) : IntKind.i64.wrap ((a : Int) - (b : Int)) = ((a - b : Nat) : Int) := by rw [wrap_id (by omega) (by omega)]; omega

theorem w_sub1 {a : Nat} (h : 1 ≤ a) (h2 : a ≤ 9223372036854775807) : IntKind.i64.wrap ((a : Int) - 1) = ((a - 1 : Nat) : Int) := by rw [wrap_id (by omega) (by omega)]; omega

theorem w_add1 {a : Nat} (h2 : a < 9223372036854775807) : IntKind.i64.wrap ((a : Int) + 1) = ((a + 1 : Nat) : Int) := by rw [wrap_id (by omega) (by omega)]; omega

theorem idxN (n : Nat) : idx (n : Int) = some n := rfl

theorem dlt {a b : Nat} : decide ((a : Int) < (b : Int)) = decide (a < b) := by by_cases h : a < b <;> simp [h]

theorem dle {a b : Nat} : decide ((a : Int) ≤ (b : Int)) = decide (a ≤ b) := by by_cases h : a ≤ b <;> simp [h]

def stSwR (xs : List Beat) (a : Nat) (b : Nat) (n : Nat) (i : Nat) : St := ⟨[(10, vI i), (3, vI n), (2, vI b), (1, vI a), (0, .own 900)], [(900, ⟨false, 38, 5, xs.map eBeat⟩)]⟩

def stSwR1 (a : (List Beat) × Nat × Nat × Nat × Nat) : St := stSwR a.1 a.2.1 a.2.2.1 a.2.2.2.1 a.2.2.2.2

theorem stSwR_inj (a a' : (List Beat) × Nat × Nat × Nat × Nat) (h : stSwR1 a = stSwR1 a') : a = a' := by
  simp only [stSwR1, stSwR] at h
  try simp [strs_inj, ints_inj, bools_inj, eL_eIs_inj, eBeats_inj, eBeat_iff, eL_eBeats_inj, eSpans_inj, eSpan_iff, eHoles_inj, eHole_iff, eLevels_inj, eLevel_iff, eFigss_inj, eFigs_iff, eRatios_inj, eRatio_iff, eReps_inj, eRep_iff, eStays_inj, eStay_iff] at h
  grind

theorem unstSwR (xs : List Beat) (a : Nat) (b : Nat) (n : Nat) (i : Nat) : unenc stSwR1 (St.mk [(10, (vI (↑i : Int))), (3, (vI (↑n : Int))), (2, (vI (↑b : Int))), (1, (vI (↑a : Int))), (0, .own 900)] [(900, Blk.mk false 38 5 (List.map eBeat xs))]) = some (xs, a, b, n, i) := unenc_of stSwR_inj (xs, a, b, n, i) rfl

theorem unstSwR0 (xs : List Beat) (a : Nat) (b : Nat) (n : Nat)  : unenc stSwR1 (St.mk [(10, (vI (0 : Int))), (3, (vI (↑n : Int))), (2, (vI (↑b : Int))), (1, (vI (↑a : Int))), (0, .own 900)] [(900, Blk.mk false 38 5 (List.map eBeat xs))]) = some (xs, a, b, n, 0) := unenc_of stSwR_inj (xs, a, b, n, 0) rfl

def outSwR (xs : List Beat) (a : Nat) (b : Nat) (n : Nat) (i : Nat) : T (Ex × St) := .ret (.exit 0, ⟨[], [(900, ⟨false, 38, 5, (K.swr (a + i) (b + i) (n - i) xs).map eBeat⟩)]⟩)

noncomputable def prlSwR (xs : List Beat) (a : Nat) (b : Nat) (n : Nat) (i : Nat) : Bool := decide (a + n ≤ xs.length ∧ b + n ≤ xs.length ∧ xs.length ≤ 100000 ∧ i ≤ n)

noncomputable def lpSwR : Nat × (St → T (Ex × St)) := (1, lpo [10, 3, 2, 1, 0] [900] stSwR1 (fun a => prlSwR a.1 a.2.1 a.2.2.1 a.2.2.2.1 a.2.2.2.2) fun a => outSwR a.1 a.2.1 a.2.2.1 a.2.2.2.1 a.2.2.2.2)

noncomputable def enSwR : Env := envH ty noG lks [] [] [] [lpSwR]

theorem enSwR_ok : EnvOK Try.prog enSwR := by
  refine envH_ok lks_ok ty_ok ?_ ?_
  · simp
  · simp

def encSwR1 (xs : List Beat) (a : Nat) (b : Nat) (n : Nat) : List AV × Heap := ([.own 900, vI a, vI b, vI n, .fn 56 []], [(900, ⟨false, 38, 5, xs.map eBeat⟩)])

def encSwR (a : (List Beat) × Nat × Nat × Nat) : List AV × Heap := encSwR1 a.1 a.2.1 a.2.2.1 a.2.2.2

theorem encSwR_inj (a a' : (List Beat) × Nat × Nat × Nat) (h : encSwR a = encSwR a') : a = a' := by
  simp only [encSwR, encSwR1] at h
  try simp [strs_inj, ints_inj, bools_inj, eL_eIs_inj, eBeats_inj, eBeat_iff, eL_eBeats_inj, eSpans_inj, eSpan_iff, eHoles_inj, eHole_iff, eLevels_inj, eLevel_iff, eFigss_inj, eFigs_iff, eRatios_inj, eRatio_iff, eReps_inj, eRep_iff, eStays_inj, eStay_iff] at h
  grind

theorem unSwR (xs : List Beat) (a : Nat) (b : Nat) (n : Nat) : unenc encSwR (([.own 900, (vI (↑a : Int)), (vI (↑b : Int)), (vI (↑n : Int)), AV.fn (56 : FuncId) []], [(900, Blk.mk false 38 5 (List.map eBeat xs))])) = some (xs, a, b, n) := unenc_of encSwR_inj (xs, a, b, n) rfl

def resSwR1 (xs : List Beat) (a : Nat) (b : Nat) (n : Nat) : AV × Heap × List Nat := (.tup [], [(900, ⟨false, 38, 5, (K.swr a b n xs).map eBeat⟩)], [])

def preSwR1 (xs : List Beat) (a : Nat) (b : Nat) (n : Nat) : Bool := decide (a + n ≤ xs.length ∧ b + n ≤ xs.length ∧ xs.length ≤ 100000)

def stSk (xs : List Beat) (a : Nat) (b : Nat) (i : Nat) (j : Nat) : St := ⟨[(9, vI j), (8, vI i), (3, .fn 56 []), (2, vI b), (1, vI a), (0, .own 900)], [(900, ⟨false, 38, 5, xs.map eBeat⟩)]⟩

def stSk1 (a : (List Beat) × Nat × Nat × Nat × Nat) : St := stSk a.1 a.2.1 a.2.2.1 a.2.2.2.1 a.2.2.2.2

theorem stSk_inj (a a' : (List Beat) × Nat × Nat × Nat × Nat) (h : stSk1 a = stSk1 a') : a = a' := by
  simp only [stSk1, stSk] at h
  try simp [strs_inj, ints_inj, bools_inj, eL_eIs_inj, eBeats_inj, eBeat_iff, eL_eBeats_inj, eSpans_inj, eSpan_iff, eHoles_inj, eHole_iff, eLevels_inj, eLevel_iff, eFigss_inj, eFigs_iff, eRatios_inj, eRatio_iff, eReps_inj, eRep_iff, eStays_inj, eStay_iff] at h
  grind

theorem unstSk (xs : List Beat) (a : Nat) (b : Nat) (i : Nat) (j : Nat) : unenc stSk1 (St.mk [(9, (vI (↑j : Int))), (8, (vI (↑i : Int))), (3, AV.fn (56 : FuncId) []), (2, (vI (↑b : Int))), (1, (vI (↑a : Int))), (0, .own 900)] [(900, Blk.mk false 38 5
  (List.map eBeat xs))]) = some (xs, a, b, i, j) := unenc_of stSk_inj (xs, a, b, i, j) rfl

theorem unstSk0 (xs : List Beat) (a : Nat) (b : Nat) (i : Nat)  : unenc stSk1 (St.mk [(9, (vI (↑i : Int))), (8, (vI (↑i : Int))), (3, AV.fn (56 : FuncId) []), (2, (vI (↑b : Int))), (1, (vI (↑a : Int))), (0, .own 900)] [(900, Blk.mk false 38 5
  (List.map eBeat xs))]) = some (xs, a, b, i, i) := unenc_of stSk_inj (xs, a, b, i, i) rfl

def outSk (xs : List Beat) (a : Nat) (b : Nat) (i : Nat) (j : Nat) : T (Ex × St) := .ret (.exit 2, ⟨[(8, vI i), (3, .fn 56 []), (2, vI b), (1, vI a), (0, .own 900)], [(900, ⟨false, 38, 5, (K.sink F.ltB a j xs).map eBeat⟩)]⟩)

noncomputable def prlSk (xs : List Beat) (a : Nat) (b : Nat) (i : Nat) (j : Nat) : Bool := decide (j < xs.length ∧ xs.length ≤ 100000)

noncomputable def lpSk : Nat × (St → T (Ex × St)) := (4, lpo [9, 8, 3, 2, 1, 0] [900] stSk1 (fun a => prlSk a.1 a.2.1 a.2.2.1 a.2.2.2.1 a.2.2.2.2) fun a => outSk a.1 a.2.1 a.2.2.1 a.2.2.2.1 a.2.2.2.2)

def stIns (xs : List Beat) (a : Nat) (b : Nat) (i : Nat) : St := ⟨[(8, vI i), (3, .fn 56 []), (2, vI b), (1, vI a), (0, .own 900)], [(900, ⟨false, 38, 5, xs.map eBeat⟩)]⟩

def stIns1 (a : (List Beat) × Nat × Nat × Nat) : St := stIns a.1 a.2.1 a.2.2.1 a.2.2.2

theorem stIns_inj (a a' : (List Beat) × Nat × Nat × Nat) (h : stIns1 a = stIns1 a') : a = a' := by
  simp only [stIns1, stIns] at h
  try simp [strs_inj, ints_inj, bools_inj, eL_eIs_inj, eBeats_inj, eBeat_iff, eL_eBeats_inj, eSpans_inj, eSpan_iff, eHoles_inj, eHole_iff, eLevels_inj, eLevel_iff, eFigss_inj, eFigs_iff, eRatios_inj, eRatio_iff, eReps_inj, eRep_iff, eStays_inj, eStay_iff] at h
  grind

theorem unstIns (xs : List Beat) (a : Nat) (b : Nat) (i : Nat) : unenc stIns1 (St.mk [(8, (vI (↑i : Int))), (3, AV.fn (56 : FuncId) []), (2, (vI (↑b : Int))), (1, (vI (↑a : Int))), (0, .own 900)] [(900, Blk.mk false 38 5 (List.map eBeat xs))]) = some (xs, a, b, i) := unenc_of stIns_inj (xs, a, b, i) rfl

def outIns (xs : List Beat) (a : Nat) (b : Nat) (i : Nat) : T (Ex × St) := .ret (.exit 0, ⟨[], [(900, ⟨false, 38, 5, (K.isort F.ltB a (b - i) i xs).map eBeat⟩)]⟩)

noncomputable def prlIns (xs : List Beat) (a : Nat) (b : Nat) (i : Nat) : Bool := decide (b ≤ xs.length ∧ xs.length ≤ 100000)

noncomputable def lpIns : Nat × (St → T (Ex × St)) := (1, lpo [8, 3, 2, 1, 0] [900] stIns1 (fun a => prlIns a.1 a.2.1 a.2.2.1 a.2.2.2) fun a => outIns a.1 a.2.1 a.2.2.1 a.2.2.2)

noncomputable def enIns : Env := envH ty noG lks [oBor] [] [] [lpIns, lpSk]

theorem enIns_ok : EnvOK Try.prog enIns := by
  refine envH_ok lks_ok ty_ok ?_ ?_
  · simp only [List.forall_mem_cons]
    exact ⟨okBor, by simp⟩
  · simp

def encIns1 (xs : List Beat) (a : Nat) (b : Nat) : List AV × Heap := ([.own 900, vI a, vI b, .fn 56 []], [(900, ⟨false, 38, 5, xs.map eBeat⟩)])

def encIns (a : (List Beat) × Nat × Nat) : List AV × Heap := encIns1 a.1 a.2.1 a.2.2

theorem encIns_inj (a a' : (List Beat) × Nat × Nat) (h : encIns a = encIns a') : a = a' := by
  simp only [encIns, encIns1] at h
  try simp [strs_inj, ints_inj, bools_inj, eL_eIs_inj, eBeats_inj, eBeat_iff, eL_eBeats_inj, eSpans_inj, eSpan_iff, eHoles_inj, eHole_iff, eLevels_inj, eLevel_iff, eFigss_inj, eFigs_iff, eRatios_inj, eRatio_iff, eReps_inj, eRep_iff, eStays_inj, eStay_iff] at h
  grind

theorem unIns (xs : List Beat) (a : Nat) (b : Nat) : unenc encIns (([.own 900, (vI (↑a : Int)), (vI (↑b : Int)), AV.fn (56 : FuncId) []], [(900, Blk.mk false 38 5 (List.map eBeat xs))])) = some (xs, a, b) := unenc_of encIns_inj (xs, a, b) rfl

def resIns1 (xs : List Beat) (a : Nat) (b : Nat) : AV × Heap × List Nat := (.tup [], [(900, ⟨false, 38, 5, (K.seg a b (K.srt F.ltB) xs).map eBeat⟩)], [])

def preIns1 (xs : List Beat) (a : Nat) (b : Nat) : Bool := decide (a ≤ b ∧ b ≤ xs.length ∧ xs.length ≤ 100000)


end M
end Go.Proofs.Ytnkaadiofjoacaa
