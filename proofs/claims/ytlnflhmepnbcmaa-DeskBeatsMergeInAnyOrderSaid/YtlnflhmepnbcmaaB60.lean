/- What is proved here: contracts of the sorting functions that swap and insert (no statement of the seat). -/
import Derived.Test.YtlnflhmepnbcmaaB19
namespace Go.Proofs.Ytlnflhmepnbcmaa
open Go Go.RowKit
set_option linter.unusedVariables false
set_option linter.unusedSimpArgs false
set_option maxHeartbeats 1000000

namespace K
variable {α : Type} {lt : α → α → Bool}

theorem sink_go {a j : Nat} {xs : List α} {x y : α} (hx : xs[j + 1]? = some x) (hy : xs[j]? = some y) (ha : a < j + 1) (hc : lt x y = true) : sink lt a (j + 1) xs = sink lt a j (sw2 xs (j + 1) j) := by
  rw [sink, hx, hy]
  simp only [decide_eq_true ha, hc, Bool.and_true, cond_true]

theorem sink_no {a j : Nat} {xs : List α} {x y : α} (hx : xs[j + 1]? = some x) (hy : xs[j]? = some y) (hc : ¬ a < j + 1 ∨ lt x y = false) : sink lt a (j + 1) xs = xs := by
  rw [sink, hx, hy]
  rcases hc with hc | hc
  · simp only [decide_eq_false hc, Bool.false_and, cond_false]
  · simp only [hc, Bool.and_false, cond_false]

/-- Parts change places, the longer one step by step. -/
def rotL (m i j : Nat) (xs : List α) : Nat × List α :=
  if h : i = 0 ∨ j = 0 ∨ i = j then (i, xs) else if j < i then rotL m (i - j) j (swr (m - i) m j xs) else rotL m i (j - i) (swr (m - i) (m + j - i) i xs)
termination_by i + j

theorem rotL_spec (n : Nat) : ∀ (i j m : Nat) (xs : List α), i + j ≤ n → 0 < i → 0 < j → i ≤ m → m + j ≤ xs.length →
    0 < (rotL m i j xs).1 ∧ (rotL m i j xs).1 ≤ m ∧ m + (rotL m i j xs).1 ≤ xs.length ∧ (rotL m i j xs).2.length = xs.length ∧ swr (m - (rotL m i j xs).1) m (rotL m i j xs).1 (rotL m i j xs).2 = rotS m i j xs := by
  induction n with
  | zero => intro i j m xs h h1; omega
  | succ n ih =>
    intro i j m xs h h1 h2 h3 h4
    rw [rotL]
    by_cases e : i = j
    · subst e
      rw [dif_pos (.inr (.inr rfl))]
      exact ⟨h1, h3, h4, rfl, rotS_eq h3 h4⟩
    · rw [dif_neg (by omega)]
      by_cases e2 : j < i
      · rw [if_pos e2]
        have := ih (i - j) j m (swr (m - i) m j xs) (by omega) (by omega) h2 (by omega) (by rw [swr_len]; exact h4)
        rw [swr_len, rotS_gt h3 h4 e2] at this
        exact this
      · rw [if_neg e2]
        have := ih i (j - i) m (swr (m - i) (m + j - i) i xs) (by omega) h1 (by omega) h3 (by rw [swr_len]; omega)
        rw [swr_len, rotS_lt h3 h4 (by omega)] at this
        exact this

theorem rotL_gt {m i j : Nat} {xs : List α} (h : j < i) (hj : 0 < j) : rotL m i j xs = rotL m (i - j) j (swr (m - i) m j xs) := by
  rw [rotL, dif_neg (by omega), if_pos h]

theorem rotL_lt {m i j : Nat} {xs : List α} (h : i < j) (hi : 0 < i) : rotL m i j xs = rotL m i (j - i) (swr (m - i) (m + j - i) i xs) := by
  rw [rotL, dif_neg (by omega), if_neg (by omega)]

theorem rotL_eq {m i : Nat} {xs : List α} : rotL m i i xs = (i, xs) := by
  rw [rotL, dif_pos (.inr (.inr rfl))]

theorem bs_go1 {p : Nat → Bool} {i j : Nat} (h : i < j) (hp : p ((i + j) / 2) = true) : bs p i j = bs p ((i + j) / 2 + 1) j := by rw [bs, if_pos h, hp, cond_true]

theorem bs_go0 {p : Nat → Bool} {i j : Nat} (h : i < j) (hp : p ((i + j) / 2) = false) : bs p i j = bs p i ((i + j) / 2) := by rw [bs, if_pos h, hp, cond_false]

theorem bs_end {p : Nat → Bool} {i j : Nat} (h : ¬ i < j) : bs p i j = i := by rw [bs, if_neg h]

open Classical in
/-- A part is sorted. -/
noncomputable def srtD (lt : α → α → Bool) (a b : Nat) (xs : List α) : Bool := decide (SrtAt lt a b xs)

open Classical in
noncomputable def inR (lt : α → α → Bool) (k a : Nat) (xs : List α) : Bool := decide (InRuns lt k a xs)

open Classical in
noncomputable def allR (lt : α → α → Bool) (k : Nat) (xs : List α) : Bool := decide (AllRuns lt k xs)

end K

namespace M


theorem at_lt {α : Type} {xs : List α} {k : Nat} (h : k < xs.length) : ∃ y, xs[k]? = some y := ⟨_, List.getElem?_eq_getElem h⟩

theorem w_add {a b : Nat} (h : a + b ≤ 9223372036854775807) : IntKind.i64.wrap ((a : Int) + (b : Int)) = ((a + b : Nat) : Int) := by rw [wrap_id (by omega) (by omega)]; omega

theorem w_sub {a b : Nat} (h : b ≤ a) (h2 : a ≤ 9223372036854775807) : IntKind.i64.wrap ((a : Int) - (b : Int)) = ((a - b : Nat) : Int) := by rw [wrap_id (by omega) (by omega)]; omega

theorem w_sub1 {a : Nat} (h : 1 ≤ a) (h2 : a ≤ 9223372036854775807) : IntKind.i64.wrap ((a : Int) - 1) = ((a - 1 : Nat) : Int) := by rw [wrap_id (by omega) (by omega)]; omega

theorem w_add1 {a : Nat} (h2 : a < 9223372036854775807) : IntKind.i64.wrap ((a : Int) + 1) = ((a + 1 : Nat) : Int) := by rw [wrap_id (by omega) (by omega)]; omega

theorem idxN (n : Nat) : idx (n : Int) = some n := rfl

theorem dlt {a b : Nat} : decide ((a : Int) < (b : Int)) = decide (a < b) := by by_cases h : a < b <;> simp [h]

theorem dle {a b : Nat} : decide ((a : Int) ≤ (b : Int)) = decide (a ≤ b) := by by_cases h : a ≤ b <;> simp [h]

def stSwR (xs : List Beat) (a : Nat) (b : Nat) (n : Nat) (i : Nat) : St := ⟨[(10, vI i), (3, vI n), (2, vI b), (1, vI a), (0, .own 900)], [(900, ⟨false, 29, 5, xs.map eBeat⟩)]⟩

def stSwR1 (a : (List Beat) × Nat × Nat × Nat × Nat) : St := stSwR a.1 a.2.1 a.2.2.1 a.2.2.2.1 a.2.2.2.2

theorem stSwR_inj (a a' : (List Beat) × Nat × Nat × Nat × Nat) (h : stSwR1 a = stSwR1 a') : a = a' := by
  simp only [stSwR1, stSwR] at h
  try simp [strs_inj, ints_inj, bools_inj, eBeats_inj, eBeat_iff, eL_eBeats_inj, eSpans_inj, eSpan_iff, eHoles_inj, eHole_iff, eLevels_inj, eLevel_iff, eFigss_inj, eFigs_iff, eRatios_inj, eRatio_iff, eReps_inj, eRep_iff, eStays_inj, eStay_iff] at h
  grind

theorem unstSwR (xs : List Beat) (a : Nat) (b : Nat) (n : Nat) (i : Nat) : unenc stSwR1 (St.mk [(10, (vI (↑i : Int))), (3, (vI (↑n : Int))), (2, (vI (↑b : Int))), (1, (vI (↑a : Int))), (0, .own 900)] [(900, Blk.mk false 29 5 (List.map eBeat xs))]) = some (xs, a, b, n, i) := unenc_of stSwR_inj (xs, a, b, n, i) rfl

theorem unstSwR0 (xs : List Beat) (a : Nat) (b : Nat) (n : Nat)  : unenc stSwR1 (St.mk [(10, (vI (0 : Int))), (3, (vI (↑n : Int))), (2, (vI (↑b : Int))), (1, (vI (↑a : Int))), (0, .own 900)] [(900, Blk.mk false 29 5 (List.map eBeat xs))]) = some (xs, a, b, n, 0) := unenc_of stSwR_inj (xs, a, b, n, 0) rfl

def outSwR (xs : List Beat) (a : Nat) (b : Nat) (n : Nat) (i : Nat) : T (Ex × St) := .ret (.exit 0, ⟨[], [(900, ⟨false, 29, 5, (K.swr (a + i) (b + i) (n - i) xs).map eBeat⟩)]⟩)

noncomputable def prlSwR (xs : List Beat) (a : Nat) (b : Nat) (n : Nat) (i : Nat) : Bool := decide (a + n ≤ xs.length ∧ b + n ≤ xs.length ∧ xs.length ≤ 100000 ∧ i ≤ n)

noncomputable def lpSwR : Nat × (St → T (Ex × St)) := (1, lpo [10, 3, 2, 1, 0] [900] stSwR1 (fun a => prlSwR a.1 a.2.1 a.2.2.1 a.2.2.2.1 a.2.2.2.2) fun a => outSwR a.1 a.2.1 a.2.2.1 a.2.2.2.1 a.2.2.2.2)

noncomputable def enSwR : Env := envH ty noG lks [] [] [] [lpSwR]

theorem enSwR_ok : EnvOK Try.prog enSwR := by
  refine envH_ok lks_ok ty_ok ?_ ?_
  · simp
  · simp

theorem evSwRL (xs : List Beat) (a : Nat) (b : Nat) (n : Nat) (i : Nat) : ((exec enSwR (loopN Try.f71 0) (stSwR xs a b n i)).bind (lessX ([10, 3, 2, 1, 0], [900]) ([], [900]) ([], []))).val =
  bif decide ((↑i : Int) < (↑n : Int)) then Option.bind (idx (IntKind.wrap IntKind.i64 ((↑b : Int) + (↑i : Int)))) fun (z : Nat) => bif decide (z < List.length (Blk.mk false
  29 5 (List.map eBeat xs)).rows) then Option.bind (unenc (List.map eBeat) (List.map eBeat xs)) fun (z_1 : List Beat) => bif decide (z < List.length z_1) then Option.bind
  (idx (IntKind.wrap IntKind.i64 ((↑a : Int) + (↑i : Int)))) fun (z_2 : Nat) => bif decide (z_2 < List.length (Blk.mk false 29 5 (List.map eBeat xs)).rows) then Option.bind
  (unenc (List.map eBeat) (List.map eBeat xs)) fun (z_3 : List Beat) => bif decide (z_2 < List.length z_3) then Option.bind (idx (IntKind.wrap IntKind.i64 ((↑a : Int) + (↑i
  : Int)))) fun (z_4 : Nat) => bif decide (z_4 < List.length (Blk.mk false 29 5 (List.map eBeat xs)).rows) then Option.bind (unenc (List.map eBeat) (List.map eBeat xs)) fun
  (z_5 : List Beat) => bif decide (z_4 < List.length z_5) then Option.bind (idx (IntKind.wrap IntKind.i64 ((↑b : Int) + (↑i : Int)))) fun (z_6 : Nat) => bif decide (z_6 <
  List.length (Blk.mk false 29 5 (List.set (List.map eBeat xs) z_4 [(vS (List.getD z_1 z (Beat.mk (ByteArray.mk (Array.mk [])) (0 : Int) (0 : Int) (0 : Int) (0 :
  Int))).session), (vI (List.getD z_1 z (Beat.mk (ByteArray.mk (Array.mk [])) (0 : Int) (0 : Int) (0 : Int) (0 : Int))).no), (vI (List.getD z_1 z (Beat.mk (ByteArray.mk
  (Array.mk [])) (0 : Int) (0 : Int) (0 : Int) (0 : Int))).time), (vI (List.getD z_1 z (Beat.mk (ByteArray.mk (Array.mk [])) (0 : Int) (0 : Int) (0 : Int) (0 :
  Int))).state), (vI (List.getD z_1 z (Beat.mk (ByteArray.mk (Array.mk [])) (0 : Int) (0 : Int) (0 : Int) (0 : Int))).rate)])).rows) then Option.bind (unenc (List.map eBeat)
  (List.set (List.map eBeat xs) z_4 [(vS (List.getD z_1 z (Beat.mk (ByteArray.mk (Array.mk [])) (0 : Int) (0 : Int) (0 : Int) (0 : Int))).session), (vI (List.getD z_1 z
  (Beat.mk (ByteArray.mk (Array.mk [])) (0 : Int) (0 : Int) (0 : Int) (0 : Int))).no), (vI (List.getD z_1 z (Beat.mk (ByteArray.mk (Array.mk [])) (0 : Int) (0 : Int) (0 :
  Int) (0 : Int))).time), (vI (List.getD z_1 z (Beat.mk (ByteArray.mk (Array.mk [])) (0 : Int) (0 : Int) (0 : Int) (0 : Int))).state), (vI (List.getD z_1 z (Beat.mk
  (ByteArray.mk (Array.mk [])) (0 : Int) (0 : Int) (0 : Int) (0 : Int))).rate)])) fun (z_7 : List Beat) => bif decide (z_6 < List.length z_7) then some (Ex.normal, St.mk
  [(10, (vI (IntKind.wrap IntKind.i64 ((↑i : Int) + (1 : Int))))), (3, (vI (↑n : Int))), (2, (vI (↑b : Int))), (1, (vI (↑a : Int))), (0, .own 900)] [(900, Blk.mk false 29 5
  (List.set (List.set (List.map eBeat xs) z_4 [(vS (List.getD z_1 z (Beat.mk (ByteArray.mk (Array.mk [])) (0 : Int) (0 : Int) (0 : Int) (0 : Int))).session), (vI (List.getD
  z_1 z (Beat.mk (ByteArray.mk (Array.mk [])) (0 : Int) (0 : Int) (0 : Int) (0 : Int))).no), (vI (List.getD z_1 z (Beat.mk (ByteArray.mk (Array.mk [])) (0 : Int) (0 : Int)
  (0 : Int) (0 : Int))).time), (vI (List.getD z_1 z (Beat.mk (ByteArray.mk (Array.mk [])) (0 : Int) (0 : Int) (0 : Int) (0 : Int))).state), (vI (List.getD z_1 z (Beat.mk
  (ByteArray.mk (Array.mk [])) (0 : Int) (0 : Int) (0 : Int) (0 : Int))).rate)]) z_6 [(vS (List.getD z_3 z_2 (Beat.mk (ByteArray.mk (Array.mk [])) (0 : Int) (0 : Int) (0 :
  Int) (0 : Int))).session), (vI (List.getD z_3 z_2 (Beat.mk (ByteArray.mk (Array.mk [])) (0 : Int) (0 : Int) (0 : Int) (0 : Int))).no), (vI (List.getD z_3 z_2 (Beat.mk
  (ByteArray.mk (Array.mk [])) (0 : Int) (0 : Int) (0 : Int) (0 : Int))).time), (vI (List.getD z_3 z_2 (Beat.mk (ByteArray.mk (Array.mk [])) (0 : Int) (0 : Int) (0 : Int) (0
  : Int))).state), (vI (List.getD z_3 z_2 (Beat.mk (ByteArray.mk (Array.mk [])) (0 : Int) (0 : Int) (0 : Int) (0 : Int))).rate)]))]) else none else none else none else none
  else none else none else none else none else some (Ex.exit (0 : Nat), St.mk [] [(900, Blk.mk false 29 5 (List.map eBeat xs))]) := (execR_bind _ _ _).symm.trans (by kernel_rfl)

theorem lpSwR_ok (xs : List Beat) (a : Nat) (b : Nat) (n : Nat) (i : Nat) (hp : prlSwR xs a b n i = true) : ∀ ex s', (outSwR xs a b n i).val = some (ex, s') → LoopOK enSwR (loopN Try.f71 0) (stSwR xs a b n i) ex s' := by
  simp only [prlSwR, Bool.and_eq_true, decide_eq_true_eq] at hp
  obtain ⟨h1, h2, h3, h4⟩ := hp
  refine loop_gen (st := fun s : List Beat × Nat => stSwR s.1 a b n s.2) (out := fun s => outSwR s.1 a b n s.2) (I := fun s => a + n ≤ s.1.length ∧ b + n ≤ s.1.length ∧ s.1.length ≤ 100000 ∧ s.2 ≤ n) (n := ([10, 3, 2, 1, 0], [900])) (e := ([], [900])) (r := ([], [])) (fun s => n - s.2) ?_ (xs, i) ⟨h1, h2, h3, h4⟩
  rintro ⟨xs, i⟩ ⟨h1, h2, h3, h4⟩
  simp only at h1 h2 h3 h4
  by_cases hlt : i < n
  · right
    obtain ⟨x, hx⟩ := at_lt (show a + i < xs.length by omega)
    obtain ⟨y, hy⟩ := at_lt (show b + i < xs.length by omega)
    refine ⟨(K.sw2 xs (a + i) (b + i), i + 1), ?_, rfl, ⟨by simp only [K.sw2_len]; exact h1, by simp only [K.sw2_len]; exact h2, by simp only [K.sw2_len]; exact h3, hlt⟩, by simp only; omega, ?_⟩
    · rw [evSwRL]
      simp only [unstSwR, unstSwR0, prlSwR, outSwR, etaBeat, etaSpan, etaHole, etaLevel, etaFigs, etaRatio, etaRep, etaStay, Option.bind_some, List.length_map, unStrs, unInts, unBools, unBeats, uneL_eBeats, unSpans, unHoles, unLevels, unFigss, unRatios, unReps, unStays, F.lt, F.le, cond_true, cond_false, Bool.and_true, Bool.true_and, cast_lt hlt, w_add (show a + i ≤ 9223372036854775807 by omega), w_add (show b + i ≤ 9223372036854775807 by omega), idxN, decide_eq_true (lt_at hx), decide_eq_true (lt_at hy), getD_at hx, getD_at hy, w_add1 (show i < 9223372036854775807 by omega), setWBeats, List.length_set, K.sw2_eq hx hy, stSwR]
    · simp only [outSwR]; rw [show n - i = (n - (i + 1)) + 1 by omega, K.swr]; rfl
  · have : i = n := by omega
    subst this
    left
    refine ⟨_, ?_, rfl, by simp, rfl⟩
    rw [evSwRL]
    simp [K.swr]

theorem evSwR (xs : List Beat) (a : Nat) (b : Nat) (n : Nat) : (runH enSwR [] Try.f71 [.own 900, vI a, vI b, vI n, .fn 18 []] [(900, ⟨false, 29, 5, xs.map eBeat⟩)]).val =
  Option.bind (unenc stSwR1 (St.mk [(10, (vI (0 : Int))), (3, (vI (↑n : Int))), (2, (vI (↑b : Int))), (1, (vI (↑a : Int))), (0, .own 900)] [(900, Blk.mk false 29 5 (List.map
  eBeat xs))])) fun (z : List Beat × Nat × Nat × Nat × Nat) => bif decide (z.snd.fst + z.snd.snd.snd.fst ≤ List.length z.fst ∧ z.snd.snd.fst + z.snd.snd.snd.fst ≤
  List.length z.fst ∧ List.length z.fst ≤ (100000 : Nat) ∧ z.snd.snd.snd.snd ≤ z.snd.snd.snd.fst) && true then some (AV.tup [], [(900, Blk.mk false 29 5 (List.map eBeat
  (K.swr (z.snd.fst + z.snd.snd.snd.snd) (z.snd.snd.fst + z.snd.snd.snd.snd) (z.snd.snd.snd.fst - z.snd.snd.snd.snd) z.fst)))], []) else none := (runHR_val).symm.trans (by kernel_rfl)

def encSwR1 (xs : List Beat) (a : Nat) (b : Nat) (n : Nat) : List AV × Heap := ([.own 900, vI a, vI b, vI n, .fn 18 []], [(900, ⟨false, 29, 5, xs.map eBeat⟩)])

def encSwR (a : (List Beat) × Nat × Nat × Nat) : List AV × Heap := encSwR1 a.1 a.2.1 a.2.2.1 a.2.2.2

theorem encSwR_inj (a a' : (List Beat) × Nat × Nat × Nat) (h : encSwR a = encSwR a') : a = a' := by
  simp only [encSwR, encSwR1] at h
  try simp [strs_inj, ints_inj, bools_inj, eBeats_inj, eBeat_iff, eL_eBeats_inj, eSpans_inj, eSpan_iff, eHoles_inj, eHole_iff, eLevels_inj, eLevel_iff, eFigss_inj, eFigs_iff, eRatios_inj, eRatio_iff, eReps_inj, eRep_iff, eStays_inj, eStay_iff] at h
  grind

theorem unSwR (xs : List Beat) (a : Nat) (b : Nat) (n : Nat) : unenc encSwR (([.own 900, (vI (↑a : Int)), (vI (↑b : Int)), (vI (↑n : Int)), AV.fn (18 : FuncId) []], [(900, Blk.mk false 29 5 (List.map eBeat xs))])) = some (xs, a, b, n) := unenc_of encSwR_inj (xs, a, b, n) rfl

def resSwR1 (xs : List Beat) (a : Nat) (b : Nat) (n : Nat) : AV × Heap × List Nat := (.tup [], [(900, ⟨false, 29, 5, (K.swr a b n xs).map eBeat⟩)], [])

def preSwR1 (xs : List Beat) (a : Nat) (b : Nat) (n : Nat) : Bool := decide (a + n ≤ xs.length ∧ b + n ≤ xs.length ∧ xs.length ≤ 100000)

noncomputable def oSwR : OrcH := orcH 71 encSwR (fun a => preSwR1 a.1 a.2.1 a.2.2.1 a.2.2.2) fun a => resSwR1 a.1 a.2.1 a.2.2.1 a.2.2.2

theorem okSwR : OrcHOK Try.prog noG oSwR := by
  refine mkH_ok (mv := []) Try.f71 (by kernel_rfl) (by kernel_rfl) enSwR_ok mixed (one_loop (x0 := loopN Try.f71 0) (by kernel_rfl) (lpo_ok ?_)) ?_
  · rintro ⟨xs, a, b, n, i⟩ hp
    exact lpSwR_ok xs a b n i hp
  rintro ⟨xs, a, b, n⟩ hpre hok hokh
  show (runH enSwR [] _ (encSwR1 _ _ _ _).1 (encSwR1 _ _ _ _).2).val = some (resSwR1 _ _ _ _)
  unfold encSwR1 resSwR1
  rw [evSwR]
  simp only [preSwR1, decide_eq_true_eq] at hpre
  obtain ⟨h1, h2, h3⟩ := hpre
  simp only [unstSwR, unstSwR0, prlSwR, outSwR, etaBeat, etaSpan, etaHole, etaLevel, etaFigs, etaRatio, etaRep, etaStay, Option.bind_some, List.length_map, unStrs, unInts, unBools, unBeats, uneL_eBeats, unSpans, unHoles, unLevels, unFigss, unRatios, unReps, unStays, F.lt, F.le, cond_true, cond_false, Bool.and_true, Bool.true_and, h1, h2, h3, Nat.zero_le, and_self, decide_true, Nat.add_zero, Nat.sub_zero]

def stSk (xs : List Beat) (a : Nat) (b : Nat) (i : Nat) (j : Nat) : St := ⟨[(9, vI j), (8, vI i), (3, .fn 18 []), (2, vI b), (1, vI a), (0, .own 900)], [(900, ⟨false, 29, 5, xs.map eBeat⟩)]⟩

def stSk1 (a : (List Beat) × Nat × Nat × Nat × Nat) : St := stSk a.1 a.2.1 a.2.2.1 a.2.2.2.1 a.2.2.2.2

theorem stSk_inj (a a' : (List Beat) × Nat × Nat × Nat × Nat) (h : stSk1 a = stSk1 a') : a = a' := by
  simp only [stSk1, stSk] at h
  try simp [strs_inj, ints_inj, bools_inj, eBeats_inj, eBeat_iff, eL_eBeats_inj, eSpans_inj, eSpan_iff, eHoles_inj, eHole_iff, eLevels_inj, eLevel_iff, eFigss_inj, eFigs_iff, eRatios_inj, eRatio_iff, eReps_inj, eRep_iff, eStays_inj, eStay_iff] at h
  grind

theorem unstSk (xs : List Beat) (a : Nat) (b : Nat) (i : Nat) (j : Nat) : unenc stSk1 (St.mk [(9, (vI (↑j : Int))), (8, (vI (↑i : Int))), (3, AV.fn (18 : FuncId) []), (2, (vI (↑b : Int))), (1, (vI (↑a : Int))), (0, .own 900)] [(900, Blk.mk false 29 5
  (List.map eBeat xs))]) = some (xs, a, b, i, j) := unenc_of stSk_inj (xs, a, b, i, j) rfl

theorem unstSk0 (xs : List Beat) (a : Nat) (b : Nat) (i : Nat)  : unenc stSk1 (St.mk [(9, (vI (↑i : Int))), (8, (vI (↑i : Int))), (3, AV.fn (18 : FuncId) []), (2, (vI (↑b : Int))), (1, (vI (↑a : Int))), (0, .own 900)] [(900, Blk.mk false 29 5
  (List.map eBeat xs))]) = some (xs, a, b, i, i) := unenc_of stSk_inj (xs, a, b, i, i) rfl

def outSk (xs : List Beat) (a : Nat) (b : Nat) (i : Nat) (j : Nat) : T (Ex × St) := .ret (.exit 2, ⟨[(8, vI i), (3, .fn 18 []), (2, vI b), (1, vI a), (0, .own 900)], [(900, ⟨false, 29, 5, (K.sink F.ltB a j xs).map eBeat⟩)]⟩)

noncomputable def prlSk (xs : List Beat) (a : Nat) (b : Nat) (i : Nat) (j : Nat) : Bool := decide (j < xs.length ∧ xs.length ≤ 100000)

noncomputable def lpSk : Nat × (St → T (Ex × St)) := (4, lpo [9, 8, 3, 2, 1, 0] [900] stSk1 (fun a => prlSk a.1 a.2.1 a.2.2.1 a.2.2.2.1 a.2.2.2.2) fun a => outSk a.1 a.2.1 a.2.2.1 a.2.2.2.1 a.2.2.2.2)

def stIns (xs : List Beat) (a : Nat) (b : Nat) (i : Nat) : St := ⟨[(8, vI i), (3, .fn 18 []), (2, vI b), (1, vI a), (0, .own 900)], [(900, ⟨false, 29, 5, xs.map eBeat⟩)]⟩

def stIns1 (a : (List Beat) × Nat × Nat × Nat) : St := stIns a.1 a.2.1 a.2.2.1 a.2.2.2

theorem stIns_inj (a a' : (List Beat) × Nat × Nat × Nat) (h : stIns1 a = stIns1 a') : a = a' := by
  simp only [stIns1, stIns] at h
  try simp [strs_inj, ints_inj, bools_inj, eBeats_inj, eBeat_iff, eL_eBeats_inj, eSpans_inj, eSpan_iff, eHoles_inj, eHole_iff, eLevels_inj, eLevel_iff, eFigss_inj, eFigs_iff, eRatios_inj, eRatio_iff, eReps_inj, eRep_iff, eStays_inj, eStay_iff] at h
  grind

theorem unstIns (xs : List Beat) (a : Nat) (b : Nat) (i : Nat) : unenc stIns1 (St.mk [(8, (vI (↑i : Int))), (3, AV.fn (18 : FuncId) []), (2, (vI (↑b : Int))), (1, (vI (↑a : Int))), (0, .own 900)] [(900, Blk.mk false 29 5 (List.map eBeat xs))]) = some (xs, a, b, i) := unenc_of stIns_inj (xs, a, b, i) rfl

def outIns (xs : List Beat) (a : Nat) (b : Nat) (i : Nat) : T (Ex × St) := .ret (.exit 0, ⟨[], [(900, ⟨false, 29, 5, (K.isort F.ltB a (b - i) i xs).map eBeat⟩)]⟩)

noncomputable def prlIns (xs : List Beat) (a : Nat) (b : Nat) (i : Nat) : Bool := decide (b ≤ xs.length ∧ xs.length ≤ 100000)

noncomputable def lpIns : Nat × (St → T (Ex × St)) := (1, lpo [8, 3, 2, 1, 0] [900] stIns1 (fun a => prlIns a.1 a.2.1 a.2.2.1 a.2.2.2) fun a => outIns a.1 a.2.1 a.2.2.1 a.2.2.2)

noncomputable def enIns : Env := envH ty noG lks [oBor] [] [] [lpIns, lpSk]

theorem enIns_ok : EnvOK Try.prog enIns := by
  refine envH_ok lks_ok ty_ok ?_ ?_
  · simp only [List.forall_mem_cons]
    exact ⟨okBor, by simp⟩
  · simp

theorem evSkL (xs : List Beat) (a : Nat) (b : Nat) (i : Nat) (j : Nat) : ((exec enIns (loopN Try.f47 1) (stSk xs a b i j)).bind (lessX ([9, 8, 3, 2, 1, 0], [900]) ([8, 3, 2, 1, 0], [900]) ([], []))).val =
  bif decide ((↑a : Int) < (↑j : Int)) then bif decide (j < List.length (Blk.mk false 29 5 (List.map eBeat xs)).rows) then Option.bind (unenc (List.map eBeat) (List.map
  eBeat xs)) fun (z : List Beat) => bif decide (j < List.length z) then Option.bind (idx (IntKind.wrap IntKind.i64 ((↑j : Int) - (1 : Int)))) fun (z_1 : Nat) => bif decide
  (z_1 < List.length (Blk.mk false 29 5 (List.map eBeat xs)).rows) then Option.bind (unenc (List.map eBeat) (List.map eBeat xs)) fun (z_2 : List Beat) => bif decide (z_1 <
  List.length z_2) then Option.bind (unenc encBor [AV.agg [(vS (List.getD z j (Beat.mk (ByteArray.mk (Array.mk [])) (0 : Int) (0 : Int) (0 : Int) (0 : Int))).session), (vI
  (List.getD z j (Beat.mk (ByteArray.mk (Array.mk [])) (0 : Int) (0 : Int) (0 : Int) (0 : Int))).no), (vI (List.getD z j (Beat.mk (ByteArray.mk (Array.mk [])) (0 : Int) (0 :
  Int) (0 : Int) (0 : Int))).time), (vI (List.getD z j (Beat.mk (ByteArray.mk (Array.mk [])) (0 : Int) (0 : Int) (0 : Int) (0 : Int))).state), (vI (List.getD z j (Beat.mk
  (ByteArray.mk (Array.mk [])) (0 : Int) (0 : Int) (0 : Int) (0 : Int))).rate)], AV.agg [(vS (List.getD z_2 z_1 (Beat.mk (ByteArray.mk (Array.mk [])) (0 : Int) (0 : Int) (0
  : Int) (0 : Int))).session), (vI (List.getD z_2 z_1 (Beat.mk (ByteArray.mk (Array.mk [])) (0 : Int) (0 : Int) (0 : Int) (0 : Int))).no), (vI (List.getD z_2 z_1 (Beat.mk
  (ByteArray.mk (Array.mk [])) (0 : Int) (0 : Int) (0 : Int) (0 : Int))).time), (vI (List.getD z_2 z_1 (Beat.mk (ByteArray.mk (Array.mk [])) (0 : Int) (0 : Int) (0 : Int) (0
  : Int))).state), (vI (List.getD z_2 z_1 (Beat.mk (ByteArray.mk (Array.mk [])) (0 : Int) (0 : Int) (0 : Int) (0 : Int))).rate)]]) fun (z : Beat × Beat) => bif decide
  (F.border z.fst z.snd < (0 : Int)) then Option.bind (idx (IntKind.wrap IntKind.i64 ((↑j : Int) - (1 : Int)))) fun (z : Nat) => bif decide (z < List.length (Blk.mk false 29
  5 (List.map eBeat xs)).rows) then Option.bind (unenc (List.map eBeat) (List.map eBeat xs)) fun (z_3 : List Beat) => bif decide (z < List.length z_3) then bif decide (j <
  List.length (Blk.mk false 29 5 (List.map eBeat xs)).rows) then Option.bind (unenc (List.map eBeat) (List.map eBeat xs)) fun (z_4 : List Beat) => bif decide (j <
  List.length z_4) then bif decide (j < List.length (Blk.mk false 29 5 (List.map eBeat xs)).rows) then Option.bind (unenc (List.map eBeat) (List.map eBeat xs)) fun (z_5 :
  List Beat) => bif decide (j < List.length z_5) then Option.bind (idx (IntKind.wrap IntKind.i64 ((↑j : Int) - (1 : Int)))) fun (z_6 : Nat) => bif decide (z_6 < List.length
  (Blk.mk false 29 5 (List.set (List.map eBeat xs) j [(vS (List.getD z_3 z (Beat.mk (ByteArray.mk (Array.mk [])) (0 : Int) (0 : Int) (0 : Int) (0 : Int))).session), (vI
  (List.getD z_3 z (Beat.mk (ByteArray.mk (Array.mk [])) (0 : Int) (0 : Int) (0 : Int) (0 : Int))).no), (vI (List.getD z_3 z (Beat.mk (ByteArray.mk (Array.mk [])) (0 : Int)
  (0 : Int) (0 : Int) (0 : Int))).time), (vI (List.getD z_3 z (Beat.mk (ByteArray.mk (Array.mk [])) (0 : Int) (0 : Int) (0 : Int) (0 : Int))).state), (vI (List.getD z_3 z
  (Beat.mk (ByteArray.mk (Array.mk [])) (0 : Int) (0 : Int) (0 : Int) (0 : Int))).rate)])).rows) then Option.bind (unenc (List.map eBeat) (List.set (List.map eBeat xs) j
  [(vS (List.getD z_3 z (Beat.mk (ByteArray.mk (Array.mk [])) (0 : Int) (0 : Int) (0 : Int) (0 : Int))).session), (vI (List.getD z_3 z (Beat.mk (ByteArray.mk (Array.mk []))
  (0 : Int) (0 : Int) (0 : Int) (0 : Int))).no), (vI (List.getD z_3 z (Beat.mk (ByteArray.mk (Array.mk [])) (0 : Int) (0 : Int) (0 : Int) (0 : Int))).time), (vI (List.getD
  z_3 z (Beat.mk (ByteArray.mk (Array.mk [])) (0 : Int) (0 : Int) (0 : Int) (0 : Int))).state), (vI (List.getD z_3 z (Beat.mk (ByteArray.mk (Array.mk [])) (0 : Int) (0 :
  Int) (0 : Int) (0 : Int))).rate)])) fun (z_7 : List Beat) => bif decide (z_6 < List.length z_7) then some (Ex.normal, St.mk [(9, (vI (IntKind.wrap IntKind.i64 ((↑j : Int)
  - (1 : Int))))), (8, (vI (↑i : Int))), (3, AV.fn (18 : FuncId) []), (2, (vI (↑b : Int))), (1, (vI (↑a : Int))), (0, .own 900)] [(900, Blk.mk false 29 5 (List.set (List.set
  (List.map eBeat xs) j [(vS (List.getD z_3 z (Beat.mk (ByteArray.mk (Array.mk [])) (0 : Int) (0 : Int) (0 : Int) (0 : Int))).session), (vI (List.getD z_3 z (Beat.mk
  (ByteArray.mk (Array.mk [])) (0 : Int) (0 : Int) (0 : Int) (0 : Int))).no), (vI (List.getD z_3 z (Beat.mk (ByteArray.mk (Array.mk [])) (0 : Int) (0 : Int) (0 : Int) (0 :
  Int))).time), (vI (List.getD z_3 z (Beat.mk (ByteArray.mk (Array.mk [])) (0 : Int) (0 : Int) (0 : Int) (0 : Int))).state), (vI (List.getD z_3 z (Beat.mk (ByteArray.mk
  (Array.mk [])) (0 : Int) (0 : Int) (0 : Int) (0 : Int))).rate)]) z_6 [(vS (List.getD z_4 j (Beat.mk (ByteArray.mk (Array.mk [])) (0 : Int) (0 : Int) (0 : Int) (0 :
  Int))).session), (vI (List.getD z_4 j (Beat.mk (ByteArray.mk (Array.mk [])) (0 : Int) (0 : Int) (0 : Int) (0 : Int))).no), (vI (List.getD z_4 j (Beat.mk (ByteArray.mk
  (Array.mk [])) (0 : Int) (0 : Int) (0 : Int) (0 : Int))).time), (vI (List.getD z_4 j (Beat.mk (ByteArray.mk (Array.mk [])) (0 : Int) (0 : Int) (0 : Int) (0 :
  Int))).state), (vI (List.getD z_4 j (Beat.mk (ByteArray.mk (Array.mk [])) (0 : Int) (0 : Int) (0 : Int) (0 : Int))).rate)]))]) else none else none else none else none else
  none else none else none else none else some (Ex.exit (2 : Nat), St.mk [(8, (vI (↑i : Int))), (3, AV.fn (18 : FuncId) []), (2, (vI (↑b : Int))), (1, (vI (↑a : Int))), (0,
  .own 900)] [(900, Blk.mk false 29 5 (List.map eBeat xs))]) else none else none else none else none else some (Ex.exit (2 : Nat), St.mk [(8, (vI (↑i : Int))), (3, AV.fn (18
  : FuncId) []), (2, (vI (↑b : Int))), (1, (vI (↑a : Int))), (0, .own 900)] [(900, Blk.mk false 29 5 (List.map eBeat xs))]) := (execR_bind _ _ _).symm.trans (by kernel_rfl)

theorem lpSk_ok (xs : List Beat) (a : Nat) (b : Nat) (i : Nat) (j : Nat) (hp : prlSk xs a b i j = true) : ∀ ex s', (outSk xs a b i j).val = some (ex, s') → LoopOK enIns (loopN Try.f47 1) (stSk xs a b i j) ex s' := by
  simp only [prlSk, Bool.and_eq_true, decide_eq_true_eq] at hp
  obtain ⟨h1, h2⟩ := hp
  refine loop_gen (st := fun s : List Beat × Nat => stSk s.1 a b i s.2) (out := fun s => outSk s.1 a b i s.2) (I := fun s => s.2 < s.1.length ∧ s.1.length ≤ 100000) (n := ([9, 8, 3, 2, 1, 0], [900])) (e := ([8, 3, 2, 1, 0], [900])) (r := ([], [])) (fun s => s.2) ?_ (xs, j) ⟨h1, h2⟩
  rintro ⟨xs, j⟩ ⟨h1, h2⟩
  simp only at h1 h2
  cases j with
  | zero =>
    left
    refine ⟨_, ?_, rfl, by simp, rfl⟩
    rw [evSkL]
    have : decide ((a : Int) < ((0 : Nat) : Int)) = false := decide_eq_false (by omega)
    simp only [this, cond_false, K.sink]
  | succ j =>
    obtain ⟨x, hx⟩ := at_lt (show j + 1 < xs.length by omega)
    obtain ⟨y, hy⟩ := at_lt (show j < xs.length by omega)
    have hw : IntKind.i64.wrap (((j + 1 : Nat) : Int) - 1) = ((j : Nat) : Int) := by rw [wrap_id (by omega) (by omega)]; omega
    by_cases ha : a < j + 1
    · cases hc : F.ltB x y
      · left
        refine ⟨_, ?_, rfl, by simp, rfl⟩
        rw [evSkL]
        have hc2 : decide (F.border x y < 0) = false := hc
        simp only [unBor, unBorw, preBor1, unstIns, unstSk, unstSk0, prlIns, prlSk, outIns, outSk, etaBeat, etaSpan, etaHole, etaLevel, etaFigs, etaRatio, etaRep, etaStay, Option.bind_some, List.length_map, unStrs, unInts, unBools, unBeats, uneL_eBeats, unSpans, unHoles, unLevels, unFigss, unRatios, unReps, unStays, F.lt, F.le, cond_true, cond_false, Bool.and_true, Bool.true_and, dlt, decide_eq_true ha, hw, idxN, decide_eq_true (lt_at hx), decide_eq_true (lt_at hy), getD_at hx, getD_at hy, hc2, K.sink_no hx hy (.inr hc)]
      · right
        refine ⟨(K.sw2 xs (j + 1) j, j), ?_, rfl, ⟨by simp only [K.sw2_len]; omega, by simp only [K.sw2_len]; exact h2⟩, by simp only; omega, ?_⟩
        · rw [evSkL]
          have hc2 : decide (F.border x y < 0) = true := hc
          simp only [unBor, unBorw, preBor1, unstIns, unstSk, unstSk0, prlIns, prlSk, outIns, outSk, etaBeat, etaSpan, etaHole, etaLevel, etaFigs, etaRatio, etaRep, etaStay, Option.bind_some, List.length_map, unStrs, unInts, unBools, unBeats, uneL_eBeats, unSpans, unHoles, unLevels, unFigss, unRatios, unReps, unStays, F.lt, F.le, cond_true, cond_false, Bool.and_true, Bool.true_and, dlt, decide_eq_true ha, hw, idxN, decide_eq_true (lt_at hx), decide_eq_true (lt_at hy), getD_at hx, getD_at hy, hc2, setWBeats, List.length_set, K.sw2_eq hx hy, stSk]
        · simp only [outSk]; rw [K.sink_go hx hy ha hc]
    · left
      refine ⟨_, ?_, rfl, by simp, rfl⟩
      rw [evSkL]
      simp only [unBor, unBorw, preBor1, unstIns, unstSk, unstSk0, prlIns, prlSk, outIns, outSk, etaBeat, etaSpan, etaHole, etaLevel, etaFigs, etaRatio, etaRep, etaStay, Option.bind_some, List.length_map, unStrs, unInts, unBools, unBeats, uneL_eBeats, unSpans, unHoles, unLevels, unFigss, unRatios, unReps, unStays, F.lt, F.le, cond_true, cond_false, Bool.and_true, Bool.true_and, dlt, decide_eq_false ha, K.sink_no hx hy (.inl ha)]

theorem evInsL (xs : List Beat) (a : Nat) (b : Nat) (i : Nat) : ((exec enIns (loopN Try.f47 0) (stIns xs a b i)).bind (lessX ([8, 3, 2, 1, 0], [900]) ([], [900]) ([], []))).val =
  bif decide ((↑i : Int) < (↑b : Int)) then Option.bind (unenc stSk1 (St.mk [(9, (vI (↑i : Int))), (8, (vI (↑i : Int))), (3, AV.fn (18 : FuncId) []), (2, (vI (↑b : Int))),
  (1, (vI (↑a : Int))), (0, .own 900)] [(900, Blk.mk false 29 5 (List.map eBeat xs))])) fun (z : List Beat × Nat × Nat × Nat × Nat) => bif decide (z.snd.snd.snd.snd <
  List.length z.fst ∧ List.length z.fst ≤ (100000 : Nat)) && true then some (Ex.normal, St.mk [(8, (vI (IntKind.wrap IntKind.i64 ((↑z.snd.snd.snd.fst : Int) + (1 : Int))))),
  (3, AV.fn (18 : FuncId) []), (2, (vI (↑z.snd.snd.fst : Int))), (1, (vI (↑z.snd.fst : Int))), (0, .own 900)] [(900, Blk.mk false 29 5 (List.map eBeat (K.sink F.ltB
  z.snd.fst z.snd.snd.snd.snd z.fst)))]) else none else some (Ex.exit (0 : Nat), St.mk [] [(900, Blk.mk false 29 5 (List.map eBeat xs))]) := (execR_bind _ _ _).symm.trans (by kernel_rfl)

theorem lpIns_ok (xs : List Beat) (a : Nat) (b : Nat) (i : Nat) (hp : prlIns xs a b i = true) : ∀ ex s', (outIns xs a b i).val = some (ex, s') → LoopOK enIns (loopN Try.f47 0) (stIns xs a b i) ex s' := by
  simp only [prlIns, Bool.and_eq_true, decide_eq_true_eq] at hp
  obtain ⟨h1, h2⟩ := hp
  refine loop_gen (st := fun s : List Beat × Nat => stIns s.1 a b s.2) (out := fun s => outIns s.1 a b s.2) (I := fun s => b ≤ s.1.length ∧ s.1.length ≤ 100000) (n := ([8, 3, 2, 1, 0], [900])) (e := ([], [900])) (r := ([], [])) (fun s => b - s.2) ?_ (xs, i) ⟨h1, h2⟩
  rintro ⟨xs, i⟩ ⟨h1, h2⟩
  simp only at h1 h2
  by_cases hlt : i < b
  · right
    refine ⟨(K.sink F.ltB a i xs, i + 1), ?_, rfl, ⟨by simp only [K.sink_len]; exact h1, by simp only [K.sink_len]; exact h2⟩, by simp only; omega, ?_⟩
    · rw [evInsL]
      have hq : i < xs.length ∧ xs.length ≤ 100000 := ⟨by omega, h2⟩
      simp only [unBor, unBorw, preBor1, unstIns, unstSk, unstSk0, prlIns, prlSk, outIns, outSk, etaBeat, etaSpan, etaHole, etaLevel, etaFigs, etaRatio, etaRep, etaStay, Option.bind_some, List.length_map, unStrs, unInts, unBools, unBeats, uneL_eBeats, unSpans, unHoles, unLevels, unFigss, unRatios, unReps, unStays, F.lt, F.le, cond_true, cond_false, Bool.and_true, Bool.true_and, cast_lt hlt, hq, and_self, decide_true, w_add1 (show i < 9223372036854775807 by omega), stIns]
    · simp only [outIns]; rw [show b - i = (b - (i + 1)) + 1 by omega, K.isort]
  · left
    refine ⟨_, ?_, rfl, by simp, rfl⟩
    rw [evInsL]
    simp only [dlt, decide_eq_false hlt, cond_false, show b - i = 0 by omega, K.isort]

theorem evIns (xs : List Beat) (a : Nat) (b : Nat) : (runH enIns [] Try.f47 [.own 900, vI a, vI b, .fn 18 []] [(900, ⟨false, 29, 5, xs.map eBeat⟩)]).val =
  Option.bind (unenc stIns1 (St.mk [(8, (vI (IntKind.wrap IntKind.i64 ((↑a : Int) + (1 : Int))))), (3, AV.fn (18 : FuncId) []), (2, (vI (↑b : Int))), (1, (vI (↑a : Int))),
  (0, .own 900)] [(900, Blk.mk false 29 5 (List.map eBeat xs))])) fun (z : List Beat × Nat × Nat × Nat) => bif decide (z.snd.snd.fst ≤ List.length z.fst ∧ List.length z.fst
  ≤ (100000 : Nat)) && true then some (AV.tup [], [(900, Blk.mk false 29 5 (List.map eBeat (K.isort F.ltB z.snd.fst (z.snd.snd.fst - z.snd.snd.snd) z.snd.snd.snd z.fst)))],
  []) else none := (runHR_val).symm.trans (by kernel_rfl)

def encIns1 (xs : List Beat) (a : Nat) (b : Nat) : List AV × Heap := ([.own 900, vI a, vI b, .fn 18 []], [(900, ⟨false, 29, 5, xs.map eBeat⟩)])

def encIns (a : (List Beat) × Nat × Nat) : List AV × Heap := encIns1 a.1 a.2.1 a.2.2

theorem encIns_inj (a a' : (List Beat) × Nat × Nat) (h : encIns a = encIns a') : a = a' := by
  simp only [encIns, encIns1] at h
  try simp [strs_inj, ints_inj, bools_inj, eBeats_inj, eBeat_iff, eL_eBeats_inj, eSpans_inj, eSpan_iff, eHoles_inj, eHole_iff, eLevels_inj, eLevel_iff, eFigss_inj, eFigs_iff, eRatios_inj, eRatio_iff, eReps_inj, eRep_iff, eStays_inj, eStay_iff] at h
  grind

theorem unIns (xs : List Beat) (a : Nat) (b : Nat) : unenc encIns (([.own 900, (vI (↑a : Int)), (vI (↑b : Int)), AV.fn (18 : FuncId) []], [(900, Blk.mk false 29 5 (List.map eBeat xs))])) = some (xs, a, b) := unenc_of encIns_inj (xs, a, b) rfl

def resIns1 (xs : List Beat) (a : Nat) (b : Nat) : AV × Heap × List Nat := (.tup [], [(900, ⟨false, 29, 5, (K.seg a b (K.srt F.ltB) xs).map eBeat⟩)], [])

def preIns1 (xs : List Beat) (a : Nat) (b : Nat) : Bool := decide (a ≤ b ∧ b ≤ xs.length ∧ xs.length ≤ 100000)

noncomputable def oIns : OrcH := orcH 47 encIns (fun a => preIns1 a.1 a.2.1 a.2.2) fun a => resIns1 a.1 a.2.1 a.2.2

theorem okIns : OrcHOK Try.prog noG oIns := by
  refine mkH_ok (mv := []) Try.f47 (by kernel_rfl) (by kernel_rfl) enIns_ok mixed (two_loops (x0 := loopN Try.f47 0) (x1 := loopN Try.f47 1) (by kernel_rfl) (lpo_ok ?_) (lpo_ok ?_)) ?_
  · rintro ⟨xs, a, b, i⟩ hp
    exact lpIns_ok xs a b i hp
  · rintro ⟨xs, a, b, i, j⟩ hp
    exact lpSk_ok xs a b i j hp
  rintro ⟨xs, a, b⟩ hpre hok hokh
  show (runH enIns [] _ (encIns1 _ _ _).1 (encIns1 _ _ _).2).val = some (resIns1 _ _ _)
  unfold encIns1 resIns1
  rw [evIns]
  simp only [preIns1, decide_eq_true_eq] at hpre
  obtain ⟨h1, h2, h3⟩ := hpre
  simp only [unBor, unBorw, preBor1, unstIns, unstSk, unstSk0, prlIns, prlSk, outIns, outSk, etaBeat, etaSpan, etaHole, etaLevel, etaFigs, etaRatio, etaRep, etaStay, Option.bind_some, List.length_map, unStrs, unInts, unBools, unBeats, uneL_eBeats, unSpans, unHoles, unLevels, unFigss, unRatios, unReps, unStays, F.lt, F.le, cond_true, cond_false, Bool.and_true, Bool.true_and, w_add1 (show a < 9223372036854775807 by omega), h2, h3, and_self, decide_true, K.isort_seg F.swB h1 h2]


end M
end Go.Proofs.Ytlnflhmepnbcmaa
