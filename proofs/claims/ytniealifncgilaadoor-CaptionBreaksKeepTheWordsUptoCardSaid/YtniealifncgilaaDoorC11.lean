/- What is proved here: how a time is moved, of both (no statement of the seat). -/
import Derived.Test.YtniealifncgilaaDoorC10
namespace Go.Proofs.YtniealifncgilaaDoor
open Go Go.RowKit
set_option linter.unusedVariables false
set_option linter.unusedSimpArgs false

/-- A time. -/
def F.tm (n : Int) : Bool := !F.noTime n

theorem F.tm_iff {n : Int} : F.tm n = true ↔ 0 ≤ n ∧ n ≤ 359999999 := by
  unfold F.tm F.noTime F.out
  simp

def F.num (a b : Mch) (t : Int) : Int := 2 * (t - a.was) * (b.now - a.now) + (b.was - a.was)

def F.den (a b : Mch) : Int := 2 * (b.was - a.was)

/-- A time that is moved. -/
def F.strT (a b : Mch) (t : Int) : Int := a.now + F.num a b t / F.den a b

def F.mOK (a b : Mch) : Bool := F.tm a.was && F.tm a.now && F.tm b.was && F.tm b.now && F.lt a.was b.was && F.lt a.now b.now

theorem F.mOK_iff {a b : Mch} : F.mOK a b = true ↔ ((((F.tm a.was = true ∧ F.tm a.now = true) ∧ F.tm b.was = true) ∧ F.tm b.now = true) ∧ a.was < b.was) ∧ a.now < b.now := by
  simp [F.mOK, F.lt]

theorem F.mul_bd {M x y : Int} (h1 : -M ≤ x) (h2 : x ≤ M) (h3 : 0 ≤ y) (h4 : y ≤ M) : -(M * M) ≤ x * y ∧ x * y ≤ M * M := by
  have hM : 0 ≤ M := by omega
  have a1 := Int.mul_le_mul_of_nonneg_right h2 h3
  have a2 := Int.mul_le_mul_of_nonneg_left h4 hM
  have a3 := Int.mul_le_mul_of_nonneg_right h1 h3
  rw [Int.neg_mul] at a3
  omega

/-- The numbers are small. -/
theorem F.num_bd {a b : Mch} {t : Int} (h : F.mOK a b = true) (ht : F.tm t = true) :
    0 < b.was - a.was ∧ b.was - a.was ≤ 359999999 ∧ 0 < b.now - a.now ∧ b.now - a.now ≤ 359999999 ∧ -359999999 ≤ t - a.was ∧ t - a.was ≤ 359999999 ∧
    -300000000000000000 ≤ 2 * (t - a.was) * (b.now - a.now) ∧ 2 * (t - a.was) * (b.now - a.now) ≤ 300000000000000000 := by
  obtain ⟨⟨⟨⟨⟨h1, h2⟩, h3⟩, h4⟩, h5⟩, h6⟩ := F.mOK_iff.1 h
  rw [F.tm_iff] at h1 h2 h3 h4 ht
  have := F.mul_bd (M := 359999999) (x := t - a.was) (y := b.now - a.now) (by omega) (by omega) (by omega) (by omega)
  have e : 2 * (t - a.was) * (b.now - a.now) = 2 * ((t - a.was) * (b.now - a.now)) := Int.mul_assoc ..
  rw [e]
  generalize (t - a.was) * (b.now - a.now) = z at this ⊢
  refine ⟨?_, ?_, ?_, ?_, ?_, ?_, ?_, ?_⟩ <;> omega

/-- Rounded down, from what is rounded to zero. -/
theorem F.down {n d : Int} (hd : 0 < d) : (bif decide (n.tmod d < 0) then n.tdiv d - 1 else n.tdiv d) = n / d := by
  rw [Int.tdiv_eq_ediv, Int.tmod_eq_emod]
  have h0 := Int.emod_nonneg n (show d ≠ 0 by omega)
  have h1 := Int.emod_lt_of_pos n hd
  have hs : d.sign = 1 := Int.sign_eq_one_of_pos hd
  by_cases h : 0 ≤ n ∨ d ∣ n
  · rw [if_pos h, if_pos h, decide_eq_false (by omega), cond_false]; omega
  · rw [if_neg h, if_neg h, hs, decide_eq_true (by omega), cond_true]; omega

theorem F.down_neg {n d : Int} (hd : 0 < d) : 0 - (0 - n + d - 1) / d = n / d := by
  have h0 := Int.emod_nonneg n (show d ≠ 0 by omega)
  have h1 := Int.emod_lt_of_pos n hd
  have h2 := Int.emod_add_mul_ediv n d
  have e : 0 - n + d - 1 = (d - 1 - n % d) + d * (-(n / d)) := by
    rw [Int.mul_neg]; omega
  rw [e, Int.add_mul_ediv_left _ _ (by omega), Int.ediv_eq_zero_of_lt (by omega) (by omega)]
  omega

theorem F.tdiv_bd {n d M : Int} (hd : 0 < d) (h1 : -M ≤ n) (h2 : n ≤ M) : -M ≤ n.tdiv d ∧ n.tdiv d ≤ M := by
  have h := Int.natAbs_tdiv_le_natAbs n d
  omega

theorem F.ediv_bd {n d M : Int} (hd : 0 < d) (hM : 0 ≤ M) (h1 : -M ≤ n) (h2 : n ≤ M) : -M - 1 ≤ n / d ∧ n / d ≤ M := by
  have h := F.tdiv_bd hd h1 h2
  have k := F.down (n := n) hd
  rw [← k]
  cases decide (n.tmod d < 0)
  · simp only [cond_false]; omega
  · simp only [cond_true]; omega

def F.fdv (n d : Int) : Int := n / d

namespace M

theorem evCl (t : Int) (a : Mch) (b : Mch) (d : Int) : (runF en0 false Tryd.f71 [vI t, .pel (eMch a) 0, .pel (eMch b) 0, .pel [vI d] 0]).val =
  bif d == (0 : Int) then none else bif d == (0 : Int) then none else bif decide (Int.tmod (IntKind.wrap IntKind.i64 (IntKind.wrap IntKind.i64 (IntKind.wrap IntKind.i64 ((2
  : Int) * IntKind.wrap IntKind.i64 (t - a.was)) * IntKind.wrap IntKind.i64 (b.now - a.now)) + IntKind.wrap IntKind.i64 (Int.tdiv d (2 : Int)))) d < (0 : Int)) then some
  ((vI (IntKind.wrap IntKind.i64 (a.now + IntKind.wrap IntKind.i64 (IntKind.wrap IntKind.i64 (Int.tdiv (IntKind.wrap IntKind.i64 (IntKind.wrap IntKind.i64 (IntKind.wrap
  IntKind.i64 ((2 : Int) * IntKind.wrap IntKind.i64 (t - a.was)) * IntKind.wrap IntKind.i64 (b.now - a.now)) + IntKind.wrap IntKind.i64 (Int.tdiv d (2 : Int)))) d) - (1 :
  Int))))), []) else some ((vI (IntKind.wrap IntKind.i64 (a.now + IntKind.wrap IntKind.i64 (Int.tdiv (IntKind.wrap IntKind.i64 (IntKind.wrap IntKind.i64 (IntKind.wrap
  IntKind.i64 ((2 : Int) * IntKind.wrap IntKind.i64 (t - a.was)) * IntKind.wrap IntKind.i64 (b.now - a.now)) + IntKind.wrap IntKind.i64 (Int.tdiv d (2 : Int)))) d)))), []) := by kernel_rfl

def encCl1 (t : Int) (a : Mch) (b : Mch) (d : Int) : List AV := [vI t, .pel (eMch a) 0, .pel (eMch b) 0, .pel [vI d] 0]

def encCl (a : Int × Mch × Mch × Int) : List AV := encCl1 a.1 a.2.1 a.2.2.1 a.2.2.2

theorem encCl_inj (a a' : Int × Mch × Mch × Int) (h : encCl a = encCl a') : a = a' := by
  simp only [encCl, encCl1] at h
  try simp [strs_inj, ints_inj, bools_inj, eCaps_inj, eCap_iff, eL_eCaps_inj, eMchs_inj, eMch_iff, eWrds_inj, eWrd_iff, eFnds_inj, eFnd_iff, eRatios_inj, eRatio_iff, eWays_inj, eWay_iff] at h
  grind

theorem unCl (t : Int) (a : Mch) (b : Mch) (d : Int) : unenc encCl ([(vI t), AV.pel [(vI a.was), (vI a.now)] (0 : Nat), AV.pel [(vI b.was), (vI b.now)] (0 : Nat), AV.pel [(vI d)] (0 : Nat)]) = some (t, a, b, d) := unenc_of encCl_inj (t, a, b, d) rfl

theorem unClw (t : Int) (a_was : Int) (a_now : Int) (b_was : Int) (b_now : Int) (d : Int) : unenc encCl ([(vI t), AV.pel [(vI a_was), (vI a_now)] (0 : Nat), AV.pel [(vI b_was), (vI b_now)] (0 : Nat), AV.pel [(vI d)] (0 : Nat)]) = some (t, (Mch.mk a_was a_now), (Mch.mk b_was b_now), d) := unenc_of encCl_inj (t, (Mch.mk a_was a_now), (Mch.mk b_was b_now), d) rfl

def resCl1 (t : Int) (a : Mch) (b : Mch) (d : Int) : AV × Heap := (vI (F.strT a b t), [])

def preCl1 (t : Int) (a : Mch) (b : Mch) (d : Int) : Bool := F.mOK a b && F.tm t && (d == F.den a b)

noncomputable def oCl : Orc := orc 71 true encCl (fun a => preCl1 a.1 a.2.1 a.2.2.1 a.2.2.2) fun a => resCl1 a.1 a.2.1 a.2.2.1 a.2.2.2

theorem okCl : OrcOK Tryd.prog noG oCl := by
  refine mk_ok Tryd.f71 (keep := false) (by kernel_rfl) (by kernel_rfl) en0_ok mixed (no_loops (by kernel_rfl)) (by first | exact fun _ _ => ⟨rfl, rfl⟩ | (intro h; cases h)) ?_
  rintro ⟨t, a, b, d⟩ hpre hok
  show (runF en0 false _ (encCl1 _ _ _ _)).val = some (resCl1 _ _ _ _)
  unfold encCl1 resCl1
  rw [evCl]
  simp only [preCl1, Bool.and_eq_true, beq_iff_eq] at hpre
  obtain ⟨⟨h1, h2⟩, rfl⟩ := hpre
  obtain ⟨b1, b2, b3, b4, b5, b6, b7, b8⟩ := F.num_bd h1 h2
  have hd : F.den a b = 2 * (b.was - a.was) := rfl
  have hd0 : 0 < F.den a b := by omega
  have hz : (F.den a b == 0) = false := by simp; omega
  have w1 : IntKind.i64.wrap (t - a.was) = t - a.was := wrap_id (by omega) (by omega)
  have w2 : IntKind.i64.wrap (2 * (t - a.was)) = 2 * (t - a.was) := wrap_id (by omega) (by omega)
  have w3 : IntKind.i64.wrap (b.now - a.now) = b.now - a.now := wrap_id (by omega) (by omega)
  have w4 : IntKind.i64.wrap (2 * (t - a.was) * (b.now - a.now)) = 2 * (t - a.was) * (b.now - a.now) := wrap_id (by omega) (by omega)
  have w5 : (F.den a b).tdiv 2 = b.was - a.was := by rw [hd, Int.mul_tdiv_cancel_left _ (by decide)]
  have w6 : IntKind.i64.wrap (b.was - a.was) = b.was - a.was := wrap_id (by omega) (by omega)
  have hn : 2 * (t - a.was) * (b.now - a.now) + (b.was - a.was) = F.num a b t := rfl
  have n1 : -400000000000000000 ≤ F.num a b t ∧ F.num a b t ≤ 400000000000000000 := by rw [← hn]; omega
  have w7 : IntKind.i64.wrap (F.num a b t) = F.num a b t := wrap_id (by omega) (by omega)
  have hq := F.tdiv_bd hd0 n1.1 n1.2
  have hq2 := F.ediv_bd hd0 (by decide) n1.1 n1.2
  have hdn := F.down (n := F.num a b t) hd0
  have w8 : IntKind.i64.wrap ((F.num a b t).tdiv (F.den a b)) = (F.num a b t).tdiv (F.den a b) := wrap_id (by omega) (by omega)
  have w9 : IntKind.i64.wrap ((F.num a b t).tdiv (F.den a b) - 1) = (F.num a b t).tdiv (F.den a b) - 1 := wrap_id (by omega) (by omega)
  obtain ⟨⟨⟨⟨⟨g1, g2⟩, g3⟩, g4⟩, g5⟩, g6⟩ := F.mOK_iff.1 h1
  rw [F.tm_iff] at g2
  have w10 : IntKind.i64.wrap (a.now + F.num a b t / F.den a b) = a.now + F.num a b t / F.den a b := wrap_id (by omega) (by omega)
  simp only [etaCap, etaMch, etaWrd, etaFnd, etaRatio, etaWay, Option.bind_some, List.length_map, unStrs, unInts, unBools, unCaps, uneL_eCaps, unMchs, unWrds, unFnds, unRatios, unWays, F.lt, F.le, cond_true, cond_false, Bool.and_true, Bool.true_and, hz, w1, w2, w3, w4, w5, w6, hn, w7, w8, w9]
  cases hc : decide ((F.num a b t).tmod (F.den a b) < 0)
  · rw [hc, cond_false] at hdn
    rw [cond_false, hdn, w10]; rfl
  · rw [hc, cond_true] at hdn
    rw [cond_true, hdn, w10]; rfl

theorem evFlo (n : Int) (d : Int) : (runF en0 false Tryd.f92 [vI n, vI d]).val =
  bif decide (n < (0 : Int)) then bif d == (0 : Int) then none else some ((vI (IntKind.wrap IntKind.i64 ((0 : Int) - IntKind.wrap IntKind.i64 (Int.tdiv (IntKind.wrap
  IntKind.i64 (IntKind.wrap IntKind.i64 (IntKind.wrap IntKind.i64 ((0 : Int) - n) + d) - (1 : Int))) d)))), []) else bif d == (0 : Int) then none else some ((vI
  (IntKind.wrap IntKind.i64 (Int.tdiv n d))), []) := by kernel_rfl

def encFlo1 (n : Int) (d : Int) : List AV := [vI n, vI d]

def encFlo (a : Int × Int) : List AV := encFlo1 a.1 a.2

theorem encFlo_inj (a a' : Int × Int) (h : encFlo a = encFlo a') : a = a' := by
  simp only [encFlo, encFlo1] at h
  try simp [strs_inj, ints_inj, bools_inj, eCaps_inj, eCap_iff, eL_eCaps_inj, eMchs_inj, eMch_iff, eWrds_inj, eWrd_iff, eFnds_inj, eFnd_iff, eRatios_inj, eRatio_iff, eWays_inj, eWay_iff] at h
  grind

theorem unFlo (n : Int) (d : Int) : unenc encFlo ([(vI n), (vI d)]) = some (n, d) := unenc_of encFlo_inj (n, d) rfl

def resFlo1 (n : Int) (d : Int) : AV × Heap := (vI (F.fdv n d), [])

def preFlo1 (n : Int) (d : Int) : Bool := F.lt 0 d && F.le d 1000000000 && F.le (-1000000000000000000) n && F.le n 1000000000000000000

noncomputable def oFlo : Orc := orc 92 true encFlo (fun a => preFlo1 a.1 a.2) fun a => resFlo1 a.1 a.2

theorem okFlo : OrcOK Tryd.prog noG oFlo := by
  refine mk_ok Tryd.f92 (keep := false) (by kernel_rfl) (by kernel_rfl) en0_ok mixed (no_loops (by kernel_rfl)) (by first | exact fun _ _ => ⟨rfl, rfl⟩ | (intro h; cases h)) ?_
  rintro ⟨n, d⟩ hpre hok
  show (runF en0 false _ (encFlo1 _ _)).val = some (resFlo1 _ _)
  unfold encFlo1 resFlo1
  rw [evFlo]
  simp only [preFlo1, F.lt, F.le, Bool.and_eq_true, decide_eq_true_eq] at hpre
  obtain ⟨⟨⟨h1, h2⟩, h3⟩, h4⟩ := hpre
  have hz : (d == 0) = false := by simp; omega
  have w1 : IntKind.i64.wrap (0 - n) = 0 - n := wrap_id (by omega) (by omega)
  have w2 : IntKind.i64.wrap (0 - n + d) = 0 - n + d := wrap_id (by omega) (by omega)
  have w3 : IntKind.i64.wrap (0 - n + d - 1) = 0 - n + d - 1 := wrap_id (by omega) (by omega)
  have hq2 := F.ediv_bd h1 (by decide : (0 : Int) ≤ 1000000000000000000) h3 h4
  simp only [etaCap, etaMch, etaWrd, etaFnd, etaRatio, etaWay, Option.bind_some, List.length_map, unStrs, unInts, unBools, unCaps, uneL_eCaps, unMchs, unWrds, unFnds, unRatios, unWays, F.lt, F.le, cond_true, cond_false, Bool.and_true, Bool.true_and, hz, w1, w2, w3, F.fdv]
  cases hc : decide (n < 0)
  · have hn : 0 ≤ n := by have := of_decide_eq_false hc; omega
    rw [cond_false, Int.tdiv_eq_ediv_of_nonneg hn, wrap_id (by omega) (by omega)]
  · have hn : n < 0 := of_decide_eq_true hc
    rw [cond_true, Int.tdiv_eq_ediv_of_nonneg (by omega)]
    have := F.down_neg (n := n) h1
    have e : (0 - n + d - 1) / d = 0 - n / d := by omega
    rw [e, wrap_id (n := 0 - n / d) (by omega) (by omega), show 0 - (0 - n / d) = n / d by omega, wrap_id (by omega) (by omega)]

noncomputable def enSd : Env := envH ty noG lks [oFlo] [] [] []

theorem enSd_ok : EnvOK Tryd.prog enSd := by
  refine envH_ok lks_ok ty_ok ?_ ?_
  · simp only [List.forall_mem_cons]
    exact ⟨okFlo, by simp⟩
  · simp

theorem evSd (t : Int) (a : Mch) (b : Mch) : (runF enSd false Tryd.f72 [vI t, .agg (eMch a), .agg (eMch b)]).val =
  Option.bind (unenc encFlo [(vI (IntKind.wrap IntKind.i64 (IntKind.wrap IntKind.i64 (IntKind.wrap IntKind.i64 ((2 : Int) * IntKind.wrap IntKind.i64 (t - a.was)) *
  IntKind.wrap IntKind.i64 (b.now - a.now)) + IntKind.wrap IntKind.i64 (b.was - a.was)))), (vI (IntKind.wrap IntKind.i64 ((2 : Int) * IntKind.wrap IntKind.i64 (b.was -
  a.was))))]) fun (z : Int × Int) => bif F.lt (0 : Int) z.snd && F.le z.snd (1000000000 : Int) && F.le (-1000000000000000000 : Int) z.fst && F.le z.fst (1000000000000000000
  : Int) then some ((vI (IntKind.wrap IntKind.i64 (a.now + F.fdv z.fst z.snd))), []) else none := by kernel_rfl

def encSd1 (t : Int) (a : Mch) (b : Mch) : List AV := [vI t, .agg (eMch a), .agg (eMch b)]

def encSd (a : Int × Mch × Mch) : List AV := encSd1 a.1 a.2.1 a.2.2

theorem encSd_inj (a a' : Int × Mch × Mch) (h : encSd a = encSd a') : a = a' := by
  simp only [encSd, encSd1] at h
  try simp [strs_inj, ints_inj, bools_inj, eCaps_inj, eCap_iff, eL_eCaps_inj, eMchs_inj, eMch_iff, eWrds_inj, eWrd_iff, eFnds_inj, eFnd_iff, eRatios_inj, eRatio_iff, eWays_inj, eWay_iff] at h
  grind

theorem unSd (t : Int) (a : Mch) (b : Mch) : unenc encSd ([(vI t), AV.agg [(vI a.was), (vI a.now)], AV.agg [(vI b.was), (vI b.now)]]) = some (t, a, b) := unenc_of encSd_inj (t, a, b) rfl

theorem unSdw (t : Int) (a_was : Int) (a_now : Int) (b_was : Int) (b_now : Int) : unenc encSd ([(vI t), AV.agg [(vI a_was), (vI a_now)], AV.agg [(vI b_was), (vI b_now)]]) = some (t, (Mch.mk a_was a_now), (Mch.mk b_was b_now)) := unenc_of encSd_inj (t, (Mch.mk a_was a_now), (Mch.mk b_was b_now)) rfl

def resSd1 (t : Int) (a : Mch) (b : Mch) : AV × Heap := (vI (F.strT a b t), [])

def preSd1 (t : Int) (a : Mch) (b : Mch) : Bool := F.mOK a b && F.tm t

noncomputable def oSd : Orc := orc 72 true encSd (fun a => preSd1 a.1 a.2.1 a.2.2) fun a => resSd1 a.1 a.2.1 a.2.2

theorem okSd : OrcOK Tryd.prog noG oSd := by
  refine mk_ok Tryd.f72 (keep := false) (by kernel_rfl) (by kernel_rfl) enSd_ok mixed (no_loops (by kernel_rfl)) (by first | exact fun _ _ => ⟨rfl, rfl⟩ | (intro h; cases h)) ?_
  rintro ⟨t, a, b⟩ hpre hok
  show (runF enSd false _ (encSd1 _ _ _)).val = some (resSd1 _ _ _)
  unfold encSd1 resSd1
  rw [evSd]
  simp only [preSd1, Bool.and_eq_true] at hpre
  obtain ⟨h1, h2⟩ := hpre
  obtain ⟨b1, b2, b3, b4, b5, b6, b7, b8⟩ := F.num_bd h1 h2
  have hd : F.den a b = 2 * (b.was - a.was) := rfl
  have hd0 : 0 < F.den a b := by omega
  have w1 : IntKind.i64.wrap (t - a.was) = t - a.was := wrap_id (by omega) (by omega)
  have w2 : IntKind.i64.wrap (2 * (t - a.was)) = 2 * (t - a.was) := wrap_id (by omega) (by omega)
  have w3 : IntKind.i64.wrap (b.now - a.now) = b.now - a.now := wrap_id (by omega) (by omega)
  have w4 : IntKind.i64.wrap (2 * (t - a.was) * (b.now - a.now)) = 2 * (t - a.was) * (b.now - a.now) := wrap_id (by omega) (by omega)
  have w6 : IntKind.i64.wrap (b.was - a.was) = b.was - a.was := wrap_id (by omega) (by omega)
  have w5 : IntKind.i64.wrap (2 * (b.was - a.was)) = F.den a b := wrap_id (by omega) (by omega)
  have hn : 2 * (t - a.was) * (b.now - a.now) + (b.was - a.was) = F.num a b t := rfl
  have n1 : -400000000000000000 ≤ F.num a b t ∧ F.num a b t ≤ 400000000000000000 := by rw [← hn]; omega
  have w7 : IntKind.i64.wrap (F.num a b t) = F.num a b t := wrap_id (by omega) (by omega)
  have hq2 := F.ediv_bd hd0 (by decide) n1.1 n1.2
  obtain ⟨⟨⟨⟨⟨g1, g2⟩, g3⟩, g4⟩, g5⟩, g6⟩ := F.mOK_iff.1 h1
  rw [F.tm_iff] at g2
  have w10 : IntKind.i64.wrap (a.now + F.num a b t / F.den a b) = a.now + F.num a b t / F.den a b := wrap_id (by omega) (by omega)
  have d1 : decide (0 < F.den a b) = true := decide_eq_true hd0
  have d2 : decide (F.den a b ≤ 1000000000) = true := decide_eq_true (by omega)
  have d3 : decide (-1000000000000000000 ≤ F.num a b t) = true := decide_eq_true (by omega)
  have d4 : decide (F.num a b t ≤ 1000000000000000000) = true := decide_eq_true (by omega)
  simp only [unFlo, preFlo1, etaCap, etaMch, etaWrd, etaFnd, etaRatio, etaWay, Option.bind_some, List.length_map, unStrs, unInts, unBools, unCaps, uneL_eCaps, unMchs, unWrds, unFnds, unRatios, unWays, F.lt, F.le, cond_true, cond_false, Bool.and_true, Bool.true_and, w1, w2, w3, w4, w5, w6, hn, w7, d1, d2, d3, d4, F.fdv]
  rw [w10]; rfl

end M
end Go.Proofs.YtniealifncgilaaDoor
