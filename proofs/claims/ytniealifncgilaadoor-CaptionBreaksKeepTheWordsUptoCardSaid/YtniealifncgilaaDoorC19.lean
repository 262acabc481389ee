/- What is proved here: slices.Contains of numbers; after Slow no caption is faster than most but those that it tells. -/
import Derived.Test.YtniealifncgilaaDoorC18
namespace Go.Proofs.YtniealifncgilaaDoor
open Go Go.RowKit
set_option linter.unusedVariables false
set_option linter.unusedSimpArgs false

/-- The number of the first of a list that is asked for. -/
def F.findI {α : Type} (p : α → Bool) (k : Nat) : List α → Option Nat
  | [] => none
  | y :: l => bif p y then some k else F.findI p (k + 1) l

def F.idxI (o : Option Nat) : Int := bif F.found o then ((F.got o 0 : Nat) : Int) else -1

theorem F.idx_any {α : Type} (p : α → Bool) (k : Nat) (l : List α) : decide (0 ≤ F.idxI (F.findI p k l)) = l.any p := by
  have h : F.found (F.findI p k l) = l.any p := by
    induction l generalizing k with
    | nil => rfl
    | cons y l ih =>
      simp only [F.findI, List.any_cons]
      cases p y
      · simp only [cond_false, Bool.false_or]; exact ih (k + 1)
      · rfl
  unfold F.idxI
  rw [h]
  cases l.any p
  · rfl
  · simp only [cond_true]; exact decide_eq_true (by omega)


def F.hasI (v : Int) (l : List Int) : Bool := l.any fun y => v == y

/-- What is to be so of one caption after Slow. -/
def F.sisP (m : Ratio) (fs : List Int) (x y : Cap) (i : Nat) : Bool :=
  F.smL x.lines && ((F.speed x).2 == 0) && (x.fr == y.fr) && !(F.lt x.to y.to) && (decide (IntKind.i64.wrap (m.num * (F.speed x).1.den) < IntKind.i64.wrap ((F.speed x).1.num * m.den)) == F.hasI (i : Int) fs)

open Classical in
noncomputable def F.sisA (m : Ratio) (l xs : List Cap) (fs : List Int) : Bool :=
  decide (xs.length = l.length ∧ ∀ (i : Nat) (x y : Cap), xs[i]? = some x → l[i]? = some y → F.sisP m fs x y i = true)

theorem F.slF_ge (m : Ratio) (g : Int) : ∀ (l : List Cap) (k : Nat), ∀ v ∈ F.slF m g l k, (k : Int) ≤ v
  | [], _, v, h => by cases h
  | c :: l, k, v, h => by
    rw [F.slF_cons, List.mem_append] at h
    rcases h with h | h
    · cases hb : F.lt (F.slTo m g l.head? c - c.fr) (F.need m c) <;> rw [hb] at h
      · cases h
      · simp at h; omega
    · have := F.slF_ge m g l (k + 1) v h; omega

theorem F.hasI_out {v : Int} {l : List Int} (h : ∀ x ∈ l, x ≠ v) : F.hasI v l = false := by
  unfold F.hasI
  rw [List.any_eq_false]
  intro x hx
  have := h x hx
  simp; omega

theorem F.hasI_app (v : Int) (a b : List Int) : F.hasI v (a ++ b) = (F.hasI v a || F.hasI v b) := by simp [F.hasI]

theorem F.has_slF (m : Ratio) (g : Int) : ∀ (l : List Cap) (k i : Nat) (y : Cap), l[i]? = some y → F.hasI ((k + i : Nat) : Int) (F.slF m g l k) = F.lt (F.slTo m g l[i + 1]? y - y.fr) (F.need m y)
  | [], _, _, _, h => by simp at h
  | c :: l, k, 0, y, h => by
    simp at h
    subst h
    rw [F.slF_cons, F.hasI_app, F.hasI_out (l := F.slF m g l (k + 1)) (fun x hx => by have := F.slF_ge m g l (k + 1) x hx; omega), Bool.or_false]
    have e : (c :: l)[0 + 1]? = l.head? := by simp [List.head?_eq_getElem?]
    rw [e]
    cases F.lt (F.slTo m g l.head? c - c.fr) (F.need m c)
    · rfl
    · simp [F.hasI]
  | c :: l, k, i + 1, y, h => by
    have h' : l[i]? = some y := by simpa using h
    have e : (c :: l)[i + 1 + 1]? = l[i + 1]? := by simp
    have ih := F.has_slF m g l (k + 1) i y h'
    rw [F.slF_cons, F.hasI_app, e, ← ih, show k + 1 + i = k + (i + 1) by omega]
    have : F.hasI ((k + (i + 1) : Nat) : Int) (bif F.lt (F.slTo m g l.head? c - c.fr) (F.need m c) then [(k : Int)] else []) = false := by
      apply F.hasI_out
      intro x hx
      cases hb : F.lt (F.slTo m g l.head? c - c.fr) (F.need m c) <;> rw [hb] at hx
      · cases hx
      · simp at hx; omega
    rw [this, Bool.false_or]

theorem F.mapN_at {α : Type} (f : Option α → α → α) : ∀ (l : List α) (i : Nat) (x : α), (F.mapN f l)[i]? = some x → ∃ y, l[i]? = some y ∧ x = f l[i + 1]? y
  | [], _, _, h => by simp [F.mapN] at h
  | c :: l, 0, x, h => by
    simp [F.mapN] at h
    exact ⟨c, by simp, by subst h; simp [List.head?_eq_getElem?]⟩
  | c :: l, i + 1, x, h => by
    have h' : (F.mapN f l)[i]? = some x := by simpa [F.mapN] using h
    obtain ⟨y, h1, h2⟩ := F.mapN_at f l i x h'
    exact ⟨y, by simpa using h1, by simpa using h2⟩

theorem F.chk_one {q : Option Cap} {c d : Cap} (h : F.capF q c = 0) (h1 : d.fr = c.fr) (h2 : c.to ≤ d.to) (h3 : d.to ≤ 359999999) (h4 : d.lines = c.lines) (h5 : d.row = c.row) : F.chkC [d] = 0 := by
  obtain ⟨a1, a2, a3, _, a5, a6⟩ := F.capF_ok h
  have b2 : F.noTime d.to = false := by
    have := F.tm_iff.1 (show F.tm c.to = true by unfold F.tm; rw [a2]; rfl)
    have : F.tm d.to = true := F.tm_iff.2 (by omega)
    unfold F.tm at this
    simpa using this
  have b3 : F.le d.to d.fr = false := by
    unfold F.le at a3 ⊢
    have := of_decide_eq_false a3
    exact decide_eq_false (by omega)
  have : F.capF none d = 0 := by
    unfold F.capF
    rw [h1, a1, b2, ← h1, b3, h5, a5, h4, a6]
    rfl
  unfold F.chkC F.chkP
  rw [this]
  rfl

/-- How many are read in a second, against a bound. -/
theorem F.spd_lt {N D : Nat} {p q : Nat} (hD : 0 < D) (hq : 0 < q) :
    (q * (D / Nat.gcd N D) < N / Nat.gcd N D * p) ↔ (D : Int) < ((N : Int) * p + q - 1) / q := by
  have hg : 0 < Nat.gcd N D := Nat.gcd_pos_of_pos_right _ hD
  have h1 : N / Nat.gcd N D * Nat.gcd N D = N := Nat.div_mul_cancel (Nat.gcd_dvd_left N D)
  have h2 : D / Nat.gcd N D * Nat.gcd N D = D := Nat.div_mul_cancel (Nat.gcd_dvd_right N D)
  have e1 : (q * (D / Nat.gcd N D)) * Nat.gcd N D = q * D := by rw [Nat.mul_assoc, h2]
  have e2 : (N / Nat.gcd N D * p) * Nat.gcd N D = N * p := by rw [Nat.mul_right_comm, h1]
  rw [← Nat.mul_lt_mul_right hg, e1, e2]
  have e3 : ((N : Int) * p + q - 1) = ((N * p : Nat) : Int) + q - 1 := by push_cast; rfl
  have e4 : ((q * D : Nat) : Int) = (q : Int) * D := by push_cast; rfl
  rw [e3]
  have hq' : (0 : Int) < q := by omega
  constructor
  · intro h
    have : (D : Int) + 1 ≤ (((N * p : Nat) : Int) + q - 1) / q := by
      rw [Int.le_ediv_iff_mul_le hq', Int.add_mul, Int.mul_comm]
      omega
    omega
  · intro h
    have : (D : Int) + 1 ≤ (((N * p : Nat) : Int) + q - 1) / q := by omega
    rw [Int.le_ediv_iff_mul_le hq', Int.add_mul, Int.mul_comm] at this
    omega

theorem F.sis_ok {l : List Cap} {m : Ratio} {g : Int} (h : F.chkC l = 0) (hs : F.smC l = true) (hm : F.mxOK m = true) (hg : F.tm g = true) : F.sisA m l (F.mapN (F.slC m g) l) (F.slF m g l 0) = true := by
  simp only [F.sisA, decide_eq_true_eq]
  refine ⟨F.mapN_len _ _, fun i x y hx hy => ?_⟩
  obtain ⟨y', h1, rfl⟩ := F.mapN_at _ _ _ _ hx
  rw [hy] at h1
  cases h1
  have hmem := List.mem_of_getElem? hy
  obtain ⟨q, hq⟩ := F.chk_at h hmem
  have hcap := F.chk_cap h hmem
  obtain ⟨f1, f2, f3, f4, f5⟩ := F.capOK_iff hcap
  obtain ⟨⟨⟨m1, m2⟩, m3⟩, m4⟩ := F.mxOK_iff.1 hm
  obtain ⟨b1, b2, b3, b4⟩ := F.need_bd hm hcap
  have hg := F.tm_iff.1 hg
  generalize hnx : l[i + 1]? = nx
  have t1 : y.to ≤ F.slTo m g nx y := by unfold F.slTo; omega
  have t2 : F.slTo m g nx y ≤ 359999999 := by
    unfold F.slTo F.room
    cases nx <;> simp only <;> omega
  have hone : F.chkC [F.slC m g nx y] = 0 := F.chk_one hq rfl t1 t2 rfl rfl
  have hsp : F.speed (F.slC m g nx y) = (F.spd (F.slC m g nx y), 0) := by
    unfold F.speed
    rw [hone]; rfl
  have hhas := F.has_slF m g l 0 i y hy
  rw [Nat.zero_add, hnx] at hhas
  have hch := (F.ch_ok hcap).2
  generalize hc' : F.slC m g nx y = c' at hsp ⊢
  have q1 : c'.fr = y.fr := by subst hc'; rfl
  have q2 : c'.to = F.slTo m g nx y := by subst hc'; rfl
  have q3 : c'.lines = y.lines := by subst hc'; rfl
  have n1 : F.spN c' = 1000 * F.chN y.lines := by unfold F.spN; rw [q3]
  have n2 : (F.spD c' : Int) = F.slTo m g nx y - y.fr := by unfold F.spD; rw [q1, q2]; omega
  unfold F.sisP
  rw [hsp, hhas, q3, q1]
  have e1 : F.smL y.lines = true := F.smC_at hs hmem
  have e2 : F.lt c'.to y.to = false := decide_eq_false (by rw [q2]; omega)
  rw [e1, e2]
  simp only [beq_self_eq_true, Bool.true_and, Bool.and_true, Bool.not_false, beq_iff_eq]
  unfold F.spd
  simp only
  have n3 : 0 < F.spD c' := by omega
  obtain ⟨p, hp⟩ : ∃ p : Nat, m.den = p := ⟨m.den.toNat, by omega⟩
  obtain ⟨r, hr⟩ : ∃ r : Nat, m.num = r := ⟨m.num.toNat, by omega⟩
  have key := F.spd_lt (N := F.spN c') (D := F.spD c') (p := p) (q := r) n3 (by omega)
  have l1 := Nat.div_le_self (F.spN c') (Nat.gcd (F.spN c') (F.spD c'))
  have l2 := Nat.div_le_self (F.spD c') (Nat.gcd (F.spN c') (F.spD c'))
  have w1 : r * (F.spD c' / Nat.gcd (F.spN c') (F.spD c')) ≤ 1000000 * 1000000000 := Nat.mul_le_mul (by omega) (by omega)
  have w2 : F.spN c' / Nat.gcd (F.spN c') (F.spD c') * p ≤ 1000000000 * 1000000 := Nat.mul_le_mul (by omega) (by omega)
  have z1 : IntKind.i64.wrap (m.num * ((F.spD c' / Nat.gcd (F.spN c') (F.spD c') : Nat) : Int)) = ((r * (F.spD c' / Nat.gcd (F.spN c') (F.spD c')) : Nat) : Int) := by
    rw [hr, ← Int.natCast_mul, M.wrap_id (by omega) (by omega)]
  have z2 : IntKind.i64.wrap (((F.spN c' / Nat.gcd (F.spN c') (F.spD c') : Nat) : Int) * m.den) = ((F.spN c' / Nat.gcd (F.spN c') (F.spD c') * p : Nat) : Int) := by
    rw [hp, ← Int.natCast_mul, M.wrap_id (by omega) (by omega)]
  rw [z1, z2]
  have nd : F.need m y = ((F.spN c' : Int) * p + r - 1) / r := by
    have n1' : (F.spN c' : Int) = 1000 * (F.chN y.lines : Int) := by rw [n1]; omega
    unfold F.need
    rw [n1', hp, hr]
  unfold F.lt
  rw [nd, ← n2]
  rw [decide_eq_decide, ← key]
  omega

theorem F.slow_no {l : List Cap} {m : Ratio} {g : Int} (h : (F.slow l m g).2.2 ≠ 0) : (F.slow l m g).1 = [] := by
  unfold F.slow at h ⊢
  cases h0 : F.chkC l != 0
  · rw [h0] at h
    cases h1 : F.mxB m g
    · rw [h1] at h; exact absurd rfl h
    · rfl
  · rfl

theorem F.slow_yes {l : List Cap} {m : Ratio} {g : Int} (h : (F.slow l m g).2.2 = 0) (hs : F.smC l = true) :
    (F.slow l m g).1.length ≤ 500 ∧ (F.slow l m g).1.length = l.length ∧ F.sisA m l (F.slow l m g).1 (F.slow l m g).2.1 = true := by
  unfold F.slow at h ⊢
  cases h0 : F.chkC l != 0
  · rw [h0] at h
    have h0 : F.chkC l = 0 := by simpa using h0
    have c2 := F.chk_len h0
    cases h1 : F.mxB m g
    · simp only [cond_false, F.mapN_len]
      simp only [F.mxB, Bool.or_eq_false_iff] at h1
      obtain ⟨⟨h1, h2⟩, h3⟩ := h1
      exact ⟨c2, trivial, F.sis_ok h0 hs (F.mxOK_of h1 h2) (by unfold F.tm; rw [h3]; rfl)⟩
    · rw [h1] at h; cases h
  · rw [h0] at h
    have h : F.chkC l = 0 := h
    rw [h] at h0; cases h0

namespace M

theorem drop_at {α : Type} {xs : List α} {k : Nat} {y : α} (h : xs[k]? = some y) : xs.drop k = y :: xs.drop (k + 1) := by
  have hlt := lt_at h
  rw [List.drop_eq_getElem_cons hlt]
  congr 1
  exact (List.getElem?_eq_some_iff.1 h).2

def stIx (l : List Int) (v : Int) (k : Nat) : St := ⟨[(8, vI k), (7, vI l.length), (1, vI v), (0, .sl (l.map eI))], []⟩

def stIx1 (a : (List Int) × Int × Nat) : St := stIx a.1 a.2.1 a.2.2

theorem stIx_inj (a a' : (List Int) × Int × Nat) (h : stIx1 a = stIx1 a') : a = a' := by
  simp only [stIx1, stIx] at h
  try simp [strs_inj, ints_inj, bools_inj, eCaps_inj, eCap_iff, eL_eCaps_inj, eMchs_inj, eMch_iff, eWrds_inj, eWrd_iff, eFnds_inj, eFnd_iff, eRatios_inj, eRatio_iff, eWays_inj, eWay_iff] at h
  grind

theorem unstIx (l : List Int) (v : Int) (k : Nat) : unenc stIx1 (St.mk [(8, (vI (↑k : Int))), (7, (vI (↑(List.length l) : Int))), (1, (vI v)), (0, AV.sl (List.map eI l))] []) = some (l, v, k) := unenc_of stIx_inj (l, v, k) rfl

theorem unstIx0 (l : List Int) (v : Int) : unenc stIx1 (St.mk [(8, (vI (0 : Int))), (7, (vI (↑(List.length l) : Int))), (1, (vI v)), (0, AV.sl (List.map eI l))] []) = some (l, v, 0) := unenc_of stIx_inj (l, v, 0) rfl

def outIx (l : List Int) (v : Int) (k : Nat) : T (Ex × St) := .ifB (F.found (F.findI (fun y => v == y) k (l.drop k))) (.ret (.ret, ⟨[(4, vI ((F.got (F.findI (fun y => v == y) k (l.drop k)) 0 : Nat) : Int))], []⟩)) (.ret (.exit 0, ⟨[], []⟩))

noncomputable def prlIx (l : List Int) (v : Int) (k : Nat) : Bool := decide (l.length ≤ 9223372036854775807) && decide (k ≤ l.length)

noncomputable def lpIx : Nat × (St → T (Ex × St)) := (2, lpo [8, 7, 1, 0] [] stIx1 (fun a => prlIx a.1 a.2.1 a.2.2) fun a => outIx a.1 a.2.1 a.2.2)

noncomputable def enIx : Env := envH ty noG lks [] [] [] [lpIx]

theorem enIx_ok : EnvOK Tryd.prog enIx := by
  refine envH_ok lks_ok ty_ok ?_ ?_
  · simp
  · simp

theorem evIxL (l : List Int) (v : Int) (k : Nat) : ((exec enIx (loopN Tryd.f73 0) (stIx l v k)).bind (lessX ([8, 7, 1, 0], []) ([], []) ([4], []))).val =
  bif decide ((↑k : Int) < (↑(List.length l) : Int)) then Option.bind (unenc (List.map eI) (List.map eI l)) fun (z : List Int) => bif decide (k < List.length z) then bif v
  == List.getD z k (0 : Int) then some (Ex.ret, St.mk [(4, (vI (↑k : Int)))] []) else some (Ex.normal, St.mk [(8, (vI (IntKind.wrap IntKind.i64 ((↑k : Int) + (1 : Int))))),
  (7, (vI (↑(List.length l) : Int))), (1, (vI v)), (0, AV.sl (List.map eI l))] []) else none else some (Ex.exit (0 : Nat), St.mk [] []) := by kernel_rfl

theorem lpIx_ok (l : List Int) (v : Int) (k : Nat) (hp : prlIx l v k = true) : ∀ ex s', (outIx l v k).val = some (ex, s') → LoopOK enIx (loopN Tryd.f73 0) (stIx l v k) ex s' := by
  simp only [prlIx, Bool.and_eq_true, decide_eq_true_eq] at hp
  refine loop_gen (st := stIx l v) (out := outIx l v) (I := fun k => k ≤ l.length) (n := ([8, 7, 1, 0], [])) (e := ([], [])) (r := ([4], [])) (fun k => l.length - k) ?_ k hp.2
  intro k hk
  by_cases hlt : k < l.length
  · have hy : l[k]? = some l[k] := List.getElem?_eq_getElem hlt
    generalize l[k] = y at hy
    have hd := drop_at hy
    cases hc : (v == y)
    · right
      refine ⟨k + 1, ?_, rfl, hlt, by omega, ?_⟩
      · rw [evIxL]
        simp only [unstIx, unstIx0, prlIx, outIx, etaCap, etaMch, etaWrd, etaFnd, etaRatio, etaWay, Option.bind_some, List.length_map, unStrs, unInts, unBools, unCaps, uneL_eCaps, unMchs, unWrds, unFnds, unRatios, unWays, F.lt, F.le, cond_true, cond_false, Bool.and_true, Bool.true_and, cast_lt hlt, decide_eq_true hlt, next_at hlt hp.1, getD_at hy, hc, stIx]
        try rfl
      · simp only [outIx, hd, F.findI, hc, cond_false]
    · left
      refine ⟨(.ret, ⟨[(4, vI k)], []⟩), ?_, ?_, by simp, rfl⟩
      · rw [evIxL]
        simp only [unstIx, unstIx0, prlIx, outIx, etaCap, etaMch, etaWrd, etaFnd, etaRatio, etaWay, Option.bind_some, List.length_map, unStrs, unInts, unBools, unCaps, uneL_eCaps, unMchs, unWrds, unFnds, unRatios, unWays, F.lt, F.le, cond_true, cond_false, Bool.and_true, Bool.true_and, cast_lt hlt, decide_eq_true hlt, next_at hlt hp.1, getD_at hy, hc, stIx]
      · simp only [outIx, hd, F.findI, hc, cond_true, F.found, F.got]
        rfl
  · have : k = l.length := by omega
    subst this
    left
    refine ⟨(.exit 0, ⟨[], []⟩), ?_, ?_, by simp, rfl⟩
    · rw [evIxL]; simp
    · simp [outIx, F.findI, F.found, T.val]

theorem evIx (l : List Int) (v : Int) : (runF enIx false Tryd.f73 [.sl (l.map eI), vI v]).val =
  Option.bind (unenc stIx1 (St.mk [(8, (vI (0 : Int))), (7, (vI (↑(List.length (List.map eI l)) : Int))), (1, (vI v)), (0, AV.sl (List.map eI l))] [])) fun (z : List Int ×
  Int × Nat) => bif decide (List.length z.fst ≤ (9223372036854775807 : Nat)) && decide (z.snd.snd ≤ List.length z.fst) && true then bif F.found (F.findI (fun (y : Int) =>
  z.snd.fst == y) z.snd.snd (List.drop z.snd.snd z.fst)) then some ((vI (↑(F.got (F.findI (fun (y : Int) => z.snd.fst == y) z.snd.snd (List.drop z.snd.snd z.fst)) (0 : Nat))
  : Int)), []) else some ((vI (-1 : Int)), []) else none := by kernel_rfl

def encIx1 (l : List Int) (v : Int) : List AV := [.sl (l.map eI), vI v]

def encIx (a : (List Int) × Int) : List AV := encIx1 a.1 a.2

theorem encIx_inj (a a' : (List Int) × Int) (h : encIx a = encIx a') : a = a' := by
  simp only [encIx, encIx1] at h
  try simp [strs_inj, ints_inj, bools_inj, eCaps_inj, eCap_iff, eL_eCaps_inj, eMchs_inj, eMch_iff, eWrds_inj, eWrd_iff, eFnds_inj, eFnd_iff, eRatios_inj, eRatio_iff, eWays_inj, eWay_iff] at h
  grind

theorem unIx (l : List Int) (v : Int) : unenc encIx ([AV.sl (List.map eI l), (vI v)]) = some (l, v) := unenc_of encIx_inj (l, v) rfl

def resIx1 (l : List Int) (v : Int) : AV × Heap := (vI (F.idxI (F.findI (fun y => v == y) 0 l)), [])

def preIx1 (l : List Int) (v : Int) : Bool := true

noncomputable def oIx : Orc := orc 73 true encIx (fun a => preIx1 a.1 a.2) fun a => resIx1 a.1 a.2

theorem okIx : OrcOK Tryd.prog noG oIx := by
  refine mk_ok Tryd.f73 (keep := false) (by kernel_rfl) (by kernel_rfl) enIx_ok mixed (one_loop (x0 := loopN Tryd.f73 0) (by kernel_rfl) (lpo_ok ?_)) (by first | exact fun _ _ => ⟨rfl, rfl⟩ | (intro h; cases h)) ?_
  · rintro ⟨l, v, k⟩ hp
    exact lpIx_ok l v k hp
  rintro ⟨l, v⟩ hpre hok
  show (runF enIx false _ (encIx1 _ _)).val = some (resIx1 _ _)
  unfold encIx1 resIx1
  rw [evIx]
  have hx : l.length ≤ 9223372036854775807 := by simpa using (okA_sl (hok _ (List.mem_cons_self ..))).1
  simp only [unstIx, unstIx0, prlIx, outIx, etaCap, etaMch, etaWrd, etaFnd, etaRatio, etaWay, Option.bind_some, List.length_map, unStrs, unInts, unBools, unCaps, uneL_eCaps, unMchs, unWrds, unFnds, unRatios, unWays, F.lt, F.le, cond_true, cond_false, Bool.and_true, Bool.true_and, hx, List.drop_zero, Nat.zero_le, decide_true, F.idxI]
  cases F.found (F.findI (fun y => v == y) 0 l) <;> rfl

noncomputable def enHas : Env := envH ty noG lks [oIx] [] [] []

theorem enHas_ok : EnvOK Tryd.prog enHas := by
  refine envH_ok lks_ok ty_ok ?_ ?_
  · simp only [List.forall_mem_cons]
    exact ⟨okIx, by simp⟩
  · simp

theorem evHas (l : List Int) (v : Int) : (runF enHas false Tryd.f37 [.sl (l.map eI), vI v]).val =
  Option.bind (unenc encIx [AV.sl (List.map eI l), (vI v)]) fun (z : List Int × Int) => some ((vB (decide ((0 : Int) ≤ F.idxI (F.findI (fun (y : Int) => z.snd == y) (0 :
  Nat) z.fst)))), []) := by kernel_rfl

def encHas1 (l : List Int) (v : Int) : List AV := [.sl (l.map eI), vI v]

def encHas (a : (List Int) × Int) : List AV := encHas1 a.1 a.2

theorem encHas_inj (a a' : (List Int) × Int) (h : encHas a = encHas a') : a = a' := by
  simp only [encHas, encHas1] at h
  try simp [strs_inj, ints_inj, bools_inj, eCaps_inj, eCap_iff, eL_eCaps_inj, eMchs_inj, eMch_iff, eWrds_inj, eWrd_iff, eFnds_inj, eFnd_iff, eRatios_inj, eRatio_iff, eWays_inj, eWay_iff] at h
  grind

theorem unHas (l : List Int) (v : Int) : unenc encHas ([AV.sl (List.map eI l), (vI v)]) = some (l, v) := unenc_of encHas_inj (l, v) rfl

def resHas1 (l : List Int) (v : Int) : AV × Heap := (vB (F.hasI v l), [])

def preHas1 (l : List Int) (v : Int) : Bool := true

noncomputable def oHas : Orc := orc 37 true encHas (fun a => preHas1 a.1 a.2) fun a => resHas1 a.1 a.2

theorem okHas : OrcOK Tryd.prog noG oHas := by
  refine mk_ok Tryd.f37 (keep := false) (by kernel_rfl) (by kernel_rfl) enHas_ok mixed (no_loops (by kernel_rfl)) (by first | exact fun _ _ => ⟨rfl, rfl⟩ | (intro h; cases h)) ?_
  rintro ⟨l, v⟩ hpre hok
  show (runF enHas false _ (encHas1 _ _)).val = some (resHas1 _ _)
  unfold encHas1 resHas1
  rw [evHas]
  simp only [unIx, preIx1, etaCap, etaMch, etaWrd, etaFnd, etaRatio, etaWay, Option.bind_some, List.length_map, unStrs, unInts, unBools, unCaps, uneL_eCaps, unMchs, unWrds, unFnds, unRatios, unWays, F.lt, F.le, cond_true, cond_false, Bool.and_true, Bool.true_and, F.idx_any, F.hasI]

def stLSs (m : Ratio) (l : List Cap) (xs : List Cap) (fs : List Int) (k : Nat) : St := ⟨[(41, vI k), (40, vI xs.length), (39, .sl (xs.map eCap)), (8, .sl (fs.map eI)), (4, .ptr 4 0 0), (0, .sl (l.map eCap))], [(4, ⟨true, 0, 0, [eRatio m]⟩)]⟩

def stLSs1 (a : Ratio × (List Cap) × (List Cap) × (List Int) × Nat) : St := stLSs a.1 a.2.1 a.2.2.1 a.2.2.2.1 a.2.2.2.2

theorem stLSs_inj (a a' : Ratio × (List Cap) × (List Cap) × (List Int) × Nat) (h : stLSs1 a = stLSs1 a') : a = a' := by
  simp only [stLSs1, stLSs] at h
  try simp [strs_inj, ints_inj, bools_inj, eCaps_inj, eCap_iff, eL_eCaps_inj, eMchs_inj, eMch_iff, eWrds_inj, eWrd_iff, eFnds_inj, eFnd_iff, eRatios_inj, eRatio_iff, eWays_inj, eWay_iff] at h
  grind

theorem unstLSs (m : Ratio) (l : List Cap) (xs : List Cap) (fs : List Int) (k : Nat) : unenc stLSs1 (St.mk [(41, (vI (↑k : Int))), (40, (vI (↑(List.length xs) : Int))), (39, AV.sl (List.map eCap xs)), (8, AV.sl (List.map eI fs)), (4, .ptr 4 0 0), (0, AV.sl (List.map eCap
  l))] [(4, Blk.mk true 0 0 [[(vI m.num), (vI m.den)]])]) = some (m, l, xs, fs, k) := unenc_of stLSs_inj (m, l, xs, fs, k) rfl

theorem unstLSs0 (m : Ratio) (l : List Cap) (xs : List Cap) (fs : List Int) : unenc stLSs1 (St.mk [(41, (vI (0 : Int))), (40, (vI (↑(List.length xs) : Int))), (39, AV.sl (List.map eCap xs)), (8, AV.sl (List.map eI fs)), (4, .ptr 4 0 0), (0, AV.sl (List.map eCap
  l))] [(4, Blk.mk true 0 0 [[(vI m.num), (vI m.den)]])]) = some (m, l, xs, fs, 0) := unenc_of stLSs_inj (m, l, xs, fs, 0) rfl

def outLSs (m : Ratio) (l : List Cap) (xs : List Cap) (fs : List Int) (k : Nat) : T (Ex × St) := .ret (.exit 0, ⟨[], []⟩)

noncomputable def prlLSs (m : Ratio) (l : List Cap) (xs : List Cap) (fs : List Int) (k : Nat) : Bool := decide (xs.length ≤ 500) && decide (k ≤ xs.length) && F.sisA m l xs fs

noncomputable def lpLSs : Nat × (St → T (Ex × St)) := (7, lpo [41, 40, 39, 8, 4, 0] [4] stLSs1 (fun a => prlLSs a.1 a.2.1 a.2.2.1 a.2.2.2.1 a.2.2.2.2) fun a => outLSs a.1 a.2.1 a.2.2.1 a.2.2.2.1 a.2.2.2.2)

noncomputable def enLSs : Env := envH ty noG lks [oSl, oAwk, oSp, oHas] [] [] [lpLSs]

theorem enLSs_ok : EnvOK Tryd.prog enLSs := by
  refine envH_ok lks_ok ty_ok ?_ ?_
  · simp only [List.forall_mem_cons]
    exact ⟨okSl, okAwk, okSp, okHas, by simp⟩
  · simp

theorem evLSsL (m : Ratio) (l : List Cap) (xs : List Cap) (fs : List Int) (k : Nat) : ((exec enLSs (loopN Tryd.f10 0) (stLSs m l xs fs k)).bind (lessX ([41, 40, 39, 8, 4, 0], [4]) ([], []) ([6], []))).val =
  bif decide ((↑k : Int) < (↑(List.length xs) : Int)) then Option.bind (unenc (List.map eCap) (List.map eCap xs)) fun (z : List Cap) => bif decide (k < List.length z) then
  Option.bind (unenc encSp [AV.agg [(vI (List.getD z k (Cap.mk (0 : Int) (0 : Int) [] (0 : Int) false false)).fr), (vI (List.getD z k (Cap.mk (0 : Int) (0 : Int) [] (0 :
  Int) false false)).to), AV.sl (List.map eStr (List.getD z k (Cap.mk (0 : Int) (0 : Int) [] (0 : Int) false false)).lines), (vI (List.getD z k (Cap.mk (0 : Int) (0 : Int)
  [] (0 : Int) false false)).row), (vB (List.getD z k (Cap.mk (0 : Int) (0 : Int) [] (0 : Int) false false)).bef), (vB (List.getD z k (Cap.mk (0 : Int) (0 : Int) [] (0 :
  Int) false false)).aft)]]) fun (z_1 : Cap) => bif F.smL z_1.lines then bif !(F.speed z_1).snd != (0 : Int) then Option.bind (unenc (List.map eCap) (List.map eCap l)) fun
  (z_2 : List Cap) => bif decide (k < List.length z_2) then bif !bif (F.speed z_1).snd != (0 : Int) then true else (List.getD z k (Cap.mk (0 : Int) (0 : Int) [] (0 : Int)
  false false)).fr != (List.getD z_2 k (Cap.mk (0 : Int) (0 : Int) [] (0 : Int) false false)).fr then Option.bind (unenc (List.map eCap) (List.map eCap l)) fun (z_3 : List
  Cap) => bif decide (k < List.length z_3) then bif bif bif (F.speed z_1).snd != (0 : Int) then true else (List.getD z k (Cap.mk (0 : Int) (0 : Int) [] (0 : Int) false
  false)).fr != (List.getD z_2 k (Cap.mk (0 : Int) (0 : Int) [] (0 : Int) false false)).fr then true else decide ((List.getD z k (Cap.mk (0 : Int) (0 : Int) [] (0 : Int)
  false false)).to < (List.getD z_3 k (Cap.mk (0 : Int) (0 : Int) [] (0 : Int) false false)).to) then some (Ex.ret, St.mk [(6, (vB false))] []) else Option.bind (unenc
  encHas [AV.sl (List.map eI fs), (vI (↑k : Int))]) fun (z : List Int × Int) => bif !decide (IntKind.wrap IntKind.i64 (m.num * (F.speed z_1).fst.den) < IntKind.wrap
  IntKind.i64 ((F.speed z_1).fst.num * m.den)) == F.hasI z.snd z.fst then some (Ex.ret, St.mk [(6, (vB false))] []) else some (Ex.normal, St.mk [(41, (vI (IntKind.wrap
  IntKind.i64 ((↑k : Int) + (1 : Int))))), (40, (vI (↑(List.length xs) : Int))), (39, AV.sl (List.map eCap xs)), (8, AV.sl (List.map eI fs)), (4, .ptr 4 0 0), (0, AV.sl
  (List.map eCap l))] [(4, Blk.mk true 0 0 [[(vI m.num), (vI m.den)]])]) else none else bif !bif (F.speed z_1).snd != (0 : Int) then true else (List.getD z k (Cap.mk (0 :
  Int) (0 : Int) [] (0 : Int) false false)).fr != (List.getD z_2 k (Cap.mk (0 : Int) (0 : Int) [] (0 : Int) false false)).fr then none else bif !bif (F.speed z_1).snd != (0
  : Int) then true else (List.getD z k (Cap.mk (0 : Int) (0 : Int) [] (0 : Int) false false)).fr != (List.getD z_2 k (Cap.mk (0 : Int) (0 : Int) [] (0 : Int) false
  false)).fr then none else bif !bif (F.speed z_1).snd != (0 : Int) then true else (List.getD z k (Cap.mk (0 : Int) (0 : Int) [] (0 : Int) false false)).fr != (List.getD z_2
  k (Cap.mk (0 : Int) (0 : Int) [] (0 : Int) false false)).fr then none else some (Ex.ret, St.mk [(6, (vB false))] []) else none else bif !(F.speed z_1).snd != (0 : Int)
  then none else bif !(F.speed z_1).snd != (0 : Int) then none else bif !(F.speed z_1).snd != (0 : Int) then none else some (Ex.ret, St.mk [(6, (vB false))] []) else none
  else none else some (Ex.exit (0 : Nat), St.mk [] []) := by kernel_rfl

theorem lpLSs_ok (m : Ratio) (l : List Cap) (xs : List Cap) (fs : List Int) (k : Nat) (hp : prlLSs m l xs fs k = true) : ∀ ex s', (outLSs m l xs fs k).val = some (ex, s') → LoopOK enLSs (loopN Tryd.f10 0) (stLSs m l xs fs k) ex s' := by
  simp only [prlLSs, Bool.and_eq_true, decide_eq_true_eq] at hp
  obtain ⟨⟨h1, h2⟩, h3⟩ := hp
  have h3 : xs.length = l.length ∧ ∀ (i : Nat) (x y : Cap), xs[i]? = some x → l[i]? = some y → F.sisP m fs x y i = true := by simpa [F.sisA] using h3
  intro ex s' hh
  refine loop_fold (xs := xs) (st := fun (_ : Unit) k => stLSs m l xs fs k) (f := fun a _ => a) (fin := fun _ => (.exit 0, ⟨[], []⟩)) (I := fun _ _ => True) (n := ([41, 40, 39, 8, 4, 0], [4])) (e := ([], [])) (r := ([6], [])) ?_ (fun _ => ⟨by simp, rfl⟩) (fun _ _ => rfl) ?_ () k h2 trivial ex s' hh
  · intro a _
    rw [evLSsL]
    simp
  · intro a k x hy _
    have hlt := lt_at hy
    have hll : k < l.length := by omega
    have hz : l[k]? = some l[k] := List.getElem?_eq_getElem hll
    generalize l[k] = y at hz
    have hs := h3.2 k x y hy hz
    simp only [F.sisP, Bool.and_eq_true, beq_iff_eq, Bool.not_eq_true'] at hs
    obtain ⟨⟨⟨⟨s1, s2⟩, s3⟩, s4⟩, s5⟩ := hs
    have s4 : decide (x.to < y.to) = false := s4
    refine ⟨?_, trivial⟩
    rw [evLSsL]
    simp only [unSl, unAwk, unSp, unHas, unSlw, unSpw, preSl1, preAwk1, preSp1, preHas1, unstLSs, unstLSs0, prlLSs, outLSs, etaCap, etaMch, etaWrd, etaFnd, etaRatio, etaWay, Option.bind_some, List.length_map, unStrs, unInts, unBools, unCaps, uneL_eCaps, unMchs, unWrds, unFnds, unRatios, unWays, F.lt, F.le, cond_true, cond_false, Bool.and_true, Bool.true_and, cast_lt hlt, decide_eq_true hlt, decide_eq_true hll, next_at hlt (by omega : xs.length ≤ 9223372036854775807), getD_at hy, getD_at hz, stLSs, s1, s2, s3, s4, s5, bne_self_eq_false, bne, beq_self_eq_true, Bool.not_true, Bool.not_false]
    rfl

theorem evLSs (l : List Cap) (m : Ratio) (g : Int) : (runF enLSs false Tryd.f10 [.sl (l.map eCap), .agg (eRatio m), vI g]).val =
  Option.bind (unenc encSl [AV.sl (List.map eCap l), AV.agg [(vI m.num), (vI m.den)], (vI g)]) fun (z : List Cap × Ratio × Int) => bif F.smC z.fst then bif (F.slow z.fst
  z.snd.fst z.snd.snd).snd.snd != (0 : Int) then bif (↑(List.length (List.map eCap (F.slow z.fst z.snd.fst z.snd.snd).fst)) : Int) == (0 : Int) then Option.bind (unenc
  encAwk []) fun (z_1 : Unit) => some ((vB (bif (↑(List.length (List.map eCap (F.slow z.fst z.snd.fst z.snd.snd).fst)) : Int) == (0 : Int) then true else false)), []) else
  some ((vB false), []) else bif !(↑(List.length (List.map eCap (F.slow z.fst z.snd.fst z.snd.snd).fst)) : Int) != (↑(List.length (List.map eCap l)) : Int) then Option.bind
  (unenc encAwk []) fun (z_1 : Unit) => bif bif (↑(List.length (List.map eCap (F.slow z.fst z.snd.fst z.snd.snd).fst)) : Int) != (↑(List.length (List.map eCap l)) : Int)
  then true else false then some ((vB false), []) else Option.bind (unenc stLSs1 (St.mk [(41, (vI (0 : Int))), (40, (vI (↑(List.length (List.map eCap (F.slow z.fst z.snd.fst
  z.snd.snd).fst)) : Int))), (39, AV.sl (List.map eCap (F.slow z.fst z.snd.fst z.snd.snd).fst)), (8, AV.sl (List.map eI (F.slow z.fst z.snd.fst z.snd.snd).snd.fst)), (4,
  .ptr 4 0 0), (0, AV.sl (List.map eCap l))] [(4, Blk.mk true 0 0 [[(vI m.num), (vI m.den)]])])) fun (z : Ratio × List Cap × List Cap × List Int × Nat) => bif decide
  (List.length z.snd.snd.fst ≤ (500 : Nat)) && decide (z.snd.snd.snd.snd ≤ List.length z.snd.snd.fst) && F.sisA z.fst z.snd.fst z.snd.snd.fst z.snd.snd.snd.fst && true then
  some ((vB true), []) else none else bif !(↑(List.length (List.map eCap (F.slow z.fst z.snd.fst z.snd.snd).fst)) : Int) != (↑(List.length (List.map eCap l)) : Int) then
  none else some ((vB false), []) else none := by kernel_rfl

def encLSs1 (l : List Cap) (m : Ratio) (g : Int) : List AV := [.sl (l.map eCap), .agg (eRatio m), vI g]

def encLSs (a : (List Cap) × Ratio × Int) : List AV := encLSs1 a.1 a.2.1 a.2.2

theorem encLSs_inj (a a' : (List Cap) × Ratio × Int) (h : encLSs a = encLSs a') : a = a' := by
  simp only [encLSs, encLSs1] at h
  try simp [strs_inj, ints_inj, bools_inj, eCaps_inj, eCap_iff, eL_eCaps_inj, eMchs_inj, eMch_iff, eWrds_inj, eWrd_iff, eFnds_inj, eFnd_iff, eRatios_inj, eRatio_iff, eWays_inj, eWay_iff] at h
  grind

theorem unLSs (l : List Cap) (m : Ratio) (g : Int) : unenc encLSs ([AV.sl (List.map eCap l), AV.agg [(vI m.num), (vI m.den)], (vI g)]) = some (l, m, g) := unenc_of encLSs_inj (l, m, g) rfl

theorem unLSsw (l : List Cap) (m_num : Int) (m_den : Int) (g : Int) : unenc encLSs ([AV.sl (List.map eCap l), AV.agg [(vI m_num), (vI m_den)], (vI g)]) = some (l, (Ratio.mk m_num m_den), g) := unenc_of encLSs_inj (l, (Ratio.mk m_num m_den), g) rfl

def resLSs1 (l : List Cap) (m : Ratio) (g : Int) : AV × Heap := (vB true, [])

def preLSs1 (l : List Cap) (m : Ratio) (g : Int) : Bool := F.smC l

noncomputable def oLSs : Orc := orc 10 false encLSs (fun a => preLSs1 a.1 a.2.1 a.2.2) fun a => resLSs1 a.1 a.2.1 a.2.2

theorem okLSs : OrcOK Tryd.prog noG oLSs := by
  refine mk_ok Tryd.f10 (keep := false) (by kernel_rfl) (by kernel_rfl) enLSs_ok mixed (one_loop (x0 := loopN Tryd.f10 0) (by kernel_rfl) (lpo_ok ?_)) (by first | exact fun _ _ => ⟨rfl, rfl⟩ | (intro h; cases h)) ?_
  · rintro ⟨m, l, xs, fs, k⟩ hp
    exact lpLSs_ok m l xs fs k hp
  rintro ⟨l, m, g⟩ hpre hok
  show (runF enLSs false _ (encLSs1 _ _ _)).val = some (resLSs1 _ _ _)
  unfold encLSs1 resLSs1
  rw [evLSs]
  simp only [preLSs1] at hpre
  simp only [unSl, unAwk, unSp, unHas, unSlw, unSpw, preSl1, preAwk1, preSp1, preHas1, unstLSs, unstLSs0, prlLSs, outLSs, etaCap, etaMch, etaWrd, etaFnd, etaRatio, etaWay, Option.bind_some, List.length_map, unStrs, unInts, unBools, unCaps, uneL_eCaps, unMchs, unWrds, unFnds, unRatios, unWays, F.lt, F.le, cond_true, cond_false, Bool.and_true, Bool.true_and, hpre, bne]
  by_cases h0 : (F.slow l m g).2.2 = 0
  · obtain ⟨c1, c2, c3⟩ := F.slow_yes h0 hpre
    have e1 : (((F.slow l m g).1.length : Nat) : Int) = ((l.length : Nat) : Int) := by omega
    rw [c2] at c1
    simp only [h0, e1, beq_self_eq_true, Bool.not_true, cond_false, c2, c3, decide_eq_true c1, Nat.zero_le, decide_true, Bool.and_true, Bool.and_self, cond_true, Bool.not_false]
  · have c1 := F.slow_no h0
    have e1 : ((F.slow l m g).2.2 == 0) = false := by simpa using h0
    simp only [e1, c1, List.length_nil, Bool.not_false, cond_true, Int.natCast_zero, beq_self_eq_true]

end M
end Go.Proofs.YtniealifncgilaaDoor
