/- What is proved here: Speed of both (no statement of the seat). -/
import Derived.Test.YtniealifncgilaaDoorC13
namespace Go.Proofs.YtniealifncgilaaDoor
open Go Go.RowKit
set_option linter.unusedVariables false
set_option linter.unusedSimpArgs false

def F.chN (ls : List ByteArray) : Nat := (ls.map Lib.runeCount).sum

theorem F.chF_eq : ∀ (ls : List ByteArray) (a : Nat), (∀ s ∈ ls, s.size ≤ 200) → a + 200 * ls.length ≤ 1000000 → F.chF a ls = ((a + F.chN ls : Nat) : Int) ∧ F.chN ls ≤ 200 * ls.length
  | [], a, _, _ => by simp [F.chF, F.chN]
  | s :: ls, a, h, hb => by
    have h1 := h s (List.mem_cons_self ..)
    have h2 := Lib.runeCount_le s
    simp only [List.length_cons] at hb
    have ih := F.chF_eq ls (a + Lib.runeCount s) (fun x hx => h x (List.mem_cons_of_mem _ hx)) (by omega)
    have hw : IntKind.i64.wrap ((a : Int) + F.runes s) = ((a + Lib.runeCount s : Nat) : Int) := by
      rw [M.wrap_id (by unfold F.runes; omega) (by unfold F.runes; omega)]
      unfold F.runes; omega
    constructor
    · show List.foldl _ _ (s :: ls) = _
      rw [List.foldl_cons, hw]
      have := ih.1
      unfold F.chF at this
      rw [this]
      simp only [F.chN, List.map_cons, List.sum_cons]
      omega
    · simp only [F.chN, List.map_cons, List.sum_cons, List.length_cons] at ih ⊢
      omega

/-- A caption as it has to be. -/
def F.capOK (c : Cap) : Bool := F.tm c.fr && F.tm c.to && F.lt c.fr c.to && decide (c.lines.length ≤ 15) && F.allL c.lines

theorem F.chk_cap {l : List Cap} (h : F.chkC l = 0) {c : Cap} (hc : c ∈ l) : F.capOK c = true := by
  obtain ⟨q, hq⟩ := F.chk_at h hc
  obtain ⟨h1, h2, h3, _, _, h4⟩ := F.capF_ok hq
  obtain ⟨_, g1, g2⟩ := F.linesF_ok h4
  have h5 : c.fr < c.to := by
    unfold F.le at h3
    have := of_decide_eq_false h3; omega
  simp only [F.capOK, F.tm, h1, h2, g2, F.lt, decide_eq_true h5, decide_eq_true g1]; rfl

theorem F.capOK_iff {c : Cap} (h : F.capOK c = true) : (0 ≤ c.fr ∧ c.fr ≤ 359999999) ∧ (0 ≤ c.to ∧ c.to ≤ 359999999) ∧ c.fr < c.to ∧ c.lines.length ≤ 15 ∧ ∀ s ∈ c.lines, s.size ≤ 200 := by
  simp only [F.capOK, Bool.and_eq_true, F.lt, decide_eq_true_eq, F.tm_iff] at h
  obtain ⟨⟨⟨⟨h1, h2⟩, h3⟩, h4⟩, h5⟩ := h
  refine ⟨h1, h2, h3, h4, fun s hs => ?_⟩
  have := List.all_eq_true.1 h5 s hs
  simp only [F.line, Bool.and_eq_true, decide_eq_true_eq] at this
  exact this.1

/-- What is read in a thousand milliseconds, and the milliseconds. -/
def F.spN (c : Cap) : Nat := 1000 * F.chN c.lines

def F.spD (c : Cap) : Nat := (c.to - c.fr).toNat

theorem F.ch_ok {c : Cap} (h : F.capOK c = true) : F.chF 0 c.lines = (F.chN c.lines : Int) ∧ F.chN c.lines ≤ 3000 := by
  obtain ⟨_, _, _, h1, h2⟩ := F.capOK_iff h
  have := F.chF_eq c.lines 0 h2 (by omega)
  refine ⟨by rw [show (0 : Int) = ((0 : Nat) : Int) from rfl, this.1]; simp, by omega⟩

def F.spd (c : Cap) : Ratio := ⟨((F.spN c / Nat.gcd (F.spN c) (F.spD c) : Nat) : Int), ((F.spD c / Nat.gcd (F.spN c) (F.spD c) : Nat) : Int)⟩

def F.speed (c : Cap) : Ratio × Int := bif F.chkC [c] != 0 then (⟨0, 0⟩, F.chkC [c]) else (F.spd c, 0)

namespace M

theorem wrap_nat {n : Nat} (h : n ≤ 9223372036854775807) : IntKind.i64.wrap (n : Int) = (n : Int) := wrap_id (by omega) (by omega)

theorem eOne (c : Cap) : [[vI c.fr, vI c.to, .sl (c.lines.map eStr), vI c.row, vB c.bef, vB c.aft]] = [c].map eCap := rfl

def stSp (a : Nat) (b : Nat) (n : Int) (d : Int) : St := ⟨[(8, vI b), (7, vI a), (6, vI d), (5, vI n), (2, .ptr 2 0 0)], [(2, ⟨true, 0, 0, [[vI 0, vI 0]]⟩)]⟩

def stSp1 (a : Nat × Nat × Int × Int) : St := stSp a.1 a.2.1 a.2.2.1 a.2.2.2

theorem stSp_inj (a a' : Nat × Nat × Int × Int) (h : stSp1 a = stSp1 a') : a = a' := by
  simp only [stSp1, stSp] at h
  try simp [strs_inj, ints_inj, bools_inj, eCaps_inj, eCap_iff, eL_eCaps_inj, eMchs_inj, eMch_iff, eWrds_inj, eWrd_iff, eFnds_inj, eFnd_iff, eRatios_inj, eRatio_iff, eWays_inj, eWay_iff] at h
  grind

theorem unstSp (a : Nat) (b : Nat) (n : Int) (d : Int) : unenc stSp1 (St.mk [(8, (vI (↑b : Int))), (7, (vI (↑a : Int))), (6, (vI d)), (5, (vI n)), (2, .ptr 2 0 0)] [(2, Blk.mk true 0 0 [[(vI (0 : Int)), (vI (0 : Int))]])]) = some (a, b, n, d) := unenc_of stSp_inj (a, b, n, d) rfl

def outSp (a : Nat) (b : Nat) (n : Int) (d : Int) : T (Ex × St) := .ret (.exit 0, ⟨[(7, vI (Nat.gcd a b : Nat)), (6, vI d), (5, vI n), (2, .ptr 2 0 0)], [(2, ⟨true, 0, 0, [[vI 0, vI 0]]⟩)]⟩)

noncomputable def prlSp (a : Nat) (b : Nat) (n : Int) (d : Int) : Bool := decide (a ≤ 1000000000) && decide (b ≤ 1000000000)

noncomputable def lpSp : Nat × (St → T (Ex × St)) := (6, lpo [8, 7, 6, 5, 2] [2] stSp1 (fun a => prlSp a.1 a.2.1 a.2.2.1 a.2.2.2) fun a => outSp a.1 a.2.1 a.2.2.1 a.2.2.2)

noncomputable def enSp : Env := envH ty noG lks [oChC, oChs] [] [] [lpSp]

theorem enSp_ok : EnvOK Tryd.prog enSp := by
  refine envH_ok lks_ok ty_ok ?_ ?_
  · simp only [List.forall_mem_cons]
    exact ⟨okChC, okChs, by simp⟩
  · simp

theorem evSpL (a : Nat) (b : Nat) (n : Int) (d : Int) : ((exec enSp (loopN Tryd.f24 0) (stSp a b n d)).bind (lessX ([8, 7, 6, 5, 2], [2]) ([7, 6, 5, 2], [2]) ([], []))).val =
  bif (↑b : Int) != (0 : Int) then bif (↑b : Int) == (0 : Int) then none else some (Ex.normal, St.mk [(8, (vI (Int.tmod (↑a : Int) (↑b : Int)))), (7, (vI (↑b : Int))), (6,
  (vI d)), (5, (vI n)), (2, .ptr 2 0 0)] [(2, Blk.mk true 0 0 [[(vI (0 : Int)), (vI (0 : Int))]])]) else some (Ex.exit (0 : Nat), St.mk [(7, (vI (↑a : Int))), (6, (vI d)),
  (5, (vI n)), (2, .ptr 2 0 0)] [(2, Blk.mk true 0 0 [[(vI (0 : Int)), (vI (0 : Int))]])]) := by kernel_rfl

theorem lpSp_ok (a : Nat) (b : Nat) (n : Int) (d : Int) (hp : prlSp a b n d = true) : ∀ ex s', (outSp a b n d).val = some (ex, s') → LoopOK enSp (loopN Tryd.f24 0) (stSp a b n d) ex s' := by
  simp only [prlSp, Bool.and_eq_true, decide_eq_true_eq] at hp
  refine loop_gen (st := fun a : Nat × Nat => stSp a.1 a.2 n d) (out := fun a => outSp a.1 a.2 n d) (I := fun a => a.1 ≤ 1000000000 ∧ a.2 ≤ 1000000000) (n := ([8, 7, 6, 5, 2], [2])) (e := ([7, 6, 5, 2], [2])) (r := ([], [])) (fun a => a.2) ?_ (a, b) hp
  rintro ⟨a, b⟩ ⟨h1, h2⟩
  simp only at h1 h2
  by_cases hb : b = 0
  · subst hb
    left
    refine ⟨(.exit 0, ⟨[(7, vI a), (6, vI d), (5, vI n), (2, .ptr 2 0 0)], [(2, ⟨true, 0, 0, [[vI 0, vI 0]]⟩)]⟩), ?_, ?_, by simp, rfl⟩
    · rw [evSpL]; rfl
    · simp only [outSp, Nat.gcd_zero_right]; rfl
  · right
    have hlt := Nat.mod_lt a (Nat.pos_of_ne_zero hb)
    have hm : ((a : Int)).tmod (b : Int) = ((a % b : Nat) : Int) := rfl
    have hw : IntKind.i64.wrap ((a % b : Nat) : Int) = ((a % b : Nat) : Int) := wrap_id (by omega) (by omega)
    have hne : ((b : Int) != 0) = true := by simp; omega
    have hne2 : ((b : Int) == 0) = false := by simp; omega
    refine ⟨(b, a % b), ?_, rfl, ⟨h2, by simp only; omega⟩, by simp only; omega, ?_⟩
    · rw [evSpL]
      simp only [hne, hne2, hm, hw, cond_true, cond_false, stSp]
    · simp only [outSp, Nat.gcd_comm a b, Nat.gcd_rec b a, Nat.gcd_comm (a % b) b]

theorem evSp (c : Cap) : (runF enSp false Tryd.f24 [.agg (eCap c)]).val =
  Option.bind (unenc encChC [AV.sl [[(vI c.fr), (vI c.to), AV.sl (List.map eStr c.lines), (vI c.row), (vB c.bef), (vB c.aft)]]]) fun (z : List Cap) => bif F.smC z then bif
  F.chkC z != (0 : Int) then some (AV.tup [AV.agg [(vI (0 : Int)), (vI (0 : Int))], (vI (F.chkC z))], []) else Option.bind (unenc encChs [AV.agg [(vI c.fr), (vI c.to), AV.sl
  (List.map eStr c.lines), (vI c.row), (vB c.bef), (vB c.aft)]]) fun (z : Cap) => bif F.smL z.lines then Option.bind (unenc stSp1 (St.mk [(8, (vI (IntKind.wrap IntKind.i64
  (c.to - c.fr)))), (7, (vI (IntKind.wrap IntKind.i64 ((1000 : Int) * F.chF (0 : Int) z.lines)))), (6, (vI (IntKind.wrap IntKind.i64 (c.to - c.fr)))), (5, (vI (IntKind.wrap
  IntKind.i64 ((1000 : Int) * F.chF (0 : Int) z.lines)))), (2, .ptr 2 0 0)] [(2, Blk.mk true 0 0 [[(vI (0 : Int)), (vI (0 : Int))]])])) fun (z : Nat × Nat × Int × Int) =>
  bif decide (z.fst ≤ (1000000000 : Nat)) && decide (z.snd.fst ≤ (1000000000 : Nat)) && true then bif (↑(Nat.gcd z.fst z.snd.fst) : Int) == (0 : Int) then none else bif
  (↑(Nat.gcd z.fst z.snd.fst) : Int) == (0 : Int) then none else some (AV.tup [AV.agg [(vI (IntKind.wrap IntKind.i64 (Int.tdiv z.snd.snd.fst (↑(Nat.gcd z.fst z.snd.fst) :
  Int)))), (vI (IntKind.wrap IntKind.i64 (Int.tdiv z.snd.snd.snd (↑(Nat.gcd z.fst z.snd.fst) : Int))))], (vI (0 : Int))], []) else none else none else none := by kernel_rfl

def encSp1 (c : Cap) : List AV := [.agg (eCap c)]

def encSp (a : Cap) : List AV := encSp1 a

theorem encSp_inj (a a' : Cap) (h : encSp a = encSp a') : a = a' := by
  simp only [encSp, encSp1] at h
  try simp [strs_inj, ints_inj, bools_inj, eCaps_inj, eCap_iff, eL_eCaps_inj, eMchs_inj, eMch_iff, eWrds_inj, eWrd_iff, eFnds_inj, eFnd_iff, eRatios_inj, eRatio_iff, eWays_inj, eWay_iff] at h
  grind

theorem unSp (c : Cap) : unenc encSp ([AV.agg [(vI c.fr), (vI c.to), AV.sl (List.map eStr c.lines), (vI c.row), (vB c.bef), (vB c.aft)]]) = some (c) := unenc_of encSp_inj (c) rfl

theorem unSpw (c_fr : Int) (c_to : Int) (c_lines : List ByteArray) (c_row : Int) (c_bef : Bool) (c_aft : Bool) : unenc encSp ([AV.agg [(vI c_fr), (vI c_to), AV.sl (List.map eStr c_lines), (vI c_row), (vB c_bef), (vB c_aft)]]) = some ((Cap.mk c_fr c_to c_lines c_row c_bef c_aft)) := unenc_of encSp_inj ((Cap.mk c_fr c_to c_lines c_row c_bef c_aft)) rfl

def resSp1 (c : Cap) : AV × Heap := (.tup [.agg (eRatio (F.speed c).1), vI (F.speed c).2], [])

def preSp1 (c : Cap) : Bool := F.smL c.lines

noncomputable def oSp : Orc := orc 24 false encSp (fun a => preSp1 a) fun a => resSp1 a

theorem okSp : OrcOK Tryd.prog noG oSp := by
  refine mk_ok Tryd.f24 (keep := false) (by kernel_rfl) (by kernel_rfl) enSp_ok mixed (one_loop (x0 := loopN Tryd.f24 0) (by kernel_rfl) (lpo_ok ?_)) (by first | exact fun _ _ => ⟨rfl, rfl⟩ | (intro h; cases h)) ?_
  · rintro ⟨a, b, n, d⟩ hp
    exact lpSp_ok a b n d hp
  rintro c hpre hok
  show (runF enSp false _ (encSp1 _)).val = some (resSp1 _)
  unfold encSp1 resSp1
  rw [evSp]
  simp only [preSp1] at hpre
  have e0 : F.smC [c] = true := by simp [F.smC, hpre]
  simp only [unChC, unChs, unChsw, preChC1, preChs1, unstSp, prlSp, outSp, etaCap, etaMch, etaWrd, etaFnd, etaRatio, etaWay, Option.bind_some, List.length_map, unStrs, unInts, unBools, unCaps, uneL_eCaps, unMchs, unWrds, unFnds, unRatios, unWays, F.lt, F.le, cond_true, cond_false, Bool.and_true, Bool.true_and, hpre, F.speed, eOne, e0]
  by_cases h0 : F.chkC [c] = 0
  case neg =>
    rw [bne1 h0]; rfl
  rw [bne0 h0]
  have hc := F.chk_cap h0 (List.mem_cons_self ..)
  obtain ⟨c1, c2⟩ := F.ch_ok hc
  obtain ⟨c3, c4, c5, _⟩ := F.capOK_iff hc
  have w1 : IntKind.i64.wrap (c.to - c.fr) = (F.spD c : Int) := by rw [wrap_id (by omega) (by omega)]; unfold F.spD; omega
  have w2 : IntKind.i64.wrap (1000 * F.chF 0 c.lines) = (F.spN c : Int) := by rw [c1, wrap_id (by omega) (by omega)]; unfold F.spN; omega
  have n1 : F.spN c ≤ 1000000000 := by unfold F.spN; omega
  have n2 : F.spD c ≤ 1000000000 := by unfold F.spD; omega
  have n3 : 0 < F.spD c := by unfold F.spD; omega
  have hg : 0 < Nat.gcd (F.spN c) (F.spD c) := Nat.gcd_pos_of_pos_right _ n3
  have hgz : ((Nat.gcd (F.spN c) (F.spD c) : Nat) : Int) ≠ 0 := by omega
  have t1 : (F.spN c : Int).tdiv ((Nat.gcd (F.spN c) (F.spD c) : Nat) : Int) = ((F.spN c / Nat.gcd (F.spN c) (F.spD c) : Nat) : Int) := rfl
  have t2 : (F.spD c : Int).tdiv ((Nat.gcd (F.spN c) (F.spD c) : Nat) : Int) = ((F.spD c / Nat.gcd (F.spN c) (F.spD c) : Nat) : Int) := rfl
  have l1 := Nat.div_le_self (F.spN c) (Nat.gcd (F.spN c) (F.spD c))
  have l2 := Nat.div_le_self (F.spD c) (Nat.gcd (F.spN c) (F.spD c))
  have w3 : IntKind.i64.wrap ((F.spN c / Nat.gcd (F.spN c) (F.spD c) : Nat) : Int) = ((F.spN c / Nat.gcd (F.spN c) (F.spD c) : Nat) : Int) := wrap_nat (by omega)
  have w4 : IntKind.i64.wrap ((F.spD c / Nat.gcd (F.spN c) (F.spD c) : Nat) : Int) = ((F.spD c / Nat.gcd (F.spN c) (F.spD c) : Nat) : Int) := wrap_nat (by omega)
  simp only [cond_false, w1, w2, unstSp, Option.bind_some, decide_eq_true n1, decide_eq_true n2, Bool.and_self, cond_true, beq_eq_false_iff_ne.2 hgz, t1, t2, w3, w4]
  rfl

def stRSp (a : Nat) (b : Nat) (n : Int) (d : Int) : St := ⟨[(8, vI b), (7, vI a), (6, vI d), (5, vI n), (2, .ptr 2 0 0)], [(2, ⟨true, 0, 0, [[vI 0, vI 0]]⟩)]⟩

def stRSp1 (a : Nat × Nat × Int × Int) : St := stRSp a.1 a.2.1 a.2.2.1 a.2.2.2

theorem stRSp_inj (a a' : Nat × Nat × Int × Int) (h : stRSp1 a = stRSp1 a') : a = a' := by
  simp only [stRSp1, stRSp] at h
  try simp [strs_inj, ints_inj, bools_inj, eCaps_inj, eCap_iff, eL_eCaps_inj, eMchs_inj, eMch_iff, eWrds_inj, eWrd_iff, eFnds_inj, eFnd_iff, eRatios_inj, eRatio_iff, eWays_inj, eWay_iff] at h
  grind

theorem unstRSp (a : Nat) (b : Nat) (n : Int) (d : Int) : unenc stRSp1 (St.mk [(8, (vI (↑b : Int))), (7, (vI (↑a : Int))), (6, (vI d)), (5, (vI n)), (2, .ptr 2 0 0)] [(2, Blk.mk true 0 0 [[(vI (0 : Int)), (vI (0 : Int))]])]) = some (a, b, n, d) := unenc_of stRSp_inj (a, b, n, d) rfl

def outRSp (a : Nat) (b : Nat) (n : Int) (d : Int) : T (Ex × St) := .ret (.exit 0, ⟨[(7, vI (Nat.gcd a b : Nat)), (6, vI d), (5, vI n), (2, .ptr 2 0 0)], [(2, ⟨true, 0, 0, [[vI 0, vI 0]]⟩)]⟩)

noncomputable def prlRSp (a : Nat) (b : Nat) (n : Int) (d : Int) : Bool := decide (a ≤ 1000000000) && decide (b ≤ 1000000000)

noncomputable def lpRSp : Nat × (St → T (Ex × St)) := (6, lpo [8, 7, 6, 5, 2] [2] stRSp1 (fun a => prlRSp a.1 a.2.1 a.2.2.1 a.2.2.2) fun a => outRSp a.1 a.2.1 a.2.2.1 a.2.2.2)

noncomputable def enRSp : Env := envH ty noG lks [oRhC, oRd] [] [] [lpRSp]

theorem enRSp_ok : EnvOK Tryd.prog enRSp := by
  refine envH_ok lks_ok ty_ok ?_ ?_
  · simp only [List.forall_mem_cons]
    exact ⟨okRhC, okRd, by simp⟩
  · simp

theorem evRSpL (a : Nat) (b : Nat) (n : Int) (d : Int) : ((exec enRSp (loopN Tryd.f25 0) (stRSp a b n d)).bind (lessX ([8, 7, 6, 5, 2], [2]) ([7, 6, 5, 2], [2]) ([], []))).val =
  bif decide ((0 : Int) < (↑b : Int)) then bif (↑b : Int) == (0 : Int) then none else some (Ex.normal, St.mk [(8, (vI (Int.tmod (↑a : Int) (↑b : Int)))), (7, (vI (↑b :
  Int))), (6, (vI d)), (5, (vI n)), (2, .ptr 2 0 0)] [(2, Blk.mk true 0 0 [[(vI (0 : Int)), (vI (0 : Int))]])]) else some (Ex.exit (0 : Nat), St.mk [(7, (vI (↑a : Int))),
  (6, (vI d)), (5, (vI n)), (2, .ptr 2 0 0)] [(2, Blk.mk true 0 0 [[(vI (0 : Int)), (vI (0 : Int))]])]) := by kernel_rfl

theorem lpRSp_ok (a : Nat) (b : Nat) (n : Int) (d : Int) (hp : prlRSp a b n d = true) : ∀ ex s', (outRSp a b n d).val = some (ex, s') → LoopOK enRSp (loopN Tryd.f25 0) (stRSp a b n d) ex s' := by
  simp only [prlRSp, Bool.and_eq_true, decide_eq_true_eq] at hp
  refine loop_gen (st := fun a : Nat × Nat => stRSp a.1 a.2 n d) (out := fun a => outRSp a.1 a.2 n d) (I := fun a => a.1 ≤ 1000000000 ∧ a.2 ≤ 1000000000) (n := ([8, 7, 6, 5, 2], [2])) (e := ([7, 6, 5, 2], [2])) (r := ([], [])) (fun a => a.2) ?_ (a, b) hp
  rintro ⟨a, b⟩ ⟨h1, h2⟩
  simp only at h1 h2
  by_cases hb : b = 0
  · subst hb
    left
    refine ⟨(.exit 0, ⟨[(7, vI a), (6, vI d), (5, vI n), (2, .ptr 2 0 0)], [(2, ⟨true, 0, 0, [[vI 0, vI 0]]⟩)]⟩), ?_, ?_, by simp, rfl⟩
    · rw [evRSpL]; rfl
    · simp only [outRSp, Nat.gcd_zero_right]; rfl
  · right
    have hlt := Nat.mod_lt a (Nat.pos_of_ne_zero hb)
    have hm : ((a : Int)).tmod (b : Int) = ((a % b : Nat) : Int) := rfl
    have hw : IntKind.i64.wrap ((a % b : Nat) : Int) = ((a % b : Nat) : Int) := wrap_id (by omega) (by omega)
    have hne : decide ((0 : Int) < (b : Int)) = true := decide_eq_true (by omega)
    have hne2 : ((b : Int) == 0) = false := by simp; omega
    refine ⟨(b, a % b), ?_, rfl, ⟨h2, by simp only; omega⟩, by simp only; omega, ?_⟩
    · rw [evRSpL]
      simp only [hne, hne2, hm, hw, cond_true, cond_false, stRSp]
    · simp only [outRSp, Nat.gcd_comm a b, Nat.gcd_rec b a, Nat.gcd_comm (a % b) b]

theorem evRSp (c : Cap) : (runF enRSp false Tryd.f25 [.agg (eCap c)]).val =
  Option.bind (unenc encRhC [AV.sl [[(vI c.fr), (vI c.to), AV.sl (List.map eStr c.lines), (vI c.row), (vB c.bef), (vB c.aft)]]]) fun (z : List Cap) => bif F.smC z then bif
  F.chkC z != (0 : Int) then some (AV.tup [AV.agg [(vI (0 : Int)), (vI (0 : Int))], (vI (F.chkC z))], []) else Option.bind (unenc encRd [AV.agg [(vI c.fr), (vI c.to), AV.sl
  (List.map eStr c.lines), (vI c.row), (vB c.bef), (vB c.aft)]]) fun (z : Cap) => bif F.smL z.lines then Option.bind (unenc stRSp1 (St.mk [(8, (vI (IntKind.wrap IntKind.i64
  (c.to - c.fr)))), (7, (vI (IntKind.wrap IntKind.i64 ((1000 : Int) * F.chF (0 : Int) z.lines)))), (6, (vI (IntKind.wrap IntKind.i64 (c.to - c.fr)))), (5, (vI (IntKind.wrap
  IntKind.i64 ((1000 : Int) * F.chF (0 : Int) z.lines)))), (2, .ptr 2 0 0)] [(2, Blk.mk true 0 0 [[(vI (0 : Int)), (vI (0 : Int))]])])) fun (z : Nat × Nat × Int × Int) =>
  bif decide (z.fst ≤ (1000000000 : Nat)) && decide (z.snd.fst ≤ (1000000000 : Nat)) && true then bif (↑(Nat.gcd z.fst z.snd.fst) : Int) == (0 : Int) then none else bif
  (↑(Nat.gcd z.fst z.snd.fst) : Int) == (0 : Int) then none else some (AV.tup [AV.agg [(vI (IntKind.wrap IntKind.i64 (Int.tdiv z.snd.snd.fst (↑(Nat.gcd z.fst z.snd.fst) :
  Int)))), (vI (IntKind.wrap IntKind.i64 (Int.tdiv z.snd.snd.snd (↑(Nat.gcd z.fst z.snd.fst) : Int))))], (vI (0 : Int))], []) else none else none else none := by kernel_rfl

def encRSp1 (c : Cap) : List AV := [.agg (eCap c)]

def encRSp (a : Cap) : List AV := encRSp1 a

theorem encRSp_inj (a a' : Cap) (h : encRSp a = encRSp a') : a = a' := by
  simp only [encRSp, encRSp1] at h
  try simp [strs_inj, ints_inj, bools_inj, eCaps_inj, eCap_iff, eL_eCaps_inj, eMchs_inj, eMch_iff, eWrds_inj, eWrd_iff, eFnds_inj, eFnd_iff, eRatios_inj, eRatio_iff, eWays_inj, eWay_iff] at h
  grind

theorem unRSp (c : Cap) : unenc encRSp ([AV.agg [(vI c.fr), (vI c.to), AV.sl (List.map eStr c.lines), (vI c.row), (vB c.bef), (vB c.aft)]]) = some (c) := unenc_of encRSp_inj (c) rfl

theorem unRSpw (c_fr : Int) (c_to : Int) (c_lines : List ByteArray) (c_row : Int) (c_bef : Bool) (c_aft : Bool) : unenc encRSp ([AV.agg [(vI c_fr), (vI c_to), AV.sl (List.map eStr c_lines), (vI c_row), (vB c_bef), (vB c_aft)]]) = some ((Cap.mk c_fr c_to c_lines c_row c_bef c_aft)) := unenc_of encRSp_inj ((Cap.mk c_fr c_to c_lines c_row c_bef c_aft)) rfl

def resRSp1 (c : Cap) : AV × Heap := (.tup [.agg (eRatio (F.speed c).1), vI (F.speed c).2], [])

def preRSp1 (c : Cap) : Bool := F.smL c.lines

noncomputable def oRSp : Orc := orc 25 false encRSp (fun a => preRSp1 a) fun a => resRSp1 a

theorem okRSp : OrcOK Tryd.prog noG oRSp := by
  refine mk_ok Tryd.f25 (keep := false) (by kernel_rfl) (by kernel_rfl) enRSp_ok mixed (one_loop (x0 := loopN Tryd.f25 0) (by kernel_rfl) (lpo_ok ?_)) (by first | exact fun _ _ => ⟨rfl, rfl⟩ | (intro h; cases h)) ?_
  · rintro ⟨a, b, n, d⟩ hp
    exact lpRSp_ok a b n d hp
  rintro c hpre hok
  show (runF enRSp false _ (encRSp1 _)).val = some (resRSp1 _)
  unfold encRSp1 resRSp1
  rw [evRSp]
  simp only [preRSp1] at hpre
  have e0 : F.smC [c] = true := by simp [F.smC, hpre]
  simp only [unRhC, unRd, unRdw, preRhC1, preRd1, unstRSp, prlRSp, outRSp, etaCap, etaMch, etaWrd, etaFnd, etaRatio, etaWay, Option.bind_some, List.length_map, unStrs, unInts, unBools, unCaps, uneL_eCaps, unMchs, unWrds, unFnds, unRatios, unWays, F.lt, F.le, cond_true, cond_false, Bool.and_true, Bool.true_and, hpre, F.speed, eOne, e0]
  by_cases h0 : F.chkC [c] = 0
  case neg =>
    rw [bne1 h0]; rfl
  rw [bne0 h0]
  have hc := F.chk_cap h0 (List.mem_cons_self ..)
  obtain ⟨c1, c2⟩ := F.ch_ok hc
  obtain ⟨c3, c4, c5, _⟩ := F.capOK_iff hc
  have w1 : IntKind.i64.wrap (c.to - c.fr) = (F.spD c : Int) := by rw [wrap_id (by omega) (by omega)]; unfold F.spD; omega
  have w2 : IntKind.i64.wrap (1000 * F.chF 0 c.lines) = (F.spN c : Int) := by rw [c1, wrap_id (by omega) (by omega)]; unfold F.spN; omega
  have n1 : F.spN c ≤ 1000000000 := by unfold F.spN; omega
  have n2 : F.spD c ≤ 1000000000 := by unfold F.spD; omega
  have n3 : 0 < F.spD c := by unfold F.spD; omega
  have hg : 0 < Nat.gcd (F.spN c) (F.spD c) := Nat.gcd_pos_of_pos_right _ n3
  have hgz : ((Nat.gcd (F.spN c) (F.spD c) : Nat) : Int) ≠ 0 := by omega
  have t1 : (F.spN c : Int).tdiv ((Nat.gcd (F.spN c) (F.spD c) : Nat) : Int) = ((F.spN c / Nat.gcd (F.spN c) (F.spD c) : Nat) : Int) := rfl
  have t2 : (F.spD c : Int).tdiv ((Nat.gcd (F.spN c) (F.spD c) : Nat) : Int) = ((F.spD c / Nat.gcd (F.spN c) (F.spD c) : Nat) : Int) := rfl
  have l1 := Nat.div_le_self (F.spN c) (Nat.gcd (F.spN c) (F.spD c))
  have l2 := Nat.div_le_self (F.spD c) (Nat.gcd (F.spN c) (F.spD c))
  have w3 : IntKind.i64.wrap ((F.spN c / Nat.gcd (F.spN c) (F.spD c) : Nat) : Int) = ((F.spN c / Nat.gcd (F.spN c) (F.spD c) : Nat) : Int) := wrap_nat (by omega)
  have w4 : IntKind.i64.wrap ((F.spD c / Nat.gcd (F.spN c) (F.spD c) : Nat) : Int) = ((F.spD c / Nat.gcd (F.spN c) (F.spD c) : Nat) : Int) := wrap_nat (by omega)
  simp only [cond_false, w1, w2, unstRSp, Option.bind_some, decide_eq_true n1, decide_eq_true n2, Bool.and_self, cond_true, beq_eq_false_iff_ne.2 hgz, t1, t2, w3, w4]
  rfl

end M
end Go.Proofs.YtniealifncgilaaDoor
