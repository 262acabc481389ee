/- What is proved here: what the reference's Load returns, and that it is what the program's returns; the law of loads, on plain data (no statement of the seat). -/
import Derived.Test.YtkfhfjcgegimbaaE18
namespace Go.Proofs.Ytkfhfjcgegimbaa
open Go Go.RowKit
set_option linter.unusedVariables false
set_option linter.unusedSimpArgs false

/-- A step of the reference's Load. -/
def F.rldS (first : Int) (a : Nat × Bool × Int × List Itm) (e : Ent) : Nat × Bool × Int × List Itm :=
  bif IntKind.i64.wrap (first + a.1) != a.2.2.1 then (a.1 + 1, a.2.1, a.2.2.1, a.2.2.2) else
  (a.1 + 1, false, IntKind.i64.wrap (a.2.2.1 + 1), a.2.2.2 ++ [⟨a.2.2.1, ⟨e.uri, e.milli, e.brk || a.2.1, e.date, e.key, e.gap, e.extra⟩⟩])

def F.rld (first : Int) (k : Nat) (lost : Bool) (next : Int) (q : List Itm) (l : List Ent) : Nat × Bool × Int × List Itm := l.foldl (F.rldS first) (k, lost, next, q)

theorem F.rld_eq (first : Int) : ∀ (l : List Ent) (k : Nat) (lost next : Int) (q : List Itm), 0 ≤ first → first + k + l.length ≤ 4611686018427387904 → first + k ≤ next → next + l.length ≤ 4611686018427387904 →
    F.rld first k (F.lt 0 lost) next q l = ((F.ld first k lost next q l).1, F.lt 0 (F.ld first k lost next q l).2.1, (F.ld first k lost next q l).2.2.1, (F.ld first k lost next q l).2.2.2)
  | [], k, lost, next, q, _, _, _, _ => rfl
  | e :: l, k, lost, next, q, h1, h2, h3, h4 => by
    simp only [List.length_cons] at h2 h4
    have hw : IntKind.i64.wrap (first + (k : Int)) = first + k := M.wrap_id (by omega) (by omega)
    have hw2 : IntKind.i64.wrap (next + 1) = next + 1 := M.wrap_id (by omega) (by omega)
    by_cases h : first + (k : Int) < next
    · have a1 : F.ldS first (k, lost, next, q) e = (k + 1, lost, next, q) := by simp [F.ldS, hw, F.lt, h]
      have hne : ((first + (k : Int)) != next) = true := by simp; omega
      have a2 : F.rldS first (k, F.lt 0 lost, next, q) e = (k + 1, F.lt 0 lost, next, q) := by simp only [F.rldS, hw, hne, cond_true]
      have := F.rld_eq first l (k + 1) lost next q h1 (by omega) (by omega) (by omega)
      unfold F.rld F.ld at this ⊢
      rw [List.foldl_cons, List.foldl_cons, a1, a2]
      exact this
    · have hkn : first + (k : Int) = next := by omega
      have hlt : F.lt (IntKind.i64.wrap (first + (k : Int))) next = false := by rw [hw]; exact decide_eq_false h
      have hne : (IntKind.i64.wrap (first + (k : Int)) != next) = false := by rw [hw]; simp [hkn]
      have a1 : F.ldS first (k, lost, next, q) e = (k + 1, bif F.lt 0 lost then 0 else lost, next + 1, q ++ [⟨next, ⟨e.uri, e.milli, bif F.lt 0 lost then true else e.brk, e.date, e.key, e.gap, e.extra⟩⟩]) := by
        simp only [F.ldS, hlt, cond_false, hw2]
        rw [hw, hkn]
      have a2 : F.rldS first (k, F.lt 0 lost, next, q) e = (k + 1, false, next + 1, q ++ [⟨next, ⟨e.uri, e.milli, e.brk || F.lt 0 lost, e.date, e.key, e.gap, e.extra⟩⟩]) := by
        simp only [F.rldS, hne, cond_false, hw2]
      have hb : (e.brk || F.lt 0 lost) = (bif F.lt 0 lost then true else e.brk) := by cases e.brk <;> cases F.lt 0 lost <;> rfl
      have hz : F.lt 0 (bif F.lt 0 lost then 0 else lost) = false := by
        cases hh : F.lt 0 lost
        · exact hh
        · rfl
      have := F.rld_eq first l (k + 1) (bif F.lt 0 lost then 0 else lost) (next + 1) (q ++ [⟨next, ⟨e.uri, e.milli, bif F.lt 0 lost then true else e.brk, e.date, e.key, e.gap, e.extra⟩⟩]) h1 (by omega) (by omega) (by omega)
      rw [hz] at this
      unfold F.rld F.ld at this ⊢
      rw [List.foldl_cons, List.foldl_cons, a1, a2, hb]
      exact this

theorem F.rld_len (first : Int) : ∀ (l : List Ent) (k : Nat) (lost : Bool) (next : Int) (q : List Itm), (F.rld first k lost next q l).2.2.2.length ≤ q.length + l.length
  | [], k, lost, next, q => by simp [F.rld]
  | e :: l, k, lost, next, q => by
    have e1 : F.rld first k lost next q (e :: l) = F.rld first (F.rldS first (k, lost, next, q) e).1 (F.rldS first (k, lost, next, q) e).2.1 (F.rldS first (k, lost, next, q) e).2.2.1 (F.rldS first (k, lost, next, q) e).2.2.2 l := rfl
    rw [e1]
    refine Nat.le_trans (F.rld_len first l _ _ _ _) ?_
    simp only [F.rldS]
    cases (IntKind.i64.wrap (first + (k : Int)) != next) <;> simp <;> omega

/-- What the reference's loop gives, from the number with which it goes on. -/
def F.rloadR (c : Cli) (l : Lst) (n : Int) : Nat × Bool × Int × List Itm := F.rld l.first 0 (F.lt n l.first) (bif F.lt n l.first then l.first else n) c.queue l.entries

def F.rloadL (c : Cli) (l : Lst) (n : Int) : Int := bif F.lt n l.first then IntKind.i64.wrap (c.lost + IntKind.i64.wrap (l.first - n)) else c.lost

def F.rloadC (c : Cli) (l : Lst) (n : Int) : Cli × Int :=
  bif F.lt 2000 (F.rloadR c l n).2.2.2.length then (F.noC, 17) else (⟨true, (F.rloadR c l n).2.2.1, l, (F.rloadR c l n).2.2.2, F.rloadL c l n⟩, 0)

def F.fresh (c : Cli) : Bool := (c.next != 0) || (c.lost != 0) || F.lt 0 c.queue.length || !F.sameL c.last F.noL

def F.rload (c : Cli) (l : Lst) (b : Int) : Cli × Int :=
  bif F.check l != 0 then (F.noC, F.check l) else bif F.cliF c b != 0 then (F.noC, F.cliF c b) else
  bif c.begun then (bif F.check c.last != 0 then (F.noC, F.check c.last) else bif F.rfol c.last l != 0 then (F.noC, F.rfol c.last l) else F.rloadC c l c.next) else
  bif F.fresh c then (F.noC, 3) else bif l.entries.isEmpty then (F.noC, 9) else F.rloadC c l (IntKind.i64.wrap (l.first + F.startI l b))

theorem F.cliF_ok {c : Cli} {b : Int} (h : (F.cliF c b != 0) = false) : (0 ≤ c.next ∧ c.next ≤ 1000000000000000) ∧ (0 ≤ c.lost ∧ c.lost ≤ 1000000000000000) ∧ (0 ≤ b ∧ b ≤ 1000000000000000) ∧ c.queue.length ≤ 2000 := by
  have hq := F.cliF_len h
  unfold F.cliF at h
  cases h1 : F.out c.next 0 1000000000000000
  · cases h2 : F.out c.lost 0 1000000000000000
    · cases h3 : F.out b 0 1000000000000000
      · simp only [F.out, Bool.or_eq_false_iff, decide_eq_false_iff_not] at h1 h2 h3
        omega
      · rw [h1, h2, h3] at h; simp at h
    · rw [h1, h2] at h; simp at h
  · rw [h1] at h; simp at h

theorem F.ent_fst {m : Int} : ∀ {l : List Ent} {k : Nat} {m : Int}, F.found (F.ent m k l) = true → k ≤ (F.got (F.ent m k l) (0, 0)).1 ∧ (F.got (F.ent m k l) (0, 0)).1 < k + l.length
  | [], k, m, h => by simp [F.ent, F.found] at h
  | e :: l, k, m, h => by
    simp only [F.ent] at h ⊢
    cases hl : F.lt m e.milli
    · rw [hl] at h
      have := F.ent_fst (m := m) h
      simp only [cond_false, List.length_cons]
      omega
    · simp [F.got]

theorem F.startI_range {l : Lst} {b : Int} (hc : F.check l = 0) (hb : F.out b 0 1000000000000000 = false) (h0 : l.entries.isEmpty = false) : 0 ≤ F.startI l b ∧ F.startI l b < l.entries.length := by
  have hn : 0 < l.entries.length := by cases hh : l.entries <;> simp_all
  have hl := (F.check_ok hc).1
  unfold F.startI
  cases hm : l.ended || F.lt (F.startM l b) 0
  · simp only [cond_false]
    rcases Bool.eq_false_or_eq_true (b == 0) with hz | hz
    · rw [hz]
      simp only [cond_true]
      rw [M.wrap_id (by omega) (by omega)]
      omega
    · rw [hz]
      simp only [Bool.or_eq_false_iff] at hm
      have hf := F.start_found hc hb hz hm.2
      have := F.ent_fst (m := 0) hf
      simp only [cond_false, F.entI, hf, cond_true]
      omega
  · simp only [cond_true]; omega

theorem F.loadC_eq {c : Cli} {l : Lst} {n : Int} (hc : F.check l = 0) (h1 : 0 ≤ n) (h2 : n ≤ 1000000000000000) (h3 : 0 ≤ c.lost) (h4 : c.lost ≤ 1000000000000000) :
    F.rloadR c l n = ((F.ld l.first 0 (max 0 (IntKind.i64.wrap (l.first - n))) (IntKind.i64.wrap (n + max 0 (IntKind.i64.wrap (l.first - n)))) c.queue l.entries).1,
      F.lt 0 (F.ld l.first 0 (max 0 (IntKind.i64.wrap (l.first - n))) (IntKind.i64.wrap (n + max 0 (IntKind.i64.wrap (l.first - n)))) c.queue l.entries).2.1,
      (F.ld l.first 0 (max 0 (IntKind.i64.wrap (l.first - n))) (IntKind.i64.wrap (n + max 0 (IntKind.i64.wrap (l.first - n)))) c.queue l.entries).2.2.1,
      (F.ld l.first 0 (max 0 (IntKind.i64.wrap (l.first - n))) (IntKind.i64.wrap (n + max 0 (IntKind.i64.wrap (l.first - n)))) c.queue l.entries).2.2.2) ∧
    F.rloadL c l n = IntKind.i64.wrap (c.lost + max 0 (IntKind.i64.wrap (l.first - n))) := by
  obtain ⟨c1, _, _, c2, c3⟩ := F.check_ok hc
  have w1 : IntKind.i64.wrap (l.first - n) = l.first - n := M.wrap_id (by omega) (by omega)
  have w2 : IntKind.i64.wrap (n + max 0 (l.first - n)) = max n l.first := by rw [M.wrap_id (by omega) (by omega)]; omega
  rw [w1, w2]
  constructor
  · have := F.rld_eq l.first l.entries 0 (max 0 (l.first - n)) (max n l.first) c.queue (by omega) (by omega) (by omega) (by omega)
    rw [← this]
    have e1 : F.lt 0 (max 0 (l.first - n)) = F.lt n l.first := by
      unfold F.lt
      by_cases h : n < l.first
      · rw [decide_eq_true h, decide_eq_true (by omega)]
      · rw [decide_eq_false h, decide_eq_false (by omega)]
    have e2 : (bif F.lt n l.first then l.first else n) = max n l.first := by
      unfold F.lt
      by_cases h : n < l.first
      · rw [decide_eq_true h]; simp only [cond_true]; omega
      · rw [decide_eq_false h]; simp only [cond_false]; omega
    unfold F.rloadR
    rw [e1, e2]
  · unfold F.rloadL F.lt
    rw [w1]
    by_cases h : n < l.first
    · rw [decide_eq_true h]; simp only [cond_true]; rw [show max 0 (l.first - n) = l.first - n by omega]
    · rw [decide_eq_false h]; simp only [cond_false]; rw [show max 0 (l.first - n) = 0 by omega, Int.add_zero, M.wrap_id (by omega) (by omega)]

theorem F.rload_eq (c : Cli) (l : Lst) (b : Int) : F.rload c l b = F.load c l b := by
  have key : ∀ n f, F.begin c l b = (n, f) → F.check l = 0 → (f = 0 → 0 ≤ n ∧ n ≤ 1000000000000000 ∧ 0 ≤ c.lost ∧ c.lost ≤ 1000000000000000) →
      F.load c l b = bif f != 0 then (F.noC, f) else F.rloadC c l n := by
    intro n f hb hc hn
    have hz : (F.check l != 0) = false := by simp [hc]
    unfold F.load
    rw [hz, hb]
    simp only [cond_false]
    cases hf : f != 0
    · have hf0 : f = 0 := by simpa using hf
      obtain ⟨n1, n2, n3, n4⟩ := hn hf0
      obtain ⟨e1, e2⟩ := F.loadC_eq (c := c) hc n1 n2 n3 n4
      simp only [cond_false]
      unfold F.rloadC F.loadR F.loadN
      rw [e1, e2, hb]
    · rfl
  unfold F.rload
  cases hc : F.check l != 0
  · have hc0 : F.check l = 0 := by simpa using hc
    simp only [cond_false]
    cases h1 : F.cliF c b != 0
    · obtain ⟨k1, k2, k3, k4⟩ := F.cliF_ok h1
      have hbo : F.out b 0 1000000000000000 = false := by simp [F.out]; omega
      simp only [cond_false]
      cases h2 : c.begun
      · simp only [cond_false]
        cases h3 : F.fresh c
        · simp only [cond_false]
          cases h4 : l.entries.isEmpty
          · obtain ⟨s1, s2⟩ := F.startI_range hc0 hbo h4
            obtain ⟨c1, _, _, c2, c3⟩ := F.check_ok hc0
            have hw : IntKind.i64.wrap (l.first + F.startI l b) = l.first + F.startI l b := M.wrap_id (by omega) (by omega)
            have hs : F.start l b = (F.startI l b, F.startP l b, 0) := by unfold F.start; rw [hbo, h4]; rfl
            have hbg : F.begin c l b = (IntKind.i64.wrap (l.first + F.startI l b), 0) := by
              unfold F.begin; unfold F.fresh at h3; rw [h1, h2, h3, hs]; rfl
            rw [key _ _ hbg hc0 fun _ => by rw [hw]; omega]
            rfl
          · have hs : F.start l b = (0, 0, 9) := by unfold F.start; rw [hbo, h4]; rfl
            have hbg : F.begin c l b = (IntKind.i64.wrap (l.first + 0), 9) := by
              unfold F.begin; unfold F.fresh at h3; rw [h1, h2, h3, hs]; rfl
            rw [key _ _ hbg hc0 fun h => by cases h]
            rfl
        · have hbg : F.begin c l b = (0, 3) := by
            unfold F.begin; unfold F.fresh at h3; rw [h1, h2, h3]; rfl
          rw [key _ _ hbg hc0 fun h => by cases h]
          rfl
      · simp only [cond_true]
        cases h5 : F.check c.last != 0
        · have h50 : F.check c.last = 0 := by simpa using h5
          have hbg : F.begin c l b = (c.next, F.fol c.last l) := by
            unfold F.begin; rw [h1, h2, h5]; rfl
          rw [key _ _ hbg hc0 fun _ => by omega, F.rfol_eq h50 hc0]
          rfl
        · have hbg : F.begin c l b = (0, F.check c.last) := by
            unfold F.begin; rw [h1, h2, h5]; rfl
          have hne : F.check c.last ≠ 0 := by simpa using h5
          rw [key _ _ hbg hc0 fun h => absurd h hne, h5]
          rfl
    · have hbg : F.begin c l b = (0, F.cliF c b) := by
        unfold F.begin; rw [h1]; rfl
      have hne : F.cliF c b ≠ 0 := by simpa using h1
      rw [key _ _ hbg hc0 fun h => absurd h hne, h1]
      rfl
  · unfold F.load
    rw [hc]
    rfl

namespace M


def stRLd (la : Lst) (l : Lst) (bg : Bool) (lc : Int) (lost : Bool) (next : Int) (q : List Itm) (k : Nat) : St := ⟨[(16, vI k), (15, vB lost), (10, .ptr 10 0 0), (6, .ptr 6 0 0), (4, .ptr 4 0 0)], [(33000, ⟨false, 61, 8, q.map eItm⟩), (10, ⟨true, 0, 0, [[vB bg, vI next, vI la.target, vI la.first, vI la.breaks, .sl (la.entries.map eEnt), vB la.ended, .own 33000, vI lc]]⟩), (6, ⟨true, 0, 0, [[vB false, vI 0, vI 0, vI 0, vI 0, .e0, vB false, .e0, vI 0]]⟩), (4, ⟨true, 0, 0, [eLst l]⟩)]⟩

def stRLd1 (a : Lst × Lst × Bool × Int × Bool × Int × (List Itm) × Nat) : St := stRLd a.1 a.2.1 a.2.2.1 a.2.2.2.1 a.2.2.2.2.1 a.2.2.2.2.2.1 a.2.2.2.2.2.2.1 a.2.2.2.2.2.2.2

theorem stRLd_inj (a a' : Lst × Lst × Bool × Int × Bool × Int × (List Itm) × Nat) (h : stRLd1 a = stRLd1 a') : a = a' := by
  simp only [stRLd1, stRLd] at h
  try simp [strs_inj, ents_inj, eEnt_iff, eLst_iff, ints_inj, eTrn_iff, itms_inj, eCli_iff, eItm_iff] at h
  grind

theorem unstRLd (la : Lst) (l : Lst) (bg : Bool) (lc : Int) (lost : Bool) (next : Int) (q : List Itm) (k : Nat) : unenc stRLd1 (St.mk [(16, (vI (↑k : Int))), (15, (vB lost)), (10, .ptr 10 0 0), (6, .ptr 6 0 0), (4, .ptr 4 0 0)] [(33000, Blk.mk false 61 8 (List.map eItm q)), (10, Blk.mk true 0 0
  [[(vB bg), (vI next), (vI la.target), (vI la.first), (vI la.breaks), AV.sl (List.map eEnt la.entries), (vB la.ended), .own 33000, (vI lc)]]), (6, Blk.mk true 0 0 [[(vB
  false), (vI (0 : Int)), (vI (0 : Int)), (vI (0 : Int)), (vI (0 : Int)), AV.e0, (vB false), AV.e0, (vI (0 : Int))]]), (4, Blk.mk true 0 0 [[(vI l.target), (vI l.first), (vI
  l.breaks), AV.sl (List.map eEnt l.entries), (vB l.ended)]])]) = some (la, l, bg, lc, lost, next, q, k) := unenc_of stRLd_inj (la, l, bg, lc, lost, next, q, k) rfl

theorem unstRLd0 (la : Lst) (l : Lst) (bg : Bool) (lc : Int) (lost : Bool) (next : Int) (q : List Itm) : unenc stRLd1 (St.mk [(16, (vI (0 : Int))), (15, (vB lost)), (10, .ptr 10 0 0), (6, .ptr 6 0 0), (4, .ptr 4 0 0)] [(33000, Blk.mk false 61 8 (List.map eItm q)), (10, Blk.mk true 0 0
  [[(vB bg), (vI next), (vI la.target), (vI la.first), (vI la.breaks), AV.sl (List.map eEnt la.entries), (vB la.ended), .own 33000, (vI lc)]]), (6, Blk.mk true 0 0 [[(vB
  false), (vI (0 : Int)), (vI (0 : Int)), (vI (0 : Int)), (vI (0 : Int)), AV.e0, (vB false), AV.e0, (vI (0 : Int))]]), (4, Blk.mk true 0 0 [[(vI l.target), (vI l.first), (vI
  l.breaks), AV.sl (List.map eEnt l.entries), (vB l.ended)]])]) = some (la, l, bg, lc, lost, next, q, 0) := unenc_of stRLd_inj (la, l, bg, lc, lost, next, q, 0) rfl

def outRLd (la : Lst) (l : Lst) (bg : Bool) (lc : Int) (lost : Bool) (next : Int) (q : List Itm) (k : Nat) : T (Ex × St) := .ret (.exit 0, ⟨[(10, .ptr 10 0 0), (6, .ptr 6 0 0), (4, .ptr 4 0 0)], [(33000, ⟨false, 61, 8, (F.rld l.first k lost next q (l.entries.drop k)).2.2.2.map eItm⟩), (10, ⟨true, 0, 0, [[vB bg, vI (F.rld l.first k lost next q (l.entries.drop k)).2.2.1, vI la.target, vI la.first, vI la.breaks, .sl (la.entries.map eEnt), vB la.ended, .own 33000, vI lc]]⟩), (6, ⟨true, 0, 0, [[vB false, vI 0, vI 0, vI 0, vI 0, .e0, vB false, .e0, vI 0]]⟩), (4, ⟨true, 0, 0, [eLst l]⟩)]⟩)

noncomputable def prlRLd (la : Lst) (l : Lst) (bg : Bool) (lc : Int) (lost : Bool) (next : Int) (q : List Itm) (k : Nat) : Bool := decide (l.entries.length ≤ 1000) && decide (k ≤ l.entries.length) && decide (q.length ≤ 2000 + k)

noncomputable def lpRLd : Nat × (St → T (Ex × St)) := (26, lpo [16, 15, 10, 6, 4] [33000, 10, 6, 4] stRLd1 (fun a => prlRLd a.1 a.2.1 a.2.2.1 a.2.2.2.1 a.2.2.2.2.1 a.2.2.2.2.2.1 a.2.2.2.2.2.2.1 a.2.2.2.2.2.2.2) fun a => outRLd a.1 a.2.1 a.2.2.1 a.2.2.2.1 a.2.2.2.2.1 a.2.2.2.2.2.1 a.2.2.2.2.2.2.1 a.2.2.2.2.2.2.2)

noncomputable def enRLd : Env := envH ty noG lks [oRChk, oRCl, oRCp, oRFl, oSmL, oRSt, oWith] [] [] [lpRLd]

theorem enRLd_ok : EnvOK Try.prog enRLd := by
  refine envH_ok lks_ok ty_ok ?_ ?_
  · simp only [List.forall_mem_cons]
    exact ⟨okRChk, okRCl, okRCp, okRFl, okSmL, okRSt, okWith, by simp⟩
  · simp

theorem evRLdL (la : Lst) (l : Lst) (bg : Bool) (lc : Int) (lost : Bool) (next : Int) (q : List Itm) (k : Nat) : ((exec enRLd (loopN Try.f31 0) (stRLd la l bg lc lost next q k)).bind (lessX ([16, 15, 10, 6, 4], [33000, 10, 6, 4]) ([10, 6, 4], [33000, 10, 6, 4]) ([], []))).val =
  bif decide ((↑k : Int) < (↑(List.length (List.map eEnt l.entries)) : Int)) then bif IntKind.wrap IntKind.i64 (l.first + (↑k : Int)) != next then some (Ex.normal, St.mk
  [(16, (vI (IntKind.wrap IntKind.i64 ((↑k : Int) + (1 : Int))))), (15, (vB lost)), (10, .ptr 10 0 0), (6, .ptr 6 0 0), (4, .ptr 4 0 0)] [(33000, Blk.mk false 61 8 (List.map
  eItm q)), (10, Blk.mk true 0 0 [[(vB bg), (vI next), (vI la.target), (vI la.first), (vI la.breaks), AV.sl (List.map eEnt la.entries), (vB la.ended), .own 33000, (vI
  lc)]]), (6, Blk.mk true 0 0 [[(vB false), (vI (0 : Int)), (vI (0 : Int)), (vI (0 : Int)), (vI (0 : Int)), AV.e0, (vB false), AV.e0, (vI (0 : Int))]]), (4, Blk.mk true 0 0
  [[(vI l.target), (vI l.first), (vI l.breaks), AV.sl (List.map eEnt l.entries), (vB l.ended)]])]) else Option.bind (unenc (List.map eEnt) (List.map eEnt l.entries)) fun (z
  : List Ent) => bif decide (k < List.length z) then bif Nat.ble ((List.length (List.map eItm q) + (1 : Nat)) * (96 : Nat)) (140737488355328 : Nat) && true then some
  (Ex.normal, St.mk [(16, (vI (IntKind.wrap IntKind.i64 ((↑k : Int) + (1 : Int))))), (15, (vB false)), (10, .ptr 10 0 0), (6, .ptr 6 0 0), (4, .ptr 4 0 0)] [(33000, Blk.mk
  false 61 8 (List.map eItm q ++ [[(vI next), (vS (List.getD z k (Ent.mk (ByteArray.mk (Array.mk [])) (0 : Int) false (0 : Int) (ByteArray.mk (Array.mk [])) false [])).uri),
  (vI (List.getD z k (Ent.mk (ByteArray.mk (Array.mk [])) (0 : Int) false (0 : Int) (ByteArray.mk (Array.mk [])) false [])).milli), (vB (bif (List.getD z k (Ent.mk
  (ByteArray.mk (Array.mk [])) (0 : Int) false (0 : Int) (ByteArray.mk (Array.mk [])) false [])).brk then true else lost)), (vI (List.getD z k (Ent.mk (ByteArray.mk
  (Array.mk [])) (0 : Int) false (0 : Int) (ByteArray.mk (Array.mk [])) false [])).date), (vS (List.getD z k (Ent.mk (ByteArray.mk (Array.mk [])) (0 : Int) false (0 : Int)
  (ByteArray.mk (Array.mk [])) false [])).key), (vB (List.getD z k (Ent.mk (ByteArray.mk (Array.mk [])) (0 : Int) false (0 : Int) (ByteArray.mk (Array.mk [])) false
  [])).gap), AV.sl (List.map eStr (List.getD z k (Ent.mk (ByteArray.mk (Array.mk [])) (0 : Int) false (0 : Int) (ByteArray.mk (Array.mk [])) false [])).extra)]])), (10,
  Blk.mk true 0 0 [[(vB bg), (vI (IntKind.wrap IntKind.i64 (next + (1 : Int)))), (vI la.target), (vI la.first), (vI la.breaks), AV.sl (List.map eEnt la.entries), (vB
  la.ended), .own 33000, (vI lc)]]), (6, Blk.mk true 0 0 [[(vB false), (vI (0 : Int)), (vI (0 : Int)), (vI (0 : Int)), (vI (0 : Int)), AV.e0, (vB false), AV.e0, (vI (0 :
  Int))]]), (4, Blk.mk true 0 0 [[(vI l.target), (vI l.first), (vI l.breaks), AV.sl (List.map eEnt l.entries), (vB l.ended)]])]) else none else none else some (Ex.exit (0 :
  Nat), St.mk [(10, .ptr 10 0 0), (6, .ptr 6 0 0), (4, .ptr 4 0 0)] [(33000, Blk.mk false 61 8 (List.map eItm q)), (10, Blk.mk true 0 0 [[(vB bg), (vI next), (vI la.target),
  (vI la.first), (vI la.breaks), AV.sl (List.map eEnt la.entries), (vB la.ended), .own 33000, (vI lc)]]), (6, Blk.mk true 0 0 [[(vB false), (vI (0 : Int)), (vI (0 : Int)),
  (vI (0 : Int)), (vI (0 : Int)), AV.e0, (vB false), AV.e0, (vI (0 : Int))]]), (4, Blk.mk true 0 0 [[(vI l.target), (vI l.first), (vI l.breaks), AV.sl (List.map eEnt
  l.entries), (vB l.ended)]])]) := by kernel_rfl

theorem lpRLd_ok (la : Lst) (l : Lst) (bg : Bool) (lc : Int) (lost : Bool) (next : Int) (q : List Itm) (k : Nat) (hp : prlRLd la l bg lc lost next q k = true) : ∀ ex s', (outRLd la l bg lc lost next q k).val = some (ex, s') → LoopOK enRLd (loopN Try.f31 0) (stRLd la l bg lc lost next q k) ex s' := by
  simp only [prlRLd, Bool.and_eq_true, decide_eq_true_eq] at hp
  obtain ⟨⟨h1, h2⟩, h3⟩ := hp
  refine loop_fold (xs := l.entries) (st := fun (a : Nat × Bool × Int × List Itm) k => stRLd la l bg lc a.2.1 a.2.2.1 a.2.2.2 k) (f := F.rldS l.first) (fin := fun a => (.exit 0, ⟨[(10, .ptr 10 0 0), (6, .ptr 6 0 0), (4, .ptr 4 0 0)], [(33000, ⟨false, 61, 8, a.2.2.2.map eItm⟩), (10, ⟨true, 0, 0, [[vB bg, vI a.2.2.1, vI la.target, vI la.first, vI la.breaks, .sl (la.entries.map eEnt), vB la.ended, .own 33000, vI lc]]⟩), (6, ⟨true, 0, 0, [[vB false, vI 0, vI 0, vI 0, vI 0, .e0, vB false, .e0, vI 0]]⟩), (4, ⟨true, 0, 0, [eLst l]⟩)]⟩)) (I := fun a k => a.1 = k ∧ a.2.2.2.length ≤ 2000 + k) (n := ([16, 15, 10, 6, 4], [33000, 10, 6, 4])) (e := ([10, 6, 4], [33000, 10, 6, 4])) (r := ([], [])) ?_ (fun _ => ⟨by simp, rfl⟩) (fun _ _ => rfl) ?_ (k, lost, next, q) k h2 ⟨rfl, h3⟩
  · rintro ⟨j, lost, next, q⟩ _
    rw [evRLdL]; simp
    try rfl
  · rintro ⟨j, lost, next, q⟩ k y hy ⟨hj, hI⟩
    simp only at hj hI
    subst hj
    have hlt := lt_at hy
    have hb : Nat.ble ((q.length + 1) * 96) 140737488355328 = true := ble_t (by omega)
    refine ⟨?_, ?_⟩
    · rw [evRLdL]
      simp only [unRChk, unRCl, unRCp, unRFl, unSmL, unRSt, unWith, unRChkw, unRFlw, unSmLw, unRStw, unWithw, preRChk1, preRCl1, preRCp1, preRFl1, preSmL1, preRSt1, preWith1, unstRLd, unstRLd0, prlRLd, outRLd, etaEnt, etaLst, Option.bind_some, List.length_map, unStrs, unInts, unBools, unEnts, unItms, unTrns, cond_true, cond_false, Bool.and_true, Bool.true_and, cast_lt hlt, decide_eq_true hlt, next_at hlt (by omega : l.entries.length ≤ 9223372036854775807), getD_at hy, stRLd, hb, F.rldS, F.lt, eLst, eEnt, eItm, bne]
      cases (IntKind.i64.wrap (l.first + (j : Int)) == next) <;> cases lost <;> cases y.brk <;> simp <;> rfl
    · simp only [F.rldS]
      cases (IntKind.i64.wrap (l.first + (j : Int)) != next) <;> simp <;> omega

theorem evRLd (c : Cli) (l : Lst) (b : Int) : (runF enRLd false Try.f31 [.agg (eCli c), .agg (eLst l), vI b]).val =
  Option.bind (unenc encRChk [AV.agg [(vI l.target), (vI l.first), (vI l.breaks), AV.sl (List.map eEnt l.entries), (vB l.ended)]]) fun (z : Lst) => bif F.check z != (0 :
  Int) then some (AV.tup [AV.agg [(vB false), (vI (0 : Int)), (vI (0 : Int)), (vI (0 : Int)), (vI (0 : Int)), AV.sl [], (vB false), AV.sl [], (vI (0 : Int))], (vI (F.check
  z))], []) else Option.bind (unenc encRCl [AV.agg [(vB c.begun), (vI c.next), (vI c.last.target), (vI c.last.first), (vI c.last.breaks), AV.sl (List.map eEnt
  c.last.entries), (vB c.last.ended), AV.sl (List.map eItm c.queue), (vI c.lost)], (vI b)]) fun (z : Cli × Int) => bif F.cliF z.fst z.snd != (0 : Int) then some (AV.tup
  [AV.agg [(vB false), (vI (0 : Int)), (vI (0 : Int)), (vI (0 : Int)), (vI (0 : Int)), AV.sl [], (vB false), AV.sl [], (vI (0 : Int))], (vI (F.cliF z.fst z.snd))], []) else
  Option.bind (unenc encRCp [AV.agg [(vB c.begun), (vI c.next), (vI c.last.target), (vI c.last.first), (vI c.last.breaks), AV.sl (List.map eEnt c.last.entries), (vB
  c.last.ended), AV.sl (List.map eItm c.queue), (vI c.lost)]]) fun (z : Cli) => bif decide (List.length z.queue ≤ (100000 : Nat)) then bif c.begun then Option.bind (unenc
  encRChk [AV.agg [(vI c.last.target), (vI c.last.first), (vI c.last.breaks), AV.sl (List.map eEnt c.last.entries), (vB c.last.ended)]]) fun (z_1 : Lst) => bif F.check z_1
  != (0 : Int) then some (AV.tup [AV.agg [(vB false), (vI (0 : Int)), (vI (0 : Int)), (vI (0 : Int)), (vI (0 : Int)), AV.sl [], (vB false), AV.sl [], (vI (0 : Int))], (vI
  (F.check z_1))], []) else Option.bind (unenc encRFl [AV.agg [(vI c.last.target), (vI c.last.first), (vI c.last.breaks), AV.sl (List.map eEnt c.last.entries), (vB
  c.last.ended)], AV.agg [(vI l.target), (vI l.first), (vI l.breaks), AV.sl (List.map eEnt l.entries), (vB l.ended)]]) fun (z_2 : Lst × Lst) => bif decide (F.check z_2.fst =
  (0 : Int)) && decide (F.check z_2.snd = (0 : Int)) then bif F.rfol z_2.fst z_2.snd != (0 : Int) then some (AV.tup [AV.agg [(vB false), (vI (0 : Int)), (vI (0 : Int)), (vI
  (0 : Int)), (vI (0 : Int)), AV.sl [], (vB false), AV.sl [], (vI (0 : Int))], (vI (F.rfol z_2.fst z_2.snd))], []) else bif decide (z.next < l.first) then Option.bind (unenc
  stRLd1 (St.mk [(16, (vI (0 : Int))), (15, (vB (decide (z.next < l.first)))), (10, .ptr 10 0 0), (6, .ptr 6 0 0), (4, .ptr 4 0 0)] [(33000, Blk.mk false 61 8 (List.map eItm
  z.queue)), (10, Blk.mk true 0 0 [[(vB z.begun), (vI l.first), (vI z.last.target), (vI z.last.first), (vI z.last.breaks), AV.sl (List.map eEnt z.last.entries), (vB
  z.last.ended), .own 33000, (vI (IntKind.wrap IntKind.i64 (z.lost + IntKind.wrap IntKind.i64 (l.first - z.next))))]]), (6, Blk.mk true 0 0 [[(vB false), (vI (0 : Int)), (vI
  (0 : Int)), (vI (0 : Int)), (vI (0 : Int)), AV.e0, (vB false), AV.e0, (vI (0 : Int))]]), (4, Blk.mk true 0 0 [[(vI l.target), (vI l.first), (vI l.breaks), AV.sl (List.map
  eEnt l.entries), (vB l.ended)]])])) fun (z : Lst × Lst × Bool × Int × Bool × Int × List Itm × Nat) => bif decide (List.length z.snd.fst.entries ≤ (1000 : Nat)) && decide
  (z.snd.snd.snd.snd.snd.snd.snd ≤ List.length z.snd.fst.entries) && decide (List.length z.snd.snd.snd.snd.snd.snd.fst ≤ (2000 : Nat) + z.snd.snd.snd.snd.snd.snd.snd) &&
  true then bif decide ((2000 : Int) < (↑(List.length (List.map eItm (F.rld z.snd.fst.first z.snd.snd.snd.snd.snd.snd.snd z.snd.snd.snd.snd.fst z.snd.snd.snd.snd.snd.fst
  z.snd.snd.snd.snd.snd.snd.fst (List.drop z.snd.snd.snd.snd.snd.snd.snd z.snd.fst.entries)).snd.snd.snd)) : Int)) then some (AV.tup [AV.agg [(vB false), (vI (0 : Int)), (vI
  (0 : Int)), (vI (0 : Int)), (vI (0 : Int)), AV.sl [], (vB false), AV.sl [], (vI (0 : Int))], (vI (17 : Int))], []) else Option.bind (unenc encWith [AV.agg [(vI
  z.snd.fst.target), (vI z.snd.fst.first), (vI z.snd.fst.breaks), AV.sl (List.map eEnt z.snd.fst.entries), (vB z.snd.fst.ended)], AV.sl (List.map eEnt z.snd.fst.entries)])
  fun (z_3 : Lst × List Ent) => bif decide (List.length z_3.snd ≤ (100000 : Nat)) then some (AV.tup [AV.agg [(vB z.snd.snd.fst), (vI (F.rld z.snd.fst.first
  z.snd.snd.snd.snd.snd.snd.snd z.snd.snd.snd.snd.fst z.snd.snd.snd.snd.snd.fst z.snd.snd.snd.snd.snd.snd.fst (List.drop z.snd.snd.snd.snd.snd.snd.snd
  z.snd.fst.entries)).snd.snd.fst), (vI z_3.fst.target), (vI z_3.fst.first), (vI z_3.fst.breaks), AV.sl (List.map eEnt z_3.snd), (vB z_3.fst.ended), AV.sl (List.map eItm
  (F.rld z.snd.fst.first z.snd.snd.snd.snd.snd.snd.snd z.snd.snd.snd.snd.fst z.snd.snd.snd.snd.snd.fst z.snd.snd.snd.snd.snd.snd.fst (List.drop z.snd.snd.snd.snd.snd.snd.snd
  z.snd.fst.entries)).snd.snd.snd), (vI z.snd.snd.snd.fst)], (vI (0 : Int))], []) else none else none else Option.bind (unenc stRLd1 (St.mk [(16, (vI (0 : Int))), (15, (vB
  (decide (z.next < l.first)))), (10, .ptr 10 0 0), (6, .ptr 6 0 0), (4, .ptr 4 0 0)] [(33000, Blk.mk false 61 8 (List.map eItm z.queue)), (10, Blk.mk true 0 0 [[(vB
  z.begun), (vI z.next), (vI z.last.target), (vI z.last.first), (vI z.last.breaks), AV.sl (List.map eEnt z.last.entries), (vB z.last.ended), .own 33000, (vI z.lost)]]), (6,
  Blk.mk true 0 0 [[(vB false), (vI (0 : Int)), (vI (0 : Int)), (vI (0 : Int)), (vI (0 : Int)), AV.e0, (vB false), AV.e0, (vI (0 : Int))]]), (4, Blk.mk true 0 0 [[(vI
  l.target), (vI l.first), (vI l.breaks), AV.sl (List.map eEnt l.entries), (vB l.ended)]])])) fun (z : Lst × Lst × Bool × Int × Bool × Int × List Itm × Nat) => bif decide
  (List.length z.snd.fst.entries ≤ (1000 : Nat)) && decide (z.snd.snd.snd.snd.snd.snd.snd ≤ List.length z.snd.fst.entries) && decide (List.length
  z.snd.snd.snd.snd.snd.snd.fst ≤ (2000 : Nat) + z.snd.snd.snd.snd.snd.snd.snd) && true then bif decide ((2000 : Int) < (↑(List.length (List.map eItm (F.rld z.snd.fst.first
  z.snd.snd.snd.snd.snd.snd.snd z.snd.snd.snd.snd.fst z.snd.snd.snd.snd.snd.fst z.snd.snd.snd.snd.snd.snd.fst (List.drop z.snd.snd.snd.snd.snd.snd.snd
  z.snd.fst.entries)).snd.snd.snd)) : Int)) then some (AV.tup [AV.agg [(vB false), (vI (0 : Int)), (vI (0 : Int)), (vI (0 : Int)), (vI (0 : Int)), AV.sl [], (vB false),
  AV.sl [], (vI (0 : Int))], (vI (17 : Int))], []) else Option.bind (unenc encWith [AV.agg [(vI z.snd.fst.target), (vI z.snd.fst.first), (vI z.snd.fst.breaks), AV.sl
  (List.map eEnt z.snd.fst.entries), (vB z.snd.fst.ended)], AV.sl (List.map eEnt z.snd.fst.entries)]) fun (z_3 : Lst × List Ent) => bif decide (List.length z_3.snd ≤ (100000
  : Nat)) then some (AV.tup [AV.agg [(vB z.snd.snd.fst), (vI (F.rld z.snd.fst.first z.snd.snd.snd.snd.snd.snd.snd z.snd.snd.snd.snd.fst z.snd.snd.snd.snd.snd.fst
  z.snd.snd.snd.snd.snd.snd.fst (List.drop z.snd.snd.snd.snd.snd.snd.snd z.snd.fst.entries)).snd.snd.fst), (vI z_3.fst.target), (vI z_3.fst.first), (vI z_3.fst.breaks),
  AV.sl (List.map eEnt z_3.snd), (vB z_3.fst.ended), AV.sl (List.map eItm (F.rld z.snd.fst.first z.snd.snd.snd.snd.snd.snd.snd z.snd.snd.snd.snd.fst
  z.snd.snd.snd.snd.snd.fst z.snd.snd.snd.snd.snd.snd.fst (List.drop z.snd.snd.snd.snd.snd.snd.snd z.snd.fst.entries)).snd.snd.snd), (vI z.snd.snd.snd.fst)], (vI (0 :
  Int))], []) else none else none else none else bif !bif bif c.next != (0 : Int) then true else c.lost != (0 : Int) then true else decide ((0 : Int) < (↑(List.length
  (List.map eItm c.queue)) : Int)) then bif !bif bif c.next != (0 : Int) then true else c.lost != (0 : Int) then true else decide ((0 : Int) < (↑(List.length (List.map eItm
  c.queue)) : Int)) then Option.bind (unenc encSmL [AV.agg [(vI c.last.target), (vI c.last.first), (vI c.last.breaks), AV.sl (List.map eEnt c.last.entries), (vB
  c.last.ended)], AV.agg [(vI (0 : Int)), (vI (0 : Int)), (vI (0 : Int)), AV.sl [], (vB false)]]) fun (z_1 : Lst × Lst) => bif bif bif bif c.next != (0 : Int) then true else
  c.lost != (0 : Int) then true else decide ((0 : Int) < (↑(List.length (List.map eItm c.queue)) : Int)) then true else !F.sameL z_1.fst z_1.snd then some (AV.tup [AV.agg
  [(vB false), (vI (0 : Int)), (vI (0 : Int)), (vI (0 : Int)), (vI (0 : Int)), AV.sl [], (vB false), AV.sl [], (vI (0 : Int))], (vI (3 : Int))], []) else bif (↑(List.length
  (List.map eEnt l.entries)) : Int) == (0 : Int) then some (AV.tup [AV.agg [(vB false), (vI (0 : Int)), (vI (0 : Int)), (vI (0 : Int)), (vI (0 : Int)), AV.sl [], (vB false),
  AV.sl [], (vI (0 : Int))], (vI (9 : Int))], []) else Option.bind (unenc encRSt [AV.agg [(vI l.target), (vI l.first), (vI l.breaks), AV.sl (List.map eEnt l.entries), (vB
  l.ended)], (vI b)]) fun (z_2 : Lst × Int) => bif decide (F.check z_2.fst = (0 : Int)) && !F.out z_2.snd (0 : Int) (1000000000000000 : Int) && decide ((0 : Nat) <
  List.length z_2.fst.entries) then bif decide (IntKind.wrap IntKind.i64 (l.first + F.startI z_2.fst z_2.snd) < l.first) then Option.bind (unenc stRLd1 (St.mk [(16, (vI (0 :
  Int))), (15, (vB (decide (IntKind.wrap IntKind.i64 (l.first + F.startI z_2.fst z_2.snd) < l.first)))), (10, .ptr 10 0 0), (6, .ptr 6 0 0), (4, .ptr 4 0 0)] [(33000, Blk.mk
  false 61 8 (List.map eItm z.queue)), (10, Blk.mk true 0 0 [[(vB true), (vI l.first), (vI z.last.target), (vI z.last.first), (vI z.last.breaks), AV.sl (List.map eEnt
  z.last.entries), (vB z.last.ended), .own 33000, (vI (IntKind.wrap IntKind.i64 (z.lost + IntKind.wrap IntKind.i64 (l.first - IntKind.wrap IntKind.i64 (l.first + F.startI
  z_2.fst z_2.snd)))))]]), (6, Blk.mk true 0 0 [[(vB false), (vI (0 : Int)), (vI (0 : Int)), (vI (0 : Int)), (vI (0 : Int)), AV.e0, (vB false), AV.e0, (vI (0 : Int))]]), (4,
  Blk.mk true 0 0 [[(vI l.target), (vI l.first), (vI l.breaks), AV.sl (List.map eEnt l.entries), (vB l.ended)]])])) fun (z : Lst × Lst × Bool × Int × Bool × Int × List Itm ×
  Nat) => bif decide (List.length z.snd.fst.entries ≤ (1000 : Nat)) && decide (z.snd.snd.snd.snd.snd.snd.snd ≤ List.length z.snd.fst.entries) && decide (List.length
  z.snd.snd.snd.snd.snd.snd.fst ≤ (2000 : Nat) + z.snd.snd.snd.snd.snd.snd.snd) && true then bif decide ((2000 : Int) < (↑(List.length (List.map eItm (F.rld z.snd.fst.first
  z.snd.snd.snd.snd.snd.snd.snd z.snd.snd.snd.snd.fst z.snd.snd.snd.snd.snd.fst z.snd.snd.snd.snd.snd.snd.fst (List.drop z.snd.snd.snd.snd.snd.snd.snd
  z.snd.fst.entries)).snd.snd.snd)) : Int)) then some (AV.tup [AV.agg [(vB false), (vI (0 : Int)), (vI (0 : Int)), (vI (0 : Int)), (vI (0 : Int)), AV.sl [], (vB false),
  AV.sl [], (vI (0 : Int))], (vI (17 : Int))], []) else Option.bind (unenc encWith [AV.agg [(vI z.snd.fst.target), (vI z.snd.fst.first), (vI z.snd.fst.breaks), AV.sl
  (List.map eEnt z.snd.fst.entries), (vB z.snd.fst.ended)], AV.sl (List.map eEnt z.snd.fst.entries)]) fun (z_3 : Lst × List Ent) => bif decide (List.length z_3.snd ≤ (100000
  : Nat)) then some (AV.tup [AV.agg [(vB z.snd.snd.fst), (vI (F.rld z.snd.fst.first z.snd.snd.snd.snd.snd.snd.snd z.snd.snd.snd.snd.fst z.snd.snd.snd.snd.snd.fst
  z.snd.snd.snd.snd.snd.snd.fst (List.drop z.snd.snd.snd.snd.snd.snd.snd z.snd.fst.entries)).snd.snd.fst), (vI z_3.fst.target), (vI z_3.fst.first), (vI z_3.fst.breaks),
  AV.sl (List.map eEnt z_3.snd), (vB z_3.fst.ended), AV.sl (List.map eItm (F.rld z.snd.fst.first z.snd.snd.snd.snd.snd.snd.snd z.snd.snd.snd.snd.fst
  z.snd.snd.snd.snd.snd.fst z.snd.snd.snd.snd.snd.snd.fst (List.drop z.snd.snd.snd.snd.snd.snd.snd z.snd.fst.entries)).snd.snd.snd), (vI z.snd.snd.snd.fst)], (vI (0 :
  Int))], []) else none else none else Option.bind (unenc stRLd1 (St.mk [(16, (vI (0 : Int))), (15, (vB (decide (IntKind.wrap IntKind.i64 (l.first + F.startI z_2.fst
  z_2.snd) < l.first)))), (10, .ptr 10 0 0), (6, .ptr 6 0 0), (4, .ptr 4 0 0)] [(33000, Blk.mk false 61 8 (List.map eItm z.queue)), (10, Blk.mk true 0 0 [[(vB true), (vI
  (IntKind.wrap IntKind.i64 (l.first + F.startI z_2.fst z_2.snd))), (vI z.last.target), (vI z.last.first), (vI z.last.breaks), AV.sl (List.map eEnt z.last.entries), (vB
  z.last.ended), .own 33000, (vI z.lost)]]), (6, Blk.mk true 0 0 [[(vB false), (vI (0 : Int)), (vI (0 : Int)), (vI (0 : Int)), (vI (0 : Int)), AV.e0, (vB false), AV.e0, (vI
  (0 : Int))]]), (4, Blk.mk true 0 0 [[(vI l.target), (vI l.first), (vI l.breaks), AV.sl (List.map eEnt l.entries), (vB l.ended)]])])) fun (z : Lst × Lst × Bool × Int × Bool
  × Int × List Itm × Nat) => bif decide (List.length z.snd.fst.entries ≤ (1000 : Nat)) && decide (z.snd.snd.snd.snd.snd.snd.snd ≤ List.length z.snd.fst.entries) && decide
  (List.length z.snd.snd.snd.snd.snd.snd.fst ≤ (2000 : Nat) + z.snd.snd.snd.snd.snd.snd.snd) && true then bif decide ((2000 : Int) < (↑(List.length (List.map eItm (F.rld
  z.snd.fst.first z.snd.snd.snd.snd.snd.snd.snd z.snd.snd.snd.snd.fst z.snd.snd.snd.snd.snd.fst z.snd.snd.snd.snd.snd.snd.fst (List.drop z.snd.snd.snd.snd.snd.snd.snd
  z.snd.fst.entries)).snd.snd.snd)) : Int)) then some (AV.tup [AV.agg [(vB false), (vI (0 : Int)), (vI (0 : Int)), (vI (0 : Int)), (vI (0 : Int)), AV.sl [], (vB false),
  AV.sl [], (vI (0 : Int))], (vI (17 : Int))], []) else Option.bind (unenc encWith [AV.agg [(vI z.snd.fst.target), (vI z.snd.fst.first), (vI z.snd.fst.breaks), AV.sl
  (List.map eEnt z.snd.fst.entries), (vB z.snd.fst.ended)], AV.sl (List.map eEnt z.snd.fst.entries)]) fun (z_3 : Lst × List Ent) => bif decide (List.length z_3.snd ≤ (100000
  : Nat)) then some (AV.tup [AV.agg [(vB z.snd.snd.fst), (vI (F.rld z.snd.fst.first z.snd.snd.snd.snd.snd.snd.snd z.snd.snd.snd.snd.fst z.snd.snd.snd.snd.snd.fst
  z.snd.snd.snd.snd.snd.snd.fst (List.drop z.snd.snd.snd.snd.snd.snd.snd z.snd.fst.entries)).snd.snd.fst), (vI z_3.fst.target), (vI z_3.fst.first), (vI z_3.fst.breaks),
  AV.sl (List.map eEnt z_3.snd), (vB z_3.fst.ended), AV.sl (List.map eItm (F.rld z.snd.fst.first z.snd.snd.snd.snd.snd.snd.snd z.snd.snd.snd.snd.fst
  z.snd.snd.snd.snd.snd.fst z.snd.snd.snd.snd.snd.snd.fst (List.drop z.snd.snd.snd.snd.snd.snd.snd z.snd.fst.entries)).snd.snd.snd), (vI z.snd.snd.snd.fst)], (vI (0 :
  Int))], []) else none else none else none else bif !bif bif c.next != (0 : Int) then true else c.lost != (0 : Int) then true else decide ((0 : Int) < (↑(List.length
  (List.map eItm c.queue)) : Int)) then none else some (AV.tup [AV.agg [(vB false), (vI (0 : Int)), (vI (0 : Int)), (vI (0 : Int)), (vI (0 : Int)), AV.sl [], (vB false),
  AV.sl [], (vI (0 : Int))], (vI (3 : Int))], []) else bif !bif bif c.next != (0 : Int) then true else c.lost != (0 : Int) then true else decide ((0 : Int) < (↑(List.length
  (List.map eItm c.queue)) : Int)) then Option.bind (unenc encSmL [AV.agg [(vI c.last.target), (vI c.last.first), (vI c.last.breaks), AV.sl (List.map eEnt c.last.entries),
  (vB c.last.ended)], AV.unk]) fun (z_1 : Lst × Lst) => bif bif bif bif c.next != (0 : Int) then true else c.lost != (0 : Int) then true else decide ((0 : Int) <
  (↑(List.length (List.map eItm c.queue)) : Int)) then true else !F.sameL z_1.fst z_1.snd then some (AV.tup [AV.agg [(vB false), (vI (0 : Int)), (vI (0 : Int)), (vI (0 :
  Int)), (vI (0 : Int)), AV.sl [], (vB false), AV.sl [], (vI (0 : Int))], (vI (3 : Int))], []) else bif (↑(List.length (List.map eEnt l.entries)) : Int) == (0 : Int) then
  some (AV.tup [AV.agg [(vB false), (vI (0 : Int)), (vI (0 : Int)), (vI (0 : Int)), (vI (0 : Int)), AV.sl [], (vB false), AV.sl [], (vI (0 : Int))], (vI (9 : Int))], [])
  else Option.bind (unenc encRSt [AV.agg [(vI l.target), (vI l.first), (vI l.breaks), AV.sl (List.map eEnt l.entries), (vB l.ended)], (vI b)]) fun (z_2 : Lst × Int) => bif
  decide (F.check z_2.fst = (0 : Int)) && !F.out z_2.snd (0 : Int) (1000000000000000 : Int) && decide ((0 : Nat) < List.length z_2.fst.entries) then bif decide (IntKind.wrap
  IntKind.i64 (l.first + F.startI z_2.fst z_2.snd) < l.first) then Option.bind (unenc stRLd1 (St.mk [(16, (vI (0 : Int))), (15, (vB (decide (IntKind.wrap IntKind.i64
  (l.first + F.startI z_2.fst z_2.snd) < l.first)))), (10, .ptr 10 0 0), (6, .ptr 6 0 0), (4, .ptr 4 0 0)] [(33000, Blk.mk false 61 8 (List.map eItm z.queue)), (10, Blk.mk
  true 0 0 [[(vB true), (vI l.first), (vI z.last.target), (vI z.last.first), (vI z.last.breaks), AV.sl (List.map eEnt z.last.entries), (vB z.last.ended), .own 33000, (vI
  (IntKind.wrap IntKind.i64 (z.lost + IntKind.wrap IntKind.i64 (l.first - IntKind.wrap IntKind.i64 (l.first + F.startI z_2.fst z_2.snd)))))]]), (6, Blk.mk true 0 0 [[(vB
  false), (vI (0 : Int)), (vI (0 : Int)), (vI (0 : Int)), (vI (0 : Int)), AV.e0, (vB false), AV.e0, (vI (0 : Int))]]), (4, Blk.mk true 0 0 [[(vI l.target), (vI l.first), (vI
  l.breaks), AV.sl (List.map eEnt l.entries), (vB l.ended)]])])) fun (z : Lst × Lst × Bool × Int × Bool × Int × List Itm × Nat) => bif decide (List.length z.snd.fst.entries
  ≤ (1000 : Nat)) && decide (z.snd.snd.snd.snd.snd.snd.snd ≤ List.length z.snd.fst.entries) && decide (List.length z.snd.snd.snd.snd.snd.snd.fst ≤ (2000 : Nat) +
  z.snd.snd.snd.snd.snd.snd.snd) && true then bif decide ((2000 : Int) < (↑(List.length (List.map eItm (F.rld z.snd.fst.first z.snd.snd.snd.snd.snd.snd.snd
  z.snd.snd.snd.snd.fst z.snd.snd.snd.snd.snd.fst z.snd.snd.snd.snd.snd.snd.fst (List.drop z.snd.snd.snd.snd.snd.snd.snd z.snd.fst.entries)).snd.snd.snd)) : Int)) then some
  (AV.tup [AV.agg [(vB false), (vI (0 : Int)), (vI (0 : Int)), (vI (0 : Int)), (vI (0 : Int)), AV.sl [], (vB false), AV.sl [], (vI (0 : Int))], (vI (17 : Int))], []) else
  Option.bind (unenc encWith [AV.agg [(vI z.snd.fst.target), (vI z.snd.fst.first), (vI z.snd.fst.breaks), AV.sl (List.map eEnt z.snd.fst.entries), (vB z.snd.fst.ended)],
  AV.sl (List.map eEnt z.snd.fst.entries)]) fun (z_3 : Lst × List Ent) => bif decide (List.length z_3.snd ≤ (100000 : Nat)) then some (AV.tup [AV.agg [(vB z.snd.snd.fst),
  (vI (F.rld z.snd.fst.first z.snd.snd.snd.snd.snd.snd.snd z.snd.snd.snd.snd.fst z.snd.snd.snd.snd.snd.fst z.snd.snd.snd.snd.snd.snd.fst (List.drop
  z.snd.snd.snd.snd.snd.snd.snd z.snd.fst.entries)).snd.snd.fst), (vI z_3.fst.target), (vI z_3.fst.first), (vI z_3.fst.breaks), AV.sl (List.map eEnt z_3.snd), (vB
  z_3.fst.ended), AV.sl (List.map eItm (F.rld z.snd.fst.first z.snd.snd.snd.snd.snd.snd.snd z.snd.snd.snd.snd.fst z.snd.snd.snd.snd.snd.fst z.snd.snd.snd.snd.snd.snd.fst
  (List.drop z.snd.snd.snd.snd.snd.snd.snd z.snd.fst.entries)).snd.snd.snd), (vI z.snd.snd.snd.fst)], (vI (0 : Int))], []) else none else none else Option.bind (unenc stRLd1
  (St.mk [(16, (vI (0 : Int))), (15, (vB (decide (IntKind.wrap IntKind.i64 (l.first + F.startI z_2.fst z_2.snd) < l.first)))), (10, .ptr 10 0 0), (6, .ptr 6 0 0), (4, .ptr 4
  0 0)] [(33000, Blk.mk false 61 8 (List.map eItm z.queue)), (10, Blk.mk true 0 0 [[(vB true), (vI (IntKind.wrap IntKind.i64 (l.first + F.startI z_2.fst z_2.snd))), (vI
  z.last.target), (vI z.last.first), (vI z.last.breaks), AV.sl (List.map eEnt z.last.entries), (vB z.last.ended), .own 33000, (vI z.lost)]]), (6, Blk.mk true 0 0 [[(vB
  false), (vI (0 : Int)), (vI (0 : Int)), (vI (0 : Int)), (vI (0 : Int)), AV.e0, (vB false), AV.e0, (vI (0 : Int))]]), (4, Blk.mk true 0 0 [[(vI l.target), (vI l.first), (vI
  l.breaks), AV.sl (List.map eEnt l.entries), (vB l.ended)]])])) fun (z : Lst × Lst × Bool × Int × Bool × Int × List Itm × Nat) => bif decide (List.length z.snd.fst.entries
  ≤ (1000 : Nat)) && decide (z.snd.snd.snd.snd.snd.snd.snd ≤ List.length z.snd.fst.entries) && decide (List.length z.snd.snd.snd.snd.snd.snd.fst ≤ (2000 : Nat) +
  z.snd.snd.snd.snd.snd.snd.snd) && true then bif decide ((2000 : Int) < (↑(List.length (List.map eItm (F.rld z.snd.fst.first z.snd.snd.snd.snd.snd.snd.snd
  z.snd.snd.snd.snd.fst z.snd.snd.snd.snd.snd.fst z.snd.snd.snd.snd.snd.snd.fst (List.drop z.snd.snd.snd.snd.snd.snd.snd z.snd.fst.entries)).snd.snd.snd)) : Int)) then some
  (AV.tup [AV.agg [(vB false), (vI (0 : Int)), (vI (0 : Int)), (vI (0 : Int)), (vI (0 : Int)), AV.sl [], (vB false), AV.sl [], (vI (0 : Int))], (vI (17 : Int))], []) else
  Option.bind (unenc encWith [AV.agg [(vI z.snd.fst.target), (vI z.snd.fst.first), (vI z.snd.fst.breaks), AV.sl (List.map eEnt z.snd.fst.entries), (vB z.snd.fst.ended)],
  AV.sl (List.map eEnt z.snd.fst.entries)]) fun (z_3 : Lst × List Ent) => bif decide (List.length z_3.snd ≤ (100000 : Nat)) then some (AV.tup [AV.agg [(vB z.snd.snd.fst),
  (vI (F.rld z.snd.fst.first z.snd.snd.snd.snd.snd.snd.snd z.snd.snd.snd.snd.fst z.snd.snd.snd.snd.snd.fst z.snd.snd.snd.snd.snd.snd.fst (List.drop
  z.snd.snd.snd.snd.snd.snd.snd z.snd.fst.entries)).snd.snd.fst), (vI z_3.fst.target), (vI z_3.fst.first), (vI z_3.fst.breaks), AV.sl (List.map eEnt z_3.snd), (vB
  z_3.fst.ended), AV.sl (List.map eItm (F.rld z.snd.fst.first z.snd.snd.snd.snd.snd.snd.snd z.snd.snd.snd.snd.fst z.snd.snd.snd.snd.snd.fst z.snd.snd.snd.snd.snd.snd.fst
  (List.drop z.snd.snd.snd.snd.snd.snd.snd z.snd.fst.entries)).snd.snd.snd), (vI z.snd.snd.snd.fst)], (vI (0 : Int))], []) else none else none else none else bif !bif bif
  c.next != (0 : Int) then true else c.lost != (0 : Int) then true else decide ((0 : Int) < (↑(List.length (List.map eItm c.queue)) : Int)) then none else some (AV.tup
  [AV.agg [(vB false), (vI (0 : Int)), (vI (0 : Int)), (vI (0 : Int)), (vI (0 : Int)), AV.sl [], (vB false), AV.sl [], (vI (0 : Int))], (vI (3 : Int))], []) else none := by kernel_rfl

def encRLd1 (c : Cli) (l : Lst) (b : Int) : List AV := [.agg (eCli c), .agg (eLst l), vI b]

def encRLd (a : Cli × Lst × Int) : List AV := encRLd1 a.1 a.2.1 a.2.2

theorem encRLd_inj (a a' : Cli × Lst × Int) (h : encRLd a = encRLd a') : a = a' := by
  simp only [encRLd, encRLd1] at h
  try simp [strs_inj, ents_inj, eEnt_iff, eLst_iff, ints_inj, eTrn_iff, itms_inj, eCli_iff, eItm_iff] at h
  grind

theorem unRLd (c : Cli) (l : Lst) (b : Int) : unenc encRLd ([AV.agg [(vB c.begun), (vI c.next), (vI c.last.target), (vI c.last.first), (vI c.last.breaks), AV.sl (List.map eEnt c.last.entries), (vB c.last.ended), AV.sl (List.map
  eItm c.queue), (vI c.lost)], AV.agg [(vI l.target), (vI l.first), (vI l.breaks), AV.sl (List.map eEnt l.entries), (vB l.ended)], (vI b)]) = some (c, l, b) := unenc_of encRLd_inj (c, l, b) rfl

theorem unRLdw (c : Cli) (l_target : Int) (l_first : Int) (l_breaks : Int) (l_entries : List Ent) (l_ended : Bool) (b : Int) : unenc encRLd ([AV.agg [(vB c.begun), (vI c.next), (vI c.last.target), (vI c.last.first), (vI c.last.breaks), AV.sl (List.map eEnt c.last.entries), (vB c.last.ended), AV.sl (List.map
  eItm c.queue), (vI c.lost)], AV.agg [(vI l_target), (vI l_first), (vI l_breaks), AV.sl (List.map eEnt l_entries), (vB l_ended)], (vI b)]) = some (c, (Lst.mk l_target l_first l_breaks l_entries l_ended), b) := unenc_of encRLd_inj (c, (Lst.mk l_target l_first l_breaks l_entries l_ended), b) rfl

def resRLd1 (c : Cli) (l : Lst) (b : Int) : AV × Heap := (.tup [.agg (eCli (F.rload c l b).1), vI (F.rload c l b).2], [])

def preRLd1 (c : Cli) (l : Lst) (b : Int) : Bool := true

noncomputable def oRLd : Orc := orc 31 false encRLd (fun a => preRLd1 a.1 a.2.1 a.2.2) fun a => resRLd1 a.1 a.2.1 a.2.2

theorem okRLd : OrcOK Try.prog noG oRLd := by
  refine mk_ok Try.f31 (keep := false) (by kernel_rfl) (by kernel_rfl) enRLd_ok mixed (one_loop (x0 := loopN Try.f31 0) (by kernel_rfl) (lpo_ok ?_)) (by first | exact fun _ _ => ⟨rfl, rfl⟩ | (intro h; cases h)) ?_
  · rintro ⟨la, l, bg, lc, lost, next, q, k⟩ hp
    exact lpRLd_ok la l bg lc lost next q k hp
  rintro ⟨c, l, b⟩ hpre hok
  show (runF enRLd false _ (encRLd1 _ _ _)).val = some (resRLd1 _ _ _)
  unfold encRLd1 resRLd1
  rw [evRLd]
  simp only [unRChk, unRCl, unRCp, unRFl, unSmL, unRSt, unWith, unRChkw, unRFlw, unSmLw, unRStw, unWithw, preRChk1, preRCl1, preRCp1, preRFl1, preSmL1, preRSt1, preWith1, unstRLd, unstRLd0, prlRLd, outRLd, etaEnt, etaLst, Option.bind_some, List.length_map, unStrs, unInts, unBools, unEnts, unItms, unTrns, cond_true, cond_false, Bool.and_true, Bool.true_and, F.cond_tl, F.isE, List.drop_zero, Nat.zero_le, decide_true, Bool.and_true]
  unfold F.rload F.fresh F.rloadC F.rloadR F.rloadL F.lt
  have hu : unenc encSmL [.agg [.v (.int .i64 c.last.target), .v (.int .i64 c.last.first), .v (.int .i64 c.last.breaks), .sl (c.last.entries.map eEnt), .v (.bool c.last.ended)], .agg [.v (.int .i64 0), .v (.int .i64 0), .v (.int .i64 0), .sl [], .v (.bool false)]] = some (c.last, F.noL) := unenc_of encSmL_inj (c.last, F.noL) rfl
  cases hc : F.check l != 0
  · have hc0 : F.check l = 0 := by simpa using hc
    have hle := (F.check_ok hc0).1
    have d1 : decide (l.entries.length ≤ 1000) = true := decide_eq_true hle
    have d2 : decide (l.entries.length ≤ 100000) = true := decide_eq_true (by omega)
    cases h1 : F.cliF c b != 0
    · obtain ⟨k1, k2, k3, k4⟩ := F.cliF_ok h1
      have hbo : F.out b 0 1000000000000000 = false := by simp [F.out]; omega
      have d3 : decide (c.queue.length ≤ 2000 + 0) = true := decide_eq_true (by omega)
      have d4 : decide (c.queue.length ≤ 100000) = true := decide_eq_true (by omega)
      simp only [hc0, d1, d2, d3, d4, cond_true, cond_false, Bool.and_self, decide_true, hbo, Bool.not_false]
      cases h2 : c.begun
      · simp only [cond_false]
        cases hA : (c.next != 0 || c.lost != 0 || decide (0 < (c.queue.length : Int)))
        · simp only [Bool.not_false, Bool.not_true, cond_true, cond_false, hu, Option.bind_some, Bool.false_or, Bool.or_false]
          cases h3 : F.sameL c.last F.noL
          · rfl
          · simp only [Bool.not_true, cond_false]
            cases h4 : l.entries.isEmpty
            · have hn : decide (0 < l.entries.length) = true := by cases hh : l.entries <;> simp_all
              simp only [hn, cond_true, cond_false]
              by_cases h6 : IntKind.i64.wrap (l.first + F.startI l b) < l.first
              · simp only [h6, decide_true, cond_true, cond_false]
                generalize F.rld _ _ _ _ _ _ = r
                cases decide (2000 < (r.2.2.2.length : Int)) <;> rfl
              · simp only [h6, decide_false, cond_true, cond_false]
                generalize F.rld _ _ _ _ _ _ = r
                cases decide (2000 < (r.2.2.2.length : Int)) <;> rfl
            · rfl
        · simp only [Bool.not_false, Bool.not_true, cond_true, cond_false, Bool.true_or]
          rfl
      · simp only [cond_true]
        cases h5 : F.check c.last != 0
        · have h50 : F.check c.last = 0 := by simpa using h5
          simp only [h50, decide_true, cond_true, cond_false]
          cases h7 : F.rfol c.last l != 0
          · simp only [cond_false]
            by_cases h6 : c.next < l.first
            · simp only [h6, decide_true, cond_true, cond_false]
              generalize F.rld _ _ _ _ _ _ = r
              cases decide (2000 < (r.2.2.2.length : Int)) <;> rfl
            · simp only [h6, decide_false, cond_true, cond_false]
              generalize F.rld _ _ _ _ _ _ = r
              cases decide (2000 < (r.2.2.2.length : Int)) <;> rfl
          · rfl
        · rfl
    · rfl
  · rfl

end M
end Go.Proofs.Ytkfhfjcgegimbaa
