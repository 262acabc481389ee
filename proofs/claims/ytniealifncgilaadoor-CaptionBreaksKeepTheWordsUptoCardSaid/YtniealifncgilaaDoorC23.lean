/- What is proved here: Place of the program, whole (no statement of the seat). -/
import Derived.Test.YtniealifncgilaaDoorC22
namespace Go.Proofs.YtniealifncgilaaDoor
open Go Go.RowKit
set_option linter.unusedVariables false
set_option linter.unusedSimpArgs false

theorem F.seekR_bd (t : Int → Bool) : ∀ (n : Nat) (r : Int), 1 ≤ r → F.seekR t n r = 0 ∨ (r ≤ F.seekR t n r ∧ F.seekR t n r < r + n)
  | 0, r, _ => Or.inl rfl
  | n + 1, r, h => by
    rw [F.seekR]
    cases t r
    · right; simp only [cond_false]; omega
    · simp only [cond_true]
      rcases F.seekR_bd t n (r + 1) (by omega) with h1 | h1
      · exact Or.inl h1
      · right; omega

theorem F.pick_bd {l : List Cap} {first : List Int} {c : Cap} {w : Int} (hc : F.capR c = true) (hw : F.wOK w = true) : F.rowB (F.pick l first c w) = true := by
  have hc := F.capR_iff.1 hc
  have hw : 1 ≤ w ∧ w ≤ 15 := by simpa [F.wOK, F.le] using hw
  rw [F.rowB_iff]
  unfold F.pick
  cases h : c.row == 0
  · simp only [cond_false]; omega
  · simp only [cond_true]
    rcases F.seekR_bd (F.taken l first c) (w + 1 - (c.lines.length : Int)).toNat 1 (by omega) with h1 | h1 <;> omega

theorem F.rowsB_app {a : List Int} {x : Int} (h : F.rowsB a = true) (hx : F.rowB x = true) : F.rowsB (a ++ [x]) = true := by
  unfold F.rowsB at h ⊢
  rw [List.all_append, h]
  simp [hx]

/-- What the rows so far are. -/
structure F.PlI (l : List Cap) (a : List Int × Int) (k : Nat) : Prop where
  len : a.1.length = k
  row : F.rowsB a.1 = true
  lo : 0 ≤ a.2
  hi : a.2 ≤ k

theorem F.PlI.step {l : List Cap} {w : Int} {a : List Int × Int} {k : Nat} {c : Cap} (h : F.PlI l a k) (hc : F.capR c = true) (hw : F.wOK w = true) : F.PlI l (F.plS l w a c) (k + 1) := by
  refine ⟨by simp [F.plS, h.len], F.rowsB_app h.row (F.pick_bd hc hw), ?_, ?_⟩
  · have := h.lo
    unfold F.plS
    cases F.badR l a.1 c w (F.pick l a.1 c w) <;> simp only [cond_true, cond_false] <;> omega
  · have := h.hi
    unfold F.plS
    cases F.badR l a.1 c w (F.pick l a.1 c w) <;> simp only [cond_true, cond_false] <;> omega

namespace M

def finPl (l : List Cap) (a : List Int × Int) : Ex × St := (.exit 0, ⟨[(9, vI a.2), (8, .ptr 23 0 0)], [(82, ⟨false, 3, 1, a.1.map eI⟩), (23, ⟨true, 0, 0, [[.sl (l.map eCap), .own 82]]⟩)]⟩)

theorem lpPk_ok (l : List Cap) (w : Int) (h1 : F.capsR l = true) (h2 : F.wOK w = true) (h3 : l.length ≤ 500) :
    ∀ (a : List Int × Int) (k : Nat), k ≤ l.length → F.PlI l a k → ∀ ex s', (T.ret (finPl l ((l.drop k).foldl (F.plS l w) a))).val = some (ex, s') → LoopOK enPl (loopN Tryd.f22 0) (stPk l w a.1 a.2 k) ex s' := by
  have hw : 1 ≤ w ∧ w ≤ 15 := by simpa [F.wOK, F.le] using h2
  refine loop_fold (xs := l) (st := fun a k => stPk l w a.1 a.2 k) (f := F.plS l w) (fin := finPl l) (I := F.PlI l) (n := ([26, 25, 24, 9, 8, 1], [82, 23])) (e := ([9, 8], [82, 23])) (r := ([], [])) ?_ (fun _ => ⟨by simp [finPl], rfl⟩) (fun _ _ => rfl) ?_
  · intro a _
    rw [evPlS]
    simp
    rfl
  · intro a k c hy hI
    have hcR := F.capsR_at h1 hy
    refine ⟨?_, hI.step hcR h2⟩
    obtain ⟨first, bad⟩ := a
    have hlen : first.length = k := hI.len
    have hrow : F.rowsB first = true := hI.row
    have hlo : 0 ≤ bad := hI.lo
    have hhi : bad ≤ k := hI.hi
    have hlt := lt_at hy
    have hcr := F.capR_iff.1 hcR
    have hgd : l.getD k ⟨0, 0, [], 0, false, false⟩ = c := getD_at hy
    have hpb := F.pick_bd (l := l) (first := first) hcR h2
    have hpb2 := F.rowB_iff.1 hpb
    have hN := next_at hlt (by omega : l.length ≤ 9223372036854775807)
    have hle : decide (first.length ≤ l.length) = true := decide_eq_true (by omega)
    have h500 : decide (l.length ≤ 500) = true := decide_eq_true h3
    have w3 : IntKind.i64.wrap (bad + 1) = bad + 1 := wrap_id (by omega) (by omega)
    have w1 : IntKind.i64.wrap (F.pick l first c w + (c.lines.length : Int)) = F.pick l first c w + (c.lines.length : Int) := wrap_id (by omega) (by omega)
    have w2 : IntKind.i64.wrap (F.pick l first c w + (c.lines.length : Int) - 1) = F.pick l first c w + (c.lines.length : Int) - 1 := wrap_id (by omega) (by omega)
    have hble : Nat.ble ((first.length + 1) * 8) 140737488355328 = true := ble_t (by omega)
    have key : F.plS l w (first, bad) c = (first ++ [F.pick l first c w], bif F.badR l first c w (F.pick l first c w) then bad + 1 else bad) := rfl
    rw [key]
    unfold F.badR F.lt
    rw [evPlS]
    simp only [cast_lt hlt, cond_true, unCaps, Option.bind_some, decide_eq_true hlt, hgd]
    cases hr0 : c.row == 0
    · have hpk : F.pick l first c w = c.row := by unfold F.pick; rw [hr0]; rfl
      rw [hpk] at w1 w2 hpb ⊢
      simp only [cond_false, Bool.not_false, cond_true, List.length_map, w1, w2, unTk, Option.bind_some, h1, hrow, hpb, hle, h500, decide_eq_true hlt, Bool.and_self, hgd, hble, hN, w3, appInts', Bool.and_true, Bool.false_or, hr0]
      cases decide (w < c.row + (c.lines.length : Int) - 1) <;> cases F.taken l first c c.row <;> rfl
    · have hr0' : c.row = 0 := by simpa using hr0
      have e0 : w + 2 - (c.lines.length : Int) - 1 = w + 1 - (c.lines.length : Int) := by omega
      have hpk : F.seekR (F.taken l first c) (w + 1 - (c.lines.length : Int)).toNat 1 = F.pick l first c w := by unfold F.pick; rw [hr0]; rfl
      have f1 : F.rowB c.row = true := by rw [hr0']; rfl
      have f2 : F.isAt l k c = true := by simpa [F.isAt] using hy
      simp only [cond_true, unstPi1, Option.bind_some, prlPi, outPi]
      refine bif_t ?_ ?_
      · have g1 : F.lst (some first) = first := rfl
        have g2 : F.le 1 1 = true := rfl
        have g3 : F.le 1 100 = true := rfl
        simp only [g1, g2, g3, h1, h2, hrow, f1, f2, h500, hlen, decide_true, Bool.and_self, Bool.true_and]
        rfl
      · have g1 : F.lst (some first) = first := rfl
        have g2 : F.isN (some first) = false := rfl
        simp only [g1, g2, cond_false, e0, hr0, cond_true, hpk, List.length_map, w1, w2, unTk, Option.bind_some, h1, hrow, hpb, hle, h500, decide_eq_true hlt, Bool.and_self, hgd, hble, hN, w3, appInts', Bool.and_true]
        cases F.pick l first c w == 0 <;> cases decide (w < F.pick l first c w + (c.lines.length : Int) - 1) <;> cases F.taken l first c (F.pick l first c w) <;> rfl

theorem lpPl_ok (l : List Cap) (w : Int) (hp : prlPl l w = true) : ∀ ex s', (outPl l w).val = some (ex, s') → LoopOK enPl (loopN Tryd.f22 0) (stPl l w) ex s' := by
  simp only [prlPl, Bool.and_eq_true, decide_eq_true_eq] at hp
  obtain ⟨⟨h1, h2⟩, h3⟩ := hp
  intro ex s' hh
  cases hl : l with
  | nil =>
    subst hl
    have e : some (ex, s') = some ((.exit 0, ⟨[(9, vI 0), (8, .ptr 23 0 0)], [(23, ⟨true, 0, 0, [[.sl (([] : List Cap).map eCap), .e0]]⟩)]⟩) : Ex × St) := hh.symm
    simp only [Option.some.injEq, Prod.mk.injEq] at e
    obtain ⟨rfl, rfl⟩ := e
    refine .out (n := ([26, 25, 24, 9, 8, 1], [82, 23])) (e := ([9, 8], [82, 23])) (r := ([], [])) ?_ (by simp) rfl
    rw [evPlN]
    rfl
  | cons c l' =>
    rw [← hl]
    have hw : 1 ≤ w ∧ w ≤ 15 := by simpa [F.wOK, F.le] using h2
    have hy : l[0]? = some c := by rw [hl]; rfl
    have hcR := F.capsR_at h1 hy
    have hlt := lt_at hy
    have hcr := F.capR_iff.1 hcR
    have hgd : l.getD 0 ⟨0, 0, [], 0, false, false⟩ = c := getD_at hy
    have hI : F.PlI l ([], 0) 0 := ⟨rfl, rfl, by simp, by simp⟩
    have hpb := F.pick_bd (l := l) (first := []) hcR h2
    have hpb2 := F.rowB_iff.1 hpb
    have h500 : decide (l.length ≤ 500) = true := decide_eq_true h3
    have w1 : IntKind.i64.wrap (F.pick l [] c w + (c.lines.length : Int)) = F.pick l [] c w + (c.lines.length : Int) := wrap_id (by omega) (by omega)
    have w2 : IntKind.i64.wrap (F.pick l [] c w + (c.lines.length : Int) - 1) = F.pick l [] c w + (c.lines.length : Int) - 1 := wrap_id (by omega) (by omega)
    have hrow : F.rowsB [] = true := rfl
    have c0 : decide ((0 : Int) < (l.length : Int)) = true := decide_eq_true (by omega)
    have hz : l.isEmpty = false := by rw [hl]; rfl
    have key : F.plS l w ([], 0) c = ([F.pick l [] c w], bif F.badR l [] c w (F.pick l [] c w) then 1 else 0) := rfl
    have hout : (T.ret (finPl l ((l.drop 1).foldl (F.plS l w) (F.plS l w ([], 0) c)))).val = some (ex, s') := by
      rw [← hh]
      have e1 : (l.drop 1).foldl (F.plS l w) (F.plS l w ([], 0) c) = l.foldl (F.plS l w) ([], 0) := by rw [hl]; rfl
      rw [e1]
      unfold outPl
      rw [hz]
      rfl
    have hgo := lpPk_ok l w h1 h2 h3 (F.plS l w ([], 0) c) 1 (by omega) (hI.step hcR h2) ex s' hout
    refine .go (n := ([26, 25, 24, 9, 8, 1], [82, 23])) (e := ([9, 8], [82, 23])) (r := ([], [])) ?_ rfl hgo
    rw [key]
    unfold F.badR F.lt
    rw [evPlN]
    simp only [c0, cond_true, unCaps, Option.bind_some, decide_eq_true hlt, hgd]
    cases hr0 : c.row == 0
    · have hpk : F.pick l [] c w = c.row := by unfold F.pick; rw [hr0]; rfl
      rw [hpk] at w1 w2 hpb ⊢
      have u := unTkN l 0 c.row
      simp only [Int.natCast_zero] at u
      simp only [cond_false, Bool.not_false, cond_true, List.length_map, w1, w2, u, Option.bind_some, h1, hrow, hpb, List.length_nil, Nat.zero_le, decide_true, h500, decide_eq_true hlt, Bool.and_self, hgd, Bool.and_true, Bool.false_or, hr0]
      cases decide (w < c.row + (c.lines.length : Int) - 1) <;> cases F.taken l [] c c.row <;> rfl
    · have hr0' : c.row = 0 := by simpa using hr0
      have e0 : w + 2 - (c.lines.length : Int) - 1 = w + 1 - (c.lines.length : Int) := by omega
      have hpk : F.seekR (F.taken l [] c) (w + 1 - (c.lines.length : Int)).toNat 1 = F.pick l [] c w := by unfold F.pick; rw [hr0]; rfl
      have f1 : F.rowB c.row = true := by rw [hr0']; rfl
      have f2 : F.isAt l 0 c = true := by simpa [F.isAt] using hy
      have u := unstPi0 l w 0 0 c.row 1 c
      simp only [Int.natCast_zero] at u
      simp only [cond_true, u, Option.bind_some, prlPi, outPi]
      refine bif_t ?_ ?_
      · have g1 : F.lst none = [] := rfl
        have g2 : F.le 1 1 = true := rfl
        have g3 : F.le 1 100 = true := rfl
        simp only [g1, g2, g3, h1, h2, hrow, f1, f2, h500, List.length_nil, decide_true, Bool.and_self, Bool.true_and]
        rfl
      · have g1 : F.lst none = [] := rfl
        have g2 : F.isN none = true := rfl
        have hN0 : IntKind.i64.wrap (((0 : Nat) : Int) + 1) = 1 := rfl
        simp only [g1, g2, cond_false, e0, hr0, cond_true, hpk, List.length_map, w1, w2, unTkN, Option.bind_some, h1, hrow, hpb, List.length_nil, Nat.zero_le, decide_true, h500, decide_eq_true hlt, Bool.and_self, hgd, Bool.and_true]
        cases F.pick l [] c w == 0 <;> cases decide (w < F.pick l [] c w + (c.lines.length : Int) - 1) <;> cases F.taken l [] c (F.pick l [] c w) <;> rfl

theorem evPl (l : List Cap) (w : Int) : (runF enPl false Tryd.f22 [.sl (l.map eCap), vI w]).val =
  Option.bind (unenc encChC [AV.sl (List.map eCap l)]) fun (z : List Cap) => bif F.smC z then bif F.chkC z != (0 : Int) then some (AV.tup [AV.sl [], (vI (0 : Int)), (vI (F.chkC z))], []) else Option.bind (unenc encOut [(vI w), (vI (1 : Int)), (vI (15 : Int))]) fun (z : Int × Int × Int) => bif F.out z.fst z.snd.fst z.snd.snd then some (AV.tup [AV.sl [], (vI (0 : Int)), (vI (1 : Int))], []) else Option.bind (unenc stPl1 (St.mk [(26, (vI (0 : Int))), (25, (vI (↑(List.length (List.map eCap l)) : Int))), (24, AV.sl (List.map eCap l)), (9, (vI (0 : Int))), (8, .ptr 23 0 0), (1, (vI w))] [(23, Blk.mk true 0 0 [[AV.sl (List.map eCap l), AV.e0]])])) fun (z : List Cap × Int) => bif F.capsR z.fst && F.wOK z.snd && decide (List.length z.fst ≤ (500 : Nat)) && true then bif match z.fst with | [] => true | head :: tail => false then some (AV.tup [AV.sl [], (vI (0 : Int)), (vI (0 : Int))], []) else some (AV.tup [AV.sl (List.map eI (List.foldl (F.plS z.fst z.snd) ([], (0 : Int)) z.fst).fst), (vI (List.foldl (F.plS z.fst z.snd) ([], (0 : Int)) z.fst).snd), (vI (0 : Int))], []) else none else none := (runFR_val).symm.trans (by kernel_rfl)

def encPl1 (l : List Cap) (w : Int) : List AV := [.sl (l.map eCap), vI w]

def encPl (a : (List Cap) × Int) : List AV := encPl1 a.1 a.2

theorem encPl_inj (a a' : (List Cap) × Int) (h : encPl a = encPl a') : a = a' := by
  simp only [encPl, encPl1] at h
  try simp [strs_inj, ints_inj, bools_inj, eCaps_inj, eCap_iff, eL_eCaps_inj, eMchs_inj, eMch_iff, eWrds_inj, eWrd_iff, eFnds_inj, eFnd_iff, eRatios_inj, eRatio_iff, eWays_inj, eWay_iff] at h
  grind

theorem unPl (l : List Cap) (w : Int) : unenc encPl ([AV.sl (List.map eCap l), (vI w)]) = some (l, w) := unenc_of encPl_inj (l, w) rfl

def resPl1 (l : List Cap) (w : Int) : AV × Heap := (.tup [.sl ((F.place l w).1.map eI), vI (F.place l w).2.1, vI (F.place l w).2.2], [])

def prePl1 (l : List Cap) (w : Int) : Bool := F.smC l

noncomputable def oPl : Orc := orc 22 false encPl (fun a => prePl1 a.1 a.2) fun a => resPl1 a.1 a.2

theorem okPl : OrcOK Tryd.prog noG oPl := by
  refine mk_ok Tryd.f22 (keep := false) (by kernel_rfl) (by kernel_rfl) enPl_ok mixed (two_loops (x0 := loopN Tryd.f22 0) (x1 := loopN Tryd.f22 1) (by kernel_rfl) (lpo_ok ?_) (lpo_ok ?_)) (by first | exact fun _ _ => ⟨rfl, rfl⟩ | (intro h; cases h)) ?_
  · rintro ⟨l, w⟩ hp
    exact lpPl_ok l w hp
  · rintro ⟨l, w, o, i, bad, row, r, c⟩ hp
    exact lpPi_ok l w o i bad row r c hp
  rintro ⟨l, w⟩ hpre hok
  show (runF enPl false _ (encPl1 _ _)).val = some (resPl1 _ _)
  unfold encPl1 resPl1
  rw [evPl]
  simp only [prePl1] at hpre
  simp only [unChC, preChC1, unOut, preOut1, unstPl, Option.bind_some, prlPl, outPl, hpre, cond_true, F.place, List.length_map]
  by_cases h0 : F.chkC l = 0
  case neg =>
    rw [bne1 h0]; rfl
  rw [bne0 h0]
  have c1 := F.chk_capsR h0
  have c2 : decide (l.length ≤ 500) = true := decide_eq_true (F.chk_len h0)
  simp only [cond_false]
  cases h1 : F.out w 1 15
  case true => rfl
  have c3 : F.wOK w = true := by
    unfold F.out at h1
    simp [F.wOK, F.le] at h1 ⊢
    omega
  simp only [cond_false, c1, c2, c3, Bool.and_self, cond_true, Bool.true_and]
  cases hl : l.isEmpty
  · cases l with
    | nil => cases hl
    | cons a l => rfl
  · have : l = [] := by simpa using hl
    subst this
    rfl

end M
end Go.Proofs.YtniealifncgilaaDoor
