/- What is proved here: an entry of a list's text is the same for the program and for the reference, on plain data (no statement of the seat). -/
import Derived.Test.YtllagmepnmdeoaaDoorE90
namespace Go.Proofs.YtllagmepnmdeoaaDoor
open Go Go.RowKit
set_option linter.unusedVariables false
set_option linter.unusedSimpArgs false
set_option maxHeartbeats 1000000

/-- An entry of which a time out of bounds is cut. -/
def F.capE (e : Ent) : Ent := { e with milli := min e.milli 3600001 }

/-- The program's way from a line that is not taken yet. -/
def F.pt (r : Int) (s : ByteArray) (n : Int) (e : Ent) (key : ByteArray) : Bool × ByteArray × Int × Ent :=
  bif F.cutF s F.nl then F.enL (F.cutT s F.nl) (n + 1) e (F.cutH s F.nl) key r else (false, F.cutT s F.nl, n + 1, e)

theorem F.enL_pt {s : ByteArray} {n : Int} {e : Ent} {line key : ByteArray} {rank : Int} {r : Int} (hr : F.elR line rank key = r) (h1 : 0 ≤ r) (h2 : r ≠ 6) : F.enL s n e line key rank = F.pt r s n (F.elE e line (F.elK line rank)) key := by
  subst hr
  unfold F.pt
  cases h3 : F.cutF s F.nl
  · rw [F.enL_open (by omega) h2 h3]; rfl
  · rw [F.enL_go (by omega) h2 h3]; rfl

theorem F.enL_congr {s : ByteArray} {n : Int} {e : Ent} {line key : ByteArray} {r r' : Int} (h1 : F.elR line r key = F.elR line r' key) (h2 : F.elK line r = F.elK line r') : F.enL s n e line key r = F.enL s n e line key r' := by
  rw [F.enL, h1, h2]
  conv => rhs; rw [F.enL]

/-- What the program and the reference say of an entry agree. -/
structure F.Rel (ls : List ByteArray) (op : Bool) (P : Bool × ByteArray × Int × Ent) (Q : Bool × Nat × Ent) : Prop where
  ok : P.1 = Q.1
  good : Q.1 = true → P.2.2.1 = (Q.2.1 : Int) ∧ F.At ls op Q.2.1 P.2.1 ∧ F.capE P.2.2.2 = F.capE Q.2.2
  bad : Q.1 = false → P.2.2.1 = (Q.2.1 : Int) + 1

theorem F.Rel.no {ls : List ByteArray} {op : Bool} {a : Nat} (s : ByteArray) {n : Int} (e e' : Ent) (h : n = (a : Int) + 1) : F.Rel ls op (false, s, n, e) (false, a, e') := ⟨rfl, fun h => (by cases h), fun _ => h⟩

theorem F.cap_eq {e e' : Ent} (h : F.capE e = F.capE e') : e.uri = e'.uri ∧ min e.milli 3600001 = min e'.milli 3600001 ∧ e.brk = e'.brk ∧ e.date = e'.date ∧ e.key = e'.key ∧ e.gap = e'.gap ∧ e.extra = e'.extra := by
  unfold F.capE at h
  obtain ⟨u, m, b, d, k, g, x⟩ := e
  obtain ⟨u', m', b', d', k', g', x'⟩ := e'
  simp only [Ent.mk.injEq] at h
  exact h

theorem F.cap_of {e e' : Ent} (h1 : e.uri = e'.uri) (h2 : min e.milli 3600001 = min e'.milli 3600001) (h3 : e.brk = e'.brk) (h4 : e.date = e'.date) (h5 : e.key = e'.key) (h6 : e.gap = e'.gap) (h7 : e.extra = e'.extra) : F.capE e = F.capE e' := by
  unfold F.capE
  obtain ⟨u, m, b, d, k, g, x⟩ := e
  obtain ⟨u', m', b', d', k', g', x'⟩ := e'
  simp only at h1 h2 h3 h4 h5 h6 h7 ⊢
  rw [h1, h2, h3, h4, h5, h6, h7]

theorem F.no_beh {ls : List ByteArray} {op : Bool} {a : Nat} {w : ByteArray} (h : F.mor ls op a = false) : F.beh ls op a w = false := by unfold F.beh; rw [h]; rfl

theorem F.no_exa {ls : List ByteArray} {op : Bool} {a : Nat} {w : ByteArray} (h : F.mor ls op a = false) : F.exa ls op a w = false := by unfold F.exa; rw [h]; rfl

theorem F.no_s6 {ls : List ByteArray} {op : Bool} {a : Nat} (e : Ent) (h : F.mor ls op a = false) : F.s6 ls op a e = (false, a, e) := by
  unfold F.s6 F.ruri; rw [h]; rfl

theorem F.no_s5 {ls : List ByteArray} {op : Bool} {a : Nat} (e : Ent) (h : F.mor ls op a = false) : F.s5 ls op a e = (false, a, e) := by
  unfold F.s5 F.rtm; rw [F.no_beh h]; rfl

theorem F.no_s4 {ls : List ByteArray} {op : Bool} {a : Nat} (e : Ent) (h : F.mor ls op a = false) : F.s4 ls op a e = (false, a, e) := by
  unfold F.s4; rw [F.no_exa h, F.no_s5 _ h]; rfl

theorem F.no_s3 {ls : List ByteArray} {op : Bool} {a : Nat} (key : ByteArray) (e : Ent) (h : F.mor ls op a = false) : F.s3 key ls op a e = (false, a, e) := by
  unfold F.s3; rw [F.no_beh h, F.no_s4 _ h]; rfl

theorem F.no_s2 {ls : List ByteArray} {op : Bool} {a : Nat} (key : ByteArray) (e : Ent) (h : F.mor ls op a = false) : F.s2 key ls op a e = (false, a, e) := by
  unfold F.s2; rw [F.no_beh h, F.no_s3 _ _ h]; rfl

theorem F.no_s1 {ls : List ByteArray} {op : Bool} {a : Nat} (key : ByteArray) (e : Ent) (h : F.mor ls op a = false) : F.s1 key ls op a e = (false, a, e) := by
  unfold F.s1; rw [F.no_exa h, F.no_s2 _ _ h]; rfl

theorem F.elR_kd (line key : ByteArray) {r : Int} (h : r ≠ 5) : F.elR line r key = bif !F.elO line key (F.kd line) || decide ((F.kd line : Int) < r) || (((F.kd line : Int) == r) && !Nat.beq (F.kd line) 0) then -1 else (F.kd line : Int) := by
  unfold F.elR
  rw [F.elK_kd line h]

/-- A line of another kind is not there for one rank more. -/
theorem F.pt_skip {s : ByteArray} {n : Int} {e : Ent} {key : ByteArray} {r : Int} (h0 : 0 ≤ r) (h3 : r ≤ 3) (hk : (F.kd (F.cutH s F.nl) : Int) ≠ r + 1) (hz : r = 0 → F.kd (F.cutH s F.nl) ≠ 0) : F.pt r s n e key = F.pt (r + 1) s n e key := by
  unfold F.pt
  cases F.cutF s F.nl
  · rfl
  · rw [cond_true, cond_true]
    refine F.enL_congr ?_ ?_
    · rw [F.elR_kd _ _ (by omega), F.elR_kd _ _ (by omega)]
      generalize F.kd (F.cutH s F.nl) = k at *
      cases F.elO (F.cutH s F.nl) key k
      · rfl
      · rcases Int.lt_trichotomy (k : Int) r with h | h | h
        · rw [decide_eq_true h, decide_eq_true (by omega : (k : Int) < r + 1)]
          simp
        · have hk0 : Nat.beq k 0 = false := by
            rw [F.beq_iff, decide_eq_false]
            intro e
            exact hz (by omega) e
          rw [decide_eq_false (by omega : ¬ (k : Int) < r), show ((k : Int) == r) = true by simp [h], hk0, decide_eq_true (by omega : (k : Int) < r + 1)]
          simp
        · rw [decide_eq_false (by omega : ¬ (k : Int) < r), show ((k : Int) == r) = false by simp; omega, decide_eq_false (by omega : ¬ (k : Int) < r + 1), show ((k : Int) == r + 1) = false by simp; omega]
    · rw [F.elK_kd _ (by omega), F.elK_kd _ (by omega)]

/-- What a line does that can be there. -/
theorem F.pt_go {s : ByteArray} {n : Int} {e : Ent} {key : ByteArray} {r : Int} {k : Nat} (hc : F.cutF s F.nl = true) (hr : r ≠ 5) (hk : F.kd (F.cutH s F.nl) = k) (hk5 : k ≤ 5) (hrk : r < k ∨ (k = 0 ∧ r = 0)) (ho : F.elO (F.cutH s F.nl) key k = true) :
    F.pt r s n e key = F.pt k (F.cutT s F.nl) (n + 1) (F.elE e (F.cutH s F.nl) k) key := by
  have hR : F.elR (F.cutH s F.nl) r key = (k : Int) := by
    rw [F.elR_kd _ _ hr, hk, ho, decide_eq_false (by omega : ¬ (k : Int) < r)]
    rcases hrk with h | ⟨h1, h2⟩
    · rw [show ((k : Int) == r) = false by simp; omega]; rfl
    · subst h1; simp
  have h1 : F.pt r s n e key = F.enL (F.cutT s F.nl) (n + 1) e (F.cutH s F.nl) key r := by unfold F.pt; rw [hc]; rfl
  rw [h1, F.enL_pt hR (by omega) (by omega), F.elK_kd _ hr, hk]

theorem F.pt_bad {s : ByteArray} {n : Int} {e : Ent} {key : ByteArray} {r : Int} (hc : F.cutF s F.nl = true) (hr : r ≠ 5) (h : F.elR (F.cutH s F.nl) r key < 0) : F.pt r s n e key = (false, F.cutT s F.nl, n + 1, F.elE e (F.cutH s F.nl) (F.kd (F.cutH s F.nl))) := by
  have h1 : F.pt r s n e key = F.enL (F.cutT s F.nl) (n + 1) e (F.cutH s F.nl) key r := by unfold F.pt; rw [hc]; rfl
  rw [h1, F.enL_bad h, F.elK_kd _ hr]

theorem F.pt_no {s : ByteArray} {n : Int} {e : Ent} {key : ByteArray} {r : Int} (hc : F.cutF s F.nl = false) : F.pt r s n e key = (false, F.cutT s F.nl, n + 1, e) := by unfold F.pt; rw [hc]; rfl

theorem F.L5 {ls : List ByteArray} {op : Bool} {a : Nat} {s : ByteArray} (hA : F.At ls op a s) (e e' : Ent) (h : F.capE e = F.capE e') (key : ByteArray) : F.Rel ls op (F.pt 5 s a e key) (F.s6 ls op a e') := by
  have hm := F.at_mor hA
  cases hc : F.cutF s F.nl
  · rw [hc] at hm
    rw [F.pt_no hc, F.no_s6 _ hm]
    exact F.Rel.no _ _ _ rfl
  · rw [hc] at hm
    obtain ⟨hl, hA1⟩ := F.at_line hA hc
    have h1 : F.pt 5 s a e key = F.enL (F.cutT s F.nl) ((a : Int) + 1) e (F.cutH s F.nl) key 5 := by unfold F.pt; rw [hc]; rfl
    have hk : F.elK (F.cutH s F.nl) 5 = 6 := rfl
    have hR : F.elR (F.cutH s F.nl) 5 key = bif F.uriL (F.cutH s F.nl) then 6 else -1 := by
      unfold F.elR
      rw [hk]
      show (bif !F.uriL (F.cutH s F.nl) || false || false then (-1 : Int) else 6) = _
      cases F.uriL (F.cutH s F.nl) <;> rfl
    rw [h1]
    unfold F.s6 F.ruri
    rw [hm, hl]
    cases hu : F.uriL (F.cutH s F.nl)
    · rw [hu] at hR
      rw [F.enL_bad (by rw [hR]; decide)]
      exact F.Rel.no _ _ _ rfl
    · rw [hu] at hR
      rw [F.enL_end hR, hk]
      refine ⟨rfl, fun _ => ⟨rfl, hA1, ?_⟩, fun h => (by cases h)⟩
      obtain ⟨e1, e2, e3, e4, e5, e6, e7⟩ := F.cap_eq h
      exact F.cap_of rfl e2 e3 e4 e5 e6 e7

theorem F.tim_word {line : ByteArray} (h : F.hasPrefix line F.kTimS = true) : F.cutT line F.sp = line.extract F.kTimS.size line.size := by
  have hw : F.kTim ++ F.sp = F.kTimS := F.bsx (by rw [F.bs_app]; rfl)
  have := (F.cut_word (line := line) (w := F.kTim) (by decide)).2
  rw [hw] at this
  exact this h

theorem F.key_word {line : ByteArray} (h : F.hasPrefix line F.kKeyS = true) : F.cutT line F.sp = line.extract F.kKeyS.size line.size := by
  have hw : F.kKey ++ F.sp = F.kKeyS := F.bsx (by rw [F.bs_app]; rfl)
  have := (F.cut_word (line := line) (w := F.kKey) (by decide)).2
  rw [hw] at this
  exact this h

theorem F.dat_word {line : ByteArray} (h : F.hasPrefix line F.kDatS = true) : F.cutT line F.sp = line.extract F.kDatS.size line.size := by
  have hw : F.kDat ++ F.sp = F.kDatS := F.bsx (by rw [F.bs_app]; rfl)
  have := (F.cut_word (line := line) (w := F.kDat) (by decide)).2
  rw [hw] at this
  exact this h

theorem F.mil_cap {v : ByteArray} (h : F.milOk v = true) : min (F.milV v) 3600001 = min (F.rmV v) 3600001 := by
  unfold F.milV F.rmV
  rw [h, cond_true]
  generalize (F.numV (F.cutH v F.dot) 16) = n
  generalize F.dv (F.cutT v F.dot) = d
  omega

theorem F.L4 {ls : List ByteArray} {op : Bool} {a : Nat} {s : ByteArray} (hA : F.At ls op a s) (e e' : Ent) (h : F.capE e = F.capE e') (key : ByteArray) : F.Rel ls op (F.pt 4 s a e key) (F.s5 ls op a e') := by
  have hm := F.at_mor hA
  cases hc : F.cutF s F.nl
  · rw [hc] at hm
    rw [F.pt_no hc, F.no_s5 _ hm]
    exact F.Rel.no _ _ _ rfl
  · rw [hc] at hm
    obtain ⟨hl, hA1⟩ := F.at_line hA hc
    obtain ⟨k0, k1, k2, k3, k4, k5, k6⟩ := F.kd_eq (F.cutH s F.nl)
    have hbe : F.beh ls op a F.kTimS = Nat.beq (F.kd (F.cutH s F.nl)) 5 := by unfold F.beh; rw [hm, hl, Bool.true_and, k5]
    unfold F.s5 F.rtm
    rw [hbe]
    by_cases hk : F.kd (F.cutH s F.nl) = 5
    · have hp : F.hasPrefix (F.cutH s F.nl) F.kTimS = true := by rw [k5, hk]; rfl
      have hv : F.cutT (F.cutH s F.nl) F.sp = F.behV ls a F.kTimS := by unfold F.behV; rw [hl]; exact F.tim_word hp
      rw [hk, show Nat.beq 5 5 = true from rfl, Bool.true_and, ← hv]
      cases ho : F.milOk (F.cutT (F.cutH s F.nl) F.sp)
      · rw [F.pt_bad hc (by decide) (by rw [F.elR_kd _ _ (by decide), hk, show F.elO (F.cutH s F.nl) key 5 = F.milOk (F.cutT (F.cutH s F.nl) F.sp) from rfl, ho]; decide)]
        exact F.Rel.no _ _ _ rfl
      · rw [F.pt_go hc (by decide) hk (by decide) (Or.inl (by decide)) ho]
        refine F.L5 hA1 _ _ ?_ key
        obtain ⟨e1, e2, e3, e4, e5, e6, e7⟩ := F.cap_eq h
        exact F.cap_of e1 (F.mil_cap ho) e3 e4 e5 e6 e7
    · rw [F.beq_iff, decide_eq_false hk, Bool.false_and, cond_false]
      rw [F.pt_bad hc (by decide) ?_]
      · exact F.Rel.no _ _ _ rfl
      · rw [F.elR_kd _ _ (by decide)]
        have h7 := F.elK_le (F.cutH s F.nl) 0
        have h6 : F.kd (F.cutH s F.nl) ≠ 6 := fun e6 => by rw [e6] at k6; cases k6
        have h7 : F.kd (F.cutH s F.nl) ≤ 7 := h7
        generalize F.kd (F.cutH s F.nl) = k at *
        by_cases k7 : k = 7
        · subst k7
          rw [show F.elO (F.cutH s F.nl) key 7 = false from rfl]
          decide
        · by_cases k4' : k = 4
          · subst k4'
            cases F.elO (F.cutH s F.nl) key 4 <;> decide
          · rw [decide_eq_true (by omega : (k : Int) < 4), Bool.or_true, Bool.true_or]
            show (-1 : Int) < 0
            decide

theorem F.L3 {ls : List ByteArray} {op : Bool} {a : Nat} {s : ByteArray} (hA : F.At ls op a s) (e e' : Ent) (h : F.capE e = F.capE e') (key : ByteArray) : F.Rel ls op (F.pt 3 s a e key) (F.s4 ls op a e') := by
  have hm := F.at_mor hA
  cases hc : F.cutF s F.nl
  · rw [hc] at hm
    rw [F.pt_no hc, F.no_s4 _ hm]
    exact F.Rel.no _ _ _ rfl
  · rw [hc] at hm
    obtain ⟨hl, hA1⟩ := F.at_line hA hc
    obtain ⟨k0, k1, k2, k3, k4, k5, k6⟩ := F.kd_eq (F.cutH s F.nl)
    have hbe : F.exa ls op a F.kGap = Nat.beq (F.kd (F.cutH s F.nl)) 4 := by unfold F.exa; rw [hm, hl, Bool.true_and, k4]
    unfold F.s4
    rw [hbe]
    by_cases hk : F.kd (F.cutH s F.nl) = 4
    · rw [hk, show Nat.beq 4 4 = true from rfl, cond_true, F.pt_go hc (by decide) hk (by decide) (Or.inl (by decide)) rfl]
      refine F.L4 hA1 _ _ ?_ key
      obtain ⟨e1, e2, e3, e4, e5, e6, e7⟩ := F.cap_eq h
      exact F.cap_of e1 e2 e3 e4 e5 rfl e7
    · rw [F.beq_iff, decide_eq_false hk, cond_false, F.pt_skip (by decide) (by decide) (by omega) (fun h => absurd h (by decide))]
      exact F.L4 hA e e' h key

theorem F.L2 {ls : List ByteArray} {op : Bool} {a : Nat} {s : ByteArray} (hA : F.At ls op a s) (e e' : Ent) (h : F.capE e = F.capE e') (key : ByteArray) : F.Rel ls op (F.pt 2 s a e key) (F.s3 key ls op a e') := by
  have hm := F.at_mor hA
  cases hc : F.cutF s F.nl
  · rw [hc] at hm
    rw [F.pt_no hc, F.no_s3 _ _ hm]
    exact F.Rel.no _ _ _ rfl
  · rw [hc] at hm
    obtain ⟨hl, hA1⟩ := F.at_line hA hc
    obtain ⟨k0, k1, k2, k3, k4, k5, k6⟩ := F.kd_eq (F.cutH s F.nl)
    have hbe : F.beh ls op a F.kKeyS = Nat.beq (F.kd (F.cutH s F.nl)) 3 := by unfold F.beh; rw [hm, hl, Bool.true_and, k3]
    unfold F.s3
    rw [hbe]
    by_cases hk : F.kd (F.cutH s F.nl) = 3
    · have hp : F.hasPrefix (F.cutH s F.nl) F.kKeyS = true := by rw [k3, hk]; rfl
      have hv : F.cutT (F.cutH s F.nl) F.sp = F.behV ls a F.kKeyS := by unfold F.behV; rw [hl]; exact F.key_word hp
      rw [hk, show Nat.beq 3 3 = true from rfl, cond_true, ← hv]
      cases ho : F.keyB (F.cutT (F.cutH s F.nl) F.sp) key
      · rw [F.pt_bad hc (by decide) (by rw [F.elR_kd _ _ (by decide), hk, show F.elO (F.cutH s F.nl) key 3 = F.keyB (F.cutT (F.cutH s F.nl) F.sp) key from rfl, ho]; decide)]
        exact F.Rel.no _ _ _ rfl
      · rw [F.pt_go hc (by decide) hk (by decide) (Or.inl (by decide)) ho]
        refine F.L3 hA1 _ _ ?_ key
        obtain ⟨e1, e2, e3, e4, e5, e6, e7⟩ := F.cap_eq h
        exact F.cap_of e1 e2 e3 e4 rfl e6 e7
    · rw [F.beq_iff, decide_eq_false hk, cond_false, F.pt_skip (by decide) (by decide) (by omega) (fun h => absurd h (by decide))]
      exact F.L3 hA e e' h key

theorem F.L1 {ls : List ByteArray} {op : Bool} {a : Nat} {s : ByteArray} (hA : F.At ls op a s) (e e' : Ent) (h : F.capE e = F.capE e') (key : ByteArray) : F.Rel ls op (F.pt 1 s a e key) (F.s2 key ls op a e') := by
  have hm := F.at_mor hA
  cases hc : F.cutF s F.nl
  · rw [hc] at hm
    rw [F.pt_no hc, F.no_s2 _ _ hm]
    exact F.Rel.no _ _ _ rfl
  · rw [hc] at hm
    obtain ⟨hl, hA1⟩ := F.at_line hA hc
    obtain ⟨k0, k1, k2, k3, k4, k5, k6⟩ := F.kd_eq (F.cutH s F.nl)
    have hbe : F.beh ls op a F.kDatS = Nat.beq (F.kd (F.cutH s F.nl)) 2 := by unfold F.beh; rw [hm, hl, Bool.true_and, k2]
    unfold F.s2
    rw [hbe]
    by_cases hk : F.kd (F.cutH s F.nl) = 2
    · have hp : F.hasPrefix (F.cutH s F.nl) F.kDatS = true := by rw [k2, hk]; rfl
      have hv : F.cutT (F.cutH s F.nl) F.sp = F.behV ls a F.kDatS := by unfold F.behV; rw [hl]; exact F.dat_word hp
      rw [hk, show Nat.beq 2 2 = true from rfl, cond_true, ← hv]
      cases ho : F.dtOk (F.cutT (F.cutH s F.nl) F.sp)
      · rw [F.pt_bad hc (by decide) (by rw [F.elR_kd _ _ (by decide), hk, show F.elO (F.cutH s F.nl) key 2 = F.dtOk (F.cutT (F.cutH s F.nl) F.sp) from rfl, ho]; decide)]
        exact F.Rel.no _ _ _ rfl
      · rw [F.pt_go hc (by decide) hk (by decide) (Or.inl (by decide)) ho]
        refine F.L2 hA1 _ _ ?_ key
        obtain ⟨e1, e2, e3, e4, e5, e6, e7⟩ := F.cap_eq h
        exact F.cap_of e1 e2 e3 rfl e5 e6 e7
    · rw [F.beq_iff, decide_eq_false hk, cond_false, F.pt_skip (by decide) (by decide) (by omega) (fun h => absurd h (by decide))]
      exact F.L2 hA e e' h key

theorem F.L0 {ls : List ByteArray} {op : Bool} {a : Nat} {s : ByteArray} (hA : F.At ls op a s) (e e' : Ent) (h : F.capE e = F.capE e') (key : ByteArray) (hx : F.kd (F.cutH s F.nl) ≠ 0) : F.Rel ls op (F.pt 0 s a e key) (F.s1 key ls op a e') := by
  have hm := F.at_mor hA
  cases hc : F.cutF s F.nl
  · rw [hc] at hm
    rw [F.pt_no hc, F.no_s1 _ _ hm]
    exact F.Rel.no _ _ _ rfl
  · rw [hc] at hm
    obtain ⟨hl, hA1⟩ := F.at_line hA hc
    obtain ⟨k0, k1, k2, k3, k4, k5, k6⟩ := F.kd_eq (F.cutH s F.nl)
    have hbe : F.exa ls op a F.kBrk = Nat.beq (F.kd (F.cutH s F.nl)) 1 := by unfold F.exa; rw [hm, hl, Bool.true_and, k1]
    unfold F.s1
    rw [hbe]
    by_cases hk : F.kd (F.cutH s F.nl) = 1
    · rw [hk, show Nat.beq 1 1 = true from rfl, cond_true, F.pt_go hc (by decide) hk (by decide) (Or.inl (by decide)) rfl]
      refine F.L1 hA1 _ _ ?_ key
      obtain ⟨e1, e2, e3, e4, e5, e6, e7⟩ := F.cap_eq h
      exact F.cap_of e1 e2 rfl e4 e5 e6 e7
    · rw [F.beq_iff, decide_eq_false hk, cond_false, F.pt_skip (by decide) (by decide) (by omega) (fun _ => hx)]
      exact F.L1 hA e e' h key

theorem F.LX {ls : List ByteArray} {op : Bool} (key : ByteArray) : ∀ (k a : Nat) (s : ByteArray) (e e' : Ent), s.size ≤ k → F.At ls op a s → F.capE e = F.capE e' → F.Rel ls op (F.pt 0 s a e key) (F.s0 key ls op a e') := by
  intro k
  induction k with
  | zero =>
    intro a s e e' h0 hA h
    have hc : F.cutF s F.nl = false := by
      cases hc : F.cutF s F.nl
      · rfl
      · exact absurd (by omega) (F.cutF_ne hc)
    have hm := F.at_mor hA
    rw [hc] at hm
    unfold F.s0
    rw [F.pt_no hc, F.xs_no (F.no_beh hm), F.no_s1 _ _ (by simpa using hm)]
    exact F.Rel.no _ _ _ (by simp)
  | succ k ih =>
    intro a s e e' h0 hA h
    have hm := F.at_mor hA
    cases hc : F.cutF s F.nl
    · rw [hc] at hm
      unfold F.s0
      rw [F.pt_no hc, F.xs_no (F.no_beh hm), F.no_s1 _ _ (by simpa using hm)]
      exact F.Rel.no _ _ _ (by simp)
    · rw [hc] at hm
      obtain ⟨hl, hA1⟩ := F.at_line hA hc
      obtain ⟨k0, k1, k2, k3, k4, k5, k6⟩ := F.kd_eq (F.cutH s F.nl)
      have hbe : F.beh ls op a F.kX = Nat.beq (F.kd (F.cutH s F.nl)) 0 := by unfold F.beh; rw [hm, hl, Bool.true_and, k0]
      have hz := F.cutT_lt F.nl_one (F.cutF_ne hc)
      by_cases hk : F.kd (F.cutH s F.nl) = 0
      · rw [hk] at hbe
        have hbe : F.beh ls op a F.kX = true := hbe
        have hs : F.s0 key ls op a e' = F.s0 key ls op (a + 1) { e' with extra := e'.extra ++ [F.cutH s F.nl] } := by
          unfold F.s0
          rw [F.xs_go hbe, hl, List.length_cons, show a + ((F.xs ls op (a + 1)).length + 1) = a + 1 + (F.xs ls op (a + 1)).length by omega]
          simp only [List.append_assoc, List.singleton_append]
        rw [hs, F.pt_go hc (by decide) hk (by decide) (Or.inr ⟨rfl, rfl⟩) rfl]
        refine ih (a + 1) _ _ _ (by omega) hA1 ?_
        obtain ⟨e1, e2, e3, e4, e5, e6, e7⟩ := F.cap_eq h
        exact F.cap_of e1 e2 e3 e4 e5 e6 (by show e.extra ++ [_] = e'.extra ++ [_]; rw [e7])
      · rw [F.beq_iff, decide_eq_false hk] at hbe
        have hs : F.s0 key ls op a e' = F.s1 key ls op a e' := by
          unfold F.s0
          rw [F.xs_no hbe, List.append_nil, List.length_nil, Nat.add_zero]
        rw [hs]
        exact F.L0 hA e e' h key hk

end Go.Proofs.YtllagmepnmdeoaaDoor
