/- What is proved here: the listed variables hold what the machine's functions read of them (no statement of the seat). -/
import Derived.Lib.LaidU8
import Derived.MakeChecks
import Derived.Shelf.Vars
import Derived.Test.YtajmdlpanlbnjaaGreatDoorC4

namespace Go.Proofs.YtajmdlpanlbnjaaGreatDoor
open Go Go.RowKit
set_option linter.unusedVariables false
set_option linter.unusedSimpArgs false
set_option maxHeartbeats 1000000

theorem F.cut_at (s : ByteArray) : Lib.cut (F.bs s) (F.bs F.sp) = if Lib.indexByte (F.bs s) 32 ≥ 0 then ((F.bs s).take (Lib.indexByte (F.bs s) 32).toNat, (F.bs s).drop ((Lib.indexByte (F.bs s) 32).toNat + 1), true) else (F.bs s, [], false) := by
  have h : Lib.index (F.bs s) (F.bs F.sp) = Lib.indexByte (F.bs s) 32 := Lib.index_one ..
  unfold Lib.cut
  rw [h]
  rfl

theorem F.pre_iff {s p : ByteArray} : F.hasPrefix s p = true ↔ ∃ r, F.bs s = F.bs p ++ r := by
  unfold F.hasPrefix
  rw [Bool.and_eq_true, decide_eq_true_eq, F.seq_iff]
  constructor
  · rintro ⟨h1, h2⟩
    refine ⟨(F.bs s).drop p.size, ?_⟩
    have h3 := congrArg F.bs h2
    rw [F.sub_bs, List.drop_zero, Nat.sub_zero] at h3
    rw [← h3, List.take_append_drop]
  · rintro ⟨r, hr⟩
    have h1 : p.size ≤ s.size := by rw [← F.bs_len, ← F.bs_len, hr, List.length_append]; omega
    refine ⟨h1, F.bsx ?_⟩
    rw [F.sub_bs, hr, List.drop_zero, Nat.sub_zero, ← F.bs_len p, List.take_left]

theorem F.cut_word {line w : ByteArray} (hw : (32 : UInt8) ∉ F.bs w) :
    (F.seq (F.cutH line F.sp) w && F.cutF line F.sp) = F.hasPrefix line (w ++ F.sp) ∧ (F.hasPrefix line (w ++ F.sp) = true → F.cutT line F.sp = line.extract (w ++ F.sp).size line.size) := by
  have hb : F.bs (w ++ F.sp) = F.bs w ++ [32] := by rw [F.bs_app]; rfl
  have hz : (w ++ F.sp).size = (F.bs w).length + 1 := by rw [← F.bs_len, hb, List.length_append]; rfl
  have e := F.cut_at line
  by_cases hp : F.hasPrefix line (w ++ F.sp) = true
  · obtain ⟨r, hr⟩ := F.pre_iff.1 hp
    rw [hb, List.append_assoc, List.singleton_append] at hr
    rw [hr, F.index_first hw, if_pos (by omega)] at e
    have e1 : F.cutF line F.sp = true := by unfold F.cutF; rw [hr, e]
    have e2 : F.cutH line F.sp = w := F.bsx (by unfold F.cutH; rw [hr, e, F.bs_mk]; simp)
    have e3 : F.cutT line F.sp = line.extract (w ++ F.sp).size line.size := F.bsx (by
      rw [F.sub_bs, hz]
      unfold F.cutT
      rw [hr, e, F.bs_mk (List.drop _ _)]
      rw [show (((F.bs w).length : Nat) : Int).toNat + 1 = (F.bs w).length + 1 by omega]
      have hl : line.size = (F.bs w ++ 32 :: r).length := by rw [← F.bs_len, hr]
      rw [hl, List.take_of_length_le (by rw [List.length_drop]; exact Nat.le_refl _)])
    rw [e1, e2, hp]
    exact ⟨by rw [F.seq_iff.2 rfl]; rfl, fun _ => e3⟩
  · have hp' : F.hasPrefix line (w ++ F.sp) = false := by cases h : F.hasPrefix line (w ++ F.sp) <;> simp_all
    rw [hp']
    refine ⟨?_, fun h => by cases h⟩
    cases hc : F.cutF line F.sp
    · rw [Bool.and_false]
    · rw [Bool.and_true]
      cases hs : F.seq (F.cutH line F.sp) w
      · rfl
      · exfalso
        have hw2 := F.seq_iff.1 hs
        apply hp
        apply F.pre_iff.2
        unfold F.cutF at hc
        split at e
        · rename_i hi
          have h1 := F.indexByte_at (l := F.bs line) (c := 32) (i := (Lib.indexByte (F.bs line) 32).toNat) (by omega)
          have h2 := congrArg F.bs hw2
          unfold F.cutH at h2
          rw [e, F.bs_mk] at h2
          refine ⟨(F.bs line).drop ((Lib.indexByte (F.bs line) 32).toNat + 1), ?_⟩
          rw [hb, ← h2, List.append_assoc, List.singleton_append]
          exact h1
        · rw [e] at hc; cases hc

def F.kd (line : ByteArray) : Nat := F.elK line 0

theorem F.elK_kd (line : ByteArray) {r : Int} (h : r ≠ 5) : F.elK line r = F.kd line := by
  unfold F.kd F.elK
  rw [show (r == 5) = false by simp [h], show ((0 : Int) == 5) = false by rfl]

theorem F.sb_pre {s p : ByteArray} (h : F.hasPrefix s p = true) (h2 : 2 ≤ p.size) : (F.bs s)[1]? = (F.bs p)[1]? := by
  obtain ⟨r, hr⟩ := F.pre_iff.1 h
  rw [hr, List.getElem?_append_left (by rw [F.bs_len]; omega)]

theorem F.sb_seq {s p : ByteArray} (h : F.seq s p = true) : (F.bs s)[1]? = (F.bs p)[1]? := by rw [F.seq_iff.1 h]

theorem F.kd_eq (line : ByteArray) : F.hasPrefix line F.kX = Nat.beq (F.kd line) 0 ∧ F.seq line F.kBrk = Nat.beq (F.kd line) 1 ∧ F.hasPrefix line F.kDatS = Nat.beq (F.kd line) 2 ∧ F.hasPrefix line F.kKeyS = Nat.beq (F.kd line) 3 ∧ F.seq line F.kGap = Nat.beq (F.kd line) 4 ∧ F.hasPrefix line F.kTimS = Nat.beq (F.kd line) 5 ∧ Nat.beq (F.kd line) 6 = false := by
  have cD := (F.cut_word (line := line) (w := F.kDat) (by decide)).1
  have cK := (F.cut_word (line := line) (w := F.kKey) (by decide)).1
  have cT := (F.cut_word (line := line) (w := F.kTim) (by decide)).1
  have wD : F.kDat ++ F.sp = F.kDatS := F.bsx (by rw [F.bs_app]; rfl)
  have wK : F.kKey ++ F.sp = F.kKeyS := F.bsx (by rw [F.bs_app]; rfl)
  have wT : F.kTim ++ F.sp = F.kTimS := F.bsx (by rw [F.bs_app]; rfl)
  rw [wD] at cD
  rw [wK] at cK
  rw [wT] at cT
  have h0 : F.hasPrefix line F.kX = true → (F.bs line)[1]? = some 88 := fun h => F.sb_pre h (by decide)
  have h1 : F.seq line F.kBrk = true → (F.bs line)[1]? = some 66 := fun h => F.sb_seq h
  have h2 : F.hasPrefix line F.kDatS = true → (F.bs line)[1]? = some 68 := fun h => F.sb_pre h (by decide)
  have h3 : F.hasPrefix line F.kKeyS = true → (F.bs line)[1]? = some 75 := fun h => F.sb_pre h (by decide)
  have h4 : F.seq line F.kGap = true → (F.bs line)[1]? = some 71 := fun h => F.sb_seq h
  have h5 : F.hasPrefix line F.kTimS = true → (F.bs line)[1]? = some 84 := fun h => F.sb_pre h (by decide)
  unfold F.kd F.elK
  rw [cD, cK, cT, show ((0 : Int) == 5) = false from rfl, cond_false]
  generalize F.hasPrefix line F.kX = t0 at *
  generalize F.seq line F.kBrk = t1 at *
  generalize F.hasPrefix line F.kDatS = t2 at *
  generalize F.hasPrefix line F.kKeyS = t3 at *
  generalize F.seq line F.kGap = t4 at *
  generalize F.hasPrefix line F.kTimS = t5 at *
  clear cD cK cT
  generalize (F.bs line)[1]? = b at *
  cases t0
  · cases t1
    · cases t4
      · cases t2
        · cases t3
          · cases t5 <;> decide
          · cases t5
            · decide
            · exact absurd ((h3 rfl).symm.trans (h5 rfl)) (by decide)
        · cases t3
          · cases t5
            · decide
            · exact absurd ((h2 rfl).symm.trans (h5 rfl)) (by decide)
          · exact absurd ((h2 rfl).symm.trans (h3 rfl)) (by decide)
      · cases t2
        · cases t3
          · cases t5
            · decide
            · exact absurd ((h4 rfl).symm.trans (h5 rfl)) (by decide)
          · exact absurd ((h4 rfl).symm.trans (h3 rfl)) (by decide)
        · exact absurd ((h4 rfl).symm.trans (h2 rfl)) (by decide)
    · cases t4
      · cases t2
        · cases t3
          · cases t5
            · decide
            · exact absurd ((h1 rfl).symm.trans (h5 rfl)) (by decide)
          · exact absurd ((h1 rfl).symm.trans (h3 rfl)) (by decide)
        · exact absurd ((h1 rfl).symm.trans (h2 rfl)) (by decide)
      · exact absurd ((h1 rfl).symm.trans (h4 rfl)) (by decide)
  · cases t1
    · cases t4
      · cases t2
        · cases t3
          · cases t5
            · decide
            · exact absurd ((h0 rfl).symm.trans (h5 rfl)) (by decide)
          · exact absurd ((h0 rfl).symm.trans (h3 rfl)) (by decide)
        · exact absurd ((h0 rfl).symm.trans (h2 rfl)) (by decide)
      · exact absurd ((h0 rfl).symm.trans (h4 rfl)) (by decide)
    · exact absurd ((h0 rfl).symm.trans (h1 rfl)) (by decide)

theorem F.beq_iff (a b : Nat) : Nat.beq a b = decide (a = b) := by
  by_cases h : a = b
  · rw [decide_eq_true h, h]; exact Nat.beq_refl b
  · rw [decide_eq_false h]
    cases hb : Nat.beq a b
    · rfl
    · exact absurd (Nat.eq_of_beq_eq_true hb) h

def F.pt (r : Int) (s : ByteArray) (n : Int) (e : Ent) (key : ByteArray) : Bool × ByteArray × Int × Ent :=
  bif F.cutF s F.nl then F.enL (F.cutT s F.nl) (n + 1) e (F.cutH s F.nl) key r else (false, F.cutT s F.nl, n + 1, e)

theorem F.enL_pt {s : ByteArray} {n : Int} {e : Ent} {line key : ByteArray} {rank : Int} {r : Int} (hr : F.elR line rank key = r) (h1 : 0 ≤ r) (h2 : r ≠ 6) : F.enL s n e line key rank = F.pt r s n (F.elE e line (F.elK line rank)) key := by
  subst hr
  unfold F.pt
  cases h3 : F.cutF s F.nl
  · rw [F.enL_open (by omega) h2 h3]; rfl
  · rw [F.enL_go (by omega) h2 h3]; rfl

theorem F.enL_congr {s : ByteArray} {n : Int} {e : Ent} {line key : ByteArray} {r r' : Int} (h1 : F.elR line r key = F.elR line r' key) (h2 : F.elK line r = F.elK line r') : F.enL s n e line key r = F.enL s n e line key r' := by
  rw [F.enL, h1, h2]
  conv => rhs; rw [F.enL]

theorem F.elR_kd (line key : ByteArray) {r : Int} (h : r ≠ 5) : F.elR line r key = bif !F.elO line key (F.kd line) || decide ((F.kd line : Int) < r) || (((F.kd line : Int) == r) && !Nat.beq (F.kd line) 0) then -1 else (F.kd line : Int) := by
  unfold F.elR
  rw [F.elK_kd line h]

theorem F.pt_skip {s : ByteArray} {n : Int} {e : Ent} {key : ByteArray} {r : Int} (h0 : 0 ≤ r) (h3 : r ≤ 3) (hk : (F.kd (F.cutH s F.nl) : Int) ≠ r + 1) (hz : r = 0 → F.kd (F.cutH s F.nl) ≠ 0) : F.pt r s n e key = F.pt (r + 1) s n e key := by
  unfold F.pt
  cases F.cutF s F.nl
  · rfl
  · rw [cond_true, cond_true]
    refine F.enL_congr ?_ ?_
    · rw [F.elR_kd _ _ (by omega), F.elR_kd _ _ (by omega)]
      generalize F.kd (F.cutH s F.nl) = k at *
      cases F.elO (F.cutH s F.nl) key k
      · rfl
      · rcases Int.lt_trichotomy (k : Int) r with h | h | h
        · rw [decide_eq_true h, decide_eq_true (by omega : (k : Int) < r + 1)]
          simp
        · have hk0 : Nat.beq k 0 = false := by
            rw [F.beq_iff, decide_eq_false]
            intro e
            exact hz (by omega) e
          rw [decide_eq_false (by omega : ¬ (k : Int) < r), show ((k : Int) == r) = true by simp [h], hk0, decide_eq_true (by omega : (k : Int) < r + 1)]
          simp
        · rw [decide_eq_false (by omega : ¬ (k : Int) < r), show ((k : Int) == r) = false by simp; omega, decide_eq_false (by omega : ¬ (k : Int) < r + 1), show ((k : Int) == r + 1) = false by simp; omega]
    · rw [F.elK_kd _ (by omega), F.elK_kd _ (by omega)]

theorem F.pt_go {s : ByteArray} {n : Int} {e : Ent} {key : ByteArray} {r : Int} {k : Nat} (hc : F.cutF s F.nl = true) (hr : r ≠ 5) (hk : F.kd (F.cutH s F.nl) = k) (hk5 : k ≤ 5) (hrk : r < k ∨ (k = 0 ∧ r = 0)) (ho : F.elO (F.cutH s F.nl) key k = true) :
    F.pt r s n e key = F.pt k (F.cutT s F.nl) (n + 1) (F.elE e (F.cutH s F.nl) k) key := by
  have hR : F.elR (F.cutH s F.nl) r key = (k : Int) := by
    rw [F.elR_kd _ _ hr, hk, ho, decide_eq_false (by omega : ¬ (k : Int) < r)]
    rcases hrk with h | ⟨h1, h2⟩
    · rw [show ((k : Int) == r) = false by simp; omega]; rfl
    · subst h1; simp
  have h1 : F.pt r s n e key = F.enL (F.cutT s F.nl) (n + 1) e (F.cutH s F.nl) key r := by unfold F.pt; rw [hc]; rfl
  rw [h1, F.enL_pt hR (by omega) (by omega), F.elK_kd _ hr, hk]

theorem F.pt_no {s : ByteArray} {n : Int} {e : Ent} {key : ByteArray} {r : Int} (hc : F.cutF s F.nl = false) : F.pt r s n e key = (false, F.cutT s F.nl, n + 1, e) := by unfold F.pt; rw [hc]; rfl

theorem F.tim_word {line : ByteArray} (h : F.hasPrefix line F.kTimS = true) : F.cutT line F.sp = line.extract F.kTimS.size line.size := by
  have hw : F.kTim ++ F.sp = F.kTimS := F.bsx (by rw [F.bs_app]; rfl)
  have := (F.cut_word (line := line) (w := F.kTim) (by decide)).2
  rw [hw] at this
  exact this h

theorem F.key_word {line : ByteArray} (h : F.hasPrefix line F.kKeyS = true) : F.cutT line F.sp = line.extract F.kKeyS.size line.size := by
  have hw : F.kKey ++ F.sp = F.kKeyS := F.bsx (by rw [F.bs_app]; rfl)
  have := (F.cut_word (line := line) (w := F.kKey) (by decide)).2
  rw [hw] at this
  exact this h

theorem F.dat_word {line : ByteArray} (h : F.hasPrefix line F.kDatS = true) : F.cutT line F.sp = line.extract F.kDatS.size line.size := by
  have hw : F.kDat ++ F.sp = F.kDatS := F.bsx (by rw [F.bs_app]; rfl)
  have := (F.cut_word (line := line) (w := F.kDat) (by decide)).2
  rw [hw] at this
  exact this h

def F.opt (b : Bool) (x : List UInt8) : List UInt8 := bif b then x else []

def F.lnB (x : ByteArray) : List UInt8 := F.bs x ++ [10]

def F.tx5 (e : Ent) : List UInt8 := F.lnB (F.kTimS ++ F.tmS e.milli) ++ F.lnB e.uri

def F.tx4 (e : Ent) : List UInt8 := F.opt e.gap (F.lnB F.kGap) ++ F.tx5 e

def F.tx3 (key : ByteArray) (e : Ent) : List UInt8 := F.opt (!F.seq e.key key) (F.lnB (F.kKeyS ++ F.dsh e.key)) ++ F.tx4 e

def F.tx2 (key : ByteArray) (e : Ent) : List UInt8 := F.opt (decide (0 ≤ e.date)) (F.lnB (F.kDatS ++ F.dtS e.date)) ++ F.tx3 key e

def F.tx1 (key : ByteArray) (e : Ent) : List UInt8 := F.opt e.brk (F.lnB F.kBrk) ++ F.tx2 key e

def F.txX : List ByteArray → List UInt8
  | [] => []
  | x :: l => F.lnB x ++ F.txX l

def F.tx0 (key : ByteArray) (e : Ent) : List UInt8 := F.txX e.extra ++ F.tx1 key e

def F.txEs : ByteArray → List Ent → List UInt8
  | _, [] => []
  | key, e :: l => F.tx0 key e ++ F.txEs e.key l

def F.txEnd (b : Bool) : List UInt8 := F.opt b (F.lnB F.kEnd)

def F.txL (l : Lst) (x : List UInt8) : List UInt8 :=
  F.lnB F.kLst ++ (F.lnB (F.hdW F.wTg ++ F.itoa l.target) ++ (F.lnB (F.hdW F.wFi ++ F.itoa l.first) ++ (F.lnB (F.hdW F.wBr ++ F.itoa l.breaks) ++ (x ++ (F.txEs ⟨⟨[]⟩⟩ l.entries ++ F.txEnd l.ended)))))

theorem F.vis_no {s : ByteArray} {lo : Int} (h : F.vis s lo = true) (hl : 11 ≤ lo) : (10 : UInt8) ∉ F.bs s := by
  intro hm
  unfold F.vis F.visL at h
  have := List.all_eq_true.1 h _ hm
  unfold F.visB at this
  simp only [Bool.not_eq_true', Bool.or_eq_false_iff, decide_eq_false_iff_not] at this
  have h2 : ((10 : UInt8).toNat : Int) = 10 := rfl
  omega

theorem F.line {s x : ByteArray} {r : List UInt8} (hx : (10 : UInt8) ∉ F.bs x) (h : F.bs s = F.lnB x ++ r) : F.cutF s F.nl = true ∧ F.cutH s F.nl = x ∧ F.bs (F.cutT s F.nl) = r := by
  unfold F.lnB at h
  rw [List.append_assoc, List.singleton_append] at h
  obtain ⟨h1, h2, h3⟩ := F.cut_one (p := F.nl) rfl hx h
  exact ⟨h1, F.bsx h2, h3⟩

theorem F.pre_app (p x : ByteArray) : F.hasPrefix (p ++ x) p = true := F.pre_iff.2 ⟨F.bs x, F.bs_app p x⟩

theorem F.ext_app (p x : ByteArray) : (p ++ x).extract p.size (p ++ x).size = x := by
  apply F.bsx
  rw [F.sub_bs, F.bs_app]
  have h1 : p.size = (F.bs p).length := (F.bs_len p).symm
  have h2 : (p ++ x).size = (F.bs p ++ F.bs x).length := by rw [← F.bs_app, F.bs_len]
  rw [h1, h2, List.drop_left, List.take_of_length_le (by rw [List.length_append]; omega)]

theorem F.kd_of {line : ByteArray} {k : Nat} (h : Nat.beq (F.kd line) k = true) : F.kd line = k := Nat.eq_of_beq_eq_true h

theorem F.W6 {s : ByteArray} {e e0 : Ent} (n : Int) (key : ByteArray) {r : List UInt8} (ho : F.EOk e) (h : F.bs s = F.lnB e.uri ++ r) :
    ∃ s' n', F.pt 5 s n e0 key = (true, s', n', { e0 with uri := e.uri }) ∧ F.bs s' = r := by
  obtain ⟨h1, h2, h3⟩ := F.line (F.vis_no ho.uri3 (by decide)) h
  refine ⟨F.cutT s F.nl, n + 1, ?_, h3⟩
  have hk : F.elK (F.cutH s F.nl) 5 = 6 := rfl
  have hu : F.uriL e.uri = true := by unfold F.uriL; rw [decide_eq_true ho.uri1, decide_eq_false ho.uri2]; rfl
  have hR : F.elR (F.cutH s F.nl) 5 key = 6 := by
    unfold F.elR
    rw [hk]
    show (bif !F.uriL (F.cutH s F.nl) || false || false then (-1 : Int) else 6) = _
    rw [h2, hu]
    rfl
  unfold F.pt
  rw [h1, cond_true, F.enL_end hR, hk, h2]
  rfl

theorem F.dg_vis {l : List UInt8} (h : l.all F.dgB = true) : (10 : UInt8) ∉ l := F.dg_no h (by decide)

theorem F.no_app {a b : List UInt8} (h1 : (10 : UInt8) ∉ a) (h2 : (10 : UInt8) ∉ b) : (10 : UInt8) ∉ a ++ b := by
  rw [List.mem_append]; exact fun h => h.elim h1 h2

theorem F.pad_no (k : Nat) (m : Nat) : (10 : UInt8) ∉ F.bs (F.pad (k : Int) m) := by
  rw [F.bs_pad]
  refine F.no_app ?_ (F.dg_vis (F.dd_ok k).1)
  intro h
  exact absurd (List.mem_replicate.1 h).2 (by decide)

theorem F.itoa_no (k : Nat) : (10 : UInt8) ∉ F.bs (F.itoa (k : Int)) := by
  rw [F.itoa_n]
  exact F.dg_vis (F.dd_ok k).1

theorem F.tmS_no (n : Nat) : (10 : UInt8) ∉ F.bs (F.tmS (n : Int)) := by
  have e1 : F.tmS (n : Int) = F.itoa ((n / 1000 : Nat) : Int) ++ F.dot ++ F.pad ((n % 1000 : Nat) : Int) 3 := rfl
  rw [e1, F.bs_app, F.bs_app]
  exact F.no_app (F.no_app (F.itoa_no _) (by decide)) (F.pad_no _ _)

theorem F.W5 {s : ByteArray} {e e0 : Ent} (n : Int) (key : ByteArray) {r : List UInt8} (ho : F.EOk e) (h : F.bs s = F.tx5 e ++ r) :
    F.kd (F.cutH s F.nl) = 5 ∧ ∃ s' n', F.pt 4 s n e0 key = (true, s', n', { e0 with milli := e.milli, uri := e.uri }) ∧ F.bs s' = r := by
  unfold F.tx5 at h
  rw [List.append_assoc] at h
  obtain ⟨m, hm⟩ := Int.eq_ofNat_of_zero_le (show 0 ≤ e.milli by have := ho.mil1; omega)
  have hm2 := ho.mil2
  obtain ⟨t1, t2⟩ := F.tmS_ok (n := m) (by omega)
  rw [← hm] at t1 t2
  obtain ⟨h1, h2, h3⟩ := F.line (by rw [F.bs_app, hm]; exact F.no_app (by decide) (F.tmS_no m)) h
  have hp : F.hasPrefix (F.cutH s F.nl) F.kTimS = true := by rw [h2]; exact F.pre_app _ _
  have hk : F.kd (F.cutH s F.nl) = 5 := F.kd_of (by rw [← (F.kd_eq _).2.2.2.2.2.1, hp])
  have hv : F.cutT (F.cutH s F.nl) F.sp = F.tmS e.milli := by rw [F.tim_word hp, h2]; exact F.ext_app _ _
  obtain ⟨s', n', w1, w2⟩ := F.W6 (e0 := F.elE e0 (F.cutH s F.nl) 5) (n + 1) key ho h3
  refine ⟨hk, s', n', ?_, w2⟩
  rw [F.pt_go h1 (by decide) hk (by decide) (Or.inl (by decide)) (by show F.milOk (F.cutT (F.cutH s F.nl) F.sp) = true; rw [hv]; exact t1)]
  rw [show (((5 : Nat) : Int)) = 5 from rfl, w1]
  have : F.milV (F.cutT (F.cutH s F.nl) F.sp) = e.milli := by rw [hv]; exact t2
  show (true, s', n', { F.elE e0 (F.cutH s F.nl) 5 with uri := e.uri }) = _
  rw [← this]
  rfl

theorem F.W4 {s : ByteArray} {e e0 : Ent} (n : Int) (key : ByteArray) {r : List UInt8} (ho : F.EOk e) (hg : e0.gap = false) (h : F.bs s = F.tx4 e ++ r) :
    (4 ≤ F.kd (F.cutH s F.nl) ∧ F.kd (F.cutH s F.nl) ≤ 5) ∧ ∃ s' n', F.pt 3 s n e0 key = (true, s', n', { e0 with gap := e.gap, milli := e.milli, uri := e.uri }) ∧ F.bs s' = r := by
  unfold F.tx4 F.opt at h
  cases hb : e.gap
  · rw [hb] at h
    obtain ⟨k, s', n', w1, w2⟩ := F.W5 (e0 := e0) n key ho h
    refine ⟨by omega, s', n', ?_, w2⟩
    rw [F.pt_skip (by decide) (by decide) (by omega) (fun h => absurd h (by decide)), show (3 : Int) + 1 = 4 from rfl, w1, ← hg]
  · rw [hb, cond_true, List.append_assoc] at h
    obtain ⟨h1, h2, h3⟩ := F.line (by decide) h
    have hk : F.kd (F.cutH s F.nl) = 4 := F.kd_of (by rw [← (F.kd_eq _).2.2.2.2.1, h2]; exact F.seq_iff.2 rfl)
    obtain ⟨k, s', n', w1, w2⟩ := F.W5 (e0 := F.elE e0 (F.cutH s F.nl) 4) (n + 1) key ho h3
    refine ⟨by omega, s', n', ?_, w2⟩
    rw [F.pt_go h1 (by decide) hk (by decide) (Or.inl (by decide)) rfl, show (((4 : Nat) : Int)) = 4 from rfl, w1]
    rfl

theorem F.name_vis {s : ByteArray} (h : F.isName s = true) : F.vis s 33 = true ∧ s.size ≠ 0 ∧ F.seq s F.dash = false ∧ F.seq s ⟨⟨[]⟩⟩ = false := by
  unfold F.isName F.nameL at h
  simp only [Bool.and_eq_true, decide_eq_true_eq] at h
  obtain ⟨⟨⟨h1, h2⟩, h3⟩, h4⟩ := h
  refine ⟨?_, h1, ?_, ?_⟩
  · unfold F.vis F.visL
    rw [List.all_eq_true] at h4 ⊢
    intro x hx
    have := h4 x hx
    unfold F.nameB F.letter F.digit at this
    unfold F.visB
    simp only [Bool.or_eq_true, Bool.and_eq_true, decide_eq_true_eq, Bool.not_eq_true', Bool.or_eq_false_iff, decide_eq_false_iff_not] at this ⊢
    omega
  · cases hs : F.seq s F.dash
    · rfl
    · rw [F.seq_iff.1 hs] at h3
      exact absurd h3 (by decide)
  · cases hs : F.seq s ⟨⟨[]⟩⟩
    · rfl
    · rw [F.seq_iff.1 hs] at h1
      exact absurd rfl h1

theorem F.dsh_ok {k key : ByteArray} (h : k = ⟨⟨[]⟩⟩ ∨ F.isName k = true) (hn : F.seq k key = false) : F.keyB (F.dsh k) key = true ∧ F.undash (F.dsh k) = k ∧ (10 : UInt8) ∉ F.bs (F.dsh k) := by
  rcases h with h | h
  · subst h
    have e : F.dsh ⟨⟨[]⟩⟩ = F.dash := by unfold F.dsh; rw [F.seq_iff.2 rfl]; rfl
    have e2 : F.undash F.dash = ⟨⟨[]⟩⟩ := by unfold F.undash; rw [F.seq_iff.2 (show F.dash = ⟨⟨[45]⟩⟩ from rfl)]; rfl
    rw [e]
    refine ⟨?_, e2, by decide⟩
    unfold F.keyB
    rw [e2, hn]
    rfl
  · obtain ⟨v1, v2, v3, v4⟩ := F.name_vis h
    have e : F.dsh k = k := by unfold F.dsh; rw [v4]; rfl
    have e2 : F.undash k = k := by
      unfold F.undash
      rw [show F.seq k ⟨⟨[45]⟩⟩ = F.seq k F.dash from rfl, v3]; rfl
    rw [e]
    refine ⟨?_, e2, F.vis_no v1 (by decide)⟩
    unfold F.keyB
    rw [e2, hn, v1, decide_eq_true v2]
    rfl

theorem F.W3 {s : ByteArray} {e e0 : Ent} (n : Int) (key : ByteArray) {r : List UInt8} (ho : F.EOk e) (hg : e0.gap = false) (hk0 : e0.key = key) (h : F.bs s = F.tx3 key e ++ r) :
    (3 ≤ F.kd (F.cutH s F.nl) ∧ F.kd (F.cutH s F.nl) ≤ 5) ∧ ∃ s' n', F.pt 2 s n e0 key = (true, s', n', { e0 with key := e.key, gap := e.gap, milli := e.milli, uri := e.uri }) ∧ F.bs s' = r := by
  unfold F.tx3 F.opt at h
  cases hb : F.seq e.key key
  · rw [hb] at h
    rw [Bool.not_false, cond_true, List.append_assoc] at h
    obtain ⟨d1, d2, d3⟩ := F.dsh_ok ho.key hb
    obtain ⟨h1, h2, h3⟩ := F.line (by rw [F.bs_app]; exact F.no_app (by decide) d3) h
    have hp : F.hasPrefix (F.cutH s F.nl) F.kKeyS = true := by rw [h2]; exact F.pre_app _ _
    have hk : F.kd (F.cutH s F.nl) = 3 := F.kd_of (by rw [← (F.kd_eq _).2.2.2.1, hp])
    have hv : F.cutT (F.cutH s F.nl) F.sp = F.dsh e.key := by rw [F.key_word hp, h2]; exact F.ext_app _ _
    obtain ⟨k, s', n', w1, w2⟩ := F.W4 (e0 := F.elE e0 (F.cutH s F.nl) 3) (n + 1) key ho hg h3
    refine ⟨by omega, s', n', ?_, w2⟩
    rw [F.pt_go h1 (by decide) hk (by decide) (Or.inl (by decide)) (by show F.keyB (F.cutT (F.cutH s F.nl) F.sp) key = true; rw [hv]; exact d1), show (((3 : Nat) : Int)) = 3 from rfl, w1]
    have : F.undash (F.cutT (F.cutH s F.nl) F.sp) = e.key := by rw [hv]; exact d2
    rw [← this]
    rfl
  · rw [hb] at h
    obtain ⟨k, s', n', w1, w2⟩ := F.W4 (e0 := e0) n key ho hg h
    refine ⟨by omega, s', n', ?_, w2⟩
    rw [F.pt_skip (by decide) (by decide) (by omega) (fun h => absurd h (by decide)), show (2 : Int) + 1 = 3 from rfl, w1, F.seq_iff.1 hb, ← hk0]

theorem F.dtS_no {v : ByteArray} (h : F.dtOk v = true) : (10 : UInt8) ∉ F.bs v := by
  unfold F.dtOk at h
  rw [Bool.and_eq_true, Bool.and_eq_true, decide_eq_true_eq] at h
  obtain ⟨⟨h24, hA⟩, _⟩ := h
  intro hm
  obtain ⟨k, hk⟩ := List.mem_iff_getElem?.1 hm
  have hlt : k < 24 := by
    obtain ⟨h1, _⟩ := List.getElem?_eq_some_iff.1 hk
    rw [F.bs_len, h24] at h1
    exact h1
  have hlf : (F.bs F.dForm).length = 24 := rfl
  have hf : (F.bs F.dForm)[k]? = some ((F.bs F.dForm)[k]'(by omega)) := List.getElem?_eq_getElem (by omega)
  generalize hff : (F.bs F.dForm)[k]'(by omega) = f at hf
  have hz : ((F.bs v).zip (F.bs F.dForm))[k]? = some (10, f) := List.getElem?_zip_eq_some.2 ⟨hk, hf⟩
  have h1 := List.all_eq_true.1 hA _ (List.mem_of_getElem? hz)
  have hne : ∀ g ∈ F.bs F.dForm, F.dfB 10 g = false := by decide
  rw [hne f (List.mem_of_getElem? hf)] at h1
  cases h1

theorem F.W2 {s : ByteArray} {e e0 : Ent} (n : Int) (key : ByteArray) {r : List UInt8} (ho : F.EOk e) (hg : e0.gap = false) (hk0 : e0.key = key) (hd0 : e0.date = -1) (h : F.bs s = F.tx2 key e ++ r) :
    (2 ≤ F.kd (F.cutH s F.nl) ∧ F.kd (F.cutH s F.nl) ≤ 5) ∧ ∃ s' n', F.pt 1 s n e0 key = (true, s', n', { e0 with date := e.date, key := e.key, gap := e.gap, milli := e.milli, uri := e.uri }) ∧ F.bs s' = r := by
  unfold F.tx2 F.opt at h
  by_cases hb : 0 ≤ e.date
  · rw [decide_eq_true hb, cond_true, List.append_assoc] at h
    obtain ⟨m, hm⟩ := Int.eq_ofNat_of_zero_le hb
    have hm2 := ho.dat2
    obtain ⟨t1, t2⟩ := F.dtS_ok (n := m) (by omega)
    rw [← hm] at t1 t2
    obtain ⟨h1, h2, h3⟩ := F.line (by rw [F.bs_app]; exact F.no_app (by decide) (F.dtS_no t1)) h
    have hp : F.hasPrefix (F.cutH s F.nl) F.kDatS = true := by rw [h2]; exact F.pre_app _ _
    have hk : F.kd (F.cutH s F.nl) = 2 := F.kd_of (by rw [← (F.kd_eq _).2.2.1, hp])
    have hv : F.cutT (F.cutH s F.nl) F.sp = F.dtS e.date := by rw [F.dat_word hp, h2]; exact F.ext_app _ _
    obtain ⟨k, s', n', w1, w2⟩ := F.W3 (e0 := F.elE e0 (F.cutH s F.nl) 2) (n + 1) key ho hg hk0 h3
    refine ⟨by omega, s', n', ?_, w2⟩
    rw [F.pt_go h1 (by decide) hk (by decide) (Or.inl (by decide)) (by show F.dtOk (F.cutT (F.cutH s F.nl) F.sp) = true; rw [hv]; exact t1), show (((2 : Nat) : Int)) = 2 from rfl, w1]
    have : F.dtV (F.cutT (F.cutH s F.nl) F.sp) = e.date := by rw [hv]; exact t2
    rw [← this]
    rfl
  · rw [decide_eq_false hb] at h
    obtain ⟨k, s', n', w1, w2⟩ := F.W3 (e0 := e0) n key ho hg hk0 h
    refine ⟨by omega, s', n', ?_, w2⟩
    have hd1 := ho.dat1
    have hd : e.date = e0.date := by omega
    rw [F.pt_skip (by decide) (by decide) (by omega) (fun h => absurd h (by decide)), show (1 : Int) + 1 = 2 from rfl, w1, hd]

theorem F.W1 {s : ByteArray} {e e0 : Ent} (n : Int) (key : ByteArray) {r : List UInt8} (ho : F.EOk e) (hg : e0.gap = false) (hk0 : e0.key = key) (hd0 : e0.date = -1) (hb0 : e0.brk = false) (h : F.bs s = F.tx1 key e ++ r) :
    (1 ≤ F.kd (F.cutH s F.nl) ∧ F.kd (F.cutH s F.nl) ≤ 5) ∧ ∃ s' n', F.pt 0 s n e0 key = (true, s', n', { e0 with brk := e.brk, date := e.date, key := e.key, gap := e.gap, milli := e.milli, uri := e.uri }) ∧ F.bs s' = r := by
  unfold F.tx1 F.opt at h
  cases hb : e.brk
  · rw [hb] at h
    obtain ⟨k, s', n', w1, w2⟩ := F.W2 (e0 := e0) n key ho hg hk0 hd0 h
    refine ⟨by omega, s', n', ?_, w2⟩
    rw [F.pt_skip (by decide) (by decide) (by omega) (fun _ => by omega), show (0 : Int) + 1 = 1 from rfl, w1, ← hb0]
  · rw [hb, cond_true, List.append_assoc] at h
    obtain ⟨h1, h2, h3⟩ := F.line (by decide) h
    have hk : F.kd (F.cutH s F.nl) = 1 := F.kd_of (by rw [← (F.kd_eq _).2.1, h2]; exact F.seq_iff.2 rfl)
    obtain ⟨k, s', n', w1, w2⟩ := F.W2 (e0 := F.elE e0 (F.cutH s F.nl) 1) (n + 1) key ho hg hk0 hd0 h3
    refine ⟨by omega, s', n', ?_, w2⟩
    rw [F.pt_go h1 (by decide) hk (by decide) (Or.inl (by decide)) rfl, show (((1 : Nat) : Int)) = 1 from rfl, w1]
    rfl

theorem F.W0 (key : ByteArray) {e : Ent} (ho : F.EOk e) {r : List UInt8} : ∀ (xs : List ByteArray) (s : ByteArray) (e0 : Ent) (n : Int), (∀ x ∈ xs, F.hasPrefix x F.kX = true ∧ F.vis x 32 = true) → e0.gap = false → e0.key = key → e0.date = -1 → e0.brk = false → F.bs s = F.txX xs ++ (F.tx1 key e ++ r) →
    F.cutF s F.nl = true ∧ F.kd (F.cutH s F.nl) ≤ 5 ∧ ∃ s' n', F.pt 0 s n e0 key = (true, s', n', { e0 with extra := e0.extra ++ xs, brk := e.brk, date := e.date, key := e.key, gap := e.gap, milli := e.milli, uri := e.uri }) ∧ F.bs s' = r
  | [], s, e0, n, _, hg, hk0, hd0, hb0, h => by
    obtain ⟨k, s', n', w1, w2⟩ := F.W1 (e0 := e0) n key ho hg hk0 hd0 hb0 h
    refine ⟨?_, by omega, s', n', by rw [w1, List.append_nil], w2⟩
    cases hc : F.cutF s F.nl
    · rw [F.pt_no hc] at w1
      cases w1
    · rfl
  | x :: l, s, e0, n, hx, hg, hk0, hd0, hb0, h => by
    rw [F.txX, List.append_assoc] at h
    obtain ⟨x1, x2⟩ := hx x (List.mem_cons_self ..)
    obtain ⟨h1, h2, h3⟩ := F.line (F.vis_no x2 (by decide)) h
    have hk : F.kd (F.cutH s F.nl) = 0 := F.kd_of (by rw [← (F.kd_eq _).1, h2]; exact x1)
    obtain ⟨_, _, s', n', w1, w2⟩ := F.W0 key ho l (F.cutT s F.nl) (F.elE e0 (F.cutH s F.nl) 0) (n + 1) (fun y hy => hx y (List.mem_cons_of_mem _ hy)) hg hk0 hd0 hb0 h3
    refine ⟨h1, by omega, s', n', ?_, w2⟩
    rw [F.pt_go h1 (by decide) hk (by decide) (Or.inr ⟨rfl, rfl⟩) rfl, show (((0 : Nat) : Int)) = 0 from rfl, w1]
    show (true, s', n', { F.elE e0 (F.cutH s F.nl) 0 with extra := (e0.extra ++ [F.cutH s F.nl]) ++ l, brk := e.brk, date := e.date, key := e.key, gap := e.gap, milli := e.milli, uri := e.uri }) = _
    rw [h2, List.append_assoc, List.singleton_append]

namespace M

noncomputable def enCuP0 : Env := envH ty noG lks [oHasPre0] [] [] []

theorem enCuP0_ok : EnvOK Tryz.prog enCuP0 := by
  refine envH_ok lks_ok ty_ok ?_ ?_
  · simp only [List.forall_mem_cons]
    exact ⟨okHasPre0, by simp⟩
  · simp

theorem evCuP0 (s : ByteArray) (p : ByteArray) : (runF enCuP0 false Tryz.f94 [vS s, vS p]).val =
  Option.bind (unenc encHasPre0 [(vS s), (vS p)]) fun (z : ByteArray × ByteArray) => bif !F.hasPrefix z.fst z.snd then some (AV.tup [(vS s), (vB false)], []) else bif
  Nat.ble (ByteArray.size p) (ByteArray.size s) && Nat.ble (ByteArray.size s) (ByteArray.size s) then some (AV.tup [(vS (ByteArray.extract s (ByteArray.size p)
  (ByteArray.size s))), (vB true)], []) else none := (runFR_val).symm.trans (by kernel_rfl)

def encCuP01 (s : ByteArray) (p : ByteArray) : List AV := [vS s, vS p]

def encCuP0 (a : ByteArray × ByteArray) : List AV := encCuP01 a.1 a.2

theorem encCuP0_inj (a a' : ByteArray × ByteArray) (h : encCuP0 a = encCuP0 a') : a = a' := by
  simp only [encCuP0, encCuP01] at h
  try simp [strs_inj, ints_inj, ents_inj, eEnt_iff, eLst_iff, eSnds_inj, eStrms_inj] at h
  grind

theorem unCuP0 (s : ByteArray) (p : ByteArray) : unenc encCuP0 ([(vS s), (vS p)]) = some (s, p) := unenc_of encCuP0_inj (s, p) rfl

def resCuP01 (s : ByteArray) (p : ByteArray) : AV × Heap := (.tup [vS (F.cutP s p), vB (F.hasPrefix s p)], [])

def preCuP01 (s : ByteArray) (p : ByteArray) : Bool := true

noncomputable def oCuP0 : Orc := orc 94 true encCuP0 (fun a => preCuP01 a.1 a.2) fun a => resCuP01 a.1 a.2

theorem okCuP0 : OrcOK Tryz.prog noG oCuP0 := by
  refine mk_ok Tryz.f94 (keep := false) (by kernel_rfl) (by kernel_rfl) enCuP0_ok mixed (no_loops (by kernel_rfl)) (by first | exact fun _ _ => ⟨rfl, rfl⟩ | (intro h; cases h)) ?_
  rintro ⟨s, p⟩ hpre hok
  show (runF enCuP0 false _ (encCuP01 _ _)).val = some (resCuP01 _ _)
  unfold encCuP01 resCuP01
  rw [evCuP0]
  simp only [unHasPre0, preHasPre01, etaEnt, etaLst, etaSnd, etaStrm, etaMas, Option.bind_some, List.length_map, unStrs, unInts, unBools, unEnts, unItms, unTrns, cond_true, cond_false, Bool.and_true, Bool.true_and]
  unfold F.cutP
  cases hc : F.hasPrefix s p
  · rfl
  · have h1 : p.size ≤ s.size := by
      unfold F.hasPrefix at hc
      simp only [Bool.and_eq_true, decide_eq_true_eq] at hc
      exact hc.1
    rw [ble_t h1, ble_t (Nat.le_refl s.size)]
    rfl

noncomputable def enCuP : Env := envH ty noG lks [oCuP0] [] [] []

theorem enCuP_ok : EnvOK Tryz.prog enCuP := by
  refine envH_ok lks_ok ty_ok ?_ ?_
  · simp only [List.forall_mem_cons]
    exact ⟨okCuP0, by simp⟩
  · simp

theorem evCuP (s : ByteArray) (p : ByteArray) : (runF enCuP false Tryz.f73 [vS s, vS p]).val =
  Option.bind (unenc encCuP0 [(vS s), (vS p)]) fun (z : ByteArray × ByteArray) => some (AV.tup [(vS (F.cutP z.fst z.snd)), (vB (F.hasPrefix z.fst z.snd))], []) := (runFR_val).symm.trans (by kernel_rfl)

def encCuP1 (s : ByteArray) (p : ByteArray) : List AV := [vS s, vS p]

def encCuP (a : ByteArray × ByteArray) : List AV := encCuP1 a.1 a.2

theorem encCuP_inj (a a' : ByteArray × ByteArray) (h : encCuP a = encCuP a') : a = a' := by
  simp only [encCuP, encCuP1] at h
  try simp [strs_inj, ints_inj, ents_inj, eEnt_iff, eLst_iff, eSnds_inj, eStrms_inj] at h
  grind

theorem unCuP (s : ByteArray) (p : ByteArray) : unenc encCuP ([(vS s), (vS p)]) = some (s, p) := unenc_of encCuP_inj (s, p) rfl

def resCuP1 (s : ByteArray) (p : ByteArray) : AV × Heap := (.tup [vS (F.cutP s p), vB (F.hasPrefix s p)], [])

def preCuP1 (s : ByteArray) (p : ByteArray) : Bool := true

noncomputable def oCuP : Orc := orc 73 true encCuP (fun a => preCuP1 a.1 a.2) fun a => resCuP1 a.1 a.2

theorem okCuP : OrcOK Tryz.prog noG oCuP := by
  refine mk_ok Tryz.f73 (keep := false) (by kernel_rfl) (by kernel_rfl) enCuP_ok mixed (no_loops (by kernel_rfl)) (by first | exact fun _ _ => ⟨rfl, rfl⟩ | (intro h; cases h)) ?_
  rintro ⟨s, p⟩ hpre hok
  show (runF enCuP false _ (encCuP1 _ _)).val = some (resCuP1 _ _)
  unfold encCuP1 resCuP1
  rw [evCuP]
  simp only [unCuP0, preCuP01, etaEnt, etaLst, etaSnd, etaStrm, etaMas, Option.bind_some, List.length_map, unStrs, unInts, unBools, unEnts, unItms, unTrns, cond_true, cond_false, Bool.and_true, Bool.true_and]
  done

noncomputable def enHd : Env := envH ty noG lks [oCuP, oNum] [oTk] [] []

theorem enHd_ok : EnvOK Tryz.prog enHd := by
  refine envH_ok lks_ok ty_ok ?_ ?_
  · simp only [List.forall_mem_cons]
    exact ⟨okCuP, okNum, by simp⟩
  · simp only [List.forall_mem_cons]
    exact ⟨okTk, by simp⟩

theorem evHd (s : ByteArray) (n : Int) (w : ByteArray) : (runH enHd [] Tryz.f48 [.ptr 900 0 0, vS w] [(900, ⟨true, 0, 0, [[vS s, vI n]]⟩)]).val =
  Option.bind (unenc encTk ([.ptr 900 0 0], [(900, Blk.mk true 0 0 [[(vS s), (vI n)]])])) fun (z : ByteArray × Int) => bif decide (ByteArray.size z.fst ≤ (500000 : Nat)) &&
  decide ((0 : Int) ≤ z.snd) && decide (z.snd ≤ (1000000 : Int)) then bif Nat.ble (ByteArray.size w + ByteArray.size (ByteArray.mk (Array.mk [(32 : UInt8)])))
  (9223372036854775807 : Nat) then Option.bind (unenc encCuP [(vS (F.cutH z.fst F.nl)), (vS (w ++ ByteArray.mk (Array.mk [(32 : UInt8)])))]) fun (z_1 : ByteArray ×
  ByteArray) => Option.bind (unenc encNum [(vS (F.cutP z_1.fst z_1.snd)), (vI (16 : Int))]) fun (z_2 : ByteArray × Int) => bif decide (z_2.snd ≤ (18 : Int)) then some
  (AV.tup [(vI (F.numV z_2.fst z_2.snd)), (vB (bif bif F.cutF z.fst F.nl then F.hasPrefix z_1.fst z_1.snd else false then F.numOk z_2.fst z_2.snd else false))], [(900,
  Blk.mk true 0 0 [[(vS (F.cutT z.fst F.nl)), (vI (z.snd + (1 : Int)))]])], []) else none else none else none := (runHR_val).symm.trans (by kernel_rfl)

def encHd1 (s : ByteArray) (n : Int) (w : ByteArray) : List AV × Heap := ([.ptr 900 0 0, vS w], [(900, ⟨true, 0, 0, [[vS s, vI n]]⟩)])

def encHd (a : ByteArray × Int × ByteArray) : List AV × Heap := encHd1 a.1 a.2.1 a.2.2

theorem encHd_inj (a a' : ByteArray × Int × ByteArray) (h : encHd a = encHd a') : a = a' := by
  simp only [encHd, encHd1] at h
  try simp [strs_inj, ints_inj, ents_inj, eEnt_iff, eLst_iff, eSnds_inj, eStrms_inj] at h
  grind

theorem unHd (s : ByteArray) (n : Int) (w : ByteArray) : unenc encHd (([.ptr 900 0 0, (vS w)], [(900, Blk.mk true 0 0 [[(vS s), (vI n)]])])) = some (s, n, w) := unenc_of encHd_inj (s, n, w) rfl

def resHd1 (s : ByteArray) (n : Int) (w : ByteArray) : AV × Heap × List Nat := (.tup [vI (F.hdV s w), vB (F.hdOk s w)], [(900, ⟨true, 0, 0, [[vS (F.cutT s F.nl), vI (n + 1)]]⟩)], [])

def preHd1 (s : ByteArray) (n : Int) (w : ByteArray) : Bool := decide (s.size ≤ 500000) && decide (0 ≤ n) && decide (n ≤ 1000000) && decide (w.size ≤ 1000)

noncomputable def oHd : OrcH := orcH 48 encHd (fun a => preHd1 a.1 a.2.1 a.2.2) fun a => resHd1 a.1 a.2.1 a.2.2

theorem okHd : OrcHOK Tryz.prog noG oHd := by
  refine mkH_ok (mv := []) Tryz.f48 (by kernel_rfl) (by kernel_rfl) enHd_ok mixed (no_loops (by kernel_rfl)) ?_
  rintro ⟨s, n, w⟩ hpre hok hokh
  show (runH enHd [] _ (encHd1 _ _ _).1 (encHd1 _ _ _).2).val = some (resHd1 _ _ _)
  unfold encHd1 resHd1
  rw [evHd]
  simp only [preHd1, Bool.and_eq_true, decide_eq_true_eq] at hpre
  obtain ⟨⟨⟨h1, h2⟩, h3⟩, h4⟩ := hpre
  simp only [unCuP, unNum, unTk, preCuP1, preNum1, preTk1, etaEnt, etaLst, etaSnd, etaStrm, etaMas, Option.bind_some, List.length_map, unStrs, unInts, unBools, unEnts, unItms, unTrns, cond_true, cond_false, Bool.and_true, Bool.true_and, decide_eq_true h1, decide_eq_true h2, decide_eq_true h3, (by decide : decide ((16 : Int) ≤ 18) = true)]
  have e1 : (⟨⟨[32]⟩⟩ : ByteArray) = F.sp := rfl
  have e2 : F.sp.size = 1 := rfl
  rw [e1, e2, ble_t (by omega : w.size + 1 ≤ 9223372036854775807)]
  unfold F.hdV F.hdOk F.hdW
  cases F.cutF s F.nl <;> cases F.hasPrefix (F.cutH s F.nl) (w ++ F.sp) <;> rfl

noncomputable def enEl : Env := envH ty noG lks [oHasPre, oCut, oDa, oVis, oUnd, oMil] [] [901] []

theorem enEl_ok : EnvOK Tryz.prog enEl := by
  refine envH_ok lks_ok ty_ok ?_ ?_
  · simp only [List.forall_mem_cons]
    exact ⟨okHasPre, okCut, okDa, okVis, okUnd, okMil, by simp⟩
  · simp

theorem evEl (u : ByteArray) (m : Int) (b : Bool) (d : Int) (ky : ByteArray) (g : Bool) (x : List ByteArray) (line : ByteArray) (rank : Int) (key : ByteArray) : (runH enEl [901] Tryz.f93 [.ptr 900 0 0, vS line, vI rank, vS key] [(901, ⟨false, 9, 1, x.map eStr⟩), (900, ⟨true, 0, 0, [[vS u, vI m, vB b, vI d, vS ky, vB g, .own 901]]⟩)]).val =
  (fun (q : List AV) => (fun (q_1 : Nat × Blk) => (fun (q_2 : List AV) => (fun (q_3 : List AV) => (fun (q_4 : List AV) => (fun (q_5 : List AV) => (fun (q_6 : List (Nat ×
  Blk)) => (fun (q_7 : Heap × List Nat) => (fun (q_8 : Heap × List Nat) => (fun (q_9 : Heap × List Nat) => (fun (q_10 : Option (AV × Heap × List Nat)) => (fun (q_11 : Heap ×
  List Nat) => Option.bind (unenc encCut [(vS line), (vS (ByteArray.mk (Array.mk [(32 : UInt8)])))]) fun (z : ByteArray × ByteArray) => (fun (q_12 : List AV) => (fun (q_13 :
  Option ByteArray) => (fun (q_14 : Option (AV × Heap × List Nat)) => bif decide (ByteArray.size z.fst ≤ (4294967280 : Nat)) then bif rank == (5 : Int) then bif
  !ByteArray.toList line == ByteArray.toList (ByteArray.mk (Array.mk [])) then Option.bind line[(0 : Nat)]? fun (z : UInt8) => bif bif bif !(↑(UInt8.toNat z) : Int) != (35 :
  Int) then true else decide ((6 : Int) < rank) then true else bif (6 : Int) == rank then (6 : Int) != (0 : Int) else false then q_10 else some ((vI (6 : Int)), q_9) else
  q_10 else Option.bind (unenc encHasPre [(vS line), (vS (ByteArray.mk (Array.mk [(35 : UInt8), (88 : UInt8)])))]) fun (z_1 : ByteArray × ByteArray) => bif F.hasPrefix
  z_1.fst z_1.snd then bif Nat.ble ((List.length (List.map eStr x) + (1 : Nat)) * (16 : Nat)) (140737488355328 : Nat) && true then bif bif decide ((0 : Int) < rank) then
  true else bif (0 : Int) == rank then (0 : Int) != (0 : Int) else false then some ((vI (-1 : Int)), q_11) else some ((vI (0 : Int)), q_11) else none else bif
  ByteArray.toList line == ByteArray.toList (ByteArray.mk (Array.mk [(35 : UInt8), (66 : UInt8), (82 : UInt8), (69 : UInt8), (65 : UInt8), (75 : UInt8)])) then bif bif
  decide ((1 : Int) < rank) then true else bif (1 : Int) == rank then (1 : Int) != (0 : Int) else false then some ((vI (-1 : Int)), q_7) else some ((vI (1 : Int)), q_7) else
  bif ByteArray.toList line == ByteArray.toList (ByteArray.mk (Array.mk [(35 : UInt8), (71 : UInt8), (65 : UInt8), (80 : UInt8)])) then bif bif decide ((4 : Int) < rank)
  then true else bif (4 : Int) == rank then (4 : Int) != (0 : Int) else false then some ((vI (-1 : Int)), q_8) else some ((vI (4 : Int)), q_8) else bif bif ByteArray.toList
  (F.cutH z.fst z.snd) == ByteArray.toList (ByteArray.mk (Array.mk [(35 : UInt8), (68 : UInt8), (65 : UInt8), (84 : UInt8), (69 : UInt8)])) then F.cutF z.fst z.snd else
  false then Option.bind (unenc encDa q_12) fun (z : ByteArray) => (fun (q : Heap × List Nat) => bif bif bif !(bif F.dtOk z then (0 : Int) else (10 : Int)) == (0 : Int) then
  true else decide ((2 : Int) < rank) then true else bif (2 : Int) == rank then (2 : Int) != (0 : Int) else false then some ((vI (-1 : Int)), q) else some ((vI (2 : Int)),
  q)) ([q_1, (900, Blk.mk true 0 0 [(vS u) :: (vI m) :: (vB b) :: (vI (F.dtV z)) :: q_2])], [(901 : Nat)]) else bif bif ByteArray.toList (F.cutH z.fst z.snd) ==
  ByteArray.toList (ByteArray.mk (Array.mk [(35 : UInt8), (75 : UInt8), (69 : UInt8), (89 : UInt8)])) then F.cutF z.fst z.snd else false then bif !ByteArray.toList (F.cutT
  z.fst z.snd) == ByteArray.toList (ByteArray.mk (Array.mk [])) then Option.bind (unenc encVis [(vS (F.cutT z.fst z.snd)), (vU (33 : Int))]) fun (z : ByteArray × Int) => bif
  F.vis z.fst z.snd then Option.bind q_13 fun (z : ByteArray) => Option.bind q_13 fun (z_2 : ByteArray) => (fun (q : Heap × List Nat) => bif bif bif !!ByteArray.toList
  (F.undash z) == ByteArray.toList key then true else decide ((3 : Int) < rank) then true else bif (3 : Int) == rank then (3 : Int) != (0 : Int) else false then some ((vI
  (-1 : Int)), q) else some ((vI (3 : Int)), q)) ([q_1, (900, Blk.mk true 0 0 [(vS u) :: (vI m) :: (vB b) :: (vI d) :: (vS (F.undash z_2)) :: q])], [(901 : Nat)]) else q_14
  else q_14 else bif bif ByteArray.toList (F.cutH z.fst z.snd) == ByteArray.toList (ByteArray.mk (Array.mk [(35 : UInt8), (84 : UInt8), (73 : UInt8), (77 : UInt8), (69 :
  UInt8)])) then F.cutF z.fst z.snd else false then Option.bind (unenc encMil q_12) fun (z : ByteArray) => (fun (q : Heap × List Nat) => bif decide (ByteArray.size z ≤
  (500000 : Nat)) then bif bif bif !F.milOk z then true else decide ((5 : Int) < rank) then true else bif (5 : Int) == rank then (5 : Int) != (0 : Int) else false then some
  ((vI (-1 : Int)), q) else some ((vI (5 : Int)), q) else none) ([q_1, (900, Blk.mk true 0 0 [(vS u) :: (vI (F.milV z)) :: q_4])], [(901 : Nat)]) else some ((vI (-1 : Int)),
  q_1 :: q_6, [(901 : Nat)]) else none) (Option.bind q_13 fun (z : ByteArray) => some ((vI (-1 : Int)), [q_1, (900, Blk.mk true 0 0 [(vS u) :: (vI m) :: (vB b) :: (vI d) ::
  (vS (F.undash z)) :: q])], [(901 : Nat)]))) (unenc encUnd q_12)) [(vS (F.cutT z.fst z.snd))]) ((901, Blk.mk false 9 1 (List.map eStr x ++ [[(vS line)]])) :: q_6, [(901 :
  Nat)])) (some ((vI (-1 : Int)), q_9))) ([q_1, (900, Blk.mk true 0 0 [(vS line) :: q_5])], [(901 : Nat)])) ([q_1, (900, Blk.mk true 0 0 [[(vS u), (vI m), (vB b), (vI d),
  (vS ky), (vB true), .own 901]])], [(901 : Nat)])) ([q_1, (900, Blk.mk true 0 0 [(vS u) :: (vI m) :: (vB true) :: q_3])], [(901 : Nat)])) [(900, Blk.mk true 0 0 [(vS u) ::
  q_5])]) ((vI m) :: q_4)) ((vB b) :: q_3)) ((vI d) :: q_2)) ((vS ky) :: q)) (901, Blk.mk false 9 1 (List.map eStr x))) [(vB g), .own 901] := (runHR_val).symm.trans (by kernel_rfl)

def encEl1 (u : ByteArray) (m : Int) (b : Bool) (d : Int) (ky : ByteArray) (g : Bool) (x : List ByteArray) (line : ByteArray) (rank : Int) (key : ByteArray) : List AV × Heap := ([.ptr 900 0 0, vS line, vI rank, vS key], [(901, ⟨false, 9, 1, x.map eStr⟩), (900, ⟨true, 0, 0, [[vS u, vI m, vB b, vI d, vS ky, vB g, .own 901]]⟩)])

def encEl (a : ByteArray × Int × Bool × Int × ByteArray × Bool × (List ByteArray) × ByteArray × Int × ByteArray) : List AV × Heap := encEl1 a.1 a.2.1 a.2.2.1 a.2.2.2.1 a.2.2.2.2.1 a.2.2.2.2.2.1 a.2.2.2.2.2.2.1 a.2.2.2.2.2.2.2.1 a.2.2.2.2.2.2.2.2.1 a.2.2.2.2.2.2.2.2.2

theorem encEl_inj (a a' : ByteArray × Int × Bool × Int × ByteArray × Bool × (List ByteArray) × ByteArray × Int × ByteArray) (h : encEl a = encEl a') : a = a' := by
  simp only [encEl, encEl1] at h
  try simp [strs_inj, ints_inj, ents_inj, eEnt_iff, eLst_iff, eSnds_inj, eStrms_inj] at h
  grind

theorem unEl (u : ByteArray) (m : Int) (b : Bool) (d : Int) (ky : ByteArray) (g : Bool) (x : List ByteArray) (line : ByteArray) (rank : Int) (key : ByteArray) : unenc encEl (([.ptr 900 0 0, (vS line), (vI rank), (vS key)], [(901, Blk.mk false 9 1 (List.map eStr x)), (900, Blk.mk true 0 0 [[(vS u), (vI m), (vB b), (vI d), (vS ky), (vB g), .own
  901]])])) = some (u, m, b, d, ky, g, x, line, rank, key) := unenc_of encEl_inj (u, m, b, d, ky, g, x, line, rank, key) rfl

def resEl1 (u : ByteArray) (m : Int) (b : Bool) (d : Int) (ky : ByteArray) (g : Bool) (x : List ByteArray) (line : ByteArray) (rank : Int) (key : ByteArray) : AV × Heap × List Nat := (vI (F.elR line rank key), [(901, ⟨false, 9, 1, (F.elE ⟨u, m, b, d, ky, g, x⟩ line (F.elK line rank)).extra.map eStr⟩), (900, ⟨true, 0, 0, [[vS (F.elE ⟨u, m, b, d, ky, g, x⟩ line (F.elK line rank)).uri, vI (F.elE ⟨u, m, b, d, ky, g, x⟩ line (F.elK line rank)).milli, vB (F.elE ⟨u, m, b, d, ky, g, x⟩ line (F.elK line rank)).brk, vI (F.elE ⟨u, m, b, d, ky, g, x⟩ line (F.elK line rank)).date, vS (F.elE ⟨u, m, b, d, ky, g, x⟩ line (F.elK line rank)).key, vB (F.elE ⟨u, m, b, d, ky, g, x⟩ line (F.elK line rank)).gap, .own 901]]⟩)], [901])

def preEl1 (u : ByteArray) (m : Int) (b : Bool) (d : Int) (ky : ByteArray) (g : Bool) (x : List ByteArray) (line : ByteArray) (rank : Int) (key : ByteArray) : Bool := decide (line.size ≤ 500000) && decide (x.length ≤ 600000) && decide (0 ≤ rank) && decide (rank ≤ 5)

noncomputable def oEl : OrcH := orcH 93 encEl (fun a => preEl1 a.1 a.2.1 a.2.2.1 a.2.2.2.1 a.2.2.2.2.1 a.2.2.2.2.2.1 a.2.2.2.2.2.2.1 a.2.2.2.2.2.2.2.1 a.2.2.2.2.2.2.2.2.1 a.2.2.2.2.2.2.2.2.2) fun a => resEl1 a.1 a.2.1 a.2.2.1 a.2.2.2.1 a.2.2.2.2.1 a.2.2.2.2.2.1 a.2.2.2.2.2.2.1 a.2.2.2.2.2.2.2.1 a.2.2.2.2.2.2.2.2.1 a.2.2.2.2.2.2.2.2.2

theorem okEl : OrcHOK Tryz.prog noG oEl := by
  refine mkH_ok (mv := [901]) Tryz.f93 (by kernel_rfl) (by kernel_rfl) enEl_ok mixed (no_loops (by kernel_rfl)) ?_
  rintro ⟨u, m, b, d, ky, g, x, line, rank, key⟩ hpre hok hokh
  show (runH enEl [901] _ (encEl1 _ _ _ _ _ _ _ _ _ _).1 (encEl1 _ _ _ _ _ _ _ _ _ _).2).val = some (resEl1 _ _ _ _ _ _ _ _ _ _)
  unfold encEl1 resEl1
  rw [evEl]
  simp only [preEl1, Bool.and_eq_true, decide_eq_true_eq] at hpre
  obtain ⟨⟨⟨h1, h2⟩, h3⟩, h4⟩ := hpre
  have z1 := F.cutT_size line F.sp
  have b1 : Nat.ble ((x.length + 1) * 16) 140737488355328 = true := ble_t (by omega)
  have q1 : (⟨⟨[35, 88]⟩⟩ : ByteArray) = F.kX := rfl
  simp only [unHasPre, unCut, unDa, unVis, unUnd, unMil, preHasPre1, preCut1, preDa1, preVis1, preUnd1, preMil1, etaEnt, etaLst, etaSnd, etaStrm, etaMas, Option.bind_some, List.length_map, unStrs, unInts, unBools, unEnts, unItms, unTrns, cond_true, cond_false, Bool.and_true, Bool.true_and, q1, sp_eq, decide_eq_true (by omega : line.size ≤ 4294967280), decide_eq_true (by omega : (F.cutT line F.sp).size ≤ 500000), b1]
  have c0 : ((0 : Nat) : Int) = 0 := rfl
  have c1 : ((1 : Nat) : Int) = 1 := rfl
  have c2 : ((2 : Nat) : Int) = 2 := rfl
  have c3 : ((3 : Nat) : Int) = 3 := rfl
  have c4 : ((4 : Nat) : Int) = 4 := rfl
  have c5 : ((5 : Nat) : Int) = 5 := rfl
  have c6 : ((6 : Nat) : Int) = 6 := rfl
  have c7 : ((7 : Nat) : Int) = 7 := rfl
  have q2 : (line.toList == (⟨⟨[35, 66, 82, 69, 65, 75]⟩⟩ : ByteArray).toList) = F.seq line F.kBrk := rfl
  have q3 : (line.toList == (⟨⟨[35, 71, 65, 80]⟩⟩ : ByteArray).toList) = F.seq line F.kGap := rfl
  have q4 : ((F.cutH line F.sp).toList == (⟨⟨[35, 68, 65, 84, 69]⟩⟩ : ByteArray).toList) = F.seq (F.cutH line F.sp) F.kDat := rfl
  have q5 : ((F.cutH line F.sp).toList == (⟨⟨[35, 75, 69, 89]⟩⟩ : ByteArray).toList) = F.seq (F.cutH line F.sp) F.kKey := rfl
  have q6 : ((F.cutH line F.sp).toList == (⟨⟨[35, 84, 73, 77, 69]⟩⟩ : ByteArray).toList) = F.seq (F.cutH line F.sp) F.kTim := rfl
  have q7 : ((F.undash (F.cutT line F.sp)).toList == key.toList) = F.seq (F.undash (F.cutT line F.sp)) key := rfl
  rw [q2, q3, q4, q5, q6, q7]
  clear q2 q3 q4 q5 q6 q7 q1 b1
  unfold F.elR F.elE
  cases k5 : (rank == 5)
  case true =>
    have hk : F.elK line rank = 6 := by unfold F.elK; rw [k5]; rfl
    have hr : rank = 5 := by simpa using k5
    rw [hk]
    subst hr
    unfold F.elO F.uriL
    have h0 := F.bs_len line
    rw [F.empty_eq, Bool.not_not]
    by_cases hz : line.size = 0
    · rw [decide_eq_false (by omega : ¬ line.size ≠ 0)]
      rfl
    · rw [decide_eq_true hz]
      have hb : (F.bs line)[0]? = some ((F.bs line)[0]'(by omega)) := List.getElem?_eq_getElem (by omega)
      generalize (F.bs line)[0]'(by omega) = z at hb
      have hb0 : F.b0 line = (z.toNat : Int) := by unfold F.b0; rw [hb]
      have hs0 : line[0]? = some z := by rw [F.bs_get]; exact hb
      have e3 : ((z.toNat : Int) != 35) = !decide ((z.toNat : Int) = 35) := by by_cases h : (z.toNat : Int) = 35 <;> simp [h]
      rw [hs0, hb0]
      simp only [cond_true, Option.bind_some, Bool.true_and, e3]
      cases decide ((z.toNat : Int) = 35) <;> rfl
  cases kx : F.hasPrefix line F.kX
  case true =>
    have hk : F.elK line rank = 0 := by unfold F.elK; rw [k5, kx]; rfl
    have ex : (bif Nat.beq 0 0 then x ++ [line] else x).map eStr = x.map eStr ++ [[vS line]] := by
      show (x ++ [line]).map eStr = _
      simp [eStr]
    simp only [hk, c0, cond_true, cond_false]
    rw [ex]
    cases decide ((0 : Int) < rank) <;> cases ((0 : Int) == rank) <;> rfl
  cases kb : F.seq line F.kBrk
  case true =>
    have hk : F.elK line rank = 1 := by unfold F.elK; rw [k5, kx, kb]; rfl
    simp only [hk, c1, cond_true, cond_false]
    cases decide ((1 : Int) < rank) <;> cases ((1 : Int) == rank) <;> rfl
  cases kg : F.seq line F.kGap
  case true =>
    have hk : F.elK line rank = 4 := by unfold F.elK; rw [k5, kx, kb, kg]; rfl
    simp only [hk, c4, cond_true, cond_false]
    cases decide ((4 : Int) < rank) <;> cases ((4 : Int) == rank) <;> rfl
  have hn : ∀ (a b : Bool), (bif a then b else false) = (a && b) := by decide
  simp only [hn]
  cases kd : (F.seq (F.cutH line F.sp) F.kDat && F.cutF line F.sp)
  case true =>
    have hk : F.elK line rank = 2 := by unfold F.elK; rw [k5, kx, kb, kg, kd]; rfl
    simp only [hk, c2, cond_true, cond_false, F.elO]
    cases F.dtOk (F.cutT line F.sp) <;> cases decide ((2 : Int) < rank) <;> cases ((2 : Int) == rank) <;> rfl
  cases kk : (F.seq (F.cutH line F.sp) F.kKey && F.cutF line F.sp)
  case true =>
    have hk : F.elK line rank = 3 := by unfold F.elK; rw [k5, kx, kb, kg, kd, kk]; rfl
    simp only [hk, c3, cond_true, cond_false, F.elO, F.keyB, F.empty_eq, Bool.not_not]
    cases decide ((F.cutT line F.sp).size ≠ 0) <;> cases F.vis (F.cutT line F.sp) 33 <;> cases F.seq (F.undash (F.cutT line F.sp)) key <;> cases decide ((3 : Int) < rank) <;> cases ((3 : Int) == rank) <;> rfl
  cases kt : (F.seq (F.cutH line F.sp) F.kTim && F.cutF line F.sp)
  case true =>
    have hk : F.elK line rank = 5 := by unfold F.elK; rw [k5, kx, kb, kg, kd, kk, kt]; rfl
    simp only [hk, c5, cond_true, cond_false, F.elO]
    cases F.milOk (F.cutT line F.sp) <;> cases decide ((5 : Int) < rank) <;> cases ((5 : Int) == rank) <;> rfl
  have hk : F.elK line rank = 7 := by unfold F.elK; rw [k5, kx, kb, kg, kd, kk, kt]; rfl
  simp only [hk, c7, cond_true, cond_false, F.elO]
  first | rfl | (cases decide ((7 : Int) < rank) <;> cases ((7 : Int) == rank) <;> rfl)

end M

theorem F.elR_6 (line : ByteArray) (rank : Int) (key : ByteArray) : F.elR line rank key ≤ 6 := by
  have h := F.elK_le line rank
  unfold F.elR
  by_cases h7 : F.elK line rank = 7
  · rw [h7]
    have : F.elO line key 7 = false := rfl
    rw [this]
    show (-1 : Int) ≤ 6
    omega
  · cases (!F.elO line key (F.elK line rank) || decide ((F.elK line rank : Int) < rank) || (((F.elK line rank : Int) == rank) && !Nat.beq (F.elK line rank) 0))
    · rw [cond_false]; omega
    · rw [cond_true]; omega

theorem F.eta_ent (e : Ent) : (⟨e.uri, e.milli, e.brk, e.date, e.key, e.gap, e.extra⟩ : Ent) = e := rfl

namespace M

def stEn (s : ByteArray) (n : Int) (line : ByteArray) (key : ByteArray) : St := ⟨[(9, vI 0), (8, .ptr 8 0 0), (6, .ptr 6 0 0), (2, vS key), (1, vS line), (0, .ptr 900 0 0)], [(900, ⟨true, 0, 0, [[vS s, vI n]]⟩), (8, ⟨true, 0, 0, [[vS ⟨⟨[]⟩⟩, vI 0, vB false, vI (-1), vS key, vB false, .e0]]⟩), (6, ⟨true, 0, 0, [[vS ⟨⟨[]⟩⟩, vI 0, vB false, vI 0, vS ⟨⟨[]⟩⟩, vB false, .e0]]⟩)]⟩

def stEn1 (a : ByteArray × Int × ByteArray × ByteArray) : St := stEn a.1 a.2.1 a.2.2.1 a.2.2.2

theorem stEn_inj (a a' : ByteArray × Int × ByteArray × ByteArray) (h : stEn1 a = stEn1 a') : a = a' := by
  simp only [stEn1, stEn] at h
  try simp [strs_inj, ints_inj, ents_inj, eEnt_iff, eLst_iff, eSnds_inj, eStrms_inj] at h
  grind

theorem unstEn (s : ByteArray) (n : Int) (line : ByteArray) (key : ByteArray) : unenc stEn1 (St.mk [(9, (vI (0 : Int))), (8, .ptr 8 0 0), (6, .ptr 6 0 0), (2, (vS key)), (1, (vS line)), (0, .ptr 900 0 0)] [(900, Blk.mk true 0 0 [[(vS s), (vI n)]]), (8, Blk.mk true
  0 0 [[(vS (ByteArray.mk (Array.mk []))), (vI (0 : Int)), (vB false), (vI (-1 : Int)), (vS key), (vB false), AV.e0]]), (6, Blk.mk true 0 0 [[(vS (ByteArray.mk (Array.mk
  []))), (vI (0 : Int)), (vB false), (vI (0 : Int)), (vS (ByteArray.mk (Array.mk []))), (vB false), AV.e0]])]) = some (s, n, line, key) := unenc_of stEn_inj (s, n, line, key) rfl

def outEn (s : ByteArray) (n : Int) (line : ByteArray) (key : ByteArray) : T (Ex × St) := .ret (.ret, ⟨[(7, vB (F.enL s n (F.noE key) line key 0).1), (6, .ptr 6 0 0)], [(900, ⟨true, 0, 0, [[vS (F.enL s n (F.noE key) line key 0).2.1, vI (F.enL s n (F.noE key) line key 0).2.2.1]]⟩), (890, ⟨false, 9, 1, (F.enL s n (F.noE key) line key 0).2.2.2.extra.map eStr⟩), (6, ⟨true, 0, 0, [[vS (F.enL s n (F.noE key) line key 0).2.2.2.uri, vI (F.enL s n (F.noE key) line key 0).2.2.2.milli, vB (F.enL s n (F.noE key) line key 0).2.2.2.brk, vI (F.enL s n (F.noE key) line key 0).2.2.2.date, vS (F.enL s n (F.noE key) line key 0).2.2.2.key, vB (F.enL s n (F.noE key) line key 0).2.2.2.gap, .own 890]]⟩)]⟩)

noncomputable def prlEn (s : ByteArray) (n : Int) (line : ByteArray) (key : ByteArray) : Bool := decide (0 ≤ n) && decide (n + s.size ≤ 900000) && decide (s.size ≤ 500000) && decide (line.size ≤ 500000)

noncomputable def lpEn : Nat × (St → T (Ex × St)) := (3, lpo [9, 8, 6, 2, 1, 0] [900, 8, 6] stEn1 (fun a => prlEn a.1 a.2.1 a.2.2.1 a.2.2.2) fun a => outEn a.1 a.2.1 a.2.2.1 a.2.2.2)

noncomputable def enEn : Env := envH ty noG lks [] [oTk, oEl] [890] [lpEn]

theorem enEn_ok : EnvOK Tryz.prog enEn := by
  refine envH_ok lks_ok ty_ok ?_ ?_
  · simp
  · simp only [List.forall_mem_cons]
    exact ⟨okTk, okEl, by simp⟩

def stEo (s : ByteArray) (n : Int) (u : ByteArray) (m : Int) (b : Bool) (d : Int) (ky : ByteArray) (g : Bool) (x : List ByteArray) (line : ByteArray) (key : ByteArray) (rank : Int) : St := ⟨[(9, vI rank), (8, .ptr 8 0 0), (6, .ptr 6 0 0), (2, vS key), (1, vS line), (0, .ptr 900 0 0)], [(900, ⟨true, 0, 0, [[vS s, vI n]]⟩), (890, ⟨false, 9, 1, x.map eStr⟩), (8, ⟨true, 0, 0, [[vS u, vI m, vB b, vI d, vS ky, vB g, .own 890]]⟩), (6, ⟨true, 0, 0, [[vS ⟨⟨[]⟩⟩, vI 0, vB false, vI 0, vS ⟨⟨[]⟩⟩, vB false, .e0]]⟩)]⟩

theorem evEo (s : ByteArray) (n : Int) (u : ByteArray) (m : Int) (b : Bool) (d : Int) (ky : ByteArray) (g : Bool) (x : List ByteArray) (line : ByteArray) (key : ByteArray) (rank : Int) : ((exec enEn (loopN Tryz.f72 0) (stEo s n u m b d ky g x line key rank)).bind (lessX ([9, 8, 6, 2, 1, 0], [900, 890, 8, 6]) ([], []) ([7, 6], [900, 890, 6]))).val =
  (fun (q : Nat × AV) => (fun (q_1 : List (Nat × AV)) => (fun (q_2 : Nat × Blk) => Option.bind (unenc encEl ([.ptr 900 0 0, (vS line), (vI rank), (vS key)], [(901, Blk.mk
  false 9 1 (List.map eStr x)), (900, Blk.mk true 0 0 [[(vS u), (vI m), (vB b), (vI d), (vS ky), (vB g), .own 901]])])) fun (z : ByteArray × Int × Bool × Int × ByteArray ×
  Bool × List ByteArray × ByteArray × Int × ByteArray) => (fun (q_3 : List ByteArray × ByteArray × Int × ByteArray) => (fun (q_4 : ByteArray) => (fun (q_5 : Int) => (fun
  (q_6 : ByteArray) => (fun (q_7 : Nat) => (fun (q_8 : Int) => (fun (q_9 : Nat × Blk) => (fun (q_10 : Blk) => (fun (q_11 : List (Nat × Blk)) => (fun (q_12 : List (Nat ×
  Blk)) => bif decide (ByteArray.size q_4 ≤ (500000 : Nat)) && decide (List.length q_3.fst ≤ (600000 : Nat)) && decide ((0 : Int) ≤ q_5) && decide (q_5 ≤ (5 : Int)) then bif
  decide (q_8 < (0 : Int)) then some (Ex.ret, St.mk q_1 q_12) else bif q_8 == (6 : Int) then some (Ex.ret, St.mk [(7, (vB true)), q] q_12) else Option.bind (unenc encTk
  ([.ptr 900 0 0], [q_2])) fun (z : ByteArray × Int) => (fun (q_13 : Nat × Blk) => bif decide (ByteArray.size z.fst ≤ (500000 : Nat)) && decide ((0 : Int) ≤ z.snd) && decide
  (z.snd ≤ (1000000 : Int)) then bif !F.cutF z.fst F.nl then some (Ex.ret, St.mk q_1 (q_13 :: q_11)) else some (Ex.normal, St.mk [(9, (vI q_8)), (8, .ptr 8 0 0), q, (2, (vS
  key)), (1, (vS (F.cutH z.fst F.nl))), (0, .ptr 900 0 0)] [q_13, q_9, (8, q_10), (6, Blk.mk true 0 0 [[(vS (ByteArray.mk (Array.mk []))), (vI (0 : Int)), (vB false), (vI (0
  : Int)), (vS (ByteArray.mk (Array.mk []))), (vB false), AV.e0]])]) else none) (900, Blk.mk true 0 0 [[(vS (F.cutT z.fst F.nl)), (vI (z.snd + (1 : Int)))]]) else none) (q_2
  :: q_11)) [q_9, (6, q_10)]) (Blk.mk true 0 0 [[(vS (bif Nat.beq q_7 (6 : Nat) then q_4 else z.fst)), (vI (bif Nat.beq q_7 (5 : Nat) then F.milV q_6 else z.snd.fst)), (vB
  (bif Nat.beq q_7 (1 : Nat) then true else z.snd.snd.fst)), (vI (bif Nat.beq q_7 (2 : Nat) then F.dtV q_6 else z.snd.snd.snd.fst)), (vS (bif Nat.beq q_7 (3 : Nat) then
  F.undash q_6 else z.snd.snd.snd.snd.fst)), (vB (bif Nat.beq q_7 (4 : Nat) then true else z.snd.snd.snd.snd.snd.fst)), .own 890]])) (890, Blk.mk false 9 1 (List.map eStr
  (bif Nat.beq q_7 (0 : Nat) then q_3.fst ++ [q_4] else q_3.fst)))) (F.elR q_4 q_5 q_3.snd.snd.snd)) (F.elK q_4 q_5)) (F.cutT q_4 F.sp)) q_3.snd.snd.fst) q_3.snd.fst)
  z.snd.snd.snd.snd.snd.snd) (900, Blk.mk true 0 0 [[(vS s), (vI n)]])) [(7, (vB false)), q]) (6, .ptr 6 0 0) := (execR_bind _ _ _).symm.trans (by kernel_rfl)

def outEo (r : Bool × ByteArray × Int × Ent) : T (Ex × St) :=
  .ret (.ret, ⟨[(7, vB r.1), (6, .ptr 6 0 0)], [(900, ⟨true, 0, 0, [[vS r.2.1, vI r.2.2.1]]⟩), (890, ⟨false, 9, 1, r.2.2.2.extra.map eStr⟩), (6, ⟨true, 0, 0, [[vS r.2.2.2.uri, vI r.2.2.2.milli, vB r.2.2.2.brk, vI r.2.2.2.date, vS r.2.2.2.key, vB r.2.2.2.gap, .own 890]]⟩)]⟩)

theorem lpEo_ok (s : ByteArray) (n : Int) (e : Ent) (line : ByteArray) (key : ByteArray) (rank : Int) (h1 : 0 ≤ n) (h2 : n + s.size ≤ 900000) (h3 : s.size + e.extra.length ≤ 500000) (h4 : line.size ≤ 500000) (h5 : 0 ≤ rank) (h6 : rank ≤ 5) :
    ∀ ex s', (outEo (F.enL s n e line key rank)).val = some (ex, s') → LoopOK enEn (loopN Tryz.f72 0) (stEo s n e.uri e.milli e.brk e.date e.key e.gap e.extra line key rank) ex s' := by
  refine loop_gen (st := fun p : ByteArray × Int × Ent × ByteArray × Int => stEo p.1 p.2.1 p.2.2.1.uri p.2.2.1.milli p.2.2.1.brk p.2.2.1.date p.2.2.1.key p.2.2.1.gap p.2.2.1.extra p.2.2.2.1 key p.2.2.2.2) (out := fun p => outEo (F.enL p.1 p.2.1 p.2.2.1 p.2.2.2.1 key p.2.2.2.2)) (I := fun p => 0 ≤ p.2.1 ∧ p.2.1 + p.1.size ≤ 900000 ∧ p.1.size + p.2.2.1.extra.length ≤ 500000 ∧ p.2.2.2.1.size ≤ 500000 ∧ 0 ≤ p.2.2.2.2 ∧ p.2.2.2.2 ≤ 5) (n := ([9, 8, 6, 2, 1, 0], [900, 890, 8, 6])) (e := ([], [])) (r := ([7, 6], [900, 890, 6])) (fun p => p.1.size) ?_ (s, n, e, line, rank) ⟨h1, h2, h3, h4, h5, h6⟩
  clear h1 h2 h3 h4 h5 h6
  rintro ⟨s, n, e, line, rank⟩ ⟨h1, h2, h3, h4, h5, h6⟩
  simp only at h1 h2 h3 h4 h5 h6
  have hb := F.elR_b line rank key
  have hb6 := F.elR_6 line rank key
  have hx := F.elE_len e line (F.elK line rank)
  have p1 : decide (line.size ≤ 500000) = true := decide_eq_true h4
  have p2 : decide (e.extra.length ≤ 600000) = true := decide_eq_true (by omega)
  have p3 : decide (0 ≤ rank) = true := decide_eq_true h5
  have p4 : decide (rank ≤ 5) = true := decide_eq_true h6
  have p5 : decide (s.size ≤ 500000) = true := decide_eq_true (by omega)
  have p6 : decide (0 ≤ n) = true := decide_eq_true h1
  have p7 : decide (n ≤ 1000000) = true := decide_eq_true (by omega)
  have q : stEo s n e.uri e.milli e.brk e.date e.key e.gap e.extra line key rank = stEo s n e.uri e.milli e.brk e.date e.key e.gap e.extra line key rank := rfl
  by_cases c1 : F.elR line rank key < 0
  · left
    refine ⟨(.ret, ⟨[(7, vB false), (6, .ptr 6 0 0)], [(900, ⟨true, 0, 0, [[vS s, vI n]]⟩), (890, ⟨false, 9, 1, (F.elE e line (F.elK line rank)).extra.map eStr⟩), (6, ⟨true, 0, 0, [[vS (F.elE e line (F.elK line rank)).uri, vI (F.elE e line (F.elK line rank)).milli, vB (F.elE e line (F.elK line rank)).brk, vI (F.elE e line (F.elK line rank)).date, vS (F.elE e line (F.elK line rank)).key, vB (F.elE e line (F.elK line rank)).gap, .own 890]]⟩)]⟩), ?_, ?_, by simp, rfl⟩
    · show ((exec enEn (loopN Tryz.f72 0) (stEo s n e.uri e.milli e.brk e.date e.key e.gap e.extra line key rank)).bind _).val = _
      rw [evEo]
      simp only [unTk, unEl, preTk1, preEl1, unstEn, prlEn, outEn, etaEnt, etaLst, etaSnd, etaStrm, etaMas, Option.bind_some, List.length_map, unStrs, unInts, unBools, unEnts, unItms, unTrns, cond_true, cond_false, Bool.and_true, Bool.true_and, p1, p2, p3, p4, F.eta_ent, decide_eq_true c1]
      rfl
    · simp only [outEo, F.enL_bad c1]
      rfl
  · by_cases c2 : F.elR line rank key = 6
    · left
      refine ⟨(.ret, ⟨[(7, vB true), (6, .ptr 6 0 0)], [(900, ⟨true, 0, 0, [[vS s, vI n]]⟩), (890, ⟨false, 9, 1, (F.elE e line (F.elK line rank)).extra.map eStr⟩), (6, ⟨true, 0, 0, [[vS (F.elE e line (F.elK line rank)).uri, vI (F.elE e line (F.elK line rank)).milli, vB (F.elE e line (F.elK line rank)).brk, vI (F.elE e line (F.elK line rank)).date, vS (F.elE e line (F.elK line rank)).key, vB (F.elE e line (F.elK line rank)).gap, .own 890]]⟩)]⟩), ?_, ?_, by simp, rfl⟩
      · show ((exec enEn (loopN Tryz.f72 0) (stEo s n e.uri e.milli e.brk e.date e.key e.gap e.extra line key rank)).bind _).val = _
        rw [evEo]
        simp only [unTk, unEl, preTk1, preEl1, unstEn, prlEn, outEn, etaEnt, etaLst, etaSnd, etaStrm, etaMas, Option.bind_some, List.length_map, unStrs, unInts, unBools, unEnts, unItms, unTrns, cond_true, cond_false, Bool.and_true, Bool.true_and, p1, p2, p3, p4, F.eta_ent, decide_eq_false c1, c2]
        rfl
      · simp only [outEo, F.enL_end c2]
        rfl
    · have c3 : (F.elR line rank key == 6) = false := by simp [c2]
      cases c4 : F.cutF s F.nl
      · left
        refine ⟨(.ret, ⟨[(7, vB false), (6, .ptr 6 0 0)], [(900, ⟨true, 0, 0, [[vS (F.cutT s F.nl), vI (n + 1)]]⟩), (890, ⟨false, 9, 1, (F.elE e line (F.elK line rank)).extra.map eStr⟩), (6, ⟨true, 0, 0, [[vS (F.elE e line (F.elK line rank)).uri, vI (F.elE e line (F.elK line rank)).milli, vB (F.elE e line (F.elK line rank)).brk, vI (F.elE e line (F.elK line rank)).date, vS (F.elE e line (F.elK line rank)).key, vB (F.elE e line (F.elK line rank)).gap, .own 890]]⟩)]⟩), ?_, ?_, by simp, rfl⟩
        · show ((exec enEn (loopN Tryz.f72 0) (stEo s n e.uri e.milli e.brk e.date e.key e.gap e.extra line key rank)).bind _).val = _
          rw [evEo]
          simp only [unTk, unEl, preTk1, preEl1, unstEn, prlEn, outEn, etaEnt, etaLst, etaSnd, etaStrm, etaMas, Option.bind_some, List.length_map, unStrs, unInts, unBools, unEnts, unItms, unTrns, cond_true, cond_false, Bool.and_true, Bool.true_and, p1, p2, p3, p4, p5, p6, p7, F.eta_ent, decide_eq_false c1, c3, c4]
          rfl
        · simp only [outEo, F.enL_open c1 c2 c4]
          rfl
      · right
        have z1 := F.cutT_lt F.nl_one (F.cutF_ne c4)
        have z2 := F.cutH_size s F.nl
        refine ⟨(F.cutT s F.nl, n + 1, F.elE e line (F.elK line rank), F.cutH s F.nl, F.elR line rank key), ?_, rfl, ⟨by simp only; omega, by simp only; omega, by simp only; omega, by simp only; omega, by simp only; omega, by simp only; omega⟩, by simp only; omega, ?_⟩
        · show ((exec enEn (loopN Tryz.f72 0) (stEo s n e.uri e.milli e.brk e.date e.key e.gap e.extra line key rank)).bind _).val = _
          rw [evEo]
          simp only [unTk, unEl, preTk1, preEl1, unstEn, prlEn, outEn, etaEnt, etaLst, etaSnd, etaStrm, etaMas, Option.bind_some, List.length_map, unStrs, unInts, unBools, unEnts, unItms, unTrns, cond_true, cond_false, Bool.and_true, Bool.true_and, p1, p2, p3, p4, p5, p6, p7, F.eta_ent, decide_eq_false c1, c3, c4, stEo]
          rfl
        · simp only [outEo, F.enL_go c1 c2 c4]

theorem lpEn_ok (s : ByteArray) (n : Int) (line : ByteArray) (key : ByteArray) (hp : prlEn s n line key = true) : ∀ ex s', (outEn s n line key).val = some (ex, s') → LoopOK enEn (loopN Tryz.f72 0) (stEn s n line key) ex s' := by
  simp only [prlEn, Bool.and_eq_true, decide_eq_true_eq] at hp
  obtain ⟨⟨⟨h1, h2⟩, h3⟩, h4⟩ := hp
  intro ex s' h
  refine .own 8 6 890 9 1 rfl ?_
  exact lpEo_ok s n (F.noE key) line key 0 h1 h2 (by show s.size + 0 ≤ _; omega) h4 (by omega) (by omega) ex s' h

theorem evEnt (s : ByteArray) (n : Int) (line : ByteArray) (key : ByteArray) : (runH enEn [] Tryz.f72 [.ptr 900 0 0, vS line, vS key] [(900, ⟨true, 0, 0, [[vS s, vI n]]⟩)]).val =
  (fun (q : AV) => Option.bind (unenc stEn1 (St.mk [(9, (vI (0 : Int))), (8, .ptr 8 0 0), (6, .ptr 6 0 0), (2, (vS key)), (1, (vS line)), (0, .ptr 900 0 0)] [(900, Blk.mk
  true 0 0 [[(vS s), (vI n)]]), (8, Blk.mk true 0 0 [[q, (vI (0 : Int)), (vB false), (vI (-1 : Int)), (vS key), (vB false), AV.e0]]), (6, Blk.mk true 0 0 [[q, (vI (0 :
  Int)), (vB false), (vI (0 : Int)), q, (vB false), AV.e0]])])) fun (z : ByteArray × Int × ByteArray × ByteArray) => (fun (q : Bool × ByteArray × Int × Ent) => (fun (q_1 :
  Int × Ent) => (fun (q_2 : Ent) => bif decide ((0 : Int) ≤ z.snd.fst) && decide (z.snd.fst + (↑(ByteArray.size z.fst) : Int) ≤ (900000 : Int)) && decide (ByteArray.size
  z.fst ≤ (500000 : Nat)) && decide (ByteArray.size z.snd.snd.fst ≤ (500000 : Nat)) && true then some (AV.tup [AV.agg [(vS q_2.uri), (vI q_2.milli), (vB q_2.brk), (vI
  q_2.date), (vS q_2.key), (vB q_2.gap), .own 0], (vB q.fst)], [(900, Blk.mk true 0 0 [[(vS q.snd.fst), (vI q_1.fst)]]), (0, Blk.mk false 9 1 (List.map eStr q_2.extra))],
  []) else none) q_1.snd) q.snd.snd) (F.enL z.fst z.snd.fst (F.noE z.snd.snd.snd) z.snd.snd.fst z.snd.snd.snd (0 : Int))) ((vS (ByteArray.mk (Array.mk [])))) := (runHR_val).symm.trans (by kernel_rfl)

def encEnt1 (s : ByteArray) (n : Int) (line : ByteArray) (key : ByteArray) : List AV × Heap := ([.ptr 900 0 0, vS line, vS key], [(900, ⟨true, 0, 0, [[vS s, vI n]]⟩)])

def encEnt (a : ByteArray × Int × ByteArray × ByteArray) : List AV × Heap := encEnt1 a.1 a.2.1 a.2.2.1 a.2.2.2

theorem encEnt_inj (a a' : ByteArray × Int × ByteArray × ByteArray) (h : encEnt a = encEnt a') : a = a' := by
  simp only [encEnt, encEnt1] at h
  try simp [strs_inj, ints_inj, ents_inj, eEnt_iff, eLst_iff, eSnds_inj, eStrms_inj] at h
  grind

theorem unEnt (s : ByteArray) (n : Int) (line : ByteArray) (key : ByteArray) : unenc encEnt (([.ptr 900 0 0, (vS line), (vS key)], [(900, Blk.mk true 0 0 [[(vS s), (vI n)]])])) = some (s, n, line, key) := unenc_of encEnt_inj (s, n, line, key) rfl

def resEnt1 (s : ByteArray) (n : Int) (line : ByteArray) (key : ByteArray) : AV × Heap × List Nat := (.tup [.agg [vS (F.enL s n (F.noE key) line key 0).2.2.2.uri, vI (F.enL s n (F.noE key) line key 0).2.2.2.milli, vB (F.enL s n (F.noE key) line key 0).2.2.2.brk, vI (F.enL s n (F.noE key) line key 0).2.2.2.date, vS (F.enL s n (F.noE key) line key 0).2.2.2.key, vB (F.enL s n (F.noE key) line key 0).2.2.2.gap, .own 0], vB (F.enL s n (F.noE key) line key 0).1], [(900, ⟨true, 0, 0, [[vS (F.enL s n (F.noE key) line key 0).2.1, vI (F.enL s n (F.noE key) line key 0).2.2.1]]⟩), (0, ⟨false, 9, 1, (F.enL s n (F.noE key) line key 0).2.2.2.extra.map eStr⟩)], [])

def preEnt1 (s : ByteArray) (n : Int) (line : ByteArray) (key : ByteArray) : Bool := decide (0 ≤ n) && decide (n + s.size ≤ 900000) && decide (s.size ≤ 500000) && decide (line.size ≤ 500000)

noncomputable def oEnt : OrcH := orcH 72 encEnt (fun a => preEnt1 a.1 a.2.1 a.2.2.1 a.2.2.2) fun a => resEnt1 a.1 a.2.1 a.2.2.1 a.2.2.2

theorem okEnt : OrcHOK Tryz.prog noG oEnt := by
  refine mkH_ok (mv := []) Tryz.f72 (by kernel_rfl) (by kernel_rfl) enEn_ok mixed (one_loop (x0 := loopN Tryz.f72 0) (by kernel_rfl) (lpo_ok ?_)) ?_
  · rintro ⟨s, n, line, key⟩ hp
    exact lpEn_ok s n line key hp
  rintro ⟨s, n, line, key⟩ hpre hok hokh
  show (runH enEn [] _ (encEnt1 _ _ _ _).1 (encEnt1 _ _ _ _).2).val = some (resEnt1 _ _ _ _)
  unfold encEnt1 resEnt1
  rw [evEnt]
  simp only [preEnt1] at hpre
  simp only [unTk, unEl, preTk1, preEl1, unstEn, prlEn, outEn, etaEnt, etaLst, etaSnd, etaStrm, etaMas, Option.bind_some, List.length_map, unStrs, unInts, unBools, unEnts, unItms, unTrns, cond_true, cond_false, Bool.and_true, Bool.true_and, hpre]

end M

namespace M

theorem ifB_t {α : Type} {b : Bool} {x y : T α} (h : b = true) : (T.ifB b x y).val = x.val := by subst h; rfl

theorem ifB_f {α : Type} {b : Bool} {x y : T α} (h : b = false) : (T.ifB b x y).val = y.val := by subst h; rfl

end M

def F.noL : Lst := ⟨0, 0, 0, [], false⟩

namespace M

end M

theorem F.end_kd {line : ByteArray} (h : F.kd line ≤ 5) : F.seq line F.kEnd = false := by
  cases hs : F.seq line F.kEnd
  · rfl
  exfalso
  have e := F.seq_iff.1 hs
  subst e
  obtain ⟨k0, k1, k2, k3, k4, k5, k6⟩ := F.kd_eq F.kEnd
  have hb : (F.bs F.kEnd)[1]? = some 69 := rfl
  have a0 : F.hasPrefix F.kEnd F.kX = false := by
    cases hp : F.hasPrefix F.kEnd F.kX
    · rfl
    · exact absurd (hb.symm.trans (F.sb_pre hp (by decide))) (by decide)
  have a1 : F.seq F.kEnd F.kBrk = false := by
    cases hp : F.seq F.kEnd F.kBrk
    · rfl
    · exact absurd (hb.symm.trans (F.sb_seq hp)) (by decide)
  have a2 : F.hasPrefix F.kEnd F.kDatS = false := by
    cases hp : F.hasPrefix F.kEnd F.kDatS
    · rfl
    · exact absurd (hb.symm.trans (F.sb_pre hp (by decide))) (by decide)
  have a3 : F.hasPrefix F.kEnd F.kKeyS = false := by
    cases hp : F.hasPrefix F.kEnd F.kKeyS
    · rfl
    · exact absurd (hb.symm.trans (F.sb_pre hp (by decide))) (by decide)
  have a4 : F.seq F.kEnd F.kGap = false := by
    cases hp : F.seq F.kEnd F.kGap
    · rfl
    · exact absurd (hb.symm.trans (F.sb_seq hp)) (by decide)
  have a5 : F.hasPrefix F.kEnd F.kTimS = false := by
    cases hp : F.hasPrefix F.kEnd F.kTimS
    · rfl
    · exact absurd (hb.symm.trans (F.sb_pre hp (by decide))) (by decide)
  rw [a0] at k0
  rw [a1] at k1
  rw [a2] at k2
  rw [a3] at k3
  rw [a4] at k4
  rw [a5] at k5
  rw [F.beq_iff] at k0 k1 k2 k3 k4 k5
  have k0 := of_decide_eq_false k0.symm
  have k1 := of_decide_eq_false k1.symm
  have k2 := of_decide_eq_false k2.symm
  have k3 := of_decide_eq_false k3.symm
  have k4 := of_decide_eq_false k4.symm
  have k5 := of_decide_eq_false k5.symm
  omega

theorem F.bs_nil {s : ByteArray} (h : F.bs s = []) : s.size = 0 := by rw [← F.bs_len, h]; rfl

theorem F.enL_p0 {s : ByteArray} {n : Int} {e : Ent} {key : ByteArray} (h : F.cutF s F.nl = true) : F.enL (F.cutT s F.nl) (n + 1) e (F.cutH s F.nl) key 0 = F.pt 0 s n e key := by
  unfold F.pt; rw [h]; rfl

theorem F.tx_bd (b : Bool) : ∀ (es : List Ent) (s key : ByteArray) (n : Int) (acc : List Ent), (∀ e ∈ es, F.EOk e) → F.bs s = F.txEs key es ++ F.txEnd b →
    ∃ s' n', F.bdL s n key acc false = (true, s', n', acc ++ es, b)
  | [], s, key, n, acc, _, h => by
    have h : F.bs s = F.txEnd b := h
    cases b
    · refine ⟨s, n, ?_⟩
      rw [F.bdL_end (F.bs_nil h), List.append_nil]
    · have h : F.bs s = F.lnB F.kEnd ++ [] := by rw [h, List.append_nil]; rfl
      obtain ⟨h1, h2, h3⟩ := F.line (by decide) h
      refine ⟨F.cutT s F.nl, n + 1, ?_⟩
      rw [F.bdL_last (F.cutF_ne h1) (by rw [h1]; rfl) (by rw [h2]; exact F.seq_iff.2 rfl), F.bdL_end (F.bs_nil h3), List.append_nil]
  | e :: es, s, key, n, acc, ho, h => by
    have he := ho e (List.mem_cons_self ..)
    rw [F.txEs, F.tx0, List.append_assoc, List.append_assoc] at h
    obtain ⟨h1, h2, s', n', w1, w2⟩ := F.W0 key he e.extra s (F.noE key) n he.ext rfl rfl rfl rfl h
    have w1 : F.pt 0 s n (F.noE key) key = (true, s', n', e) := w1
    have hP := (F.enL_p0 (n := n) (e := F.noE key) (key := key) h1).trans w1
    obtain ⟨s2, n2, i1⟩ := F.tx_bd b es s' e.key n' (acc ++ [e]) (fun x hx => ho x (List.mem_cons_of_mem _ hx)) w2
    refine ⟨s2, n2, ?_⟩
    rw [F.bdL_go (F.cutF_ne h1) (by rw [h1]; rfl) (F.end_kd h2) hP rfl, i1, List.append_assoc, List.singleton_append]

theorem F.tx_hd {s w : ByteArray} {n : Int} {r : List UInt8} (hw : (10 : UInt8) ∉ F.bs (F.hdW w)) (h0 : 0 ≤ n) (h1 : n ≤ 1000000000000000) (h : F.bs s = F.lnB (F.hdW w ++ F.itoa n) ++ r) : F.hdOk s w = true ∧ F.hdV s w = n ∧ F.bs (F.cutT s F.nl) = r := by
  obtain ⟨k, rfl⟩ := Int.eq_ofNat_of_zero_le h0
  have h16 : (10 : Nat) ^ (15 + 1) = 10000000000000000 := by decide
  obtain ⟨v1, v2⟩ := F.num_itoa_k (n := (k : Int)) (w := 15) (by omega) (by rw [h16]; omega)
  have v1 : F.numOk (F.itoa (k : Int)) 16 = true := v1
  have v2 : F.numV (F.itoa (k : Int)) 16 = (k : Int) := v2
  obtain ⟨c1, c2, c3⟩ := F.line (by rw [F.bs_app]; exact F.no_app hw (F.itoa_no k)) h
  have hp : F.hasPrefix (F.cutH s F.nl) (F.hdW w) = true := by rw [c2]; exact F.pre_app _ _
  have hc : F.cutP (F.cutH s F.nl) (F.hdW w) = F.itoa (k : Int) := by unfold F.cutP; rw [hp, cond_true, c2]; exact F.ext_app _ _
  refine ⟨?_, ?_, c3⟩
  · unfold F.hdOk; rw [c1, hp, hc, v1]; rfl
  · unfold F.hdV; rw [hc, v2]

theorem F.no_wTg : (10 : UInt8) ∉ F.bs (F.hdW F.wTg) := by unfold F.hdW; rw [F.bs_app]; decide

theorem F.no_wFi : (10 : UInt8) ∉ F.bs (F.hdW F.wFi) := by unfold F.hdW; rw [F.bs_app]; decide

theorem F.no_wBr : (10 : UInt8) ∉ F.bs (F.hdW F.wBr) := by unfold F.hdW; rw [F.bs_app]; decide

theorem F.bs_nl : F.bs (⟨⟨[10]⟩⟩ : ByteArray) = [10] := rfl

theorem F.bs_p1 (s x : ByteArray) : F.bs (F.pl s [x]) = F.bs s ++ F.lnB x := by
  unfold F.pl F.lnB
  simp only [F.cat, F.bs_app, F.bs_nl, List.append_assoc]

theorem F.bs_p2 (s x y : ByteArray) : F.bs (F.pl s [x, y]) = F.bs s ++ F.lnB (x ++ y) := by
  unfold F.pl F.lnB
  simp only [F.cat, F.bs_app, F.bs_nl, List.append_assoc]

theorem F.bs_tX : ∀ (l : List ByteArray) (s : ByteArray), F.bs (F.tX s l) = F.bs s ++ F.txX l
  | [], s => by rw [F.tX, F.txX, List.append_nil]
  | x :: l, s => by rw [F.tX, F.bs_tX l, F.bs_p1, F.txX, List.append_assoc]

theorem F.bs_bE (s key : ByteArray) (e : Ent) : F.bs (F.bE s key e) = F.bs s ++ F.tx0 key e := by
  unfold F.bE F.bE' F.tx0 F.tx1 F.tx2 F.tx3 F.tx4 F.tx5 F.opt
  rw [F.bs_p1, F.bs_p2]
  have hX := F.bs_tX e.extra s
  generalize F.tX s e.extra = T at *
  unfold F.e1 F.e2 F.e3 F.e4
  cases e.brk <;> cases decide (0 ≤ e.date) <;> cases F.seq e.key key <;> cases e.gap <;> simp only [cond_true, cond_false, Bool.not_true, Bool.not_false, F.bs_p1, F.bs_p2, hX, List.append_assoc, List.nil_append]

theorem F.bs_tE : ∀ (l : List Ent) (s key : ByteArray), F.bs (F.tE s key l) = F.bs s ++ F.txEs key l
  | [], s, key => by rw [F.tE, F.txEs, List.append_nil]
  | e :: l, s, key => by rw [F.tE, F.bs_tE l, F.bs_bE, F.txEs, List.append_assoc]

theorem F.bs_ltB (l : Lst) (x : ByteArray) : F.bs (F.ltB l x) = F.txL l (F.bs x) := by
  have w1 : F.hdW F.wTg = F.xTg := F.bsx (by unfold F.hdW; rw [F.bs_app]; rfl)
  have w2 : F.hdW F.wFi = F.xFi := F.bsx (by unfold F.hdW; rw [F.bs_app]; rfl)
  have w3 : F.hdW F.wBr = F.xBr := F.bsx (by unfold F.hdW; rw [F.bs_app]; rfl)
  have hE : F.bs (F.ltE l x) = F.lnB F.kLst ++ (F.lnB (F.xTg ++ F.itoa l.target) ++ (F.lnB (F.xFi ++ F.itoa l.first) ++ (F.lnB (F.xBr ++ F.itoa l.breaks) ++ (F.bs x ++ F.txEs ⟨⟨[]⟩⟩ l.entries)))) := by
    unfold F.ltE F.hd3 F.h0
    rw [F.bs_tE, F.bs_app, F.bs_p2, F.bs_p2, F.bs_p2, F.bs_app]
    unfold F.lnB
    simp only [F.bs_nl, List.append_assoc]
  unfold F.ltB F.txL F.txEnd F.opt
  rw [w1, w2, w3]
  cases l.ended
  · rw [cond_false, cond_false, hE, List.append_nil]
  · rw [cond_true, cond_true, F.bs_p1, hE]
    simp only [List.append_assoc]

namespace M

noncomputable def enDk : Env := envH ty noG lks [] [oHd] [] []

theorem enDk_ok : EnvOK Tryz.prog enDk := by
  refine envH_ok lks_ok ty_ok ?_ ?_
  · simp
  · simp only [List.forall_mem_cons]
    exact ⟨okHd, by simp⟩

theorem evDk (s : ByteArray) (n : Int) : (runH enDk [] Tryz.f47 [.ptr 900 0 0, .ptr 901 0 0] [(902, ⟨true, 0, 0, [[vS s, vI n]]⟩), (901, ⟨true, 0, 0, [[vI 0, vI 0, vI 0, vI 0, .e0, vB false]]⟩), (900, ⟨true, 0, 0, [[.ptr 902 0 0]]⟩)]).val =
  Option.bind (unenc encHd ([.ptr 900 0 0, (vS (ByteArray.mk (Array.mk [(35 : UInt8), (83 : UInt8), (75 : UInt8), (73 : UInt8), (80 : UInt8)])))], [(900, Blk.mk true 0 0
  [[(vS s), (vI n)]])])) fun (z : ByteArray × Int × ByteArray) => bif decide (ByteArray.size z.fst ≤ (500000 : Nat)) && decide ((0 : Int) ≤ z.snd.fst) && decide (z.snd.fst ≤
  (1000000 : Int)) && decide (ByteArray.size z.snd.snd ≤ (1000 : Nat)) then some ((vB (F.hdOk z.fst z.snd.snd)), [(902, Blk.mk true 0 0 [[(vS (F.cutT z.fst F.nl)), (vI
  (z.snd.fst + (1 : Int)))]]), (901, Blk.mk true 0 0 [[(vI (F.hdV z.fst z.snd.snd)), (vI (0 : Int)), (vI (0 : Int)), (vI (0 : Int)), AV.e0, (vB false)]]), (900, Blk.mk true
  0 0 [[.ptr 902 0 0]])], []) else none := (runHR_val).symm.trans (by kernel_rfl)

def encDk1 (s : ByteArray) (n : Int) : List AV × Heap := ([.ptr 900 0 0, .ptr 901 0 0], [(902, ⟨true, 0, 0, [[vS s, vI n]]⟩), (901, ⟨true, 0, 0, [[vI 0, vI 0, vI 0, vI 0, .e0, vB false]]⟩), (900, ⟨true, 0, 0, [[.ptr 902 0 0]]⟩)])

def encDk (a : ByteArray × Int) : List AV × Heap := encDk1 a.1 a.2

theorem encDk_inj (a a' : ByteArray × Int) (h : encDk a = encDk a') : a = a' := by
  simp only [encDk, encDk1] at h
  try simp [strs_inj, ints_inj, ents_inj, eEnt_iff, eLst_iff, eSnds_inj, eStrms_inj] at h
  grind

theorem unDk (s : ByteArray) (n : Int) : unenc encDk (([.ptr 900 0 0, .ptr 901 0 0], [(902, Blk.mk true 0 0 [[(vS s), (vI n)]]), (901, Blk.mk true 0 0 [[(vI (0 : Int)), (vI (0 : Int)), (vI (0 : Int)), (vI (0 : Int)), AV.e0,
  (vB false)]]), (900, Blk.mk true 0 0 [[.ptr 902 0 0]])])) = some (s, n) := unenc_of encDk_inj (s, n) rfl

def resDk1 (s : ByteArray) (n : Int) : AV × Heap × List Nat := (vB (F.hdOk s F.wSk), [(902, ⟨true, 0, 0, [[vS (F.cutT s F.nl), vI (n + 1)]]⟩), (901, ⟨true, 0, 0, [[vI (F.hdV s F.wSk), vI 0, vI 0, vI 0, .e0, vB false]]⟩), (900, ⟨true, 0, 0, [[.ptr 902 0 0]]⟩)], [])

def preDk1 (s : ByteArray) (n : Int) : Bool := decide (s.size ≤ 500000) && decide (0 ≤ n) && decide (n ≤ 1000000)

noncomputable def oDk : OrcH := orcH 47 encDk (fun a => preDk1 a.1 a.2) fun a => resDk1 a.1 a.2

theorem okDk : OrcHOK Tryz.prog noG oDk := by
  refine mkH_ok (mv := []) Tryz.f47 (by kernel_rfl) (by kernel_rfl) enDk_ok mixed (no_loops (by kernel_rfl)) ?_
  rintro ⟨s, n⟩ hpre hok hokh
  show (runH enDk [] _ (encDk1 _ _).1 (encDk1 _ _).2).val = some (resDk1 _ _)
  unfold encDk1 resDk1
  rw [evDk]
  simp only [preDk1, Bool.and_eq_true, decide_eq_true_eq] at hpre
  obtain ⟨⟨h1, h2⟩, h3⟩ := hpre
  have q : (⟨⟨[35, 83, 75, 73, 80]⟩⟩ : ByteArray) = F.wSk := rfl
  have wd : F.wSk.size ≤ 1000 := by decide
  simp only [unHd, preHd1, etaEnt, etaLst, etaSnd, etaStrm, etaMas, Option.bind_some, List.length_map, unStrs, unInts, unBools, unEnts, unItms, unTrns, cond_true, cond_false, Bool.and_true, Bool.true_and, decide_eq_true h1, decide_eq_true h2, decide_eq_true h3, q, decide_eq_true wd]
  try rfl

def stGh (s : ByteArray) (n : Int) : St := ⟨[(37, vI 0), (36, vI ((3 : Nat) : Int)), (35, .win 35 0 3), (6, .ptr 6 0 0), (4, .ptr 4 0 0), (1, .fn 47 [.ptr 901 0 0, .ptr 902 0 0]), (0, .ptr 900 0 0)], [(902, ⟨true, 0, 0, [[vI 0, vI 0, vI 0, vI 0, .e0, vB false]]⟩), (901, ⟨true, 0, 0, [[.ptr 900 0 0]]⟩), (900, ⟨true, 0, 0, [[vS s, vI n]]⟩), (35, ⟨true, 105, 2, [[vS F.wTg, .ptr 6 0 0], [vS F.wFi, .ptr 6 0 1], [vS F.wBr, .ptr 6 0 2]]⟩), (6, ⟨true, 0, 0, [[vI 0, vI 0, vI 0, .e0, vB false]]⟩), (4, ⟨true, 0, 0, [[vI 0, vI 0, vI 0, .e0, vB false]]⟩)]⟩

def stGh1 (a : ByteArray × Int) : St := stGh a.1 a.2

theorem stGh_inj (a a' : ByteArray × Int) (h : stGh1 a = stGh1 a') : a = a' := by
  simp only [stGh1, stGh] at h
  try simp [strs_inj, ints_inj, ents_inj, eEnt_iff, eLst_iff, eSnds_inj, eStrms_inj] at h
  grind

theorem unstGh (s : ByteArray) (n : Int) : unenc stGh1 (St.mk [(37, (vI (0 : Int))), (36, (vI (↑(3 : Nat) : Int))), (35, AV.win (35 : Nat) (0 : Nat) (3 : Nat)), (6, .ptr 6 0 0), (4, .ptr 4 0 0), (1, AV.fn (47 : FuncId) [.ptr
  901 0 0, .ptr 902 0 0]), (0, .ptr 900 0 0)] [(902, Blk.mk true 0 0 [[(vI (0 : Int)), (vI (0 : Int)), (vI (0 : Int)), (vI (0 : Int)), AV.e0, (vB false)]]), (901, Blk.mk
  true 0 0 [[.ptr 900 0 0]]), (900, Blk.mk true 0 0 [[(vS s), (vI n)]]), (35, Blk.mk true 105 2 [[(vS F.wTg), .ptr 6 0 0], [(vS F.wFi), .ptr 6 0 1], [(vS F.wBr), .ptr 6 0
  2]]), (6, Blk.mk true 0 0 [[(vI (0 : Int)), (vI (0 : Int)), (vI (0 : Int)), AV.e0, (vB false)]]), (4, Blk.mk true 0 0 [[(vI (0 : Int)), (vI (0 : Int)), (vI (0 : Int)),
  AV.e0, (vB false)]])]) = some (s, n) := unenc_of stGh_inj (s, n) rfl

def outGh (s : ByteArray) (n : Int) : T (Ex × St) := .ifB (F.hdOk s F.wTg) (.ifB (F.hdOk (F.dr 1 s) F.wFi) (.ifB (F.hdOk (F.dr 2 s) F.wBr)
      (.ret (.exit 0, ⟨[(6, .ptr 6 0 0), (4, .ptr 4 0 0), (1, .fn 47 [.ptr 901 0 0, .ptr 902 0 0]), (0, .ptr 900 0 0)], [(902, ⟨true, 0, 0, [[vI 0, vI 0, vI 0, vI 0, .e0, vB false]]⟩), (901, ⟨true, 0, 0, [[.ptr 900 0 0]]⟩), (900, ⟨true, 0, 0, [[vS (F.dr 3 s), vI (n + 1 + 1 + 1)]]⟩), (6, ⟨true, 0, 0, [[vI (F.hdV s F.wTg), vI (F.hdV (F.dr 1 s) F.wFi), vI (F.hdV (F.dr 2 s) F.wBr), .e0, vB false]]⟩), (4, ⟨true, 0, 0, [[vI 0, vI 0, vI 0, .e0, vB false]]⟩)]⟩))
      (.ret (.ret, ⟨[(5, vB false), (4, .ptr 4 0 0)], [(902, ⟨true, 0, 0, [[vI 0, vI 0, vI 0, vI 0, .e0, vB false]]⟩), (901, ⟨true, 0, 0, [[.ptr 900 0 0]]⟩), (900, ⟨true, 0, 0, [[vS (F.dr 3 s), vI (n + 1 + 1 + 1)]]⟩), (4, ⟨true, 0, 0, [[vI (F.hdV s F.wTg), vI (F.hdV (F.dr 1 s) F.wFi), vI 0, .e0, vB false]]⟩)]⟩)))
      (.ret (.ret, ⟨[(5, vB false), (4, .ptr 4 0 0)], [(902, ⟨true, 0, 0, [[vI 0, vI 0, vI 0, vI 0, .e0, vB false]]⟩), (901, ⟨true, 0, 0, [[.ptr 900 0 0]]⟩), (900, ⟨true, 0, 0, [[vS (F.dr 2 s), vI (n + 1 + 1)]]⟩), (4, ⟨true, 0, 0, [[vI (F.hdV s F.wTg), vI 0, vI 0, .e0, vB false]]⟩)]⟩)))
      (.ret (.ret, ⟨[(5, vB false), (4, .ptr 4 0 0)], [(902, ⟨true, 0, 0, [[vI 0, vI 0, vI 0, vI 0, .e0, vB false]]⟩), (901, ⟨true, 0, 0, [[.ptr 900 0 0]]⟩), (900, ⟨true, 0, 0, [[vS (F.dr 1 s), vI (n + 1)]]⟩), (4, ⟨true, 0, 0, [[vI 0, vI 0, vI 0, .e0, vB false]]⟩)]⟩))

noncomputable def prlGh (s : ByteArray) (n : Int) : Bool := decide (s.size ≤ 500000) && decide (0 ≤ n) && decide (n ≤ 100)

noncomputable def lpGh : Nat × (St → T (Ex × St)) := (6, lpo [37, 36, 35, 6, 4, 1, 0] [902, 901, 900, 35, 6, 4] stGh1 (fun a => prlGh a.1 a.2) fun a => outGh a.1 a.2)

def stGl (s : ByteArray) (n : Int) (t : Int) (f : Int) (b : Int) (kk : Int) : St := ⟨[(13, vS ⟨⟨[]⟩⟩), (6, .ptr 6 0 0), (4, .ptr 4 0 0), (0, .ptr 900 0 0)], [(902, ⟨true, 0, 0, [[vI kk, vI 0, vI 0, vI 0, .e0, vB false]]⟩), (901, ⟨true, 0, 0, [[.ptr 900 0 0]]⟩), (900, ⟨true, 0, 0, [[vS s, vI n]]⟩), (6, ⟨true, 0, 0, [[vI t, vI f, vI b, .e0, vB false]]⟩), (4, ⟨true, 0, 0, [[vI 0, vI 0, vI 0, .e0, vB false]]⟩)]⟩

def stGl1 (a : ByteArray × Int × Int × Int × Int × Int) : St := stGl a.1 a.2.1 a.2.2.1 a.2.2.2.1 a.2.2.2.2.1 a.2.2.2.2.2

theorem stGl_inj (a a' : ByteArray × Int × Int × Int × Int × Int) (h : stGl1 a = stGl1 a') : a = a' := by
  simp only [stGl1, stGl] at h
  try simp [strs_inj, ints_inj, ents_inj, eEnt_iff, eLst_iff, eSnds_inj, eStrms_inj] at h
  grind

theorem unstGl (s : ByteArray) (n : Int) (t : Int) (f : Int) (b : Int) (kk : Int) : unenc stGl1 (St.mk [(13, (vS (ByteArray.mk (Array.mk [])))), (6, .ptr 6 0 0), (4, .ptr 4 0 0), (0, .ptr 900 0 0)] [(902, Blk.mk true 0 0 [[(vI kk), (vI (0 : Int)), (vI (0 : Int)), (vI
  (0 : Int)), AV.e0, (vB false)]]), (901, Blk.mk true 0 0 [[.ptr 900 0 0]]), (900, Blk.mk true 0 0 [[(vS s), (vI n)]]), (6, Blk.mk true 0 0 [[(vI t), (vI f), (vI b), AV.e0,
  (vB false)]]), (4, Blk.mk true 0 0 [[(vI (0 : Int)), (vI (0 : Int)), (vI (0 : Int)), AV.e0, (vB false)]])]) = some (s, n, t, f, b, kk) := unenc_of stGl_inj (s, n, t, f, b, kk) rfl

def outGl (s : ByteArray) (n : Int) (t : Int) (f : Int) (b : Int) (kk : Int) : T (Ex × St) := .ifB (F.bdL s n ⟨⟨[]⟩⟩ [] false).1
      (.ret (.exit 2, ⟨[(6, .ptr 6 0 0), (4, .ptr 4 0 0)], [(902, ⟨true, 0, 0, [[vI kk, vI 0, vI 0, vI 0, .e0, vB false]]⟩), (901, ⟨true, 0, 0, [[.ptr 900 0 0]]⟩), (900, ⟨true, 0, 0, [[vS (F.bdL s n ⟨⟨[]⟩⟩ [] false).2.1, vI (F.bdL s n ⟨⟨[]⟩⟩ [] false).2.2.1]]⟩), (890, ⟨false, 50, 7, (F.bdL s n ⟨⟨[]⟩⟩ [] false).2.2.2.1.map eEnt⟩), (6, ⟨true, 0, 0, [[vI t, vI f, vI b, .own 890, vB (F.bdL s n ⟨⟨[]⟩⟩ [] false).2.2.2.2]]⟩), (4, ⟨true, 0, 0, [[vI 0, vI 0, vI 0, .e0, vB false]]⟩)]⟩))
      (.ret (.ret, ⟨[(5, vB false), (4, .ptr 4 0 0)], [(902, ⟨true, 0, 0, [[vI kk, vI 0, vI 0, vI 0, .e0, vB false]]⟩), (901, ⟨true, 0, 0, [[.ptr 900 0 0]]⟩), (900, ⟨true, 0, 0, [[vS (F.bdL s n ⟨⟨[]⟩⟩ [] false).2.1, vI (F.bdL s n ⟨⟨[]⟩⟩ [] false).2.2.1]]⟩), (890, ⟨false, 50, 7, (F.bdL s n ⟨⟨[]⟩⟩ [] false).2.2.2.1.map eEnt⟩), (4, ⟨true, 0, 0, [[vI t, vI f, vI b, .own 890, vB (F.bdL s n ⟨⟨[]⟩⟩ [] false).2.2.2.2]]⟩)]⟩))

noncomputable def prlGl (s : ByteArray) (n : Int) (t : Int) (f : Int) (b : Int) (kk : Int) : Bool := decide (s.size ≤ 500000) && decide (0 ≤ n) && decide (n ≤ 100)

noncomputable def lpGl : Nat × (St → T (Ex × St)) := (16, lpo [13, 6, 4, 0] [902, 901, 900, 6, 4] stGl1 (fun a => prlGl a.1 a.2.1 a.2.2.1 a.2.2.2.1 a.2.2.2.2.1 a.2.2.2.2.2) fun a => outGl a.1 a.2.1 a.2.2.1 a.2.2.2.1 a.2.2.2.2.1 a.2.2.2.2.2)

noncomputable def enGd : Env := envH ty noG lks [oMor] [oTk, oHd, oEnt, oDk] [890, 35] [lpGh, lpGl]

theorem enGd_ok : EnvOK Tryz.prog enGd := by
  refine envH_ok lks_ok ty_ok ?_ ?_
  · simp only [List.forall_mem_cons]
    exact ⟨okMor, by simp⟩
  · simp only [List.forall_mem_cons]
    exact ⟨okTk, okHd, okEnt, okDk, by simp⟩

def stGx (s : ByteArray) (n : Int) (k a b c : Int) : St := ⟨[(37, vI k), (36, vI ((3 : Nat) : Int)), (35, .win 35 0 3), (6, .ptr 6 0 0), (4, .ptr 4 0 0), (1, .fn 47 [.ptr 901 0 0, .ptr 902 0 0]), (0, .ptr 900 0 0)], [(902, ⟨true, 0, 0, [[vI 0, vI 0, vI 0, vI 0, .e0, vB false]]⟩), (901, ⟨true, 0, 0, [[.ptr 900 0 0]]⟩), (900, ⟨true, 0, 0, [[vS s, vI n]]⟩), (35, ⟨true, 105, 2, [[vS F.wTg, .ptr 6 0 0], [vS F.wFi, .ptr 6 0 1], [vS F.wBr, .ptr 6 0 2]]⟩), (6, ⟨true, 0, 0, [[vI a, vI b, vI c, .e0, vB false]]⟩), (4, ⟨true, 0, 0, [[vI 0, vI 0, vI 0, .e0, vB false]]⟩)]⟩

theorem evGh0 (s : ByteArray) (n : Int) (a b c : Int) : ((exec enGd (loopN Tryz.f46 0) (stGx s n 0 a b c)).bind (lessX ([37, 36, 35, 6, 4, 1, 0], [902, 901, 900, 35, 6, 4]) ([6, 4, 1, 0], [902, 901, 900, 6, 4]) ([5, 4], [902, 901, 900, 4]))).val =
  (fun (q : Nat × Blk) => (fun (q_1 : List AV) => (fun (q_2 : List AV) => (fun (q_3 : Nat × Blk) => Option.bind (unenc encHd ([.ptr 900 0 0, (vS F.wTg)], [(900, Blk.mk true
  0 0 [[(vS s), (vI n)]])])) fun (z : ByteArray × Int × ByteArray) => (fun (q_4 : Nat × Blk) => bif decide (ByteArray.size z.fst ≤ (500000 : Nat)) && decide ((0 : Int) ≤
  z.snd.fst) && decide (z.snd.fst ≤ (1000000 : Int)) && decide (ByteArray.size z.snd.snd ≤ (1000 : Nat)) then bif !F.hdOk z.fst z.snd.snd then some (Ex.ret, St.mk [(5, (vB
  false)), (4, .ptr 4 0 0)] [q_3, q, q_4, (4, Blk.mk true 0 0 [(vI a) :: q_1])]) else some (Ex.normal, St.mk [(37, (vI (IntKind.wrap IntKind.i64 ((0 : Int) + (1 : Int))))),
  (36, (vI (↑(3 : Nat) : Int))), (35, AV.win (35 : Nat) (0 : Nat) (3 : Nat)), (6, .ptr 6 0 0), (4, .ptr 4 0 0), (1, AV.fn (47 : FuncId) [.ptr 901 0 0, .ptr 902 0 0]), (0,
  .ptr 900 0 0)] [q_3, q, q_4, (35, Blk.mk true 105 2 [[(vS F.wTg), .ptr 6 0 0], [(vS F.wFi), .ptr 6 0 1], [(vS F.wBr), .ptr 6 0 2]]), (6, Blk.mk true 0 0 [(vI (F.hdV z.fst
  z.snd.snd)) :: q_1]), (4, Blk.mk true 0 0 [q_2])]) else none) (900, Blk.mk true 0 0 [[(vS (F.cutT z.fst F.nl)), (vI (z.snd.fst + (1 : Int)))]])) (902, Blk.mk true 0 0 [(vI
  (0 : Int)) :: q_2])) [(vI (0 : Int)), (vI (0 : Int)), (vI (0 : Int)), AV.e0, (vB false)]) [(vI b), (vI c), AV.e0, (vB false)]) (901, Blk.mk true 0 0 [[.ptr 900 0 0]]) := (execR_bind _ _ _).symm.trans (by kernel_rfl)

theorem evGh1 (s : ByteArray) (n : Int) (a b c : Int) : ((exec enGd (loopN Tryz.f46 0) (stGx s n 1 a b c)).bind (lessX ([37, 36, 35, 6, 4, 1, 0], [902, 901, 900, 35, 6, 4]) ([6, 4, 1, 0], [902, 901, 900, 6, 4]) ([5, 4], [902, 901, 900, 4]))).val =
  (fun (q : Nat × Blk) => (fun (q_1 : List AV) => (fun (q_2 : Nat × Blk) => Option.bind (unenc encHd ([.ptr 900 0 0, (vS F.wFi)], [(900, Blk.mk true 0 0 [[(vS s), (vI
  n)]])])) fun (z : ByteArray × Int × ByteArray) => (fun (q_3 : Nat × Blk) => bif decide (ByteArray.size z.fst ≤ (500000 : Nat)) && decide ((0 : Int) ≤ z.snd.fst) && decide
  (z.snd.fst ≤ (1000000 : Int)) && decide (ByteArray.size z.snd.snd ≤ (1000 : Nat)) then bif !F.hdOk z.fst z.snd.snd then some (Ex.ret, St.mk [(5, (vB false)), (4, .ptr 4 0
  0)] [q_2, q, q_3, (4, Blk.mk true 0 0 [[(vI a), (vI b), (vI c), AV.e0, (vB false)]])]) else some (Ex.normal, St.mk [(37, (vI (IntKind.wrap IntKind.i64 ((1 : Int) + (1 :
  Int))))), (36, (vI (↑(3 : Nat) : Int))), (35, AV.win (35 : Nat) (0 : Nat) (3 : Nat)), (6, .ptr 6 0 0), (4, .ptr 4 0 0), (1, AV.fn (47 : FuncId) [.ptr 901 0 0, .ptr 902 0
  0]), (0, .ptr 900 0 0)] [q_2, q, q_3, (35, Blk.mk true 105 2 [[(vS F.wTg), .ptr 6 0 0], [(vS F.wFi), .ptr 6 0 1], [(vS F.wBr), .ptr 6 0 2]]), (6, Blk.mk true 0 0 [[(vI a),
  (vI (F.hdV z.fst z.snd.snd)), (vI c), AV.e0, (vB false)]]), (4, Blk.mk true 0 0 [q_1])]) else none) (900, Blk.mk true 0 0 [[(vS (F.cutT z.fst F.nl)), (vI (z.snd.fst + (1 :
  Int)))]])) (902, Blk.mk true 0 0 [(vI (0 : Int)) :: q_1])) [(vI (0 : Int)), (vI (0 : Int)), (vI (0 : Int)), AV.e0, (vB false)]) (901, Blk.mk true 0 0 [[.ptr 900 0 0]]) := (execR_bind _ _ _).symm.trans (by kernel_rfl)

theorem evGh2 (s : ByteArray) (n : Int) (a b c : Int) : ((exec enGd (loopN Tryz.f46 0) (stGx s n 2 a b c)).bind (lessX ([37, 36, 35, 6, 4, 1, 0], [902, 901, 900, 35, 6, 4]) ([6, 4, 1, 0], [902, 901, 900, 6, 4]) ([5, 4], [902, 901, 900, 4]))).val =
  (fun (q : Nat × Blk) => (fun (q_1 : List AV) => (fun (q_2 : Nat × Blk) => Option.bind (unenc encHd ([.ptr 900 0 0, (vS F.wBr)], [(900, Blk.mk true 0 0 [[(vS s), (vI
  n)]])])) fun (z : ByteArray × Int × ByteArray) => (fun (q_3 : Nat × Blk) => bif decide (ByteArray.size z.fst ≤ (500000 : Nat)) && decide ((0 : Int) ≤ z.snd.fst) && decide
  (z.snd.fst ≤ (1000000 : Int)) && decide (ByteArray.size z.snd.snd ≤ (1000 : Nat)) then bif !F.hdOk z.fst z.snd.snd then some (Ex.ret, St.mk [(5, (vB false)), (4, .ptr 4 0
  0)] [q_2, q, q_3, (4, Blk.mk true 0 0 [[(vI a), (vI b), (vI c), AV.e0, (vB false)]])]) else some (Ex.normal, St.mk [(37, (vI (IntKind.wrap IntKind.i64 ((2 : Int) + (1 :
  Int))))), (36, (vI (↑(3 : Nat) : Int))), (35, AV.win (35 : Nat) (0 : Nat) (3 : Nat)), (6, .ptr 6 0 0), (4, .ptr 4 0 0), (1, AV.fn (47 : FuncId) [.ptr 901 0 0, .ptr 902 0
  0]), (0, .ptr 900 0 0)] [q_2, q, q_3, (35, Blk.mk true 105 2 [[(vS F.wTg), .ptr 6 0 0], [(vS F.wFi), .ptr 6 0 1], [(vS F.wBr), .ptr 6 0 2]]), (6, Blk.mk true 0 0 [[(vI a),
  (vI b), (vI (F.hdV z.fst z.snd.snd)), AV.e0, (vB false)]]), (4, Blk.mk true 0 0 [q_1])]) else none) (900, Blk.mk true 0 0 [[(vS (F.cutT z.fst F.nl)), (vI (z.snd.fst + (1 :
  Int)))]])) (902, Blk.mk true 0 0 [(vI (0 : Int)) :: q_1])) [(vI (0 : Int)), (vI (0 : Int)), (vI (0 : Int)), AV.e0, (vB false)]) (901, Blk.mk true 0 0 [[.ptr 900 0 0]]) := (execR_bind _ _ _).symm.trans (by kernel_rfl)

theorem evGh3 (s : ByteArray) (n : Int) (a b c : Int) : ((exec enGd (loopN Tryz.f46 0) (stGx s n 3 a b c)).bind (lessX ([37, 36, 35, 6, 4, 1, 0], [902, 901, 900, 35, 6, 4]) ([6, 4, 1, 0], [902, 901, 900, 6, 4]) ([5, 4], [902, 901, 900, 4]))).val =
  some (Ex.exit (0 : Nat), St.mk [(6, .ptr 6 0 0), (4, .ptr 4 0 0), (1, AV.fn (47 : FuncId) [.ptr 901 0 0, .ptr 902 0 0]), (0, .ptr 900 0 0)] [(902, Blk.mk true 0 0 [[(vI (0
  : Int)), (vI (0 : Int)), (vI (0 : Int)), (vI (0 : Int)), AV.e0, (vB false)]]), (901, Blk.mk true 0 0 [[.ptr 900 0 0]]), (900, Blk.mk true 0 0 [[(vS s), (vI n)]]), (6,
  Blk.mk true 0 0 [[(vI a), (vI b), (vI c), AV.e0, (vB false)]]), (4, Blk.mk true 0 0 [[(vI (0 : Int)), (vI (0 : Int)), (vI (0 : Int)), AV.e0, (vB false)]])]) := (execR_bind _ _ _).symm.trans (by kernel_rfl)

def stGo (s : ByteArray) (n : Int) (key : ByteArray) (es : List Ent) (en : Bool) (t f b kk : Int) : St := ⟨[(13, vS key), (6, .ptr 6 0 0), (4, .ptr 4 0 0), (0, .ptr 900 0 0)], [(902, ⟨true, 0, 0, [[vI kk, vI 0, vI 0, vI 0, .e0, vB false]]⟩), (901, ⟨true, 0, 0, [[.ptr 900 0 0]]⟩), (900, ⟨true, 0, 0, [[vS s, vI n]]⟩), (890, ⟨false, 50, 7, es.map eEnt⟩), (6, ⟨true, 0, 0, [[vI t, vI f, vI b, .own 890, vB en]]⟩), (4, ⟨true, 0, 0, [[vI 0, vI 0, vI 0, .e0, vB false]]⟩)]⟩

theorem evGo (s : ByteArray) (n : Int) (key : ByteArray) (es : List Ent) (en : Bool) (t f b kk : Int) : ((exec enGd (loopN Tryz.f46 1) (stGo s n key es en t f b kk)).bind (lessX ([13, 6, 4, 0], [902, 901, 900, 890, 6, 4]) ([6, 4], [902, 901, 900, 890, 6, 4]) ([5, 4], [902, 901, 900, 890, 4]))).val =
  (fun (q : Nat × AV) => (fun (q_1 : Nat × Blk) => (fun (q_2 : Nat × Blk) => (fun (q_3 : List (Nat × AV)) => (fun (q_4 : Nat × Blk) => (fun (q_5 : List (Nat × AV)) => (fun
  (q_6 : List AV) => (fun (q_7 : Blk) => (fun (q_8 : List (Nat × Blk)) => (fun (q_9 : Nat × Blk) => (fun (q_10 : List (Nat × Blk)) => (fun (q_11 : List (Nat × Blk)) =>
  Option.bind (unenc encMor [AV.pel [(vS s), (vI n)] (0 : Nat)]) fun (z : ByteArray × Int) => bif decide (ByteArray.size z.fst ≠ (0 : Nat)) then Option.bind (unenc encTk
  ([.ptr 900 0 0], [q_4])) fun (z : ByteArray × Int) => (fun (q : Nat × Blk) => bif decide (ByteArray.size z.fst ≤ (500000 : Nat)) && decide ((0 : Int) ≤ z.snd) && decide
  (z.snd ≤ (1000000 : Int)) then bif bif !F.cutF z.fst F.nl then true else en then some (Ex.ret, St.mk q_3 (q_9 :: q_2 :: q :: q_10)) else bif ByteArray.toList (F.cutH z.fst
  F.nl) == ByteArray.toList (ByteArray.mk (Array.mk [(35 : UInt8), (69 : UInt8), (78 : UInt8), (68 : UInt8)])) then some (Ex.normal, St.mk ((13, (vS key)) :: q_5) (q_9 ::
  q_2 :: q :: q_1 :: (6, Blk.mk true 0 0 [[(vI t), (vI f), (vI b), .own 890, (vB true)]]) :: q_8)) else Option.bind (unenc encEnt ([.ptr 900 0 0, (vS (F.cutH z.fst F.nl)),
  (vS key)], [q])) fun (z : ByteArray × Int × ByteArray × ByteArray) => (fun (q : Bool × ByteArray × Int × Ent) => (fun (q_12 : Int × Ent) => (fun (q_13 : Ent) => (fun (q_14
  : AV) => (fun (q_15 : Nat × Blk) => bif decide ((0 : Int) ≤ z.snd.fst) && decide (z.snd.fst + (↑(ByteArray.size z.fst) : Int) ≤ (900000 : Int)) && decide (ByteArray.size
  z.fst ≤ (500000 : Nat)) && decide (ByteArray.size z.snd.snd.fst ≤ (500000 : Nat)) then bif !q.fst then some (Ex.ret, St.mk q_3 (q_9 :: q_2 :: q_15 :: q_10)) else bif
  Nat.ble ((List.length (List.map eEnt es) + (1 : Nat)) * (88 : Nat)) (140737488355328 : Nat) && true then some (Ex.normal, St.mk ((13, q_14) :: q_5) (q_9 :: q_2 :: q_15 ::
  (890, Blk.mk false 50 7 (List.map eEnt es ++ [[(vS q_13.uri), (vI q_13.milli), (vB q_13.brk), (vI q_13.date), q_14, (vB q_13.gap), AV.sl (List.map eStr q_13.extra)]])) ::
  q_11)) else none else none) (900, Blk.mk true 0 0 [[(vS q.snd.fst), (vI q_12.fst)]])) ((vS q_13.key))) q_12.snd) q.snd.snd) (F.enL z.fst z.snd.fst (F.noE z.snd.snd.snd)
  z.snd.snd.fst z.snd.snd.snd (0 : Int)) else none) (900, Blk.mk true 0 0 [[(vS (F.cutT z.fst F.nl)), (vI (z.snd + (1 : Int)))]]) else some (Ex.exit (2 : Nat), St.mk [(6,
  .ptr 6 0 0), q] (q_9 :: q_2 :: q_4 :: q_1 :: q_11))) ((6, q_7) :: q_8)) [q_1, (4, q_7)]) (902, Blk.mk true 0 0 [(vI kk) :: q_6])) [(4, Blk.mk true 0 0 [q_6])]) (Blk.mk
  true 0 0 [[(vI t), (vI f), (vI b), .own 890, (vB en)]])) [(vI (0 : Int)), (vI (0 : Int)), (vI (0 : Int)), AV.e0, (vB false)]) [(6, .ptr 6 0 0), q, (0, .ptr 900 0 0)])
  (900, Blk.mk true 0 0 [[(vS s), (vI n)]])) [(5, (vB false)), q]) (901, Blk.mk true 0 0 [[.ptr 900 0 0]])) (890, Blk.mk false 50 7 (List.map eEnt es))) (4, .ptr 4 0 0) := (execR_bind _ _ _).symm.trans (by kernel_rfl)

def stGk (s : ByteArray) (n : Int) : Nat → St
  | 0 => stGx s n 0 0 0 0
  | 1 => stGx (F.dr 1 s) (n + 1) 1 (F.hdV s F.wTg) 0 0
  | 2 => stGx (F.dr 2 s) (n + 1 + 1) 2 (F.hdV s F.wTg) (F.hdV (F.dr 1 s) F.wFi) 0
  | _ => stGx (F.dr 3 s) (n + 1 + 1 + 1) 3 (F.hdV s F.wTg) (F.hdV (F.dr 1 s) F.wFi) (F.hdV (F.dr 2 s) F.wBr)

def exGh (s : ByteArray) (n : Int) : Ex × St := (.exit 0, ⟨[(6, .ptr 6 0 0), (4, .ptr 4 0 0), (1, .fn 47 [.ptr 901 0 0, .ptr 902 0 0]), (0, .ptr 900 0 0)], [(902, ⟨true, 0, 0, [[vI 0, vI 0, vI 0, vI 0, .e0, vB false]]⟩), (901, ⟨true, 0, 0, [[.ptr 900 0 0]]⟩), (900, ⟨true, 0, 0, [[vS (F.dr 3 s), vI (n + 1 + 1 + 1)]]⟩), (6, ⟨true, 0, 0, [[vI (F.hdV s F.wTg), vI (F.hdV (F.dr 1 s) F.wFi), vI (F.hdV (F.dr 2 s) F.wBr), .e0, vB false]]⟩), (4, ⟨true, 0, 0, [[vI 0, vI 0, vI 0, .e0, vB false]]⟩)]⟩)

def rtGh (s : ByteArray) (n a b c : Int) : Ex × St := (.ret, ⟨[(5, vB false), (4, .ptr 4 0 0)], [(902, ⟨true, 0, 0, [[vI 0, vI 0, vI 0, vI 0, .e0, vB false]]⟩), (901, ⟨true, 0, 0, [[.ptr 900 0 0]]⟩), (900, ⟨true, 0, 0, [[vS s, vI n]]⟩), (4, ⟨true, 0, 0, [[vI a, vI b, vI c, .e0, vB false]]⟩)]⟩)

def outGk (s : ByteArray) (n : Int) : Nat → T (Ex × St)
  | 0 => .ifB (F.hdOk s F.wTg) (.ifB (F.hdOk (F.dr 1 s) F.wFi) (.ifB (F.hdOk (F.dr 2 s) F.wBr) (.ret (exGh s n)) (.ret (rtGh (F.dr 3 s) (n + 1 + 1 + 1) (F.hdV s F.wTg) (F.hdV (F.dr 1 s) F.wFi) 0))) (.ret (rtGh (F.dr 2 s) (n + 1 + 1) (F.hdV s F.wTg) 0 0))) (.ret (rtGh (F.dr 1 s) (n + 1) 0 0 0))
  | 1 => .ifB (F.hdOk (F.dr 1 s) F.wFi) (.ifB (F.hdOk (F.dr 2 s) F.wBr) (.ret (exGh s n)) (.ret (rtGh (F.dr 3 s) (n + 1 + 1 + 1) (F.hdV s F.wTg) (F.hdV (F.dr 1 s) F.wFi) 0))) (.ret (rtGh (F.dr 2 s) (n + 1 + 1) (F.hdV s F.wTg) 0 0))
  | 2 => .ifB (F.hdOk (F.dr 2 s) F.wBr) (.ret (exGh s n)) (.ret (rtGh (F.dr 3 s) (n + 1 + 1 + 1) (F.hdV s F.wTg) (F.hdV (F.dr 1 s) F.wFi) 0))
  | _ => .ret (exGh s n)

theorem lpGh_ok (s : ByteArray) (n : Int) (hp : prlGh s n = true) : ∀ ex s', (outGh s n).val = some (ex, s') → LoopOK enGd (loopN Tryz.f46 0) (stGh s n) ex s' := by
  simp only [prlGh, Bool.and_eq_true, decide_eq_true_eq] at hp
  obtain ⟨⟨h1, h2⟩, h3⟩ := hp
  have z1 := F.dr_size 1 s
  have z2 := F.dr_size 2 s
  have z3 := F.dr_size 3 s
  have wd1 : F.wTg.size ≤ 1000 := by decide
  have wd2 : F.wFi.size ≤ 1000 := by decide
  have wd3 : F.wBr.size ≤ 1000 := by decide
  refine loop_gen (st := stGk s n) (out := outGk s n) (I := fun k => k ≤ 3) (n := ([37, 36, 35, 6, 4, 1, 0], [902, 901, 900, 35, 6, 4])) (e := ([6, 4, 1, 0], [902, 901, 900, 6, 4])) (r := ([5, 4], [902, 901, 900, 4])) (fun k => 3 - k) ?_ 0 (by decide)
  intro k hk
  match k, hk with
  | 0, _ =>
    cases hc : F.hdOk s F.wTg
    · left
      refine ⟨rtGh (F.dr 1 s) (n + 1) 0 0 0, ?_, ifB_f hc, by simp [rtGh], rfl⟩
      show ((exec enGd (loopN Tryz.f46 0) (stGx s n 0 0 0 0)).bind _).val = _
      rw [evGh0]
      simp only [unMor, unTk, unHd, unEnt, unDk, preMor1, preTk1, preHd1, preEnt1, preDk1, unstGh, unstGl, prlGh, prlGl, outGh, outGl, etaEnt, etaLst, etaSnd, etaStrm, etaMas, Option.bind_some, List.length_map, unStrs, unInts, unBools, unEnts, unItms, unTrns, cond_true, cond_false, Bool.and_true, Bool.true_and, decide_eq_true h1, decide_eq_true h2, decide_eq_true (by omega : n ≤ 1000000), decide_eq_true wd1, hc]
      rfl
    · right
      refine ⟨1, ?_, rfl, by decide, by decide, (ifB_t hc).symm⟩
      show ((exec enGd (loopN Tryz.f46 0) (stGx s n 0 0 0 0)).bind _).val = _
      rw [evGh0]
      simp only [unMor, unTk, unHd, unEnt, unDk, preMor1, preTk1, preHd1, preEnt1, preDk1, unstGh, unstGl, prlGh, prlGl, outGh, outGl, etaEnt, etaLst, etaSnd, etaStrm, etaMas, Option.bind_some, List.length_map, unStrs, unInts, unBools, unEnts, unItms, unTrns, cond_true, cond_false, Bool.and_true, Bool.true_and, decide_eq_true h1, decide_eq_true h2, decide_eq_true (by omega : n ≤ 1000000), decide_eq_true wd1, hc]
      rfl
  | 1, _ =>
    cases hc : F.hdOk (F.dr 1 s) F.wFi
    · left
      refine ⟨rtGh (F.dr 2 s) (n + 1 + 1) (F.hdV s F.wTg) 0 0, ?_, ifB_f hc, by simp [rtGh], rfl⟩
      show ((exec enGd (loopN Tryz.f46 0) (stGx (F.dr 1 s) (n + 1) 1 (F.hdV s F.wTg) 0 0)).bind _).val = _
      rw [evGh1]
      simp only [unMor, unTk, unHd, unEnt, unDk, preMor1, preTk1, preHd1, preEnt1, preDk1, unstGh, unstGl, prlGh, prlGl, outGh, outGl, etaEnt, etaLst, etaSnd, etaStrm, etaMas, Option.bind_some, List.length_map, unStrs, unInts, unBools, unEnts, unItms, unTrns, cond_true, cond_false, Bool.and_true, Bool.true_and, decide_eq_true (by omega : (F.dr 1 s).size ≤ 500000), decide_eq_true (by omega : 0 ≤ n + 1), decide_eq_true (by omega : n + 1 ≤ 1000000), decide_eq_true wd2, hc]
      rfl
    · right
      refine ⟨2, ?_, rfl, by decide, by decide, (ifB_t hc).symm⟩
      show ((exec enGd (loopN Tryz.f46 0) (stGx (F.dr 1 s) (n + 1) 1 (F.hdV s F.wTg) 0 0)).bind _).val = _
      rw [evGh1]
      simp only [unMor, unTk, unHd, unEnt, unDk, preMor1, preTk1, preHd1, preEnt1, preDk1, unstGh, unstGl, prlGh, prlGl, outGh, outGl, etaEnt, etaLst, etaSnd, etaStrm, etaMas, Option.bind_some, List.length_map, unStrs, unInts, unBools, unEnts, unItms, unTrns, cond_true, cond_false, Bool.and_true, Bool.true_and, decide_eq_true (by omega : (F.dr 1 s).size ≤ 500000), decide_eq_true (by omega : 0 ≤ n + 1), decide_eq_true (by omega : n + 1 ≤ 1000000), decide_eq_true wd2, hc]
      rfl
  | 2, _ =>
    cases hc : F.hdOk (F.dr 2 s) F.wBr
    · left
      refine ⟨rtGh (F.dr 3 s) (n + 1 + 1 + 1) (F.hdV s F.wTg) (F.hdV (F.dr 1 s) F.wFi) 0, ?_, ifB_f hc, by simp [rtGh], rfl⟩
      show ((exec enGd (loopN Tryz.f46 0) (stGx (F.dr 2 s) (n + 1 + 1) 2 (F.hdV s F.wTg) (F.hdV (F.dr 1 s) F.wFi) 0)).bind _).val = _
      rw [evGh2]
      simp only [unMor, unTk, unHd, unEnt, unDk, preMor1, preTk1, preHd1, preEnt1, preDk1, unstGh, unstGl, prlGh, prlGl, outGh, outGl, etaEnt, etaLst, etaSnd, etaStrm, etaMas, Option.bind_some, List.length_map, unStrs, unInts, unBools, unEnts, unItms, unTrns, cond_true, cond_false, Bool.and_true, Bool.true_and, decide_eq_true (by omega : (F.dr 2 s).size ≤ 500000), decide_eq_true (by omega : 0 ≤ n + 1 + 1), decide_eq_true (by omega : n + 1 + 1 ≤ 1000000), decide_eq_true wd3, hc]
      rfl
    · right
      refine ⟨3, ?_, rfl, by decide, by decide, (ifB_t hc).symm⟩
      show ((exec enGd (loopN Tryz.f46 0) (stGx (F.dr 2 s) (n + 1 + 1) 2 (F.hdV s F.wTg) (F.hdV (F.dr 1 s) F.wFi) 0)).bind _).val = _
      rw [evGh2]
      simp only [unMor, unTk, unHd, unEnt, unDk, preMor1, preTk1, preHd1, preEnt1, preDk1, unstGh, unstGl, prlGh, prlGl, outGh, outGl, etaEnt, etaLst, etaSnd, etaStrm, etaMas, Option.bind_some, List.length_map, unStrs, unInts, unBools, unEnts, unItms, unTrns, cond_true, cond_false, Bool.and_true, Bool.true_and, decide_eq_true (by omega : (F.dr 2 s).size ≤ 500000), decide_eq_true (by omega : 0 ≤ n + 1 + 1), decide_eq_true (by omega : n + 1 + 1 ≤ 1000000), decide_eq_true wd3, hc]
      rfl
  | 3, _ =>
    left
    refine ⟨exGh s n, ?_, rfl, by simp [exGh], rfl⟩
    show ((exec enGd (loopN Tryz.f46 0) (stGx (F.dr 3 s) (n + 1 + 1 + 1) 3 (F.hdV s F.wTg) (F.hdV (F.dr 1 s) F.wFi) (F.hdV (F.dr 2 s) F.wBr))).bind _).val = _
    rw [evGh3]
    rfl

def outGo (t f b kk : Int) (r : Bool × ByteArray × Int × List Ent × Bool) : T (Ex × St) :=
  .ifB r.1
      (.ret (.exit 2, ⟨[(6, .ptr 6 0 0), (4, .ptr 4 0 0)], [(902, ⟨true, 0, 0, [[vI kk, vI 0, vI 0, vI 0, .e0, vB false]]⟩), (901, ⟨true, 0, 0, [[.ptr 900 0 0]]⟩), (900, ⟨true, 0, 0, [[vS r.2.1, vI r.2.2.1]]⟩), (890, ⟨false, 50, 7, r.2.2.2.1.map eEnt⟩), (6, ⟨true, 0, 0, [[vI t, vI f, vI b, .own 890, vB r.2.2.2.2]]⟩), (4, ⟨true, 0, 0, [[vI 0, vI 0, vI 0, .e0, vB false]]⟩)]⟩))
      (.ret (.ret, ⟨[(5, vB false), (4, .ptr 4 0 0)], [(902, ⟨true, 0, 0, [[vI kk, vI 0, vI 0, vI 0, .e0, vB false]]⟩), (901, ⟨true, 0, 0, [[.ptr 900 0 0]]⟩), (900, ⟨true, 0, 0, [[vS r.2.1, vI r.2.2.1]]⟩), (890, ⟨false, 50, 7, r.2.2.2.1.map eEnt⟩), (4, ⟨true, 0, 0, [[vI t, vI f, vI b, .own 890, vB r.2.2.2.2]]⟩)]⟩))

theorem lpGo_ok (s : ByteArray) (n : Int) (key : ByteArray) (es : List Ent) (en : Bool) (t f b kk : Int) (h1 : 0 ≤ n) (h2 : n + s.size ≤ 600000) (h3 : es.length + s.size ≤ 500000) :
    ∀ ex s', (outGo t f b kk (F.bdL s n key es en)).val = some (ex, s') → LoopOK enGd (loopN Tryz.f46 1) (stGo s n key es en t f b kk) ex s' := by
  refine loop_gen (st := fun p : ByteArray × Int × ByteArray × List Ent × Bool => stGo p.1 p.2.1 p.2.2.1 p.2.2.2.1 p.2.2.2.2 t f b kk) (out := fun p => outGo t f b kk (F.bdL p.1 p.2.1 p.2.2.1 p.2.2.2.1 p.2.2.2.2)) (I := fun p => 0 ≤ p.2.1 ∧ p.2.1 + p.1.size ≤ 600000 ∧ p.2.2.2.1.length + p.1.size ≤ 500000) (n := ([13, 6, 4, 0], [902, 901, 900, 890, 6, 4])) (e := ([6, 4], [902, 901, 900, 890, 6, 4])) (r := ([5, 4], [902, 901, 900, 890, 4])) (fun p => p.1.size) ?_ (s, n, key, es, en) ⟨h1, h2, h3⟩
  clear h1 h2 h3
  rintro ⟨s, n, key, es, en⟩ ⟨h1, h2, h3⟩
  simp only at h1 h2 h3
  have p1 : decide (s.size ≤ 500000) = true := decide_eq_true (by omega)
  have p2 : decide (0 ≤ n) = true := decide_eq_true h1
  have p3 : decide (n ≤ 1000000) = true := decide_eq_true (by omega)
  have z1 := F.cutT_size s F.nl
  have z2 := F.cutH_size s F.nl
  have p4 : decide (0 ≤ n + 1) = true := decide_eq_true (by omega)
  have p5 : decide (n + 1 + ((F.cutT s F.nl).size : Int) ≤ 900000) = true := decide_eq_true (by omega)
  have p6 : decide ((F.cutT s F.nl).size ≤ 500000) = true := decide_eq_true (by omega)
  have p7 : decide ((F.cutH s F.nl).size ≤ 500000) = true := decide_eq_true (by omega)
  have p8 : Nat.ble ((es.length + 1) * 88) 140737488355328 = true := ble_t (by omega)
  have q : ((F.cutH s F.nl).toList == (⟨⟨[35, 69, 78, 68]⟩⟩ : ByteArray).toList) = F.seq (F.cutH s F.nl) F.kEnd := rfl
  by_cases hz : s.size = 0
  · left
    refine ⟨(.exit 2, ⟨[(6, .ptr 6 0 0), (4, .ptr 4 0 0)], [(902, ⟨true, 0, 0, [[vI kk, vI 0, vI 0, vI 0, .e0, vB false]]⟩), (901, ⟨true, 0, 0, [[.ptr 900 0 0]]⟩), (900, ⟨true, 0, 0, [[vS s, vI n]]⟩), (890, ⟨false, 50, 7, es.map eEnt⟩), (6, ⟨true, 0, 0, [[vI t, vI f, vI b, .own 890, vB en]]⟩), (4, ⟨true, 0, 0, [[vI 0, vI 0, vI 0, .e0, vB false]]⟩)]⟩), ?_, ?_, by simp, rfl⟩
    · show ((exec enGd (loopN Tryz.f46 1) (stGo s n key es en t f b kk)).bind _).val = _
      rw [evGo]
      simp only [unMor, unTk, unHd, unEnt, unDk, preMor1, preTk1, preHd1, preEnt1, preDk1, unstGh, unstGl, prlGh, prlGl, outGh, outGl, etaEnt, etaLst, etaSnd, etaStrm, etaMas, Option.bind_some, List.length_map, unStrs, unInts, unBools, unEnts, unItms, unTrns, cond_true, cond_false, Bool.and_true, Bool.true_and, decide_eq_false (by omega : ¬ s.size ≠ 0)]
    · simp only [F.bdL_end hz]
      rfl
  cases hn : (!F.cutF s F.nl || en)
  case true =>
    left
    refine ⟨(.ret, ⟨[(5, vB false), (4, .ptr 4 0 0)], [(902, ⟨true, 0, 0, [[vI kk, vI 0, vI 0, vI 0, .e0, vB false]]⟩), (901, ⟨true, 0, 0, [[.ptr 900 0 0]]⟩), (900, ⟨true, 0, 0, [[vS (F.cutT s F.nl), vI (n + 1)]]⟩), (890, ⟨false, 50, 7, es.map eEnt⟩), (4, ⟨true, 0, 0, [[vI t, vI f, vI b, .own 890, vB en]]⟩)]⟩), ?_, ?_, by simp, rfl⟩
    · show ((exec enGd (loopN Tryz.f46 1) (stGo s n key es en t f b kk)).bind _).val = _
      rw [evGo]
      simp only [unMor, unTk, unHd, unEnt, unDk, preMor1, preTk1, preHd1, preEnt1, preDk1, unstGh, unstGl, prlGh, prlGl, outGh, outGl, etaEnt, etaLst, etaSnd, etaStrm, etaMas, Option.bind_some, List.length_map, unStrs, unInts, unBools, unEnts, unItms, unTrns, cond_true, cond_false, Bool.and_true, Bool.true_and, decide_eq_true hz, p1, p2, p3]
      cases hc : F.cutF s F.nl
      · rfl
      · rw [hc] at hn
        have he : en = true := hn
        rw [he]
        rfl
    · simp only [F.bdL_no hz hn]
      rfl
  have hnn : F.cutF s F.nl = true ∧ en = false := by cases hc : F.cutF s F.nl <;> cases he : en <;> rw [hc, he] at hn <;> simp_all
  have z3 := F.cutT_lt F.nl_one hz
  cases hq : F.seq (F.cutH s F.nl) F.kEnd
  case true =>
    right
    refine ⟨(F.cutT s F.nl, n + 1, key, es, true), ?_, rfl, ⟨by simp only; omega, by simp only; omega, by simp only; omega⟩, by simp only; omega, ?_⟩
    · show ((exec enGd (loopN Tryz.f46 1) (stGo s n key es en t f b kk)).bind _).val = _
      rw [evGo]
      simp only [unMor, unTk, unHd, unEnt, unDk, preMor1, preTk1, preHd1, preEnt1, preDk1, unstGh, unstGl, prlGh, prlGl, outGh, outGl, etaEnt, etaLst, etaSnd, etaStrm, etaMas, Option.bind_some, List.length_map, unStrs, unInts, unBools, unEnts, unItms, unTrns, cond_true, cond_false, Bool.and_true, Bool.true_and, decide_eq_true hz, p1, p2, p3, q, hq, hnn.1, hnn.2, stGo]
      rfl
    · simp only [F.bdL_last hz hn hq]
  generalize hr : F.enL (F.cutT s F.nl) (n + 1) (F.noE key) (F.cutH s F.nl) key 0 = r
  have hle := F.enL_le _ (F.cutT s F.nl) (n + 1) (F.noE key) (F.cutH s F.nl) key 0 (Nat.le_refl _)
  rw [hr] at hle
  obtain ⟨l1, l2, l3, l4⟩ := hle
  have hlo := F.enL_ok _ (F.cutT s F.nl) (n + 1) (F.noE key) (F.cutH s F.nl) key 0 (Nat.le_refl _)
  rw [hr] at hlo
  cases ho : r.1
  · left
    refine ⟨(.ret, ⟨[(5, vB false), (4, .ptr 4 0 0)], [(902, ⟨true, 0, 0, [[vI kk, vI 0, vI 0, vI 0, .e0, vB false]]⟩), (901, ⟨true, 0, 0, [[.ptr 900 0 0]]⟩), (900, ⟨true, 0, 0, [[vS r.2.1, vI r.2.2.1]]⟩), (890, ⟨false, 50, 7, es.map eEnt⟩), (4, ⟨true, 0, 0, [[vI t, vI f, vI b, .own 890, vB en]]⟩)]⟩), ?_, ?_, by simp, rfl⟩
    · show ((exec enGd (loopN Tryz.f46 1) (stGo s n key es en t f b kk)).bind _).val = _
      rw [evGo]
      simp only [unMor, unTk, unHd, unEnt, unDk, preMor1, preTk1, preHd1, preEnt1, preDk1, unstGh, unstGl, prlGh, prlGl, outGh, outGl, etaEnt, etaLst, etaSnd, etaStrm, etaMas, Option.bind_some, List.length_map, unStrs, unInts, unBools, unEnts, unItms, unTrns, cond_true, cond_false, Bool.and_true, Bool.true_and, decide_eq_true hz, p1, p2, p3, p4, p5, p6, p7, q, hq, hnn.1, hnn.2, hr, ho]
      rfl
    · simp only [F.bdL_bad hz hn hq hr ho]
      rfl
  · right
    have hlo := hlo ho
    refine ⟨(r.2.1, r.2.2.1, r.2.2.2.key, es ++ [r.2.2.2], en), ?_, rfl, ⟨by simp only; omega, by simp only; omega, by simp only [List.length_append, List.length_singleton]; omega⟩, by simp only; omega, ?_⟩
    · show ((exec enGd (loopN Tryz.f46 1) (stGo s n key es en t f b kk)).bind _).val = _
      rw [evGo]
      simp only [unMor, unTk, unHd, unEnt, unDk, preMor1, preTk1, preHd1, preEnt1, preDk1, unstGh, unstGl, prlGh, prlGl, outGh, outGl, etaEnt, etaLst, etaSnd, etaStrm, etaMas, Option.bind_some, List.length_map, unStrs, unInts, unBools, unEnts, unItms, unTrns, cond_true, cond_false, Bool.and_true, Bool.true_and, decide_eq_true hz, p1, p2, p3, p4, p5, p6, p7, p8, q, hq, hnn.1, hnn.2, hr, ho, stGo]
      rw [List.map_append]
      rfl
    · simp only [F.bdL_go hz hn hq hr ho]

theorem lpGl_ok (s : ByteArray) (n : Int) (t : Int) (f : Int) (b : Int) (kk : Int) (hp : prlGl s n t f b kk = true) : ∀ ex s', (outGl s n t f b kk).val = some (ex, s') → LoopOK enGd (loopN Tryz.f46 1) (stGl s n t f b kk) ex s' := by
  simp only [prlGl, Bool.and_eq_true, decide_eq_true_eq] at hp
  obtain ⟨⟨h1, h2⟩, h3⟩ := hp
  intro ex s' h
  refine .own 6 3 890 50 7 rfl ?_
  exact lpGo_ok s n ⟨⟨[]⟩⟩ [] false t f b kk h2 (by omega) (by show 0 + s.size ≤ _; omega) ex s' h

end M

def F.dlB (s : ByteArray) (n : Int) : Bool × ByteArray × Int × List Ent × Bool := F.bdL (F.dr 4 s) (n + 1 + 1 + 1 + 1) ⟨⟨[]⟩⟩ [] false

def F.dlG (s : ByteArray) (n : Int) : Lst := ⟨F.hdV s F.wTg, F.hdV (F.dr 1 s) F.wFi, F.hdV (F.dr 2 s) F.wBr, (F.dlB s n).2.2.2.1, (F.dlB s n).2.2.2.2⟩

def F.dlT (s : ByteArray) : Lst × Int × Int × Int :=
  bif decide (500000 < s.size) then (F.noL, 0, 0, 2) else
  bif !(F.cutF s F.nl && F.seq (F.cutH s F.nl) F.kLst) then (F.noL, 0, 1, 10) else
  bif !F.hdOk (F.cutT s F.nl) F.wTg then (F.noL, 0, 2, 10) else
  bif !F.hdOk (F.dr 1 (F.cutT s F.nl)) F.wFi then (F.noL, 0, 3, 10) else
  bif !F.hdOk (F.dr 2 (F.cutT s F.nl)) F.wBr then (F.noL, 0, 4, 10) else
  bif !F.hdOk (F.dr 3 (F.cutT s F.nl)) F.wSk then (F.noL, 0, 5, 10) else
  bif !(F.dlB (F.cutT s F.nl) 1).1 then (F.noL, 0, (F.dlB (F.cutT s F.nl) 1).2.2.1, 10) else
  bif F.check (F.dlG (F.cutT s F.nl) 1) != 0 then (F.noL, 0, 0, F.check (F.dlG (F.cutT s F.nl) 1)) else
  bif F.out (F.hdV (F.dr 3 (F.cutT s F.nl)) F.wSk) 0 1000 then (F.noL, 0, 0, 1) else
  (F.dlG (F.cutT s F.nl) 1, F.hdV (F.dr 3 (F.cutT s F.nl)) F.wSk, 0, 0)

namespace M

theorem evBdd (s : ByteArray) (n : Int) : (runH enGd [] Tryz.f46 [.ptr 900 0 0, .fn 47 [.ptr 901 0 0, .ptr 902 0 0]] [(902, ⟨true, 0, 0, [[vI 0, vI 0, vI 0, vI 0, .e0, vB false]]⟩), (901, ⟨true, 0, 0, [[.ptr 900 0 0]]⟩), (900, ⟨true, 0, 0, [[vS s, vI n]]⟩)]).val =
  (fun (q : List AV) => (fun (q_1 : List AV) => (fun (q_2 : Nat × Blk) => (fun (q_3 : List AV) => (fun (q_4 : List AV) => (fun (q_5 : Blk) => (fun (q_6 : AV) => (fun (q_7 :
  List (Nat × Blk)) => (fun (q_8 : Blk) => (fun (q_9 : Nat × Blk) => Option.bind (unenc encTk ([.ptr 900 0 0], [(900, Blk.mk true 0 0 [[(vS s), (vI n)]])])) fun (z :
  ByteArray × Int) => (fun (q_10 : Nat × Blk) => bif decide (ByteArray.size z.fst ≤ (500000 : Nat)) && decide ((0 : Int) ≤ z.snd) && decide (z.snd ≤ (1000000 : Int)) then
  bif bif !F.cutF z.fst F.nl then true else !ByteArray.toList (F.cutH z.fst F.nl) == ByteArray.toList (ByteArray.mk (Array.mk [(35 : UInt8), (76 : UInt8), (73 : UInt8), (83
  : UInt8), (84 : UInt8)])) then some (q_6, [q_9, q_2, q_10], []) else Option.bind (unenc stGh1 (St.mk [(37, (vI (0 : Int))), (36, (vI (↑(3 : Nat) : Int))), (35, AV.win (35
  : Nat) (0 : Nat) (3 : Nat)), (6, .ptr 6 0 0), (4, .ptr 4 0 0), (1, AV.fn (47 : FuncId) [.ptr 901 0 0, .ptr 902 0 0]), (0, .ptr 900 0 0)] (q_9 :: q_2 :: q_10 :: (35, Blk.mk
  true 105 2 [[(vS (ByteArray.mk (Array.mk [(35 : UInt8), (84 : UInt8), (65 : UInt8), (82 : UInt8), (71 : UInt8), (69 : UInt8), (84 : UInt8)]))), .ptr 6 0 0], [(vS
  (ByteArray.mk (Array.mk [(35 : UInt8), (70 : UInt8), (73 : UInt8), (82 : UInt8), (83 : UInt8), (84 : UInt8)]))), .ptr 6 0 1], [(vS (ByteArray.mk (Array.mk [(35 : UInt8),
  (66 : UInt8), (82 : UInt8), (69 : UInt8), (65 : UInt8), (75 : UInt8), (83 : UInt8)]))), .ptr 6 0 2]]) :: (6, q_5) :: q_7))) fun (z : ByteArray × Int) => (fun (q_11 : AV)
  => (fun (q_12 : Blk) => (fun (q_13 : List AV) => bif decide (ByteArray.size z.fst ≤ (500000 : Nat)) && decide ((0 : Int) ≤ z.snd) && decide (z.snd ≤ (100 : Int)) && true
  then bif F.hdOk z.fst F.wTg then bif F.hdOk (F.dr (1 : Nat) z.fst) F.wFi then bif F.hdOk (F.dr (2 : Nat) z.fst) F.wBr then Option.bind (unenc encDk ([.ptr 900 0 0, .ptr
  901 0 0], [(902, q_12), (901, q_8), (900, Blk.mk true 0 0 [[.ptr 902 0 0]])])) fun (z : ByteArray × Int) => (fun (q_14 : Nat × Blk) => (fun (q_15 : Nat × Blk) => bif
  decide (ByteArray.size z.fst ≤ (500000 : Nat)) && decide ((0 : Int) ≤ z.snd) && decide (z.snd ≤ (1000000 : Int)) then bif !F.hdOk z.fst F.wSk then some (AV.tup (AV.agg
  q_13 :: q), [q_14, q_2, q_15], []) else Option.bind (unenc stGl1 (St.mk [(13, (vS (ByteArray.mk (Array.mk [])))), (6, .ptr 6 0 0), (4, .ptr 4 0 0), (0, .ptr 900 0 0)]
  (q_14 :: q_2 :: q_15 :: (6, Blk.mk true 0 0 [q_13]) :: q_7))) fun (z : ByteArray × Int × Int × Int × Int × Int) => (fun (q_16 : Bool × ByteArray × Int × List Ent × Bool)
  => (fun (q_17 : Int × List Ent × Bool) => (fun (q_18 : AV) => (fun (q_19 : Heap × List Nat) => bif decide (ByteArray.size z.fst ≤ (500000 : Nat)) && decide ((0 : Int) ≤
  z.snd.fst) && decide (z.snd.fst ≤ (100 : Int)) && true then bif q_16.fst then some (AV.tup [q_18, (vB true)], q_19) else some (AV.tup (q_18 :: q), q_19) else none) ([(902,
  Blk.mk true 0 0 [(vI z.snd.snd.snd.snd.snd) :: q_4]), q_2, (900, Blk.mk true 0 0 [[(vS q_16.snd.fst), (vI q_17.fst)]]), (0, Blk.mk false 50 7 (List.map eEnt
  q_17.snd.fst))], [])) (AV.agg [(vI z.snd.snd.fst), (vI z.snd.snd.snd.fst), (vI z.snd.snd.snd.snd.fst), .own 0, (vB q_17.snd.snd)])) q_16.snd.snd) (F.bdL z.fst z.snd.fst
  (ByteArray.mk (Array.mk [])) [] false) else none) (900, Blk.mk true 0 0 [[(vS (F.cutT z.fst F.nl)), (vI (z.snd + (1 : Int)))]])) (902, Blk.mk true 0 0 [(vI (F.hdV z.fst
  F.wSk)) :: q_4]) else some (AV.tup (AV.agg (q_11 :: (vI (F.hdV (F.dr (1 : Nat) z.fst) F.wFi)) :: (vI (0 : Int)) :: q_1) :: q), [q_9, q_2, (900, q_12)], []) else some
  (AV.tup (AV.agg (q_11 :: q_3) :: q), [q_9, q_2, (900, Blk.mk true 0 0 [[(vS (F.dr (2 : Nat) z.fst)), (vI (z.snd + (1 : Int) + (1 : Int)))]])], []) else some (q_6, [q_9,
  q_2, (900, Blk.mk true 0 0 [[(vS (F.dr (1 : Nat) z.fst)), (vI (z.snd + (1 : Int)))]])], []) else none) (q_11 :: (vI (F.hdV (F.dr (1 : Nat) z.fst) F.wFi)) :: (vI (F.hdV
  (F.dr (2 : Nat) z.fst) F.wBr)) :: q_1)) (Blk.mk true 0 0 [[(vS (F.dr (3 : Nat) z.fst)), (vI (z.snd + (1 : Int) + (1 : Int) + (1 : Int)))]])) ((vI (F.hdV z.fst F.wTg)))
  else none) (900, Blk.mk true 0 0 [[(vS (F.cutT z.fst F.nl)), (vI (z.snd + (1 : Int)))]])) (902, q_8)) (Blk.mk true 0 0 [(vI (0 : Int)) :: q_4])) [(4, q_5)]) (AV.tup
  (AV.agg q_4 :: q))) (Blk.mk true 0 0 [q_4])) ((vI (0 : Int)) :: q_3)) ((vI (0 : Int)) :: (vI (0 : Int)) :: q_1)) (901, Blk.mk true 0 0 [[.ptr 900 0 0]])) (AV.e0 :: q))
  [(vB false)] := (runHR_val).symm.trans (by kernel_rfl)

def encBdd1 (s : ByteArray) (n : Int) : List AV × Heap := ([.ptr 900 0 0, .fn 47 [.ptr 901 0 0, .ptr 902 0 0]], [(902, ⟨true, 0, 0, [[vI 0, vI 0, vI 0, vI 0, .e0, vB false]]⟩), (901, ⟨true, 0, 0, [[.ptr 900 0 0]]⟩), (900, ⟨true, 0, 0, [[vS s, vI n]]⟩)])

def encBdd (a : ByteArray × Int) : List AV × Heap := encBdd1 a.1 a.2

theorem encBdd_inj (a a' : ByteArray × Int) (h : encBdd a = encBdd a') : a = a' := by
  simp only [encBdd, encBdd1] at h
  try simp [strs_inj, ints_inj, ents_inj, eEnt_iff, eLst_iff, eSnds_inj, eStrms_inj] at h
  grind

theorem unBdd (s : ByteArray) (n : Int) : unenc encBdd (([.ptr 900 0 0, AV.fn (47 : FuncId) [.ptr 901 0 0, .ptr 902 0 0]], [(902, Blk.mk true 0 0 [[(vI (0 : Int)), (vI (0 : Int)), (vI (0 : Int)), (vI (0 : Int)), AV.e0, (vB
  false)]]), (901, Blk.mk true 0 0 [[.ptr 900 0 0]]), (900, Blk.mk true 0 0 [[(vS s), (vI n)]])])) = some (s, n) := unenc_of encBdd_inj (s, n) rfl

def resBdd1 (s : ByteArray) (n : Int) : T (AV × Heap × List Nat) := .ifB (F.cutF s F.nl && F.seq (F.cutH s F.nl) F.kLst)
      (.ifB (F.hdOk (F.cutT s F.nl) F.wTg) (.ifB (F.hdOk (F.dr 1 (F.cutT s F.nl)) F.wFi) (.ifB (F.hdOk (F.dr 2 (F.cutT s F.nl)) F.wBr) (.ifB (F.hdOk (F.dr 3 (F.cutT s F.nl)) F.wSk)
        (.ret (.tup [.agg [vI (F.dlG (F.cutT s F.nl) (n + 1)).target, vI (F.dlG (F.cutT s F.nl) (n + 1)).first, vI (F.dlG (F.cutT s F.nl) (n + 1)).breaks, .own 0, vB (F.dlG (F.cutT s F.nl) (n + 1)).ended], vB (F.dlB (F.cutT s F.nl) (n + 1)).1], [(902, ⟨true, 0, 0, [[vI (F.hdV (F.dr 3 (F.cutT s F.nl)) F.wSk), vI 0, vI 0, vI 0, .e0, vB false]]⟩), (901, ⟨true, 0, 0, [[.ptr 900 0 0]]⟩), (900, ⟨true, 0, 0, [[vS (F.dlB (F.cutT s F.nl) (n + 1)).2.1, vI (F.dlB (F.cutT s F.nl) (n + 1)).2.2.1]]⟩), (0, ⟨false, 50, 7, (F.dlG (F.cutT s F.nl) (n + 1)).entries.map eEnt⟩)], []))
        (.ret (.tup [.agg [vI (F.hdV (F.cutT s F.nl) F.wTg), vI (F.hdV (F.dr 1 (F.cutT s F.nl)) F.wFi), vI (F.hdV (F.dr 2 (F.cutT s F.nl)) F.wBr), .e0, vB false], vB false], [(902, ⟨true, 0, 0, [[vI (F.hdV (F.dr 3 (F.cutT s F.nl)) F.wSk), vI 0, vI 0, vI 0, .e0, vB false]]⟩), (901, ⟨true, 0, 0, [[.ptr 900 0 0]]⟩), (900, ⟨true, 0, 0, [[vS (F.dr 4 (F.cutT s F.nl)), vI (n + 1 + 1 + 1 + 1 + 1)]]⟩)], [])))
        (.ret (.tup [.agg [vI (F.hdV (F.cutT s F.nl) F.wTg), vI (F.hdV (F.dr 1 (F.cutT s F.nl)) F.wFi), vI 0, .e0, vB false], vB false], [(902, ⟨true, 0, 0, [[vI 0, vI 0, vI 0, vI 0, .e0, vB false]]⟩), (901, ⟨true, 0, 0, [[.ptr 900 0 0]]⟩), (900, ⟨true, 0, 0, [[vS (F.dr 3 (F.cutT s F.nl)), vI (n + 1 + 1 + 1 + 1)]]⟩)], [])))
        (.ret (.tup [.agg [vI (F.hdV (F.cutT s F.nl) F.wTg), vI 0, vI 0, .e0, vB false], vB false], [(902, ⟨true, 0, 0, [[vI 0, vI 0, vI 0, vI 0, .e0, vB false]]⟩), (901, ⟨true, 0, 0, [[.ptr 900 0 0]]⟩), (900, ⟨true, 0, 0, [[vS (F.dr 2 (F.cutT s F.nl)), vI (n + 1 + 1 + 1)]]⟩)], [])))
        (.ret (.tup [.agg [vI 0, vI 0, vI 0, .e0, vB false], vB false], [(902, ⟨true, 0, 0, [[vI 0, vI 0, vI 0, vI 0, .e0, vB false]]⟩), (901, ⟨true, 0, 0, [[.ptr 900 0 0]]⟩), (900, ⟨true, 0, 0, [[vS (F.dr 1 (F.cutT s F.nl)), vI (n + 1 + 1)]]⟩)], [])))
      (.ret (.tup [.agg [vI 0, vI 0, vI 0, .e0, vB false], vB false], [(902, ⟨true, 0, 0, [[vI 0, vI 0, vI 0, vI 0, .e0, vB false]]⟩), (901, ⟨true, 0, 0, [[.ptr 900 0 0]]⟩), (900, ⟨true, 0, 0, [[vS (F.cutT s F.nl), vI (n + 1)]]⟩)], []))

def preBdd1 (s : ByteArray) (n : Int) : Bool := decide (s.size ≤ 500000) && decide (0 ≤ n) && decide (n ≤ 10)

noncomputable def oBdd : OrcH := orcT 46 encBdd (fun a => preBdd1 a.1 a.2) fun a => resBdd1 a.1 a.2

theorem okBdd : OrcHOK Tryz.prog noG oBdd := by
  refine mkT_ok (mv := []) Tryz.f46 (by kernel_rfl) (by kernel_rfl) enGd_ok mixed (two_loops (x0 := loopN Tryz.f46 0) (x1 := loopN Tryz.f46 1) (by kernel_rfl) (lpo_ok ?_) (lpo_ok ?_)) ?_
  · rintro ⟨s, n⟩ hp
    exact lpGh_ok s n hp
  · rintro ⟨s, n, t, f, b, kk⟩ hp
    exact lpGl_ok s n t f b kk hp
  rintro ⟨s, n⟩ r0 hpre hok hokh hr0
  show (runH enGd [] _ (encBdd1 _ _).1 (encBdd1 _ _).2).val = some r0
  replace hr0 : (resBdd1 _ _).val = some r0 := hr0
  unfold resBdd1 at hr0
  unfold encBdd1
  rw [evBdd]
  simp only [preBdd1, Bool.and_eq_true, decide_eq_true_eq] at hpre
  obtain ⟨⟨h1, h2⟩, h3⟩ := hpre
  rw [← hr0]
  have z1 := F.cutT_size s F.nl
  have z2 := F.dr_size 3 (F.cutT s F.nl)
  have z3 := F.dr_size 4 (F.cutT s F.nl)
  have q : ((F.cutH s F.nl).toList == (⟨⟨[35, 76, 73, 83, 84]⟩⟩ : ByteArray).toList) = F.seq (F.cutH s F.nl) F.kLst := rfl
  simp only [unMor, unTk, unHd, unEnt, unDk, preMor1, preTk1, preHd1, preEnt1, preDk1, unstGh, unstGl, prlGh, prlGl, outGh, outGl, etaEnt, etaLst, etaSnd, etaStrm, etaMas, Option.bind_some, List.length_map, unStrs, unInts, unBools, unEnts, unItms, unTrns, cond_true, cond_false, Bool.and_true, Bool.true_and, decide_eq_true h1, decide_eq_true h2, decide_eq_true (by omega : n ≤ 1000000), q, bne]
  clear hr0 hok hokh
  have un0 : unenc stGh1 (St.mk [(37, vI 0), (36, vI ((3 : Nat) : Int)), (35, .win 35 0 3), (6, .ptr 6 0 0), (4, .ptr 4 0 0), (1, .fn 47 [.ptr 901 0 0, .ptr 902 0 0]), (0, .ptr 900 0 0)] [(902, ⟨true, 0, 0, [[vI 0, vI 0, vI 0, vI 0, .e0, vB false]]⟩), (901, ⟨true, 0, 0, [[.ptr 900 0 0]]⟩), (900, ⟨true, 0, 0, [[vS (F.cutT s F.nl), vI (n + 1)]]⟩), (35, ⟨true, 105, 2, [[vS ⟨⟨[35, 84, 65, 82, 71, 69, 84]⟩⟩, .ptr 6 0 0], [vS ⟨⟨[35, 70, 73, 82, 83, 84]⟩⟩, .ptr 6 0 1], [vS ⟨⟨[35, 66, 82, 69, 65, 75, 83]⟩⟩, .ptr 6 0 2]]⟩), (6, ⟨true, 0, 0, [[vI 0, vI 0, vI 0, .e0, vB false]]⟩), (4, ⟨true, 0, 0, [[vI 0, vI 0, vI 0, .e0, vB false]]⟩)]) = some (F.cutT s F.nl, n + 1) := unenc_of stGh_inj (F.cutT s F.nl, n + 1) rfl
  rw [un0]
  simp only [Option.bind_some, F.dlG, F.dlB]
  rw [show F.cutT (F.dr 3 (F.cutT s F.nl)) F.nl = F.dr 4 (F.cutT s F.nl) from rfl]
  rw [decide_eq_true (by omega : (F.cutT s F.nl).size ≤ 500000), decide_eq_true (by omega : 0 ≤ n + 1), decide_eq_true (by omega : n + 1 ≤ 100), decide_eq_true (by omega : (F.dr 3 (F.cutT s F.nl)).size ≤ 500000), decide_eq_true (by omega : 0 ≤ n + 1 + 1 + 1 + 1), decide_eq_true (by omega : n + 1 + 1 + 1 + 1 ≤ 1000000), decide_eq_true (by omega : (F.dr 4 (F.cutT s F.nl)).size ≤ 500000), decide_eq_true (by omega : 0 ≤ n + 1 + 1 + 1 + 1 + 1), decide_eq_true (by omega : n + 1 + 1 + 1 + 1 + 1 ≤ 100)]
  generalize F.bdL (F.dr 4 (F.cutT s F.nl)) (n + 1 + 1 + 1 + 1 + 1) ⟨⟨[]⟩⟩ [] false = r
  cases F.cutF s F.nl
  · rfl
  cases F.seq (F.cutH s F.nl) F.kLst
  · rfl
  cases F.hdOk (F.cutT s F.nl) F.wTg
  · rfl
  cases F.hdOk (F.dr 1 (F.cutT s F.nl)) F.wFi
  · rfl
  cases F.hdOk (F.dr 2 (F.cutT s F.nl)) F.wBr
  · rfl
  cases F.hdOk (F.dr 3 (F.cutT s F.nl)) F.wSk
  · rfl
  obtain ⟨a, b, c, d, e⟩ := r
  cases a <;> rfl

noncomputable def enRed : Env := envH ty noG lks [oChk, oOut] [oBdd] [] []

theorem enRed_ok : EnvOK Tryz.prog enRed := by
  refine envH_ok lks_ok ty_ok ?_ ?_
  · simp only [List.forall_mem_cons]
    exact ⟨okChk, okOut, by simp⟩
  · simp only [List.forall_mem_cons]
    exact ⟨okBdd, by simp⟩

theorem evRed (s : ByteArray) : (runF enRed false Tryz.f24 [vS s]).val =
  (fun (q : List AV) => (fun (q_1 : AV) => bif decide ((500000 : Int) < (↑(ByteArray.size s) : Int)) then some (AV.tup [q_1, (vI (0 : Int)), (vI (2 : Int))], []) else
  Option.bind (unenc encBdd ([.ptr 900 0 0, AV.fn (47 : Nat) [.ptr 901 0 0, .ptr 902 0 0]], [(902, Blk.mk true 0 0 [[(vI (0 : Int)), (vI (0 : Int)), (vI (0 : Int)), (vI (0 :
  Int)), AV.e0, (vB false)]]), (901, Blk.mk true 0 0 [[.ptr 900 0 0]]), (900, Blk.mk true 0 0 [[(vS s), (vI (0 : Int))]])])) fun (z : ByteArray × Int) => (fun (q_2 : Int) =>
  (fun (q_3 : AV) => (fun (q_4 : Int × List Ent × Bool) => (fun (q_5 : List AV) => bif decide (ByteArray.size z.fst ≤ (500000 : Nat)) && decide ((0 : Int) ≤ z.snd) && decide
  (z.snd ≤ (10 : Int)) then bif F.cutF z.fst F.nl && F.seq (F.cutH z.fst F.nl) F.kLst then bif F.hdOk (F.cutT z.fst F.nl) F.wTg then bif F.hdOk (F.dr (1 : Nat) (F.cutT z.fst
  F.nl)) F.wFi then bif F.hdOk (F.dr (2 : Nat) (F.cutT z.fst F.nl)) F.wBr then bif F.hdOk (F.dr (3 : Nat) (F.cutT z.fst F.nl)) F.wSk then bif !(F.dlB (F.cutT z.fst F.nl)
  (z.snd + (1 : Int))).fst then some (AV.tup (q_1 :: (vI q_4.fst) :: q), []) else Option.bind (unenc encChk [AV.agg q_5]) fun (z : Lst) => bif F.check z != (0 : Int) then
  some (AV.tup [q_1, (vI (0 : Int)), (vI (F.check z))], []) else Option.bind (unenc encOut [q_3, (vI (0 : Int)), (vI (1000 : Int))]) fun (z : Int × Int × Int) => bif F.out
  z.fst z.snd.fst z.snd.snd then some (AV.tup [q_1, (vI (0 : Int)), (vI (1 : Int))], []) else some (AV.tup [AV.agg (q_3 :: q_5), (vI (0 : Int)), (vI (0 : Int))], []) else
  some (AV.tup (q_1 :: (vI (q_2 + (1 : Int) + (1 : Int))) :: q), []) else some (AV.tup (q_1 :: (vI (q_2 + (1 : Int))) :: q), []) else some (AV.tup (q_1 :: (vI q_2) :: q),
  []) else some (AV.tup (q_1 :: (vI (z.snd + (1 : Int) + (1 : Int))) :: q), []) else some (AV.tup (q_1 :: (vI (z.snd + (1 : Int))) :: q), []) else none) [(vI (F.hdV (F.cutT
  z.fst F.nl) F.wTg)), (vI (F.hdV (F.dr (1 : Nat) (F.cutT z.fst F.nl)) F.wFi)), (vI (F.hdV (F.dr (2 : Nat) (F.cutT z.fst F.nl)) F.wBr)), AV.sl (List.map eEnt q_4.snd.fst),
  (vB q_4.snd.snd)]) (F.dlB (F.cutT z.fst F.nl) (z.snd + (1 : Int))).snd.snd) ((vI (F.hdV (F.dr (3 : Nat) (F.cutT z.fst F.nl)) F.wSk)))) (z.snd + (1 : Int) + (1 : Int) + (1
  : Int))) (AV.agg [(vI (0 : Int)), (vI (0 : Int)), (vI (0 : Int)), (vI (0 : Int)), AV.sl [], (vB false)])) [(vI (10 : Int))] := (runFR_val).symm.trans (by kernel_rfl)

def encRed1 (s : ByteArray) : List AV := [vS s]

def encRed (a : ByteArray) : List AV := encRed1 a

theorem encRed_inj (a a' : ByteArray) (h : encRed a = encRed a') : a = a' := by
  simp only [encRed, encRed1] at h
  try simp [strs_inj, ints_inj, ents_inj, eEnt_iff, eLst_iff, eSnds_inj, eStrms_inj] at h
  grind

theorem unRed (s : ByteArray) : unenc encRed ([(vS s)]) = some (s) := unenc_of encRed_inj (s) rfl

def resRed1 (s : ByteArray) : AV × Heap := (.tup [.agg [vI (F.dlT s).2.1, vI (F.dlT s).1.target, vI (F.dlT s).1.first, vI (F.dlT s).1.breaks, .sl ((F.dlT s).1.entries.map eEnt), vB (F.dlT s).1.ended], vI (F.dlT s).2.2.1, vI (F.dlT s).2.2.2], [])

def preRed1 (s : ByteArray) : Bool := true

noncomputable def oRed : Orc := orc 24 false encRed (fun a => preRed1 a) fun a => resRed1 a

theorem okRed : OrcOK Tryz.prog noG oRed := by
  refine mk_ok Tryz.f24 (keep := false) (by kernel_rfl) (by kernel_rfl) enRed_ok mixed (no_loops (by kernel_rfl)) (by first | exact fun _ _ => ⟨rfl, rfl⟩ | (intro h; cases h)) ?_
  rintro s hpre hok
  show (runF enRed false _ (encRed1 _)).val = some (resRed1 _)
  unfold encRed1 resRed1
  rw [evRed]
  have hsz := okA_str (hok _ (List.mem_cons_self ..))
  simp only [unChk, unOut, unBdd, unChkw, preChk1, preOut1, preBdd1, etaEnt, etaLst, etaSnd, etaStrm, etaMas, Option.bind_some, List.length_map, unStrs, unInts, unBools, unEnts, unItms, unTrns, cond_true, cond_false, Bool.and_true, Bool.true_and, (by decide : (0 : Int) + 1 = 1)]
  have hG : (⟨F.hdV (F.cutT s F.nl) F.wTg, F.hdV (F.dr 1 (F.cutT s F.nl)) F.wFi, F.hdV (F.dr 2 (F.cutT s F.nl)) F.wBr, (F.dlB (F.cutT s F.nl) 1).2.2.2.1, (F.dlB (F.cutT s F.nl) 1).2.2.2.2⟩ : Lst) = F.dlG (F.cutT s F.nl) 1 := rfl
  rw [hG]
  unfold F.dlT
  by_cases hb : 500000 < s.size
  · rw [decide_eq_true hb, decide_eq_true (by omega : (500000 : Int) < (s.size : Int))]
    rfl
  · rw [decide_eq_false hb, decide_eq_false (by omega : ¬ (500000 : Int) < (s.size : Int)), decide_eq_true (by omega : s.size ≤ 500000)]
    clear hG
    cases F.cutF s F.nl && F.seq (F.cutH s F.nl) F.kLst
    · rfl
    cases F.hdOk (F.cutT s F.nl) F.wTg
    · rfl
    cases F.hdOk (F.dr 1 (F.cutT s F.nl)) F.wFi
    · rfl
    cases F.hdOk (F.dr 2 (F.cutT s F.nl)) F.wBr
    · rfl
    cases F.hdOk (F.dr 3 (F.cutT s F.nl)) F.wSk
    · rfl
    cases (F.dlB (F.cutT s F.nl) 1).1
    · rfl
    cases F.check (F.dlG (F.cutT s F.nl) 1) != 0
    · cases F.out (F.hdV (F.dr 3 (F.cutT s F.nl)) F.wSk) 0 1000 <;> rfl
    · rfl

end M

structure Dlt where
  skipped : Int
  list : Lst

instance : Inhabited Dlt := ⟨⟨0, default⟩⟩

namespace M

def eDlt (d : Dlt) : Row := [vI d.skipped, vI d.list.target, vI d.list.first, vI d.list.breaks, .sl (d.list.entries.map eEnt), vB d.list.ended]

theorem eDlt_inj (a b : Dlt) (h : eDlt a = eDlt b) : a = b := by
  obtain ⟨n, t, f, br, es, en⟩ := a
  obtain ⟨n', t', f', br', es', en'⟩ := b
  simp only [eDlt] at h
  simp [ents_inj] at h
  simp_all

theorem eDlt_iff {a b : Dlt} : eDlt a = eDlt b ↔ a = b := ⟨eDlt_inj a b, fun h => h ▸ rfl⟩

end M

def F.withE (l : Lst) (es : List Ent) : Lst := ⟨l.target, l.first, l.breaks, es, l.ended⟩

def F.add (l : Lst) (e : Ent) : Lst × Int :=
  if F.check l ≠ 0 then (default, F.check l) else if l.ended then (default, 11) else
  if F.check (F.withE l (l.entries ++ [e])) ≠ 0 then (default, F.check (F.withE l (l.entries ++ [e]))) else (F.withE l (l.entries ++ [e]), 0)

def F.goneS (keep : Int) (a : Int × Int) (e : Ent) : Option (Int × Int) :=
  if keep ≤ IntKind.i64.wrap (a.1 - e.milli) then some (IntKind.i64.wrap (a.1 - e.milli), if e.brk then IntKind.i64.wrap (a.2 + 1) else a.2) else none

def F.gone (keep left b : Int) (n : Nat) (l : List Ent) : (Int × Int) × Nat := M.scan (F.goneS keep) (left, b) n l

def F.goneL (l : Lst) (keep : Int) : Nat × Int := ((F.gone keep (F.lenF 0 l.entries) l.breaks 0 l.entries).2, (F.gone keep (F.lenF 0 l.entries) l.breaks 0 l.entries).1.2)

def F.slide (l : Lst) (keep : Int) : Lst × Int × Int :=
  if F.check l ≠ 0 then (default, 0, F.check l) else if F.out keep 0 1000000000000000 then (default, 0, 1) else if l.ended then (default, 0, 11) else
  if 999999999999000 < IntKind.i64.wrap (l.first + (F.goneL l keep).1) || 1000000000000000 < (F.goneL l keep).2 then (default, 0, 1) else
  (⟨l.target, IntKind.i64.wrap (l.first + (F.goneL l keep).1), (F.goneL l keep).2, l.entries.drop (F.goneL l keep).1, l.ended⟩, (F.goneL l keep).1, 0)

def F.endL (l : Lst) : Lst × Int := if F.check l ≠ 0 then (default, F.check l) else (⟨l.target, l.first, l.breaks, l.entries, true⟩, 0)

theorem F.ffI_zero {α : Type} {g : α → Int} : ∀ {l : List α}, M.ffI g l = 0 → ∀ y ∈ l, g y = 0
  | y :: l, h, z, hz => by
    simp only [M.ffI] at h
    split at h
    · rename_i h0
      rcases List.mem_cons.1 hz with rfl | hz
      · exact h0
      · exact F.ffI_zero h z hz
    · exact absurd h ‹_›

theorem F.check_ok {l : Lst} (h : F.check l = 0) : l.entries.length ≤ 1000 ∧ (∀ e ∈ l.entries, F.entryFault e l.target = 0) ∧ (1 ≤ l.target ∧ l.target ≤ 3600) ∧ (0 ≤ l.first ∧ l.first ≤ 999999999999000) ∧ (0 ≤ l.breaks ∧ l.breaks ≤ 1000000000000000) := by
  unfold F.check at h
  split at h
  · cases h
  · rename_i h1
    split at h
    · cases h
    · simp only [F.out, Bool.or_eq_true, decide_eq_true_eq] at h1
      exact ⟨by omega, F.ffI_zero h, by omega, by omega, by omega⟩

theorem F.entry_ok {e : Ent} {t : Int} (h : F.entryFault e t = 0) : (1 ≤ e.milli ∧ e.milli ≤ 3600000) ∧ e.extra.length ≤ 20 ∧ (-1 ≤ e.date ∧ e.date ≤ 253402300799999) := by
  unfold F.entryFault at h
  split at h
  · exact absurd h ‹_›
  · split at h
    · cases h
    · rename_i h1
      split at h
      · cases h
      · split at h
        · cases h
        · rename_i h2
          split at h
          · cases h
          · split at h
            · cases h
            · simp only [F.out, Bool.or_eq_true, decide_eq_true_eq] at h1 h2
              omega

theorem F.check_room {l : Lst} (h : F.check l = 0) : (decide (l.entries.length * 88 ≤ 140737488355328) && l.entries.all fun e => decide (e.extra.length * 16 ≤ 140737488355328)) = true := by
  obtain ⟨h1, h2, _⟩ := F.check_ok h
  rw [Bool.and_eq_true, decide_eq_true_eq, List.all_eq_true]
  exact ⟨by omega, fun e he => decide_eq_true (by have := (F.entry_ok (h2 e he)).2.1; omega)⟩

theorem F.slide_eq {l : Lst} {keep : Int} (h0 : F.check l = 0) (h1 : F.out keep 0 1000000000000000 = false) (he : l.ended = false) : F.slide l keep =
    bif decide (999999999999000 < IntKind.i64.wrap (l.first + ((F.gone keep (F.lenF 0 l.entries) l.breaks 0 l.entries).2 : Int))) || decide (1000000000000000 < (F.gone keep (F.lenF 0 l.entries) l.breaks 0 l.entries).1.2) then (default, 0, 1) else
    (⟨l.target, IntKind.i64.wrap (l.first + ((F.gone keep (F.lenF 0 l.entries) l.breaks 0 l.entries).2 : Int)), (F.gone keep (F.lenF 0 l.entries) l.breaks 0 l.entries).1.2, l.entries.drop (F.gone keep (F.lenF 0 l.entries) l.breaks 0 l.entries).2, l.ended⟩, ((F.gone keep (F.lenF 0 l.entries) l.breaks 0 l.entries).2 : Int), 0) := by
  unfold F.slide
  rw [if_neg (by simp [h0]), if_neg (by simp [h1]), if_neg (by simp [he])]
  cases hc : (decide (999999999999000 < IntKind.i64.wrap (l.first + ((F.gone keep (F.lenF 0 l.entries) l.breaks 0 l.entries).2 : Int))) || decide (1000000000000000 < (F.gone keep (F.lenF 0 l.entries) l.breaks 0 l.entries).1.2))
  · exact if_neg (fun h => Bool.noConfusion (hc.symm.trans h))
  · exact if_pos hc

theorem F.goneL_le (l : Lst) (keep : Int) : (F.goneL l keep).1 ≤ l.entries.length := by
  have := (M.scan_le (step := F.goneS keep) (l := l.entries) (a := (F.lenF 0 l.entries, l.breaks)) (k := 0)).2
  simp only [F.goneL, F.gone]
  omega

namespace M

theorem appEnts' (xs : List Ent) (e : Ent) : xs.map eEnt ++ [[vS e.uri, vI e.milli, vB e.brk, vI e.date, vS e.key, vB e.gap, .sl (e.extra.map eStr)]] = (xs ++ [e]).map eEnt := by simp [eEnt]

noncomputable def enAdd : Env := envH ty noG lks [oChk, oCpL, oCpE] [] [] []

theorem enAdd_ok : EnvOK Tryz.prog enAdd := by
  refine envH_ok lks_ok ty_ok ?_ ?_
  · simp only [List.forall_mem_cons]
    exact ⟨okChk, okCpL, okCpE, by simp⟩
  · simp

theorem bne0 {x : Int} (h : x = 0) : (x != 0) = false := by simp [h]

theorem bne1 {x : Int} (h : ¬ x = 0) : (x != 0) = true := by simp [h]

theorem eLst_def : eLst default = [vI 0, vI 0, vI 0, .sl [], vB false] := rfl

theorem evAdd (l : Lst) (e : Ent) : (runF enAdd false Tryz.f43 [.agg (eLst l), .agg (eEnt e)]).val =
  (fun (q : AV) => (fun (q_1 : List AV) => Option.bind (unenc encChk q_1) fun (z : Lst) => bif F.check z != (0 : Int) then some (AV.tup [q, (vI (F.check z))], []) else bif
  l.ended then some (AV.tup [q, (vI (11 : Int))], []) else Option.bind (unenc encCpL q_1) fun (z : Lst) => bif decide (List.length z.entries * (88 : Nat) ≤ (140737488355328
  : Nat)) && List.all z.entries fun (e : Ent) => decide (List.length e.extra * (16 : Nat) ≤ (140737488355328 : Nat)) then Option.bind (unenc encCpE [AV.agg [(vS e.uri), (vI
  e.milli), (vB e.brk), (vI e.date), (vS e.key), (vB e.gap), AV.sl (List.map eStr e.extra)]]) fun (z_1 : Ent) => (fun (q_2 : AV) => bif decide (List.length z_1.extra * (16 :
  Nat) ≤ (140737488355328 : Nat)) then bif Nat.ble ((List.length (List.map eEnt z.entries) + (1 : Nat)) * (88 : Nat)) (140737488355328 : Nat) && true then Option.bind (unenc
  encChk [q_2]) fun (z : Lst) => bif F.check z != (0 : Int) then some (AV.tup [q, (vI (F.check z))], []) else some (AV.tup [q_2, (vI (0 : Int))], []) else none else none)
  (AV.agg [(vI z.target), (vI z.first), (vI z.breaks), AV.sl (List.map eEnt z.entries ++ [[(vS z_1.uri), (vI z_1.milli), (vB z_1.brk), (vI z_1.date), (vS z_1.key), (vB
  z_1.gap), AV.sl (List.map eStr z_1.extra)]]), (vB z.ended)]) else none) [AV.agg [(vI l.target), (vI l.first), (vI l.breaks), AV.sl (List.map eEnt l.entries), (vB
  l.ended)]]) (AV.agg [(vI (0 : Int)), (vI (0 : Int)), (vI (0 : Int)), AV.sl [], (vB false)]) := by kernel_rfl

def encAdd1 (l : Lst) (e : Ent) : List AV := [.agg (eLst l), .agg (eEnt e)]

def encAdd (a : Lst × Ent) : List AV := encAdd1 a.1 a.2

theorem encAdd_inj (a a' : Lst × Ent) (h : encAdd a = encAdd a') : a = a' := by
  simp only [encAdd, encAdd1] at h
  try simp [strs_inj, ents_inj, eEnt_iff, eLst_iff] at h
  grind

theorem unAdd (l : Lst) (e : Ent) : unenc encAdd ([AV.agg [(vI l.target), (vI l.first), (vI l.breaks), AV.sl (List.map eEnt l.entries), (vB l.ended)], AV.agg [(vS e.uri), (vI e.milli), (vB e.brk), (vI e.date), (vS e.key),
  (vB e.gap), AV.sl (List.map eStr e.extra)]]) = some (l, e) := unenc_of encAdd_inj (l, e) rfl

theorem unAddw (l_target : Int) (l_first : Int) (l_breaks : Int) (l_entries : List Ent) (l_ended : Bool) (e_uri : ByteArray) (e_milli : Int) (e_brk : Bool) (e_date : Int) (e_key : ByteArray) (e_gap : Bool) (e_extra : List ByteArray) : unenc encAdd ([AV.agg [(vI l_target), (vI l_first), (vI l_breaks), AV.sl (List.map eEnt l_entries), (vB l_ended)], AV.agg [(vS e_uri), (vI e_milli), (vB e_brk), (vI e_date), (vS e_key),
  (vB e_gap), AV.sl (List.map eStr e_extra)]]) = some ((Lst.mk l_target l_first l_breaks l_entries l_ended), (Ent.mk e_uri e_milli e_brk e_date e_key e_gap e_extra)) := unenc_of encAdd_inj ((Lst.mk l_target l_first l_breaks l_entries l_ended), (Ent.mk e_uri e_milli e_brk e_date e_key e_gap e_extra)) rfl

def resAdd1 (l : Lst) (e : Ent) : AV × Heap := (.tup [.agg (eLst (F.add l e).1), vI (F.add l e).2], [])

def preAdd1 (l : Lst) (e : Ent) : Bool := decide (e.extra.length * 16 ≤ 140737488355328)

noncomputable def oAdd : Orc := orc 43 false encAdd (fun a => preAdd1 a.1 a.2) fun a => resAdd1 a.1 a.2

theorem okAdd : OrcOK Tryz.prog noG oAdd := by
  refine mk_ok Tryz.f43 (keep := false) (by kernel_rfl) (by kernel_rfl) enAdd_ok mixed (no_loops (by kernel_rfl)) (by first | exact fun _ _ => ⟨rfl, rfl⟩ | (intro h; cases h)) ?_
  rintro ⟨l, e⟩ hpre hok
  show (runF enAdd false _ (encAdd1 _ _)).val = some (resAdd1 _ _)
  unfold encAdd1 resAdd1
  rw [evAdd]
  simp only [preAdd1] at hpre
  simp only [unChk, unCpL, unCpE, unChkw, unCpLw, unCpEw, preChk1, preCpL1, preCpE1, etaEnt, etaLst, Option.bind_some, List.length_map, unStrs, unInts, unBools, unEnts, unItms, unTrns, cond_true, cond_false, Bool.and_true, Bool.true_and, hpre, appEnts']
  by_cases h0 : F.check l = 0
  · have hb : Nat.ble ((l.entries.length + 1) * 88) 140737488355328 = true := ble_t (by have := (F.check_ok h0).1; omega)
    simp only [F.check_room h0, hb, bne_self_eq_false, F.add, h0, ne_eq, not_true_eq_false, if_false, cond_true, cond_false]
    cases he : l.ended
    · simp only [cond_false, Bool.false_eq_true, if_false, F.withE, he]
      by_cases h2 : F.check ⟨l.target, l.first, l.breaks, l.entries ++ [e], false⟩ = 0
      · simp only [bne_self_eq_false, h2, not_true_eq_false, if_false, cond_false, eLst]
      · simp only [bne1 h2, h2, not_false_eq_true, if_true, cond_true, eLst_def]
    · rfl
  · simp only [bne1 h0, cond_true, F.add, h0, if_true, ne_eq, not_false_eq_true]
    rfl

noncomputable def enEnd : Env := envH ty noG lks [oChk, oCpL] [] [] []

theorem enEnd_ok : EnvOK Tryz.prog enEnd := by
  refine envH_ok lks_ok ty_ok ?_ ?_
  · simp only [List.forall_mem_cons]
    exact ⟨okChk, okCpL, by simp⟩
  · simp

theorem evEnd (l : Lst) : (runF enEnd false Tryz.f45 [.agg (eLst l)]).val =
  Option.bind (unenc encChk [AV.agg [(vI l.target), (vI l.first), (vI l.breaks), AV.sl (List.map eEnt l.entries), (vB l.ended)]]) fun (z : Lst) => bif F.check z != (0 : Int)
  then some (AV.tup [AV.agg [(vI (0 : Int)), (vI (0 : Int)), (vI (0 : Int)), AV.sl [], (vB false)], (vI (F.check z))], []) else Option.bind (unenc encCpL [AV.agg [(vI
  l.target), (vI l.first), (vI l.breaks), AV.sl (List.map eEnt l.entries), (vB l.ended)]]) fun (z : Lst) => bif decide (List.length z.entries * (88 : Nat) ≤ (140737488355328
  : Nat)) && List.all z.entries fun (e : Ent) => decide (List.length e.extra * (16 : Nat) ≤ (140737488355328 : Nat)) then some (AV.tup [AV.agg [(vI z.target), (vI z.first),
  (vI z.breaks), AV.sl (List.map eEnt z.entries), (vB true)], (vI (0 : Int))], []) else none := by kernel_rfl

def encEnd1 (l : Lst) : List AV := [.agg (eLst l)]

def encEnd (a : Lst) : List AV := encEnd1 a

theorem encEnd_inj (a a' : Lst) (h : encEnd a = encEnd a') : a = a' := by
  simp only [encEnd, encEnd1] at h
  try simp [strs_inj, ents_inj, eEnt_iff, eLst_iff] at h
  grind

theorem unEnd (l : Lst) : unenc encEnd ([AV.agg [(vI l.target), (vI l.first), (vI l.breaks), AV.sl (List.map eEnt l.entries), (vB l.ended)]]) = some (l) := unenc_of encEnd_inj (l) rfl

theorem unEndw (l_target : Int) (l_first : Int) (l_breaks : Int) (l_entries : List Ent) (l_ended : Bool) : unenc encEnd ([AV.agg [(vI l_target), (vI l_first), (vI l_breaks), AV.sl (List.map eEnt l_entries), (vB l_ended)]]) = some ((Lst.mk l_target l_first l_breaks l_entries l_ended)) := unenc_of encEnd_inj ((Lst.mk l_target l_first l_breaks l_entries l_ended)) rfl

def resEnd1 (l : Lst) : AV × Heap := (.tup [.agg (eLst (F.endL l).1), vI (F.endL l).2], [])

def preEnd1 (l : Lst) : Bool := true

noncomputable def oEnd : Orc := orc 45 false encEnd (fun a => preEnd1 a) fun a => resEnd1 a

theorem okEnd : OrcOK Tryz.prog noG oEnd := by
  refine mk_ok Tryz.f45 (keep := false) (by kernel_rfl) (by kernel_rfl) enEnd_ok mixed (no_loops (by kernel_rfl)) (by first | exact fun _ _ => ⟨rfl, rfl⟩ | (intro h; cases h)) ?_
  rintro l hpre hok
  show (runF enEnd false _ (encEnd1 _)).val = some (resEnd1 _)
  unfold encEnd1 resEnd1
  rw [evEnd]
  simp only [unChk, unCpL, unChkw, unCpLw, preChk1, preCpL1, etaEnt, etaLst, Option.bind_some, List.length_map, unStrs, unInts, unBools, unEnts, unItms, unTrns, cond_true, cond_false, Bool.and_true, Bool.true_and]
  by_cases h0 : F.check l = 0
  · simp only [F.check_room h0, bne_self_eq_false, F.endL, h0, ne_eq, not_true_eq_false, if_false, cond_true, cond_false, eLst]
  · simp only [bne1 h0, cond_true, F.endL, h0, if_true, ne_eq, not_false_eq_true]
    rfl

def stSld (l : Lst) (keep : Int) (left : Int) (b : Int) (k : Nat) : St := ⟨[(10, vI left), (9, vI k), (8, .ptr 8 0 0), (4, .ptr 4 0 0), (2, .ptr 2 0 0), (1, vI keep)], [(27000, ⟨false, 50, 7, l.entries.map eEnt⟩), (8, ⟨true, 0, 0, [[vI l.target, vI l.first, vI b, .own 27000, vB l.ended]]⟩), (4, ⟨true, 0, 0, [[vI 0, vI 0, vI 0, .e0, vB false]]⟩), (2, ⟨true, 0, 0, [eLst l]⟩)]⟩

def stSld1 (a : Lst × Int × Int × Int × Nat) : St := stSld a.1 a.2.1 a.2.2.1 a.2.2.2.1 a.2.2.2.2

theorem stSld_inj (a a' : Lst × Int × Int × Int × Nat) (h : stSld1 a = stSld1 a') : a = a' := by
  simp only [stSld1, stSld] at h
  try simp [strs_inj, ents_inj, eEnt_iff, eLst_iff] at h
  grind

theorem unstSld (l : Lst) (keep : Int) (left : Int) (b : Int) (k : Nat) : unenc stSld1 (St.mk [(10, (vI left)), (9, (vI (↑k : Int))), (8, .ptr 8 0 0), (4, .ptr 4 0 0), (2, .ptr 2 0 0), (1, (vI keep))] [(27000, Blk.mk false 50 7 (List.map eEnt l.entries)), (8,
  Blk.mk true 0 0 [[(vI l.target), (vI l.first), (vI b), .own 27000, (vB l.ended)]]), (4, Blk.mk true 0 0 [[(vI (0 : Int)), (vI (0 : Int)), (vI (0 : Int)), AV.e0, (vB
  false)]]), (2, Blk.mk true 0 0 [[(vI l.target), (vI l.first), (vI l.breaks), AV.sl (List.map eEnt l.entries), (vB l.ended)]])]) = some (l, keep, left, b, k) := unenc_of stSld_inj (l, keep, left, b, k) rfl

theorem unstSld0 (l : Lst) (keep : Int) (left : Int) (b : Int)  : unenc stSld1 (St.mk [(10, (vI left)), (9, (vI (0 : Int))), (8, .ptr 8 0 0), (4, .ptr 4 0 0), (2, .ptr 2 0 0), (1, (vI keep))] [(27000, Blk.mk false 50 7 (List.map eEnt l.entries)), (8,
  Blk.mk true 0 0 [[(vI l.target), (vI l.first), (vI b), .own 27000, (vB l.ended)]]), (4, Blk.mk true 0 0 [[(vI (0 : Int)), (vI (0 : Int)), (vI (0 : Int)), AV.e0, (vB
  false)]]), (2, Blk.mk true 0 0 [[(vI l.target), (vI l.first), (vI l.breaks), AV.sl (List.map eEnt l.entries), (vB l.ended)]])]) = some (l, keep, left, b, 0) := unenc_of stSld_inj (l, keep, left, b, 0) rfl

def outSld (l : Lst) (keep : Int) (left : Int) (b : Int) (k : Nat) : T (Ex × St) := .ret (.exit 1, ⟨[(9, vI (F.gone keep left b k (l.entries.drop k)).2), (8, .ptr 8 0 0), (4, .ptr 4 0 0)], [(27000, ⟨false, 50, 7, l.entries.map eEnt⟩), (8, ⟨true, 0, 0, [[vI l.target, vI l.first, vI (F.gone keep left b k (l.entries.drop k)).1.2, .own 27000, vB l.ended]]⟩), (4, ⟨true, 0, 0, [[vI 0, vI 0, vI 0, .e0, vB false]]⟩)]⟩)

noncomputable def prlSld (l : Lst) (keep : Int) (left : Int) (b : Int) (k : Nat) : Bool := decide (l.entries.length ≤ 9223372036854775807) && decide (k ≤ l.entries.length)

noncomputable def lpSld : Nat × (St → T (Ex × St)) := (11, lpo [10, 9, 8, 4, 2, 1] [27000, 8, 4, 2] stSld1 (fun a => prlSld a.1 a.2.1 a.2.2.1 a.2.2.2.1 a.2.2.2.2) fun a => outSld a.1 a.2.1 a.2.2.1 a.2.2.2.1 a.2.2.2.2)

noncomputable def enSld : Env := envH ty noG lks [oChk, oCpL, oOut, oLen] [] [] [lpSld]

theorem enSld_ok : EnvOK Tryz.prog enSld := by
  refine envH_ok lks_ok ty_ok ?_ ?_
  · simp only [List.forall_mem_cons]
    exact ⟨okChk, okCpL, okOut, okLen, by simp⟩
  · simp

theorem evSldL (l : Lst) (keep : Int) (left : Int) (b : Int) (k : Nat) : ((exec enSld (loopN Tryz.f44 0) (stSld l keep left b k)).bind (lessX ([10, 9, 8, 4, 2, 1], [27000, 8, 4, 2]) ([9, 8, 4], [27000, 8, 4]) ([], []))).val =
  (fun (q : Option (List Ent)) => (fun (q_1 : Nat × Blk) => (fun (q_2 : Bool) => (fun (q_3 : Ent) => (fun (q_4 : Nat × Blk) => (fun (q_5 : Nat × Blk) => (fun (q_6 : List
  (Nat × AV)) => (fun (q_7 : List (Nat × Blk)) => (fun (q_8 : Option (Ex × St)) => bif q_2 then Option.bind q fun (z : List Ent) => bif decide (k < List.length z) then bif
  bif q_2 then decide (keep ≤ IntKind.wrap IntKind.i64 (left - (List.getD z k q_3).milli)) else false then Option.bind q fun (z : List Ent) => (fun (q_9 : List (Nat × AV))
  => bif decide (k < List.length z) then Option.bind q fun (z : List Ent) => bif decide (k < List.length z) then bif (List.getD z k q_3).brk then some (Ex.normal, St.mk q_9
  (q_1 :: (8, Blk.mk true 0 0 [[(vI l.target), (vI l.first), (vI (IntKind.wrap IntKind.i64 (b + (1 : Int)))), .own 27000, (vB l.ended)]]) :: q_7)) else some (Ex.normal,
  St.mk q_9 (q_1 :: q_5 :: q_7)) else none else none) ((10, (vI (IntKind.wrap IntKind.i64 (left - (List.getD z k q_3).milli)))) :: q_6) else q_8 else none else bif q_2 then
  none else bif q_2 then none else bif q_2 then none else bif q_2 then none else q_8) (some (Ex.exit (1 : Nat), St.mk [(9, (vI (↑k : Int))), (8, .ptr 8 0 0), (4, .ptr 4 0
  0)] [q_1, q_5, q_4]))) [q_4, (2, Blk.mk true 0 0 [[(vI l.target), (vI l.first), (vI l.breaks), AV.sl (List.map eEnt l.entries), (vB l.ended)]])]) [(9, (vI (IntKind.wrap
  IntKind.i64 ((↑k : Int) + (1 : Int))))), (8, .ptr 8 0 0), (4, .ptr 4 0 0), (2, .ptr 2 0 0), (1, (vI keep))]) (8, Blk.mk true 0 0 [[(vI l.target), (vI l.first), (vI b),
  .own 27000, (vB l.ended)]])) (4, Blk.mk true 0 0 [[(vI (0 : Int)), (vI (0 : Int)), (vI (0 : Int)), AV.e0, (vB false)]])) (Ent.mk (ByteArray.mk (Array.mk [])) (0 : Int)
  false (0 : Int) (ByteArray.mk (Array.mk [])) false [])) (decide ((↑k : Int) < (↑(List.length (List.map eEnt l.entries)) : Int)))) (27000, Blk.mk false 50 7 (List.map eEnt
  l.entries))) (unenc (List.map eEnt) (List.map eEnt l.entries)) := by kernel_rfl

theorem lpSld_ok (l : Lst) (keep : Int) (left : Int) (b : Int) (k : Nat) (hp : prlSld l keep left b k = true) : ∀ ex s', (outSld l keep left b k).val = some (ex, s') → LoopOK enSld (loopN Tryz.f44 0) (stSld l keep left b k) ex s' := by
  simp only [prlSld, Bool.and_eq_true, decide_eq_true_eq] at hp
  refine loop_scan (xs := l.entries) (st := fun a k => stSld l keep a.1 a.2 k) (step := F.goneS keep) (fin := fun a => (.exit 1, ⟨[(9, vI a.2), (8, .ptr 8 0 0), (4, .ptr 4 0 0)], [(27000, ⟨false, 50, 7, l.entries.map eEnt⟩), (8, ⟨true, 0, 0, [[vI l.target, vI l.first, vI a.1.2, .own 27000, vB l.ended]]⟩), (4, ⟨true, 0, 0, [[vI 0, vI 0, vI 0, .e0, vB false]]⟩)]⟩)) (I := fun _ _ => True) (n := ([10, 9, 8, 4, 2, 1], [27000, 8, 4, 2])) (e := ([9, 8, 4], [27000, 8, 4])) (r := ([], [])) ?_ (fun _ => ⟨by simp, rfl⟩) (fun _ _ => rfl) ?_ (left, b) k hp.2 trivial
  · rintro ⟨a, c⟩ _
    rw [evSldL]; simp
  · rintro ⟨a, c⟩ k y hy _
    have hlt := lt_at hy
    rw [evSldL]
    simp only [unChk, unCpL, unOut, unLen, unChkw, unCpLw, unLenw, preChk1, preCpL1, preOut1, preLen1, unstSld, unstSld0, prlSld, outSld, etaEnt, etaLst, Option.bind_some, List.length_map, unStrs, unInts, unBools, unEnts, unItms, unTrns, cond_true, cond_false, Bool.and_true, Bool.true_and, cast_lt hlt, decide_eq_true hlt, next_at hlt hp.1, getD_at hy, stSld, eEnt, eLst, F.goneS]
    by_cases h1 : keep ≤ IntKind.i64.wrap (a - y.milli) <;> cases h2 : y.brk <;> simp [h1]

theorem evSld (l : Lst) (keep : Int) : (runF enSld false Tryz.f44 [.agg (eLst l), vI keep]).val =
  (fun (q : AV) => (fun (q_1 : List AV) => (fun (q_2 : List AV) => (fun (q_3 : Option (AV × Heap)) => Option.bind (unenc encChk q_2) fun (z : Lst) => bif F.check z != (0 :
  Int) then some (AV.tup [q, (vI (0 : Int)), (vI (F.check z))], []) else Option.bind (unenc encOut [(vI keep), (vI (0 : Int)), (vI (1000000000000000 : Int))]) fun (z : Int ×
  Int × Int) => bif F.out z.fst z.snd.fst z.snd.snd then q_3 else bif l.ended then some (AV.tup [q, (vI (0 : Int)), (vI (11 : Int))], []) else Option.bind (unenc encCpL q_2)
  fun (z : Lst) => bif decide (List.length z.entries * (88 : Nat) ≤ (140737488355328 : Nat)) && List.all z.entries fun (e : Ent) => decide (List.length e.extra * (16 : Nat)
  ≤ (140737488355328 : Nat)) then Option.bind (unenc encLen q_2) fun (z_1 : Lst) => Option.bind (unenc stSld1 (St.mk [(10, (vI (F.lenF (0 : Int) z_1.entries))), (9, (vI (0 :
  Int))), (8, .ptr 8 0 0), (4, .ptr 4 0 0), (2, .ptr 2 0 0), (1, (vI keep))] [(27000, Blk.mk false 50 7 (List.map eEnt z.entries)), (8, Blk.mk true 0 0 [[(vI z.target), (vI
  z.first), (vI z.breaks), .own 27000, (vB z.ended)]]), (4, Blk.mk true 0 0 [[(vI (0 : Int)), (vI (0 : Int)), (vI (0 : Int)), AV.e0, (vB false)]]), (2, Blk.mk true 0 0
  [q_1])])) fun (z : Lst × Int × Int × Int × Nat) => (fun (q : Nat) => (fun (q_4 : (Int × Int) × Nat) => (fun (q_5 : Nat) => (fun (q_6 : Int) => (fun (q_7 : Int) => (fun
  (q_8 : Int) => bif decide (List.length z.fst.entries ≤ (9223372036854775807 : Nat)) && decide (z.snd.snd.snd.snd ≤ List.length z.fst.entries) && true then bif Nat.ble q_5
  q && Nat.ble q q && List.all (List.map eEnt z.fst.entries) fun (r : Row) => Nat.beq (List.length r) (7 : Nat) then bif bif decide ((999999999999000 : Int) < q_8) then true
  else decide ((1000000000000000 : Int) < q_6) then q_3 else some (AV.tup [AV.agg [(vI z.fst.target), (vI q_8), (vI q_6), AV.sl (List.drop q_5 (List.map eEnt
  z.fst.entries)), (vB z.fst.ended)], (vI q_7), (vI (0 : Int))], []) else none else none) (IntKind.wrap IntKind.i64 (z.fst.first + q_7))) (↑q_5 : Int)) q_4.fst.snd) q_4.snd)
  (F.gone z.snd.fst z.snd.snd.fst z.snd.snd.snd.fst z.snd.snd.snd.snd (List.drop z.snd.snd.snd.snd z.fst.entries))) (List.length (List.map eEnt z.fst.entries)) else none)
  (some (AV.tup [q, (vI (0 : Int)), (vI (1 : Int))], []))) [AV.agg q_1]) [(vI l.target), (vI l.first), (vI l.breaks), AV.sl (List.map eEnt l.entries), (vB l.ended)]) (AV.agg
  [(vI (0 : Int)), (vI (0 : Int)), (vI (0 : Int)), AV.sl [], (vB false)]) := by kernel_rfl

def encSld1 (l : Lst) (keep : Int) : List AV := [.agg (eLst l), vI keep]

def encSld (a : Lst × Int) : List AV := encSld1 a.1 a.2

theorem encSld_inj (a a' : Lst × Int) (h : encSld a = encSld a') : a = a' := by
  simp only [encSld, encSld1] at h
  try simp [strs_inj, ents_inj, eEnt_iff, eLst_iff] at h
  grind

theorem unSld (l : Lst) (keep : Int) : unenc encSld ([AV.agg [(vI l.target), (vI l.first), (vI l.breaks), AV.sl (List.map eEnt l.entries), (vB l.ended)], (vI keep)]) = some (l, keep) := unenc_of encSld_inj (l, keep) rfl

theorem unSldw (l_target : Int) (l_first : Int) (l_breaks : Int) (l_entries : List Ent) (l_ended : Bool) (keep : Int) : unenc encSld ([AV.agg [(vI l_target), (vI l_first), (vI l_breaks), AV.sl (List.map eEnt l_entries), (vB l_ended)], (vI keep)]) = some ((Lst.mk l_target l_first l_breaks l_entries l_ended), keep) := unenc_of encSld_inj ((Lst.mk l_target l_first l_breaks l_entries l_ended), keep) rfl

def resSld1 (l : Lst) (keep : Int) : AV × Heap := (.tup [.agg (eLst (F.slide l keep).1), vI (F.slide l keep).2.1, vI (F.slide l keep).2.2], [])

def preSld1 (l : Lst) (keep : Int) : Bool := true

noncomputable def oSld : Orc := orc 44 false encSld (fun a => preSld1 a.1 a.2) fun a => resSld1 a.1 a.2

theorem okSld : OrcOK Tryz.prog noG oSld := by
  refine mk_ok Tryz.f44 (keep := false) (by kernel_rfl) (by kernel_rfl) enSld_ok mixed (one_loop (x0 := loopN Tryz.f44 0) (by kernel_rfl) (lpo_ok ?_)) (by first | exact fun _ _ => ⟨rfl, rfl⟩ | (intro h; cases h)) ?_
  · rintro ⟨l, keep, left, b, k⟩ hp
    exact lpSld_ok l keep left b k hp
  rintro ⟨l, keep⟩ hpre hok
  show (runF enSld false _ (encSld1 _ _)).val = some (resSld1 _ _)
  unfold encSld1 resSld1
  rw [evSld]
  have hx := lst_len (hok _ (List.mem_cons_self ..))
  simp only [unChk, unCpL, unOut, unLen, unChkw, unCpLw, unLenw, preChk1, preCpL1, preOut1, preLen1, unstSld, unstSld0, prlSld, outSld, etaEnt, etaLst, Option.bind_some, List.length_map, unStrs, unInts, unBools, unEnts, unItms, unTrns, cond_true, cond_false, Bool.and_true, Bool.true_and, hx, List.drop_zero, Nat.zero_le, decide_true, all_ents]
  by_cases h0 : F.check l = 0
  · have hle := F.goneL_le l keep
    simp only [F.goneL] at hle
    cases h1 : F.out keep 0 1000000000000000
    · cases he : l.ended
      · rw [F.slide_eq h0 h1 he]
        simp only [F.check_room h0, bne_self_eq_false, h0, h1, cond_true, cond_false, idx, hle, ble_t, Nat.le_refl, Bool.and_self, F.cond_tl]
        cases hc : (decide (999999999999000 < IntKind.i64.wrap (l.first + ((F.gone keep (F.lenF 0 l.entries) l.breaks 0 l.entries).2 : Int))) || decide (1000000000000000 < (F.gone keep (F.lenF 0 l.entries) l.breaks 0 l.entries).1.2))
        · simp only [cond_false, eLst, List.map_drop, he]
        · simp only [cond_true, eLst_def]
      · simp only [F.slide, h0, h1, he, bne_self_eq_false, cond_true, cond_false, ne_eq, not_true_eq_false, if_false, Bool.false_eq_true, if_true, eLst_def]
    · simp only [F.slide, h0, h1, bne_self_eq_false, cond_true, cond_false, ne_eq, not_true_eq_false, if_false, if_true, eLst_def]
  · simp only [bne1 h0, cond_true, F.slide, h0, if_true, ne_eq, not_false_eq_true, eLst_def]

end M

def F.length (l : Lst) : Int × Int := if F.check l ≠ 0 then (0, F.check l) else (F.lenF 0 l.entries, 0)

namespace M

noncomputable def enLng : Env := envH ty noG lks [oChk, oLen] [] [] []

theorem enLng_ok : EnvOK Tryz.prog enLng := by
  refine envH_ok lks_ok ty_ok ?_ ?_
  · simp only [List.forall_mem_cons]
    exact ⟨okChk, okLen, by simp⟩
  · simp

theorem evLng (l : Lst) : (runF enLng false Tryz.f10 [.agg (eLst l)]).val =
  Option.bind (unenc encChk [AV.agg [(vI l.target), (vI l.first), (vI l.breaks), AV.sl (List.map eEnt l.entries), (vB l.ended)]]) fun (z : Lst) => bif F.check z != (0 : Int)
  then some (AV.tup [(vI (0 : Int)), (vI (F.check z))], []) else Option.bind (unenc encLen [AV.agg [(vI l.target), (vI l.first), (vI l.breaks), AV.sl (List.map eEnt
  l.entries), (vB l.ended)]]) fun (z : Lst) => some (AV.tup [(vI (F.lenF (0 : Int) z.entries)), (vI (0 : Int))], []) := by kernel_rfl

def encLng1 (l : Lst) : List AV := [.agg (eLst l)]

def encLng (a : Lst) : List AV := encLng1 a

theorem encLng_inj (a a' : Lst) (h : encLng a = encLng a') : a = a' := by
  simp only [encLng, encLng1] at h
  try simp [strs_inj, ents_inj, eEnt_iff, eLst_iff] at h
  grind

def resLng1 (l : Lst) : AV × Heap := (.tup [vI (F.length l).1, vI (F.length l).2], [])

def preLng1 (l : Lst) : Bool := true

noncomputable def oLng : Orc := orc 10 true encLng (fun a => preLng1 a) fun a => resLng1 a

theorem okLng : OrcOK Tryz.prog noG oLng := by
  refine mk_ok Tryz.f10 (keep := false) (by kernel_rfl) (by kernel_rfl) enLng_ok mixed (no_loops (by kernel_rfl)) (by first | exact fun _ _ => ⟨rfl, rfl⟩ | (intro h; cases h)) ?_
  rintro l hpre hok
  show (runF enLng false _ (encLng1 _)).val = some (resLng1 _)
  unfold encLng1 resLng1
  rw [evLng]
  simp only [unChk, unLen, unChkw, unLenw, preChk1, preLen1, etaEnt, etaLst, Option.bind_some, List.length_map, unStrs, unInts, unBools, unEnts, unItms, unTrns, cond_true, cond_false, Bool.and_true, Bool.true_and]
  by_cases h0 : F.check l = 0
  · simp only [F.length, h0, bne_self_eq_false, cond_false, ne_eq, not_true_eq_false, if_false]
  · have hb : (F.check l != 0) = true := by simp [h0]
    simp only [hb, cond_true, F.length, h0, if_true, ne_eq, not_false_eq_true]

noncomputable def enAwk : Env := envH ty noG lks [oLng] [] [] []

theorem enAwk_ok : EnvOK Tryz.prog enAwk := by
  refine envH_ok lks_ok ty_ok ?_ ?_
  · simp only [List.forall_mem_cons]
    exact ⟨okLng, by simp⟩
  · simp

def awL : Lst := ⟨4, 0, 0, [⟨⟨#[97]⟩, 7, false, -1, ⟨#[]⟩, false, []⟩], false⟩

theorem awL_len : F.length awL = (7, 0) := by kernel_rfl

theorem evAwk  : (runF enAwk false Tryz.f15 []).val =
  Option.bind (unenc encLng [AV.agg [(vI (4 : Int)), (vI (0 : Int)), (vI (0 : Int)), AV.sl [[(vS (ByteArray.mk (Array.mk [(97 : UInt8)]))), (vI (7 : Int)), (vB false), (vI
  (-1 : Int)), (vS (ByteArray.mk (Array.mk []))), (vB false), AV.sl []]], (vB false)]]) fun (z : Lst) => some ((vB (bif (F.length z).snd == (0 : Int) then (F.length z).fst
  == (7 : Int) else false)), []) := by kernel_rfl

def encAwk1  : List AV := []

def encAwk (a : Unit) : List AV := encAwk1

theorem encAwk_inj (a a' : Unit) (h : encAwk a = encAwk a') : a = a' := rfl

theorem unAwk  : unenc encAwk ([]) = some () := unenc_of encAwk_inj () rfl

def resAwk1  : AV × Heap := (vB true, [])

def preAwk1  : Bool := true

noncomputable def oAwk : Orc := orc 15 true encAwk (fun a => preAwk1) fun a => resAwk1

theorem okAwk : OrcOK Tryz.prog noG oAwk := by
  refine mk_ok Tryz.f15 (keep := false) (by kernel_rfl) (by kernel_rfl) enAwk_ok mixed (no_loops (by kernel_rfl)) (by first | exact fun _ _ => ⟨rfl, rfl⟩ | (intro h; cases h)) ?_
  rintro ⟨⟩ hpre hok
  show (runF enAwk false _ (encAwk1 )).val = some (resAwk1 )
  unfold encAwk1 resAwk1
  rw [evAwk]
  show (Option.bind (unenc encLng (encLng awL)) _ : Option (AV × Heap)) = _
  rw [unenc_of encLng_inj awL rfl, Option.bind_some, awL_len]
  rfl

end M

namespace M

end M

def F.lt (a b : Int) : Bool := decide (a < b)

def F.le (a b : Int) : Bool := decide (a ≤ b)

def F.sameEL (a b : List Ent) : Bool := decide (a.length = b.length) && F.sameEs (a.zip b)

def F.sameSL (a b : List ByteArray) : Bool := decide (a.length = b.length) && F.sameSs (a.zip b)

def F.bnS (a : Int × List Int) (e : Ent) : Int × List Int := bif e.brk then (IntKind.i64.wrap (a.1 + 1), a.2 ++ [IntKind.i64.wrap (a.1 + 1)]) else (a.1, a.2 ++ [a.1])

def F.bnA (b : Int) (acc : List Int) (l : List Ent) : List Int := (l.foldl F.bnS (b, acc)).2

def F.bn (l : Lst) : List Int := F.bnA l.breaks [] l.entries

theorem F.bnA_len : ∀ (l : List Ent) (b : Int) (acc : List Int), (F.bnA b acc l).length = acc.length + l.length
  | [], b, acc => by simp [F.bnA]
  | e :: l, b, acc => by
    show (F.bnA (F.bnS (b, acc) e).1 (F.bnS (b, acc) e).2 l).length = _
    rw [F.bnA_len l]
    simp only [F.bnS, List.length_cons]
    cases e.brk <;> simp <;> omega

theorem F.bn_len (l : Lst) : (F.bn l).length = l.entries.length := by simp [F.bn, F.bnA_len]

def F.endN (l : Lst) : Int := IntKind.i64.wrap (l.first + l.entries.length)

def F.folX (old now : Lst) : List ((Ent × Ent) × (Int × Int)) :=
  ((old.entries.drop (now.first - old.first).toNat).zip now.entries).zip (((F.bn old).drop (now.first - old.first).toNat).zip (F.bn now))

def F.folG (p : (Ent × Ent) × (Int × Int)) : Int := if F.sameE p.1.1 p.1.2 = false then 12 else if p.2.1 ≠ p.2.2 then 3 else 0

def F.folL (old now : Lst) (n : Int) : Int := M.ffI F.folG ((F.folX old now).drop (n - now.first).toNat)

def F.last (l : Lst) : Int := bif F.lt 0 (F.bn l).length then (F.bn l).getD ((F.bn l).length - 1) 0 else l.breaks

def F.fol (old now : Lst) : Int :=
  bif old.target != now.target then 6 else bif old.ended && !F.sameL old now then 11 else bif F.lt now.first old.first || F.lt (F.endN now) (F.endN old) then 8 else
  bif F.folL old now now.first != 0 then F.folL old now now.first else bif F.le (F.endN old) now.first && F.lt now.breaks (F.last old) then 8 else 0

def F.follows (old now : Lst) : Int := bif F.check old != 0 then F.check old else bif F.check now != 0 then F.check now else F.fol old now

def F.folOK (old now : Lst) : Bool := decide (F.check old = 0) && decide (F.check now = 0) && F.le old.first now.first && F.le (F.endN old) (F.endN now)

theorem F.folOK_ok {old now : Lst} (h : F.folOK old now = true) : F.check old = 0 ∧ F.check now = 0 ∧ old.first ≤ now.first ∧ F.endN old ≤ F.endN now := by
  simp only [F.folOK, F.le, Bool.and_eq_true, decide_eq_true_eq] at h
  exact ⟨h.1.1.1, h.1.1.2, h.1.2, h.2⟩

theorem F.endN_def (l : Lst) : IntKind.i64.wrap (l.first + (l.entries.length : Int)) = F.endN l := rfl

theorem F.endN_eq {l : Lst} (h : F.check l = 0) : F.endN l = l.first + l.entries.length := by
  obtain ⟨h1, _, _, h2, _⟩ := F.check_ok h
  exact M.wrap_id (by omega) (by omega)

theorem F.folX_len (old now : Lst) : (F.folX old now).length = min (old.entries.length - (now.first - old.first).toNat) now.entries.length := by
  simp only [F.folX, List.length_zip, List.length_drop, F.bn_len]
  omega

theorem F.folX_at {old now : Lst} {k : Nat} {y : (Ent × Ent) × (Int × Int)} (h : (F.folX old now)[k]? = some y) :
    old.entries[(now.first - old.first).toNat + k]? = some y.1.1 ∧ now.entries[k]? = some y.1.2 ∧ (F.bn old)[(now.first - old.first).toNat + k]? = some y.2.1 ∧ (F.bn now)[k]? = some y.2.2 := by
  obtain ⟨h1, h2⟩ := F.zip_at h
  obtain ⟨a1, a2⟩ := F.zip_at h1
  obtain ⟨a3, a4⟩ := F.zip_at h2
  rw [List.getElem?_drop] at a1 a3
  exact ⟨a1, a2, a3, a4⟩

def F.orL (a b : Lst) (f : Int) : Lst := bif f != 0 then a else b

def F.turned (l : Lst) (t : Trn) : Lst :=
  bif t.kind == 0 then F.orL l (F.add l t.entry).1 (F.add l t.entry).2 else bif t.kind == 1 then F.orL l (F.slide l t.keep).1 (F.slide l t.keep).2.2 else
  bif t.kind == 2 then F.orL l (F.endL l).1 (F.endL l).2 else l

namespace M

def stEqS (a : List ByteArray) (b : List ByteArray) (k : Nat) : St := ⟨[(13, vI k), (12, vI a.length), (1, .sl (b.map eStr)), (0, .sl (a.map eStr))], []⟩

def stEqS1 (a : (List ByteArray) × (List ByteArray) × Nat) : St := stEqS a.1 a.2.1 a.2.2

theorem stEqS_inj (a a' : (List ByteArray) × (List ByteArray) × Nat) (h : stEqS1 a = stEqS1 a') : a = a' := by
  simp only [stEqS1, stEqS] at h
  try simp [strs_inj, ents_inj, eEnt_iff, eLst_iff, ints_inj, eTrn_iff] at h
  grind

theorem unstEqS (a : List ByteArray) (b : List ByteArray) (k : Nat) : unenc stEqS1 (St.mk [(13, (vI (↑k : Int))), (12, (vI (↑(List.length a) : Int))), (1, AV.sl (List.map eStr b)), (0, AV.sl (List.map eStr a))] []) = some (a, b, k) := unenc_of stEqS_inj (a, b, k) rfl

theorem unstEqS0 (a : List ByteArray) (b : List ByteArray)  : unenc stEqS1 (St.mk [(13, (vI (0 : Int))), (12, (vI (↑(List.length a) : Int))), (1, AV.sl (List.map eStr b)), (0, AV.sl (List.map eStr a))] []) = some (a, b, 0) := unenc_of stEqS_inj (a, b, 0) rfl

def outEqS (a : List ByteArray) (b : List ByteArray) (k : Nat) : T (Ex × St) := .ifB (F.sameSs ((a.zip b).drop k)) (.ret (.exit 0, ⟨[], []⟩)) (.ret (.ret, ⟨[(4, vB false)], []⟩))

noncomputable def prlEqS (a : List ByteArray) (b : List ByteArray) (k : Nat) : Bool := decide (a.length ≤ 9223372036854775807) && decide (k ≤ a.length) && decide (a.length = b.length)

noncomputable def lpEqS : Nat × (St → T (Ex × St)) := (4, lpo [13, 12, 1, 0] [] stEqS1 (fun a => prlEqS a.1 a.2.1 a.2.2) fun a => outEqS a.1 a.2.1 a.2.2)

noncomputable def enEqS : Env := envH ty noG lks [] [] [] [lpEqS]

theorem enEqS_ok : EnvOK Tryz.prog enEqS := by
  refine envH_ok lks_ok ty_ok ?_ ?_
  · simp
  · simp

theorem evEqSL (a : List ByteArray) (b : List ByteArray) (k : Nat) : ((exec enEqS (loopN Tryz.f91 0) (stEqS a b k)).bind (lessX ([13, 12, 1, 0], []) ([], []) ([4], []))).val =
  bif decide ((↑k : Int) < (↑(List.length a) : Int)) then Option.bind (unenc (List.map eStr) (List.map eStr a)) fun (z : List ByteArray) => bif decide (k < List.length z)
  then Option.bind (unenc (List.map eStr) (List.map eStr b)) fun (z_1 : List ByteArray) => bif decide (k < List.length z_1) then bif !ByteArray.toList (List.getD z k
  (ByteArray.mk (Array.mk []))) == ByteArray.toList (List.getD z_1 k (ByteArray.mk (Array.mk []))) then some (Ex.ret, St.mk [(4, (vB false))] []) else some (Ex.normal, St.mk
  [(13, (vI (IntKind.wrap IntKind.i64 ((↑k : Int) + (1 : Int))))), (12, (vI (↑(List.length a) : Int))), (1, AV.sl (List.map eStr b)), (0, AV.sl (List.map eStr a))] []) else
  none else none else some (Ex.exit (0 : Nat), St.mk [] []) := by kernel_rfl

theorem lpEqS_ok (a : List ByteArray) (b : List ByteArray) (k : Nat) (hp : prlEqS a b k = true) : ∀ ex s', (outEqS a b k).val = some (ex, s') → LoopOK enEqS (loopN Tryz.f91 0) (stEqS a b k) ex s' := by
  simp only [prlEqS, Bool.and_eq_true, decide_eq_true_eq] at hp
  obtain ⟨⟨h1, h2⟩, h3⟩ := hp
  have hz : (a.zip b).length = a.length := by rw [List.length_zip]; omega
  refine loop_all (xs := a.zip b) (st := stEqS a b) (p := fun p => F.seq p.1 p.2) (n := ([13, 12, 1, 0], [])) (e := ([], [])) (r := ([4], [])) ?_ ⟨by simp, rfl⟩ ⟨by simp, rfl⟩ (fun _ => rfl) ?_ k (by omega)
  · rw [hz]; rw [evEqSL]; simp
  · intro k y hy
    obtain ⟨ha, hb⟩ := F.zip_at hy
    have hlt := lt_at ha
    have hlt' := lt_at hb
    rw [evEqSL]
    simp only [unstEqS, unstEqS0, prlEqS, outEqS, etaEnt, etaLst, Option.bind_some, List.length_map, unStrs, unInts, unBools, unEnts, unItms, unTrns, cond_true, cond_false, Bool.and_true, Bool.true_and, cast_lt hlt, decide_eq_true hlt, decide_eq_true hlt', next_at hlt h1, getD_at ha, getD_at hb, stEqS, F.seq, bne]
    cases (y.1.toList == y.2.toList) <;> rfl

theorem evEqS (a : List ByteArray) (b : List ByteArray) : (runF enEqS false Tryz.f91 [.sl (a.map eStr), .sl (b.map eStr)]).val =
  bif (↑(List.length (List.map eStr a)) : Int) != (↑(List.length (List.map eStr b)) : Int) then some ((vB false), []) else Option.bind (unenc stEqS1 (St.mk [(13, (vI (0 :
  Int))), (12, (vI (↑(List.length (List.map eStr a)) : Int))), (1, AV.sl (List.map eStr b)), (0, AV.sl (List.map eStr a))] [])) fun (z : List ByteArray × List ByteArray ×
  Nat) => bif decide (List.length z.fst ≤ (9223372036854775807 : Nat)) && decide (z.snd.snd ≤ List.length z.fst) && decide (List.length z.fst = List.length z.snd.fst) &&
  true then bif F.sameSs (List.drop z.snd.snd (List.zip z.fst z.snd.fst)) then some ((vB true), []) else some ((vB false), []) else none := by kernel_rfl

def encEqS1 (a : List ByteArray) (b : List ByteArray) : List AV := [.sl (a.map eStr), .sl (b.map eStr)]

def encEqS (a : (List ByteArray) × (List ByteArray)) : List AV := encEqS1 a.1 a.2

theorem encEqS_inj (a a' : (List ByteArray) × (List ByteArray)) (h : encEqS a = encEqS a') : a = a' := by
  simp only [encEqS, encEqS1] at h
  try simp [strs_inj, ents_inj, eEnt_iff, eLst_iff, ints_inj, eTrn_iff] at h
  grind

theorem unEqS (a : List ByteArray) (b : List ByteArray) : unenc encEqS ([AV.sl (List.map eStr a), AV.sl (List.map eStr b)]) = some (a, b) := unenc_of encEqS_inj (a, b) rfl

def resEqS1 (a : List ByteArray) (b : List ByteArray) : AV × Heap := (vB (F.sameSL a b), [])

def preEqS1 (a : List ByteArray) (b : List ByteArray) : Bool := true

noncomputable def oEqS : Orc := orc 91 true encEqS (fun a => preEqS1 a.1 a.2) fun a => resEqS1 a.1 a.2

theorem okEqS : OrcOK Tryz.prog noG oEqS := by
  refine mk_ok Tryz.f91 (keep := false) (by kernel_rfl) (by kernel_rfl) enEqS_ok mixed (one_loop (x0 := loopN Tryz.f91 0) (by kernel_rfl) (lpo_ok ?_)) (by first | exact fun _ _ => ⟨rfl, rfl⟩ | (intro h; cases h)) ?_
  · rintro ⟨a, b, k⟩ hp
    exact lpEqS_ok a b k hp
  rintro ⟨a, b⟩ hpre hok
  show (runF enEqS false _ (encEqS1 _ _)).val = some (resEqS1 _ _)
  unfold encEqS1 resEqS1
  rw [evEqS]
  have hx : a.length ≤ 9223372036854775807 := by simpa using (okA_sl (hok _ (List.mem_cons_self ..))).1
  simp only [unstEqS, unstEqS0, prlEqS, outEqS, etaEnt, etaLst, Option.bind_some, List.length_map, unStrs, unInts, unBools, unEnts, unItms, unTrns, cond_true, cond_false, Bool.and_true, Bool.true_and, F.sameSL, hx, List.drop_zero, Nat.zero_le, decide_true, F.len_eq, bne]
  cases decide (a.length = b.length) <;> cases F.sameSs (a.zip b) <;> rfl

noncomputable def enLsE : Env := envH ty noG lks [oEqS] [] [] []

theorem enLsE_ok : EnvOK Tryz.prog enLsE := by
  refine envH_ok lks_ok ty_ok ?_ ?_
  · simp only [List.forall_mem_cons]
    exact ⟨okEqS, by simp⟩
  · simp

theorem evLsE (a : Ent) (b : Ent) : (runF enLsE false Tryz.f68 [.agg (eEnt a), .agg (eEnt b)]).val =
  bif bif bif bif bif bif ByteArray.toList a.uri == ByteArray.toList b.uri then a.milli == b.milli else false then a.brk == b.brk else false then a.date == b.date else false
  then ByteArray.toList a.key == ByteArray.toList b.key else false then a.gap == b.gap else false then Option.bind (unenc encEqS [AV.sl (List.map eStr a.extra), AV.sl
  (List.map eStr b.extra)]) fun (z : List ByteArray × List ByteArray) => some ((vB (bif bif bif bif bif bif ByteArray.toList a.uri == ByteArray.toList b.uri then a.milli ==
  b.milli else false then a.brk == b.brk else false then a.date == b.date else false then ByteArray.toList a.key == ByteArray.toList b.key else false then a.gap == b.gap
  else false then F.sameSL z.fst z.snd else false)), []) else some ((vB false), []) := by kernel_rfl

def encLsE1 (a : Ent) (b : Ent) : List AV := [.agg (eEnt a), .agg (eEnt b)]

def encLsE (a : Ent × Ent) : List AV := encLsE1 a.1 a.2

theorem encLsE_inj (a a' : Ent × Ent) (h : encLsE a = encLsE a') : a = a' := by
  simp only [encLsE, encLsE1] at h
  try simp [strs_inj, ents_inj, eEnt_iff, eLst_iff, ints_inj, eTrn_iff] at h
  grind

theorem unLsE (a : Ent) (b : Ent) : unenc encLsE ([AV.agg [(vS a.uri), (vI a.milli), (vB a.brk), (vI a.date), (vS a.key), (vB a.gap), AV.sl (List.map eStr a.extra)], AV.agg [(vS b.uri), (vI b.milli), (vB b.brk), (vI
  b.date), (vS b.key), (vB b.gap), AV.sl (List.map eStr b.extra)]]) = some (a, b) := unenc_of encLsE_inj (a, b) rfl

theorem unLsEw (a_uri : ByteArray) (a_milli : Int) (a_brk : Bool) (a_date : Int) (a_key : ByteArray) (a_gap : Bool) (a_extra : List ByteArray) (b_uri : ByteArray) (b_milli : Int) (b_brk : Bool) (b_date : Int) (b_key : ByteArray) (b_gap : Bool) (b_extra : List ByteArray) : unenc encLsE ([AV.agg [(vS a_uri), (vI a_milli), (vB a_brk), (vI a_date), (vS a_key), (vB a_gap), AV.sl (List.map eStr a_extra)], AV.agg [(vS b_uri), (vI b_milli), (vB b_brk), (vI
  b_date), (vS b_key), (vB b_gap), AV.sl (List.map eStr b_extra)]]) = some ((Ent.mk a_uri a_milli a_brk a_date a_key a_gap a_extra), (Ent.mk b_uri b_milli b_brk b_date b_key b_gap b_extra)) := unenc_of encLsE_inj ((Ent.mk a_uri a_milli a_brk a_date a_key a_gap a_extra), (Ent.mk b_uri b_milli b_brk b_date b_key b_gap b_extra)) rfl

def resLsE1 (a : Ent) (b : Ent) : AV × Heap := (vB (F.sameE a b), [])

def preLsE1 (a : Ent) (b : Ent) : Bool := true

noncomputable def oLsE : Orc := orc 68 true encLsE (fun a => preLsE1 a.1 a.2) fun a => resLsE1 a.1 a.2

theorem okLsE : OrcOK Tryz.prog noG oLsE := by
  refine mk_ok Tryz.f68 (keep := false) (by kernel_rfl) (by kernel_rfl) enLsE_ok mixed (no_loops (by kernel_rfl)) (by first | exact fun _ _ => ⟨rfl, rfl⟩ | (intro h; cases h)) ?_
  rintro ⟨a, b⟩ hpre hok
  show (runF enLsE false _ (encLsE1 _ _)).val = some (resLsE1 _ _)
  unfold encLsE1 resLsE1
  rw [evLsE]
  simp only [unEqS, preEqS1, etaEnt, etaLst, Option.bind_some, List.length_map, unStrs, unInts, unBools, unEnts, unItms, unTrns, cond_true, cond_false, Bool.and_true, Bool.true_and, F.sameE, F.seq, F.sameSL, Bool.and_assoc]
  cases a.uri.toList == b.uri.toList <;> cases a.milli == b.milli <;> cases a.brk == b.brk <;> cases a.date == b.date <;> cases a.key.toList == b.key.toList <;> cases a.gap == b.gap <;> rfl

def stEqE (a : List Ent) (b : List Ent) (k : Nat) : St := ⟨[(17, vI k), (16, vI a.length), (15, .sl (a.map eEnt)), (2, .fn 68 []), (1, .sl (b.map eEnt))], []⟩

def stEqE1 (a : (List Ent) × (List Ent) × Nat) : St := stEqE a.1 a.2.1 a.2.2

theorem stEqE_inj (a a' : (List Ent) × (List Ent) × Nat) (h : stEqE1 a = stEqE1 a') : a = a' := by
  simp only [stEqE1, stEqE] at h
  try simp [strs_inj, ents_inj, eEnt_iff, eLst_iff, ints_inj, eTrn_iff] at h
  grind

theorem unstEqE (a : List Ent) (b : List Ent) (k : Nat) : unenc stEqE1 (St.mk [(17, (vI (↑k : Int))), (16, (vI (↑(List.length a) : Int))), (15, AV.sl (List.map eEnt a)), (2, AV.fn (68 : FuncId) []), (1, AV.sl (List.map eEnt b))] []) = some (a, b, k) := unenc_of stEqE_inj (a, b, k) rfl

theorem unstEqE0 (a : List Ent) (b : List Ent)  : unenc stEqE1 (St.mk [(17, (vI (0 : Int))), (16, (vI (↑(List.length a) : Int))), (15, AV.sl (List.map eEnt a)), (2, AV.fn (68 : FuncId) []), (1, AV.sl (List.map eEnt b))] []) = some (a, b, 0) := unenc_of stEqE_inj (a, b, 0) rfl

def outEqE (a : List Ent) (b : List Ent) (k : Nat) : T (Ex × St) := .ifB (F.sameEs ((a.zip b).drop k)) (.ret (.exit 0, ⟨[], []⟩)) (.ret (.ret, ⟨[(6, vB false)], []⟩))

noncomputable def prlEqE (a : List Ent) (b : List Ent) (k : Nat) : Bool := decide (a.length ≤ 9223372036854775807) && decide (k ≤ a.length) && decide (a.length = b.length)

noncomputable def lpEqE : Nat × (St → T (Ex × St)) := (4, lpo [17, 16, 15, 2, 1] [] stEqE1 (fun a => prlEqE a.1 a.2.1 a.2.2) fun a => outEqE a.1 a.2.1 a.2.2)

noncomputable def enEqE : Env := envH ty noG lks [oLsE] [] [] [lpEqE]

theorem enEqE_ok : EnvOK Tryz.prog enEqE := by
  refine envH_ok lks_ok ty_ok ?_ ?_
  · simp only [List.forall_mem_cons]
    exact ⟨okLsE, by simp⟩
  · simp

theorem evEqEL (a : List Ent) (b : List Ent) (k : Nat) : ((exec enEqE (loopN Tryz.f90 0) (stEqE a b k)).bind (lessX ([17, 16, 15, 2, 1], []) ([], []) ([6], []))).val =
  (fun (q : Ent) => bif decide ((↑k : Int) < (↑(List.length a) : Int)) then Option.bind (unenc (List.map eEnt) (List.map eEnt a)) fun (z : List Ent) => bif decide (k <
  List.length z) then Option.bind (unenc (List.map eEnt) (List.map eEnt b)) fun (z_1 : List Ent) => bif decide (k < List.length z_1) then Option.bind (unenc encLsE [AV.agg
  [(vS (List.getD z k q).uri), (vI (List.getD z k q).milli), (vB (List.getD z k q).brk), (vI (List.getD z k q).date), (vS (List.getD z k q).key), (vB (List.getD z k q).gap),
  AV.sl (List.map eStr (List.getD z k q).extra)], AV.agg [(vS (List.getD z_1 k q).uri), (vI (List.getD z_1 k q).milli), (vB (List.getD z_1 k q).brk), (vI (List.getD z_1 k
  q).date), (vS (List.getD z_1 k q).key), (vB (List.getD z_1 k q).gap), AV.sl (List.map eStr (List.getD z_1 k q).extra)]]) fun (z : Ent × Ent) => bif !F.sameE z.fst z.snd
  then some (Ex.ret, St.mk [(6, (vB false))] []) else some (Ex.normal, St.mk [(17, (vI (IntKind.wrap IntKind.i64 ((↑k : Int) + (1 : Int))))), (16, (vI (↑(List.length a) :
  Int))), (15, AV.sl (List.map eEnt a)), (2, AV.fn (68 : FuncId) []), (1, AV.sl (List.map eEnt b))] []) else none else none else some (Ex.exit (0 : Nat), St.mk [] []))
  (Ent.mk (ByteArray.mk (Array.mk [])) (0 : Int) false (0 : Int) (ByteArray.mk (Array.mk [])) false []) := by kernel_rfl

theorem lpEqE_ok (a : List Ent) (b : List Ent) (k : Nat) (hp : prlEqE a b k = true) : ∀ ex s', (outEqE a b k).val = some (ex, s') → LoopOK enEqE (loopN Tryz.f90 0) (stEqE a b k) ex s' := by
  simp only [prlEqE, Bool.and_eq_true, decide_eq_true_eq] at hp
  obtain ⟨⟨h1, h2⟩, h3⟩ := hp
  have hz : (a.zip b).length = a.length := by rw [List.length_zip]; omega
  refine loop_all (xs := a.zip b) (st := stEqE a b) (p := fun p => F.sameE p.1 p.2) (n := ([17, 16, 15, 2, 1], [])) (e := ([], [])) (r := ([6], [])) ?_ ⟨by simp, rfl⟩ ⟨by simp, rfl⟩ (fun _ => rfl) ?_ k (by omega)
  · rw [hz]; rw [evEqEL]; simp
  · intro k y hy
    obtain ⟨ha, hb⟩ := F.zip_at hy
    have hlt := lt_at ha
    have hlt' := lt_at hb
    rw [evEqEL]
    simp only [unLsE, unLsEw, preLsE1, unstEqE, unstEqE0, prlEqE, outEqE, etaEnt, etaLst, Option.bind_some, List.length_map, unStrs, unInts, unBools, unEnts, unItms, unTrns, cond_true, cond_false, Bool.and_true, Bool.true_and, cast_lt hlt, decide_eq_true hlt, decide_eq_true hlt', next_at hlt h1, getD_at ha, getD_at hb, stEqE]
    cases F.sameE y.1 y.2 <;> rfl

theorem evEqE (a : List Ent) (b : List Ent) : (runF enEqE false Tryz.f90 [.sl (a.map eEnt), .sl (b.map eEnt), .fn 68 []]).val =
  bif (↑(List.length (List.map eEnt a)) : Int) != (↑(List.length (List.map eEnt b)) : Int) then some ((vB false), []) else Option.bind (unenc stEqE1 (St.mk [(17, (vI (0 :
  Int))), (16, (vI (↑(List.length (List.map eEnt a)) : Int))), (15, AV.sl (List.map eEnt a)), (2, AV.fn (68 : FuncId) []), (1, AV.sl (List.map eEnt b))] [])) fun (z : List
  Ent × List Ent × Nat) => bif decide (List.length z.fst ≤ (9223372036854775807 : Nat)) && decide (z.snd.snd ≤ List.length z.fst) && decide (List.length z.fst = List.length
  z.snd.fst) && true then bif F.sameEs (List.drop z.snd.snd (List.zip z.fst z.snd.fst)) then some ((vB true), []) else some ((vB false), []) else none := by kernel_rfl

def encEqE1 (a : List Ent) (b : List Ent) : List AV := [.sl (a.map eEnt), .sl (b.map eEnt), .fn 68 []]

def encEqE (a : (List Ent) × (List Ent)) : List AV := encEqE1 a.1 a.2

theorem encEqE_inj (a a' : (List Ent) × (List Ent)) (h : encEqE a = encEqE a') : a = a' := by
  simp only [encEqE, encEqE1] at h
  try simp [strs_inj, ents_inj, eEnt_iff, eLst_iff, ints_inj, eTrn_iff] at h
  grind

theorem unEqE (a : List Ent) (b : List Ent) : unenc encEqE ([AV.sl (List.map eEnt a), AV.sl (List.map eEnt b), AV.fn (68 : FuncId) []]) = some (a, b) := unenc_of encEqE_inj (a, b) rfl

def resEqE1 (a : List Ent) (b : List Ent) : AV × Heap := (vB (F.sameEL a b), [])

def preEqE1 (a : List Ent) (b : List Ent) : Bool := true

noncomputable def oEqE : Orc := orc 90 true encEqE (fun a => preEqE1 a.1 a.2) fun a => resEqE1 a.1 a.2

theorem okEqE : OrcOK Tryz.prog noG oEqE := by
  refine mk_ok Tryz.f90 (keep := false) (by kernel_rfl) (by kernel_rfl) enEqE_ok mixed (one_loop (x0 := loopN Tryz.f90 0) (by kernel_rfl) (lpo_ok ?_)) (by first | exact fun _ _ => ⟨rfl, rfl⟩ | (intro h; cases h)) ?_
  · rintro ⟨a, b, k⟩ hp
    exact lpEqE_ok a b k hp
  rintro ⟨a, b⟩ hpre hok
  show (runF enEqE false _ (encEqE1 _ _)).val = some (resEqE1 _ _)
  unfold encEqE1 resEqE1
  rw [evEqE]
  have hx : a.length ≤ 9223372036854775807 := by simpa using (okA_sl (hok _ (List.mem_cons_self ..))).1
  simp only [unLsE, unLsEw, preLsE1, unstEqE, unstEqE0, prlEqE, outEqE, etaEnt, etaLst, Option.bind_some, List.length_map, unStrs, unInts, unBools, unEnts, unItms, unTrns, cond_true, cond_false, Bool.and_true, Bool.true_and, F.sameEL, hx, List.drop_zero, Nat.zero_le, decide_true, F.len_eq, bne]
  cases decide (a.length = b.length) <;> cases F.sameEs (a.zip b) <;> rfl

noncomputable def enLsL : Env := envH ty noG lks [oEqE] [] [] []

theorem enLsL_ok : EnvOK Tryz.prog enLsL := by
  refine envH_ok lks_ok ty_ok ?_ ?_
  · simp only [List.forall_mem_cons]
    exact ⟨okEqE, by simp⟩
  · simp

theorem evLsL (a : Lst) (b : Lst) : (runF enLsL false Tryz.f66 [.agg (eLst a), .agg (eLst b)]).val =
  bif bif bif bif a.target == b.target then a.first == b.first else false then a.breaks == b.breaks else false then a.ended == b.ended else false then Option.bind (unenc
  encEqE [AV.sl (List.map eEnt a.entries), AV.sl (List.map eEnt b.entries), AV.fn (68 : Nat) []]) fun (z : List Ent × List Ent) => some ((vB (bif bif bif bif a.target ==
  b.target then a.first == b.first else false then a.breaks == b.breaks else false then a.ended == b.ended else false then F.sameEL z.fst z.snd else false)), []) else some
  ((vB false), []) := by kernel_rfl

def encLsL1 (a : Lst) (b : Lst) : List AV := [.agg (eLst a), .agg (eLst b)]

def encLsL (a : Lst × Lst) : List AV := encLsL1 a.1 a.2

theorem encLsL_inj (a a' : Lst × Lst) (h : encLsL a = encLsL a') : a = a' := by
  simp only [encLsL, encLsL1] at h
  try simp [strs_inj, ents_inj, eEnt_iff, eLst_iff, ints_inj, eTrn_iff] at h
  grind

theorem unLsL (a : Lst) (b : Lst) : unenc encLsL ([AV.agg [(vI a.target), (vI a.first), (vI a.breaks), AV.sl (List.map eEnt a.entries), (vB a.ended)], AV.agg [(vI b.target), (vI b.first), (vI b.breaks), AV.sl (List.map
  eEnt b.entries), (vB b.ended)]]) = some (a, b) := unenc_of encLsL_inj (a, b) rfl

theorem unLsLw (a_target : Int) (a_first : Int) (a_breaks : Int) (a_entries : List Ent) (a_ended : Bool) (b_target : Int) (b_first : Int) (b_breaks : Int) (b_entries : List Ent) (b_ended : Bool) : unenc encLsL ([AV.agg [(vI a_target), (vI a_first), (vI a_breaks), AV.sl (List.map eEnt a_entries), (vB a_ended)], AV.agg [(vI b_target), (vI b_first), (vI b_breaks), AV.sl (List.map
  eEnt b_entries), (vB b_ended)]]) = some ((Lst.mk a_target a_first a_breaks a_entries a_ended), (Lst.mk b_target b_first b_breaks b_entries b_ended)) := unenc_of encLsL_inj ((Lst.mk a_target a_first a_breaks a_entries a_ended), (Lst.mk b_target b_first b_breaks b_entries b_ended)) rfl

def resLsL1 (a : Lst) (b : Lst) : AV × Heap := (vB (F.sameL a b), [])

def preLsL1 (a : Lst) (b : Lst) : Bool := true

noncomputable def oLsL : Orc := orc 66 true encLsL (fun a => preLsL1 a.1 a.2) fun a => resLsL1 a.1 a.2

theorem okLsL : OrcOK Tryz.prog noG oLsL := by
  refine mk_ok Tryz.f66 (keep := false) (by kernel_rfl) (by kernel_rfl) enLsL_ok mixed (no_loops (by kernel_rfl)) (by first | exact fun _ _ => ⟨rfl, rfl⟩ | (intro h; cases h)) ?_
  rintro ⟨a, b⟩ hpre hok
  show (runF enLsL false _ (encLsL1 _ _)).val = some (resLsL1 _ _)
  unfold encLsL1 resLsL1
  rw [evLsL]
  simp only [unEqE, preEqE1, etaEnt, etaLst, Option.bind_some, List.length_map, unStrs, unInts, unBools, unEnts, unItms, unTrns, cond_true, cond_false, Bool.and_true, Bool.true_and, F.sameL, F.sameEL, Bool.and_assoc]
  cases a.target == b.target <;> cases a.first == b.first <;> cases a.breaks == b.breaks <;> cases a.ended == b.ended <;> rfl

def stBns (es : List Ent) (b : Int) (acc : List Int) (k : Nat) : St := ⟨[(12, vI k), (11, vI es.length), (10, .sl (es.map eEnt)), (4, .own 4), (3, vI b)], [(4, ⟨false, 3, 1, acc.map eI⟩)]⟩

def stBns1 (a : (List Ent) × Int × (List Int) × Nat) : St := stBns a.1 a.2.1 a.2.2.1 a.2.2.2

theorem stBns_inj (a a' : (List Ent) × Int × (List Int) × Nat) (h : stBns1 a = stBns1 a') : a = a' := by
  simp only [stBns1, stBns] at h
  try simp [strs_inj, ents_inj, eEnt_iff, eLst_iff, ints_inj, eTrn_iff] at h
  grind

theorem unstBns (es : List Ent) (b : Int) (acc : List Int) (k : Nat) : unenc stBns1 (St.mk [(12, (vI (↑k : Int))), (11, (vI (↑(List.length es) : Int))), (10, AV.sl (List.map eEnt es)), (4, .own 4), (3, (vI b))] [(4, Blk.mk false 3 1 (List.map eI acc))]) = some (es, b, acc, k) := unenc_of stBns_inj (es, b, acc, k) rfl

theorem unstBns0 (es : List Ent) (b : Int)  : unenc stBns1 (St.mk [(12, (vI (0 : Int))), (11, (vI (↑(List.length es) : Int))), (10, AV.sl (List.map eEnt es)), (4, .own 4), (3, (vI b))] [(4, Blk.mk false 3 1 [])]) = some (es, b, [], 0) := unenc_of stBns_inj (es, b, [], 0) rfl

def outBns (es : List Ent) (b : Int) (acc : List Int) (k : Nat) : T (Ex × St) := .ret (.exit 0, ⟨[(4, .own 4)], [(4, ⟨false, 3, 1, (F.bnA b acc (es.drop k)).map eI⟩)]⟩)

noncomputable def prlBns (es : List Ent) (b : Int) (acc : List Int) (k : Nat) : Bool := decide (es.length ≤ 100000) && decide (k ≤ es.length) && decide (acc.length ≤ k)

noncomputable def lpBns : Nat × (St → T (Ex × St)) := (4, lpo [12, 11, 10, 4, 3] [4] stBns1 (fun a => prlBns a.1 a.2.1 a.2.2.1 a.2.2.2) fun a => outBns a.1 a.2.1 a.2.2.1 a.2.2.2)

noncomputable def enBns : Env := envH ty noG lks [] [] [] [lpBns]

theorem enBns_ok : EnvOK Tryz.prog enBns := by
  refine envH_ok lks_ok ty_ok ?_ ?_
  · simp
  · simp

theorem appInts (xs : List Int) (n : Int) : xs.map eI ++ [[vI n]] = (xs ++ [n]).map eI := by simp [eI]

theorem evBnsL (es : List Ent) (b : Int) (acc : List Int) (k : Nat) : ((exec enBns (loopN Tryz.f67 0) (stBns es b acc k)).bind (lessX ([12, 11, 10, 4, 3], [4]) ([4], [4]) ([], []))).val =
  bif decide ((↑k : Int) < (↑(List.length es) : Int)) then Option.bind (unenc (List.map eEnt) (List.map eEnt es)) fun (z : List Ent) => bif decide (k < List.length z) then
  bif (List.getD z k (Ent.mk (ByteArray.mk (Array.mk [])) (0 : Int) false (0 : Int) (ByteArray.mk (Array.mk [])) false [])).brk then bif Nat.ble ((List.length (List.map eI
  acc) + (1 : Nat)) * (8 : Nat)) (140737488355328 : Nat) && true then some (Ex.normal, St.mk [(12, (vI (IntKind.wrap IntKind.i64 ((↑k : Int) + (1 : Int))))), (11, (vI
  (↑(List.length es) : Int))), (10, AV.sl (List.map eEnt es)), (4, .own 4), (3, (vI (IntKind.wrap IntKind.i64 (b + (1 : Int)))))] [(4, Blk.mk false 3 1 (List.map eI acc ++
  [[(vI (IntKind.wrap IntKind.i64 (b + (1 : Int))))]]))]) else none else bif Nat.ble ((List.length (List.map eI acc) + (1 : Nat)) * (8 : Nat)) (140737488355328 : Nat) &&
  true then some (Ex.normal, St.mk [(12, (vI (IntKind.wrap IntKind.i64 ((↑k : Int) + (1 : Int))))), (11, (vI (↑(List.length es) : Int))), (10, AV.sl (List.map eEnt es)), (4,
  .own 4), (3, (vI b))] [(4, Blk.mk false 3 1 (List.map eI acc ++ [[(vI b)]]))]) else none else none else some (Ex.exit (0 : Nat), St.mk [(4, .own 4)] [(4, Blk.mk false 3 1
  (List.map eI acc))]) := by kernel_rfl

theorem lpBns_ok (es : List Ent) (b : Int) (acc : List Int) (k : Nat) (hp : prlBns es b acc k = true) : ∀ ex s', (outBns es b acc k).val = some (ex, s') → LoopOK enBns (loopN Tryz.f67 0) (stBns es b acc k) ex s' := by
  simp only [prlBns, Bool.and_eq_true, decide_eq_true_eq] at hp
  obtain ⟨⟨h1, h2⟩, h3⟩ := hp
  refine loop_fold (xs := es) (st := fun a k => stBns es a.1 a.2 k) (f := F.bnS) (fin := fun a => (.exit 0, ⟨[(4, .own 4)], [(4, ⟨false, 3, 1, a.2.map eI⟩)]⟩)) (I := fun a k => a.2.length ≤ k) (n := ([12, 11, 10, 4, 3], [4])) (e := ([4], [4])) (r := ([], [])) ?_ (fun _ => ⟨by simp, rfl⟩) (fun _ _ => rfl) ?_ (b, acc) k h2 h3
  · rintro ⟨b, acc⟩ _
    rw [evBnsL]; simp
  · rintro ⟨b, acc⟩ k y hy hI
    simp only at hI
    have hlt := lt_at hy
    have hroom : Nat.ble ((acc.length + 1) * 8) 140737488355328 = true := ble_t (by omega)
    refine ⟨?_, ?_⟩
    · rw [evBnsL]
      simp only [unstBns, unstBns0, prlBns, outBns, etaEnt, etaLst, Option.bind_some, List.length_map, unStrs, unInts, unBools, unEnts, unItms, unTrns, cond_true, cond_false, Bool.and_true, Bool.true_and, cast_lt hlt, decide_eq_true hlt, next_at hlt (by omega : es.length ≤ 9223372036854775807), getD_at hy, stBns, hroom, F.bnS, appInts]
      cases y.brk <;> rfl
    · simp only [F.bnS]
      cases y.brk <;> simp <;> omega

theorem evBns (l : Lst) : (runF enBns false Tryz.f67 [.agg (eLst l)]).val =
  Option.bind (unenc stBns1 (St.mk [(12, (vI (0 : Int))), (11, (vI (↑(List.length (List.map eEnt l.entries)) : Int))), (10, AV.sl (List.map eEnt l.entries)), (4, .own 4),
  (3, (vI l.breaks))] [(4, Blk.mk false 3 1 [])])) fun (z : List Ent × Int × List Int × Nat) => bif decide (List.length z.fst ≤ (100000 : Nat)) && decide (z.snd.snd.snd ≤
  List.length z.fst) && decide (List.length z.snd.snd.fst ≤ z.snd.snd.snd) && true then some (AV.sl (List.map eI (F.bnA z.snd.fst z.snd.snd.fst (List.drop z.snd.snd.snd
  z.fst))), []) else none := by kernel_rfl

def encBns1 (l : Lst) : List AV := [.agg (eLst l)]

def encBns (a : Lst) : List AV := encBns1 a

theorem encBns_inj (a a' : Lst) (h : encBns a = encBns a') : a = a' := by
  simp only [encBns, encBns1] at h
  try simp [strs_inj, ents_inj, eEnt_iff, eLst_iff, ints_inj, eTrn_iff] at h
  grind

theorem unBns (l : Lst) : unenc encBns ([AV.agg [(vI l.target), (vI l.first), (vI l.breaks), AV.sl (List.map eEnt l.entries), (vB l.ended)]]) = some (l) := unenc_of encBns_inj (l) rfl

theorem unBnsw (l_target : Int) (l_first : Int) (l_breaks : Int) (l_entries : List Ent) (l_ended : Bool) : unenc encBns ([AV.agg [(vI l_target), (vI l_first), (vI l_breaks), AV.sl (List.map eEnt l_entries), (vB l_ended)]]) = some ((Lst.mk l_target l_first l_breaks l_entries l_ended)) := unenc_of encBns_inj ((Lst.mk l_target l_first l_breaks l_entries l_ended)) rfl

def resBns1 (l : Lst) : AV × Heap := (.sl ((F.bn l).map eI), [])

def preBns1 (l : Lst) : Bool := decide (l.entries.length ≤ 100000)

noncomputable def oBns : Orc := orc 67 false encBns (fun a => preBns1 a) fun a => resBns1 a

theorem okBns : OrcOK Tryz.prog noG oBns := by
  refine mk_ok Tryz.f67 (keep := false) (by kernel_rfl) (by kernel_rfl) enBns_ok mixed (one_loop (x0 := loopN Tryz.f67 0) (by kernel_rfl) (lpo_ok ?_)) (by first | exact fun _ _ => ⟨rfl, rfl⟩ | (intro h; cases h)) ?_
  · rintro ⟨es, b, acc, k⟩ hp
    exact lpBns_ok es b acc k hp
  rintro l hpre hok
  show (runF enBns false _ (encBns1 _)).val = some (resBns1 _)
  unfold encBns1 resBns1
  rw [evBns]
  simp only [preBns1, decide_eq_true_eq] at hpre
  simp only [unstBns, unstBns0, prlBns, outBns, etaEnt, etaLst, Option.bind_some, List.length_map, unStrs, unInts, unBools, unEnts, unItms, unTrns, cond_true, cond_false, Bool.and_true, Bool.true_and, List.drop_zero, Nat.zero_le, decide_true, F.bn, List.length_nil, List.map_nil, hpre]

def stFst (l : List Int) (k : Nat) : St := ⟨[(7, vI k), (6, vI l.length), (5, .sl (l.map eI))], []⟩

def stFst1 (a : (List Int) × Nat) : St := stFst a.1 a.2

theorem stFst_inj (a a' : (List Int) × Nat) (h : stFst1 a = stFst1 a') : a = a' := by
  simp only [stFst1, stFst] at h
  try simp [strs_inj, ents_inj, eEnt_iff, eLst_iff, ints_inj, eTrn_iff] at h
  grind

theorem unstFst (l : List Int) (k : Nat) : unenc stFst1 (St.mk [(7, (vI (↑k : Int))), (6, (vI (↑(List.length l) : Int))), (5, AV.sl (List.map eI l))] []) = some (l, k) := unenc_of stFst_inj (l, k) rfl

theorem unstFst0 (l : List Int)  : unenc stFst1 (St.mk [(7, (vI (0 : Int))), (6, (vI (↑(List.length l) : Int))), (5, AV.sl (List.map eI l))] []) = some (l, 0) := unenc_of stFst_inj (l, 0) rfl

def outFst (l : List Int) (k : Nat) : T (Ex × St) := .ifB (decide (M.ffI id (l.drop k) = 0)) (.ret (.exit 0, ⟨[], []⟩)) (.ret (.ret, ⟨[(2, vI (M.ffI id (l.drop k)))], []⟩))

noncomputable def prlFst (l : List Int) (k : Nat) : Bool := decide (l.length ≤ 9223372036854775807) && decide (k ≤ l.length)

noncomputable def lpFst : Nat × (St → T (Ex × St)) := (2, lpo [7, 6, 5] [] stFst1 (fun a => prlFst a.1 a.2) fun a => outFst a.1 a.2)

noncomputable def enFst : Env := envH ty noG lks [] [] [] [lpFst]

theorem enFst_ok : EnvOK Tryz.prog enFst := by
  refine envH_ok lks_ok ty_ok ?_ ?_
  · simp
  · simp

theorem evFstL (l : List Int) (k : Nat) : ((exec enFst (loopN Tryz.f40 0) (stFst l k)).bind (lessX ([7, 6, 5], []) ([], []) ([2], []))).val =
  bif decide ((↑k : Int) < (↑(List.length l) : Int)) then Option.bind (unenc (List.map eI) (List.map eI l)) fun (z : List Int) => bif decide (k < List.length z) then bif
  List.getD z k (0 : Int) != (0 : Int) then some (Ex.ret, St.mk [(2, (vI (List.getD z k (0 : Int))))] []) else some (Ex.normal, St.mk [(7, (vI (IntKind.wrap IntKind.i64 ((↑k
  : Int) + (1 : Int))))), (6, (vI (↑(List.length l) : Int))), (5, AV.sl (List.map eI l))] []) else none else some (Ex.exit (0 : Nat), St.mk [] []) := by kernel_rfl

theorem lpFst_ok (l : List Int) (k : Nat) (hp : prlFst l k = true) : ∀ ex s', (outFst l k).val = some (ex, s') → LoopOK enFst (loopN Tryz.f40 0) (stFst l k) ex s' := by
  simp only [prlFst, Bool.and_eq_true, decide_eq_true_eq] at hp
  refine loop_code (xs := l) (st := stFst l) (g := id) (o := fun c => (.ret, ⟨[(2, vI c)], []⟩)) (n := ([7, 6, 5], [])) (e := ([], [])) (r := ([2], [])) ?_ ⟨by simp, rfl⟩ (fun _ => ⟨by simp, rfl⟩) (fun _ => rfl) ?_ k hp.2
  · rw [evFstL]; simp
  · intro k y hy
    have hlt := lt_at hy
    rw [evFstL]
    simp only [unstFst, unstFst0, prlFst, outFst, etaEnt, etaLst, Option.bind_some, List.length_map, unStrs, unInts, unBools, unEnts, unItms, unTrns, cond_true, cond_false, Bool.and_true, Bool.true_and, cast_lt hlt, decide_eq_true hlt, next_at hlt hp.1, getD_at hy, stFst]
    by_cases h : y = 0
    · subst h; rfl
    · have hb : (y != 0) = true := by simp [h]
      simp only [hb, cond_true, id, h, if_false]

theorem evFst (l : List Int) : (runF enFst false Tryz.f40 [.sl (l.map eI)]).val =
  Option.bind (unenc stFst1 (St.mk [(7, (vI (0 : Int))), (6, (vI (↑(List.length (List.map eI l)) : Int))), (5, AV.sl (List.map eI l))] [])) fun (z : List Int × Nat) => bif
  decide (List.length z.fst ≤ (9223372036854775807 : Nat)) && decide (z.snd ≤ List.length z.fst) && true then bif decide (ffI id (List.drop z.snd z.fst) = (0 : Int)) then
  some ((vI (0 : Int)), []) else some ((vI (ffI id (List.drop z.snd z.fst))), []) else none := by kernel_rfl

def encFst1 (l : List Int) : List AV := [.sl (l.map eI)]

def encFst (a : (List Int)) : List AV := encFst1 a

theorem encFst_inj (a a' : (List Int)) (h : encFst a = encFst a') : a = a' := by
  simp only [encFst, encFst1] at h
  try simp [strs_inj, ents_inj, eEnt_iff, eLst_iff, ints_inj, eTrn_iff] at h
  grind

theorem unFst (l : List Int) : unenc encFst ([AV.sl (List.map eI l)]) = some (l) := unenc_of encFst_inj (l) rfl

def resFst1 (l : List Int) : AV × Heap := (vI (M.ffI id l), [])

def preFst1 (l : List Int) : Bool := true

noncomputable def oFst : Orc := orc 40 true encFst (fun a => preFst1 a) fun a => resFst1 a

theorem okFst : OrcOK Tryz.prog noG oFst := by
  refine mk_ok Tryz.f40 (keep := false) (by kernel_rfl) (by kernel_rfl) enFst_ok mixed (one_loop (x0 := loopN Tryz.f40 0) (by kernel_rfl) (lpo_ok ?_)) (by first | exact fun _ _ => ⟨rfl, rfl⟩ | (intro h; cases h)) ?_
  · rintro ⟨l, k⟩ hp
    exact lpFst_ok l k hp
  rintro l hpre hok
  show (runF enFst false _ (encFst1 _)).val = some (resFst1 _)
  unfold encFst1 resFst1
  rw [evFst]
  have hx : l.length ≤ 9223372036854775807 := by simpa using (okA_sl (hok _ (List.mem_cons_self ..))).1
  simp only [unstFst, unstFst0, prlFst, outFst, etaEnt, etaLst, Option.bind_some, List.length_map, unStrs, unInts, unBools, unEnts, unItms, unTrns, cond_true, cond_false, Bool.and_true, Bool.true_and, hx, List.drop_zero, Nat.zero_le, decide_true]
  by_cases h : M.ffI id l = 0 <;> simp [h]

noncomputable def enTrd : Env := envH ty noG lks [oAdd, oSld, oEnd] [] [] []

theorem enTrd_ok : EnvOK Tryz.prog enTrd := by
  refine envH_ok lks_ok ty_ok ?_ ?_
  · simp only [List.forall_mem_cons]
    exact ⟨okAdd, okSld, okEnd, by simp⟩
  · simp

theorem evTrd (l : Lst) (t : Trn) : (runF enTrd false Tryz.f23 [.agg (eLst l), .agg (eTrn t)]).val =
  (fun (q : AV) => (fun (q_1 : Option (AV × Heap)) => bif t.kind == (0 : Int) then Option.bind (unenc encAdd [q, AV.agg [(vS t.entry.uri), (vI t.entry.milli), (vB
  t.entry.brk), (vI t.entry.date), (vS t.entry.key), (vB t.entry.gap), AV.sl (List.map eStr t.entry.extra)]]) fun (z : Lst × Ent) => (fun (q : Lst) => bif decide
  (List.length z.snd.extra * (16 : Nat) ≤ (140737488355328 : Nat)) then bif (F.add z.fst z.snd).snd != (0 : Int) then q_1 else some (AV.agg [(vI q.target), (vI q.first), (vI
  q.breaks), AV.sl (List.map eEnt q.entries), (vB q.ended)], []) else none) (F.add z.fst z.snd).fst else bif t.kind == (1 : Int) then Option.bind (unenc encSld [q, (vI
  t.keep)]) fun (z : Lst × Int) => (fun (q : Lst) => bif (F.slide z.fst z.snd).snd.snd != (0 : Int) then q_1 else some (AV.agg [(vI q.target), (vI q.first), (vI q.breaks),
  AV.sl (List.map eEnt q.entries), (vB q.ended)], [])) (F.slide z.fst z.snd).fst else bif t.kind == (2 : Int) then Option.bind (unenc encEnd [q]) fun (z : Lst) => bif
  (F.endL z).snd != (0 : Int) then q_1 else some (AV.agg [(vI (F.endL z).fst.target), (vI (F.endL z).fst.first), (vI (F.endL z).fst.breaks), AV.sl (List.map eEnt (F.endL
  z).fst.entries), (vB (F.endL z).fst.ended)], []) else q_1) (some (q, []))) (AV.agg [(vI l.target), (vI l.first), (vI l.breaks), AV.sl (List.map eEnt l.entries), (vB
  l.ended)]) := by kernel_rfl

def encTrd1 (l : Lst) (t : Trn) : List AV := [.agg (eLst l), .agg (eTrn t)]

def encTrd (a : Lst × Trn) : List AV := encTrd1 a.1 a.2

theorem encTrd_inj (a a' : Lst × Trn) (h : encTrd a = encTrd a') : a = a' := by
  simp only [encTrd, encTrd1] at h
  try simp [strs_inj, ents_inj, eEnt_iff, eLst_iff, ints_inj, eTrn_iff] at h
  grind

theorem unTrd (l : Lst) (t : Trn) : unenc encTrd ([AV.agg [(vI l.target), (vI l.first), (vI l.breaks), AV.sl (List.map eEnt l.entries), (vB l.ended)], AV.agg [(vI t.kind), (vS t.entry.uri), (vI t.entry.milli), (vB
  t.entry.brk), (vI t.entry.date), (vS t.entry.key), (vB t.entry.gap), AV.sl (List.map eStr t.entry.extra), (vI t.keep)]]) = some (l, t) := unenc_of encTrd_inj (l, t) rfl

theorem unTrdw (l_target : Int) (l_first : Int) (l_breaks : Int) (l_entries : List Ent) (l_ended : Bool) (t : Trn) : unenc encTrd ([AV.agg [(vI l_target), (vI l_first), (vI l_breaks), AV.sl (List.map eEnt l_entries), (vB l_ended)], AV.agg [(vI t.kind), (vS t.entry.uri), (vI t.entry.milli), (vB
  t.entry.brk), (vI t.entry.date), (vS t.entry.key), (vB t.entry.gap), AV.sl (List.map eStr t.entry.extra), (vI t.keep)]]) = some ((Lst.mk l_target l_first l_breaks l_entries l_ended), t) := unenc_of encTrd_inj ((Lst.mk l_target l_first l_breaks l_entries l_ended), t) rfl

def resTrd1 (l : Lst) (t : Trn) : AV × Heap := (.agg (eLst (F.turned l t)), [])

def preTrd1 (l : Lst) (t : Trn) : Bool := decide (t.entry.extra.length * 16 ≤ 140737488355328)

noncomputable def oTrd : Orc := orc 23 false encTrd (fun a => preTrd1 a.1 a.2) fun a => resTrd1 a.1 a.2

theorem okTrd : OrcOK Tryz.prog noG oTrd := by
  refine mk_ok Tryz.f23 (keep := false) (by kernel_rfl) (by kernel_rfl) enTrd_ok mixed (no_loops (by kernel_rfl)) (by first | exact fun _ _ => ⟨rfl, rfl⟩ | (intro h; cases h)) ?_
  rintro ⟨l, t⟩ hpre hok
  show (runF enTrd false _ (encTrd1 _ _)).val = some (resTrd1 _ _)
  unfold encTrd1 resTrd1
  rw [evTrd]
  simp only [preTrd1] at hpre
  simp only [unAdd, unSld, unEnd, unAddw, unSldw, unEndw, preAdd1, preSld1, preEnd1, etaEnt, etaLst, Option.bind_some, List.length_map, unStrs, unInts, unBools, unEnts, unItms, unTrns, cond_true, cond_false, Bool.and_true, Bool.true_and, hpre, F.turned, F.orL]
  cases (t.kind == 0)
  · cases (t.kind == 1)
    · cases (t.kind == 2)
      · rfl
      · cases (F.endL l).2 != 0 <;> rfl
    · cases (F.slide l t.keep).2.2 != 0 <;> rfl
  · cases (F.add l t.entry).2 != 0 <;> rfl

def stFol (old : Lst) (now : Lst) (n : Int) : St := ⟨[(9, vI n), (8, .sl ((F.bn now).map eI)), (7, .sl ((F.bn old).map eI)), (5, vI (F.endN old)), (3, .ptr 3 0 0), (2, .ptr 2 0 0)], [(3, ⟨true, 0, 0, [eLst now]⟩), (2, ⟨true, 0, 0, [eLst old]⟩)]⟩

def stFol1 (a : Lst × Lst × Int) : St := stFol a.1 a.2.1 a.2.2

theorem stFol_inj (a a' : Lst × Lst × Int) (h : stFol1 a = stFol1 a') : a = a' := by
  simp only [stFol1, stFol] at h
  try simp [strs_inj, ents_inj, eEnt_iff, eLst_iff, ints_inj, eTrn_iff] at h
  grind

theorem unstFol (old : Lst) (now : Lst) (n : Int) : unenc stFol1 (St.mk [(9, (vI n)), (8, AV.sl (List.map eI (F.bn now))), (7, AV.sl (List.map eI (F.bn old))), (5, (vI (F.endN old))), (3, .ptr 3 0 0), (2, .ptr 2 0 0)] [(3, Blk.mk true 0
  0 [[(vI now.target), (vI now.first), (vI now.breaks), AV.sl (List.map eEnt now.entries), (vB now.ended)]]), (2, Blk.mk true 0 0 [[(vI old.target), (vI old.first), (vI
  old.breaks), AV.sl (List.map eEnt old.entries), (vB old.ended)]])]) = some (old, now, n) := unenc_of stFol_inj (old, now, n) rfl

def outFol (old : Lst) (now : Lst) (n : Int) : T (Ex × St) := .ifB (decide (F.folL old now n = 0)) (.ret (.exit 1, ⟨[(7, .sl ((F.bn old).map eI)), (5, vI (F.endN old)), (3, .ptr 3 0 0), (2, .ptr 2 0 0)], [(3, ⟨true, 0, 0, [eLst now]⟩), (2, ⟨true, 0, 0, [eLst old]⟩)]⟩)) (.ret (.ret, ⟨[(4, vI (F.folL old now n))], []⟩))

noncomputable def prlFol (old : Lst) (now : Lst) (n : Int) : Bool := F.folOK old now && F.le now.first n && F.le n (max now.first (F.endN old))

noncomputable def lpFol : Nat × (St → T (Ex × St)) := (10, lpo [9, 8, 7, 5, 3, 2] [3, 2] stFol1 (fun a => prlFol a.1 a.2.1 a.2.2) fun a => outFol a.1 a.2.1 a.2.2)

noncomputable def enFol : Env := envH ty noG lks [oLsL, oBns, oLsE] [] [] [lpFol]

theorem enFol_ok : EnvOK Tryz.prog enFol := by
  refine envH_ok lks_ok ty_ok ?_ ?_
  · simp only [List.forall_mem_cons]
    exact ⟨okLsL, okBns, okLsE, by simp⟩
  · simp

theorem evFolL (old : Lst) (now : Lst) (n : Int) : ((exec enFol (loopN Tryz.f41 0) (stFol old now n)).bind (lessX ([9, 8, 7, 5, 3, 2], [3, 2]) ([7, 5, 3, 2], [3, 2]) ([4], []))).val =
  (fun (q : Ent) => (fun (q_1 : List (Nat × AV)) => (fun (q_2 : List (Nat × Blk)) => bif decide (n < F.endN old) then Option.bind (idx (IntKind.wrap IntKind.i64 (n -
  old.first))) fun (z : Nat) => Option.bind (unenc (List.map eEnt) (List.map eEnt old.entries)) fun (z_1 : List Ent) => bif decide (z < List.length z_1) then Option.bind
  (idx (IntKind.wrap IntKind.i64 (n - now.first))) fun (z_2 : Nat) => Option.bind (unenc (List.map eEnt) (List.map eEnt now.entries)) fun (z_3 : List Ent) => bif decide (z_2
  < List.length z_3) then Option.bind (unenc encLsE [AV.agg [(vS (List.getD z_1 z q).uri), (vI (List.getD z_1 z q).milli), (vB (List.getD z_1 z q).brk), (vI (List.getD z_1 z
  q).date), (vS (List.getD z_1 z q).key), (vB (List.getD z_1 z q).gap), AV.sl (List.map eStr (List.getD z_1 z q).extra)], AV.agg [(vS (List.getD z_3 z_2 q).uri), (vI
  (List.getD z_3 z_2 q).milli), (vB (List.getD z_3 z_2 q).brk), (vI (List.getD z_3 z_2 q).date), (vS (List.getD z_3 z_2 q).key), (vB (List.getD z_3 z_2 q).gap), AV.sl
  (List.map eStr (List.getD z_3 z_2 q).extra)]]) fun (z : Ent × Ent) => bif !F.sameE z.fst z.snd then some (Ex.ret, St.mk [(4, (vI (12 : Int)))] []) else Option.bind (idx
  (IntKind.wrap IntKind.i64 (n - old.first))) fun (z : Nat) => Option.bind (unenc (List.map eI) (List.map eI (F.bn old))) fun (z_4 : List Int) => bif decide (z < List.length
  z_4) then Option.bind (idx (IntKind.wrap IntKind.i64 (n - now.first))) fun (z_5 : Nat) => Option.bind (unenc (List.map eI) (List.map eI (F.bn now))) fun (z_6 : List Int)
  => bif decide (z_5 < List.length z_6) then bif List.getD z_4 z (0 : Int) != List.getD z_6 z_5 (0 : Int) then some (Ex.ret, St.mk [(4, (vI (3 : Int)))] []) else some
  (Ex.normal, St.mk ((9, (vI (IntKind.wrap IntKind.i64 (n + (1 : Int))))) :: (8, AV.sl (List.map eI (F.bn now))) :: q_1) q_2) else none else none else none else none else
  some (Ex.exit (1 : Nat), St.mk q_1 q_2)) [(3, Blk.mk true 0 0 [[(vI now.target), (vI now.first), (vI now.breaks), AV.sl (List.map eEnt now.entries), (vB now.ended)]]), (2,
  Blk.mk true 0 0 [[(vI old.target), (vI old.first), (vI old.breaks), AV.sl (List.map eEnt old.entries), (vB old.ended)]])]) [(7, AV.sl (List.map eI (F.bn old))), (5, (vI
  (F.endN old))), (3, .ptr 3 0 0), (2, .ptr 2 0 0)]) (Ent.mk (ByteArray.mk (Array.mk [])) (0 : Int) false (0 : Int) (ByteArray.mk (Array.mk [])) false []) := by kernel_rfl

theorem lpFol_ok (old : Lst) (now : Lst) (n : Int) (hp : prlFol old now n = true) : ∀ ex s', (outFol old now n).val = some (ex, s') → LoopOK enFol (loopN Tryz.f41 0) (stFol old now n) ex s' := by
  simp only [prlFol, Bool.and_eq_true, decide_eq_true_eq] at hp
  obtain ⟨⟨h1, h2⟩, h3⟩ := hp
  obtain ⟨c1, c2, c3, c4⟩ := F.folOK_ok h1
  simp only [F.le, decide_eq_true_eq] at h2 h3
  obtain ⟨o1, _, _, o2, o3⟩ := F.check_ok c1
  obtain ⟨n1, _, _, n2, n3⟩ := F.check_ok c2
  have eo := F.endN_eq c1
  have en := F.endN_eq c2
  rw [eo] at h3 c4
  rw [en] at c4
  have hX := F.folX_len old now
  have key : ∀ k, k ≤ (F.folX old now).length → ∀ ex s', (outFol old now (now.first + k)).val = some (ex, s') → LoopOK enFol (loopN Tryz.f41 0) (stFol old now (now.first + k)) ex s' := by
    have hdr : ∀ k : Nat, outFol old now (now.first + k) = .ifB (decide (M.ffI F.folG ((F.folX old now).drop k) = 0)) (.ret (.exit 1, ⟨[(7, .sl ((F.bn old).map eI)), (5, vI (F.endN old)), (3, .ptr 3 0 0), (2, .ptr 2 0 0)], [(3, ⟨true, 0, 0, [eLst now]⟩), (2, ⟨true, 0, 0, [eLst old]⟩)]⟩)) (.ret (.ret, ⟨[(4, vI (M.ffI F.folG ((F.folX old now).drop k)))], []⟩)) := by
      intro k
      have e : (now.first + (k : Int) - now.first).toNat = k := by omega
      simp only [outFol, F.folL, e]
    intro k hk
    rw [hdr]
    refine loop_code (xs := F.folX old now) (st := fun k => stFol old now (now.first + k)) (g := F.folG) (o := fun c => (.ret, ⟨[(4, vI c)], []⟩)) (n := ([9, 8, 7, 5, 3, 2], [3, 2])) (e := ([7, 5, 3, 2], [3, 2])) (r := ([4], [])) ?_ ⟨by simp, rfl⟩ (fun _ => ⟨by simp, rfl⟩) (fun _ => rfl) ?_ k hk
    · have hno : decide (now.first + ((F.folX old now).length : Int) < F.endN old) = false := decide_eq_false (by rw [eo, hX]; omega)
      rw [evFolL]
      simp only [unLsL, unBns, unLsE, unLsLw, unBnsw, unLsEw, preLsL1, preBns1, preLsE1, unstFol, prlFol, outFol, etaEnt, etaLst, Option.bind_some, List.length_map, unStrs, unInts, unBools, unEnts, unItms, unTrns, cond_true, cond_false, Bool.and_true, Bool.true_and, hno]
      rfl
    · intro k y hy
      obtain ⟨a1, a2, a3, a4⟩ := F.folX_at hy
      have hlt := lt_at hy
      rw [hX] at hlt
      have hyes : decide (now.first + (k : Int) < F.endN old) = true := decide_eq_true (by rw [eo]; omega)
      have i1 : idx (IntKind.i64.wrap (now.first + (k : Int) - old.first)) = some ((now.first - old.first).toNat + k) := by
        rw [wrap_id (by omega) (by omega), show now.first + (k : Int) - old.first = (((now.first - old.first).toNat + k : Nat) : Int) by omega]; rfl
      have i2 : idx (IntKind.i64.wrap (now.first + (k : Int) - now.first)) = some k := by
        rw [wrap_id (by omega) (by omega), show now.first + (k : Int) - now.first = ((k : Nat) : Int) by omega]; rfl
      have w1 : IntKind.i64.wrap (now.first + (k : Int) + 1) = now.first + ((k + 1 : Nat) : Int) := by rw [wrap_id (by omega) (by omega)]; omega
      rw [evFolL]
      simp only [unLsL, unBns, unLsE, unLsLw, unBnsw, unLsEw, preLsL1, preBns1, preLsE1, unstFol, prlFol, outFol, etaEnt, etaLst, Option.bind_some, List.length_map, unStrs, unInts, unBools, unEnts, unItms, unTrns, cond_true, cond_false, Bool.and_true, Bool.true_and, hyes, i1, i2, w1, decide_eq_true (lt_at a1), decide_eq_true (lt_at a2), decide_eq_true (lt_at a3), decide_eq_true (lt_at a4), getD_at a1, getD_at a2, getD_at a3, getD_at a4, stFol]
      rcases Bool.eq_false_or_eq_true (F.sameE y.1.1 y.1.2) with hs | hs
      · by_cases hab : y.2.1 = y.2.2
        · have hg : F.folG y = 0 := by simp [F.folG, hs, hab]
          simp only [hg, hs, hab, bne_self_eq_false, Bool.not_true, cond_false, if_true]
          rfl
        · have hb : (y.2.1 != y.2.2) = true := by simp [hab]
          have hg : F.folG y = 3 := by simp [F.folG, hs, hab]
          simp only [hg, hs, hb, Bool.not_true, cond_false, cond_true]
          rfl
      · have hg : F.folG y = 12 := by simp [F.folG, hs]
        simp only [hg, hs, Bool.not_false, cond_true]
        rfl
  have e : n = now.first + ((n - now.first).toNat : Int) := by omega
  rw [e]
  exact key _ (by rw [hX]; omega)

theorem evFol (old : Lst) (now : Lst) : (runF enFol false Tryz.f41 [.agg (eLst old), .agg (eLst now)]).val =
  (fun (q : Option (AV × Heap)) => (fun (q_1 : Int) => (fun (q_2 : List AV) => (fun (q_3 : List AV) => (fun (q_4 : AV) => (fun (q_5 : List AV) => (fun (q : Option (AV ×
  Heap)) => bif old.target != now.target then some ((vI (6 : Int)), []) else bif old.ended then Option.bind (unenc encLsL (q_4 :: q_5)) fun (z : Lst × Lst) => bif bif
  old.ended then !F.sameL z.fst z.snd else false then some ((vI (11 : Int)), []) else q else bif old.ended then none else q) (bif bif decide (now.first < old.first) then
  true else decide (IntKind.wrap IntKind.i64 (now.first + (↑(List.length (List.map eEnt now.entries)) : Int)) < q_1) then q else Option.bind (unenc encBns [q_4]) fun (z :
  Lst) => bif decide (List.length z.entries ≤ (100000 : Nat)) then Option.bind (unenc encBns q_5) fun (z_1 : Lst) => bif decide (List.length z_1.entries ≤ (100000 : Nat))
  then Option.bind (unenc stFol1 (St.mk [(9, (vI now.first)), (8, AV.sl (List.map eI (F.bn z_1))), (7, AV.sl (List.map eI (F.bn z))), (5, (vI q_1)), (3, .ptr 3 0 0), (2,
  .ptr 2 0 0)] [(3, Blk.mk true 0 0 [q_3]), (2, Blk.mk true 0 0 [q_2])])) fun (z : Lst × Lst × Int) => bif F.folOK z.fst z.snd.fst && F.le z.snd.fst.first z.snd.snd && F.le
  z.snd.snd (max z.snd.fst.first (F.endN z.fst)) && true then bif decide (F.folL z.fst z.snd.fst z.snd.snd = (0 : Int)) then bif decide ((0 : Int) < (↑(List.length (List.map
  eI (F.bn z.fst))) : Int)) then Option.bind (idx (IntKind.wrap IntKind.i64 ((↑(List.length (List.map eI (F.bn z.fst))) : Int) - (1 : Int)))) fun (z_2 : Nat) => Option.bind
  (unenc (List.map eI) (List.map eI (F.bn z.fst))) fun (z_3 : List Int) => bif decide (z_2 < List.length z_3) then bif bif decide (F.endN z.fst ≤ z.snd.fst.first) then
  decide (z.snd.fst.breaks < List.getD z_3 z_2 (0 : Int)) else false then q else some ((vI (0 : Int)), []) else none else bif bif decide (F.endN z.fst ≤ z.snd.fst.first)
  then decide (z.snd.fst.breaks < z.fst.breaks) else false then q else some ((vI (0 : Int)), []) else some ((vI (F.folL z.fst z.snd.fst z.snd.snd)), []) else none else none
  else none)) [AV.agg q_3]) (AV.agg q_2)) [(vI now.target), (vI now.first), (vI now.breaks), AV.sl (List.map eEnt now.entries), (vB now.ended)]) [(vI old.target), (vI
  old.first), (vI old.breaks), AV.sl (List.map eEnt old.entries), (vB old.ended)]) (IntKind.wrap IntKind.i64 (old.first + (↑(List.length (List.map eEnt old.entries)) :
  Int)))) (some ((vI (8 : Int)), [])) := by kernel_rfl

def encFol1 (old : Lst) (now : Lst) : List AV := [.agg (eLst old), .agg (eLst now)]

def encFol (a : Lst × Lst) : List AV := encFol1 a.1 a.2

theorem encFol_inj (a a' : Lst × Lst) (h : encFol a = encFol a') : a = a' := by
  simp only [encFol, encFol1] at h
  try simp [strs_inj, ents_inj, eEnt_iff, eLst_iff, ints_inj, eTrn_iff] at h
  grind

theorem unFol (old : Lst) (now : Lst) : unenc encFol ([AV.agg [(vI old.target), (vI old.first), (vI old.breaks), AV.sl (List.map eEnt old.entries), (vB old.ended)], AV.agg [(vI now.target), (vI now.first), (vI now.breaks),
  AV.sl (List.map eEnt now.entries), (vB now.ended)]]) = some (old, now) := unenc_of encFol_inj (old, now) rfl

theorem unFolw (old_target : Int) (old_first : Int) (old_breaks : Int) (old_entries : List Ent) (old_ended : Bool) (now_target : Int) (now_first : Int) (now_breaks : Int) (now_entries : List Ent) (now_ended : Bool) : unenc encFol ([AV.agg [(vI old_target), (vI old_first), (vI old_breaks), AV.sl (List.map eEnt old_entries), (vB old_ended)], AV.agg [(vI now_target), (vI now_first), (vI now_breaks),
  AV.sl (List.map eEnt now_entries), (vB now_ended)]]) = some ((Lst.mk old_target old_first old_breaks old_entries old_ended), (Lst.mk now_target now_first now_breaks now_entries now_ended)) := unenc_of encFol_inj ((Lst.mk old_target old_first old_breaks old_entries old_ended), (Lst.mk now_target now_first now_breaks now_entries now_ended)) rfl

def resFol1 (old : Lst) (now : Lst) : AV × Heap := (vI (F.fol old now), [])

def preFol1 (old : Lst) (now : Lst) : Bool := decide (F.check old = 0) && decide (F.check now = 0)

noncomputable def oFol : Orc := orc 41 false encFol (fun a => preFol1 a.1 a.2) fun a => resFol1 a.1 a.2

theorem okFol : OrcOK Tryz.prog noG oFol := by
  refine mk_ok Tryz.f41 (keep := false) (by kernel_rfl) (by kernel_rfl) enFol_ok mixed (one_loop (x0 := loopN Tryz.f41 0) (by kernel_rfl) (lpo_ok ?_)) (by first | exact fun _ _ => ⟨rfl, rfl⟩ | (intro h; cases h)) ?_
  · rintro ⟨old, now, n⟩ hp
    exact lpFol_ok old now n hp
  rintro ⟨old, now⟩ hpre hok
  show (runF enFol false _ (encFol1 _ _)).val = some (resFol1 _ _)
  unfold encFol1 resFol1
  rw [evFol]
  simp only [preFol1, Bool.and_eq_true, decide_eq_true_eq] at hpre
  obtain ⟨c1, c2⟩ := hpre
  obtain ⟨o1, _, _, o2, o3⟩ := F.check_ok c1
  obtain ⟨n1, _, _, n2, n3⟩ := F.check_ok c2
  have l1 : decide (old.entries.length ≤ 100000) = true := decide_eq_true (by omega)
  have l2 : decide (now.entries.length ≤ 100000) = true := decide_eq_true (by omega)
  simp only [unLsL, unBns, unLsE, unLsLw, unBnsw, unLsEw, preLsL1, preBns1, preLsE1, unstFol, prlFol, outFol, etaEnt, etaLst, Option.bind_some, List.length_map, unStrs, unInts, unBools, unEnts, unItms, unTrns, cond_true, cond_false, Bool.and_true, Bool.true_and, l1, l2, F.fol, F.endN_def]
  have hle : F.le now.first now.first = true := decide_eq_true (Int.le_refl _)
  have hmx : F.le now.first (max now.first (F.endN old)) = true := decide_eq_true (by omega)
  have hend : (bif decide (F.folL old now now.first = 0) then
      bif decide (0 < ((F.bn old).length : Int)) then
        (idx (IntKind.i64.wrap (((F.bn old).length : Int) - 1))).bind fun z_2 =>
          bif decide (z_2 < (F.bn old).length) then
            bif bif decide (F.endN old ≤ now.first) then decide (now.breaks < (F.bn old).getD z_2 0) else false then some (vI 8, []) else some (vI 0, [])
          else none
      else bif bif decide (F.endN old ≤ now.first) then decide (now.breaks < old.breaks) else false then some (vI 8, []) else some (vI 0, [])
    else some (vI (F.folL old now now.first), [])) =
    (some (vI (bif F.folL old now now.first != 0 then F.folL old now now.first else bif F.le (F.endN old) now.first && F.lt now.breaks (F.last old) then 8 else 0), []) : Option (AV × Heap)) := by
    by_cases hz : F.folL old now now.first = 0
    · simp only [hz, decide_true, cond_true, bne_self_eq_false, cond_false]
      by_cases h0 : 0 < (F.bn old).length
      · have d0 : decide (0 < ((F.bn old).length : Int)) = true := decide_eq_true (by omega)
        have hb := F.bn_len old
        have hj : idx (IntKind.i64.wrap (((F.bn old).length : Int) - 1)) = some ((F.bn old).length - 1) := by
          rw [wrap_id (by omega) (by omega), show ((F.bn old).length : Int) - 1 = (((F.bn old).length - 1 : Nat) : Int) by omega]; rfl
        have d1 : decide ((F.bn old).length - 1 < (F.bn old).length) = true := decide_eq_true (by omega)
        have hl : F.last old = (F.bn old).getD ((F.bn old).length - 1) 0 := by simp only [F.last, F.lt, d0, cond_true]
        simp only [d0, hj, d1, hl, cond_true, Option.bind_some, F.le, F.lt]
        cases decide (F.endN old ≤ now.first)
        · rfl
        · cases decide (now.breaks < (F.bn old).getD ((F.bn old).length - 1) 0) <;> rfl
      · have d0 : decide (0 < ((F.bn old).length : Int)) = false := decide_eq_false (by omega)
        have hl : F.last old = old.breaks := by simp only [F.last, F.lt, d0, cond_false]
        simp only [d0, hl, cond_false, F.le, F.lt]
        cases decide (F.endN old ≤ now.first)
        · rfl
        · cases decide (now.breaks < old.breaks) <;> rfl
    · have hb : (F.folL old now now.first != 0) = true := by simp [hz]
      simp only [hz, hb, decide_false, cond_false, cond_true]
  cases (old.target != now.target)
  · have hfo : ¬ now.first < old.first → ¬ F.endN now < F.endN old → F.folOK old now = true := by
      intro a b
      simp only [F.folOK, c1, c2, F.le, decide_true, Bool.true_and, Bool.and_eq_true, decide_eq_true_eq]
      omega
    have tail : (bif bif decide (now.first < old.first) then true else decide (F.endN now < F.endN old) then some (vI 8, []) else
        bif F.folOK old now && F.le now.first now.first && F.le now.first (max now.first (F.endN old)) then
          (some (vI (bif F.folL old now now.first != 0 then F.folL old now now.first else bif F.le (F.endN old) now.first && F.lt now.breaks (F.last old) then 8 else 0), []) : Option (AV × Heap)) else none) =
        some (vI (bif F.lt now.first old.first || F.lt (F.endN now) (F.endN old) then 8 else bif F.folL old now now.first != 0 then F.folL old now now.first else bif F.le (F.endN old) now.first && F.lt now.breaks (F.last old) then 8 else 0), []) := by
      by_cases a : now.first < old.first
      · simp only [F.lt, a, decide_true, cond_true, Bool.true_or]
      · by_cases b : F.endN now < F.endN old
        · simp only [F.lt, a, b, decide_true, decide_false, cond_true, cond_false, Bool.or_true]
        · simp only [F.lt, a, b, decide_false, cond_false, Bool.or_false, hfo a b, hle, hmx, Bool.and_self, cond_true]
    rw [hend, tail]
    simp only [cond_false]
    cases old.ended
    · simp only [cond_false, Bool.false_and]
    · cases F.sameL old now <;> simp only [cond_false, cond_true, Bool.true_and, Bool.not_true, Bool.not_false]
  · rfl

end M

def F.cntB : List Ent → Nat
  | [] => 0
  | e :: l => (bif e.brk then 1 else 0) + F.cntB l

theorem F.cntB_app : ∀ (a b : List Ent), F.cntB (a ++ b) = F.cntB a + F.cntB b
  | [], b => by simp [F.cntB]
  | e :: a, b => by simp only [List.cons_append, F.cntB, F.cntB_app a b]; omega

def F.bnZ (b : Int) : List Ent → List Int
  | [] => []
  | e :: l => (b + (bif e.brk then 1 else 0)) :: F.bnZ (b + (bif e.brk then 1 else 0)) l

theorem F.bnA_eq : ∀ (l : List Ent) (b : Int) (acc : List Int), 0 ≤ b → b + l.length ≤ 4611686018427387904 → F.bnA b acc l = acc ++ F.bnZ b l
  | [], b, acc, _, _ => by simp [F.bnA, F.bnZ]
  | e :: l, b, acc, h1, h2 => by
    simp only [List.length_cons] at h2
    have hw : IntKind.i64.wrap (b + 1) = b + 1 := M.wrap_id (by omega) (by omega)
    show F.bnA (F.bnS (b, acc) e).1 (F.bnS (b, acc) e).2 l = _
    have e1 : F.bnS (b, acc) e = (b + (bif e.brk then 1 else 0), acc ++ [b + (bif e.brk then 1 else 0)]) := by
      simp only [F.bnS, hw]
      cases e.brk <;> simp
    rw [e1]
    simp only [F.bnZ]
    rw [F.bnA_eq l _ _ (by cases e.brk <;> simp <;> omega) (by cases e.brk <;> simp <;> omega)]
    simp

theorem F.bnZ_at : ∀ {l : List Ent} {b : Int} {i : Nat} {v : Int}, (F.bnZ b l)[i]? = some v → v = b + F.cntB (l.take (i + 1))
  | [], b, i, v, h => by simp [F.bnZ] at h
  | e :: l, b, 0, v, h => by
    simp only [F.bnZ, List.getElem?_cons_zero, Option.some.injEq] at h
    subst h
    simp only [List.take_succ_cons, List.take_zero, F.cntB]
    cases e.brk <;> simp
  | e :: l, b, i + 1, v, h => by
    simp only [F.bnZ, List.getElem?_cons_succ] at h
    have := F.bnZ_at h
    rw [this, List.take_succ_cons]
    simp only [F.cntB]
    cases e.brk <;> simp <;> omega

theorem F.bn_at {l : Lst} (hc : F.check l = 0) {i : Nat} {v : Int} (h : (F.bn l)[i]? = some v) : v = l.breaks + F.cntB (l.entries.take (i + 1)) := by
  obtain ⟨h1, _, _, h2, h3⟩ := F.check_ok hc
  unfold F.bn at h
  rw [F.bnA_eq _ _ _ (by omega) (by omega), List.nil_append] at h
  exact F.bnZ_at h

def F.Rel (l now : Lst) : Prop :=
  F.check l = 0 ∧ F.check now = 0 ∧ now.target = l.target ∧ (l.ended = true → now = l) ∧
  ∃ (added : List Ent) (d : Nat), now.entries = (l.entries ++ added).drop d ∧ d ≤ (l.entries ++ added).length ∧ now.first = l.first + d ∧ now.breaks = l.breaks + F.cntB ((l.entries ++ added).take d)

theorem F.rel_self {l : Lst} (h : F.check l = 0) : F.Rel l l := ⟨h, h, rfl, fun _ => rfl, [], 0, by simp, by simp, by simp, by simp [F.cntB]⟩

theorem F.ffI_zr {α : Type} {g : α → Int} : ∀ {l : List α}, (∀ y ∈ l, g y = 0) → M.ffI g l = 0
  | [], _ => rfl
  | y :: l, h => by
    simp only [M.ffI]
    rw [if_pos (h y (by simp))]
    exact F.ffI_zr fun z hz => h z (by simp [hz])

theorem F.rel_ends {l now : Lst} (h : F.Rel l now) : l.first ≤ now.first ∧ F.endN l ≤ F.endN now := by
  obtain ⟨c1, c2, _, _, added, d, h1, h2, h3, _⟩ := h
  rw [F.endN_eq c1, F.endN_eq c2]
  have : now.entries.length = (l.entries ++ added).length - d := by rw [h1, List.length_drop]
  simp only [List.length_append] at this h2
  omega

theorem F.rel_follows {l now : Lst} (h : F.Rel l now) : F.follows l now = 0 := by
  have he := F.rel_ends h
  obtain ⟨c1, c2, ht, hend, added, d, h1, h2, h3, h4⟩ := h
  have b1 : (l.target != now.target) = false := by simp [ht]
  have b2 : (l.ended && !F.sameL l now) = false := by
    cases e : l.ended
    · rfl
    · rw [hend e, F.sameL_refl]; rfl
  have b3 : (F.lt now.first l.first || F.lt (F.endN now) (F.endN l)) = false := by
    simp [F.lt]; omega
  have hd : (now.first - l.first).toNat = d := by omega
  have b4 : F.folL l now now.first = 0 := by
    refine F.ffI_zr fun y hy => ?_
    have hy := List.mem_of_mem_drop hy
    obtain ⟨k, hk, e⟩ := List.getElem_of_mem hy
    have hyk : (F.folX l now)[k]? = some y := by rw [List.getElem?_eq_getElem hk, e]
    obtain ⟨a1, a2, a3, a4⟩ := F.folX_at hyk
    rw [hd] at a1 a3
    have hlt := M.lt_at a1
    have ee : y.1.1 = y.1.2 := by
      rw [h1, List.getElem?_drop, List.getElem?_append_left hlt, a1] at a2
      exact Option.some.inj a2
    have v1 := F.bn_at c1 a3
    have v2 := F.bn_at c2 a4
    have ev : y.2.1 = y.2.2 := by
      rw [v1, v2, h4, h1]
      have : (l.entries ++ added).take (d + k + 1) = (l.entries ++ added).take d ++ ((l.entries ++ added).drop d).take (k + 1) := by
        rw [Nat.add_assoc, List.take_add]
      have e2 : (l.entries ++ added).take (d + k + 1) = l.entries.take (d + k + 1) := List.take_append_of_le_length (by omega)
      rw [← e2, this, F.cntB_app]
      omega
    simp [F.folG, ee, F.sameE_refl, ev]
  have b5 : (F.le (F.endN l) now.first && F.lt now.breaks (F.last l)) = false := by
    cases hle : F.le (F.endN l) now.first
    · rfl
    · simp only [F.le, decide_eq_true_eq] at hle
      rw [F.endN_eq c1] at hle
      have hlast : F.last l ≤ l.breaks + F.cntB l.entries := by
        unfold F.last
        cases h0 : F.lt 0 (F.bn l).length
        · simp only [cond_false]; omega
        · simp only [F.lt, decide_eq_true_eq] at h0
          have hb := F.bn_len l
          simp only [cond_true]
          have hg : (F.bn l)[(F.bn l).length - 1]? = some ((F.bn l).getD ((F.bn l).length - 1) 0) := by
            rw [List.getD_eq_getElem?_getD, List.getElem?_eq_getElem (by omega)]; rfl
          have := F.bn_at c1 hg
          rw [this, show (F.bn l).length - 1 + 1 = l.entries.length by omega, List.take_length]
          omega
      have : F.cntB l.entries ≤ F.cntB ((l.entries ++ added).take d) := by
        have hdl : d = l.entries.length + (d - l.entries.length) := by omega
        rw [hdl, List.take_add, F.cntB_app]
        have : (l.entries ++ added).take l.entries.length = l.entries := by simp
        rw [this]
        omega
      simp [F.lt]
      omega
  unfold F.follows F.fol
  rw [c1, c2, b1, b2, b3, b4, b5]
  rfl

theorem F.gone_eq (keep : Int) : ∀ (l : List Ent) (left b : Int) (n : Nat), 0 ≤ b → b + l.length ≤ 4611686018427387904 →
    (F.gone keep left b n l).1.2 = b + F.cntB (l.take ((F.gone keep left b n l).2 - n)) ∧ n ≤ (F.gone keep left b n l).2
  | [], left, b, n, _, _ => by simp [F.gone, M.scan, F.cntB]
  | e :: l, left, b, n, h1, h2 => by
    simp only [List.length_cons] at h2
    have hw : IntKind.i64.wrap (b + 1) = b + 1 := M.wrap_id (by omega) (by omega)
    by_cases hk : keep ≤ IntKind.i64.wrap (left - e.milli)
    · have hs : F.goneS keep (left, b) e = some (IntKind.i64.wrap (left - e.milli), b + (bif e.brk then 1 else 0)) := by
        simp only [F.goneS, hk, if_true, hw]
        cases e.brk <;> simp
      have hg : F.gone keep left b n (e :: l) = F.gone keep (IntKind.i64.wrap (left - e.milli)) (b + (bif e.brk then 1 else 0)) (n + 1) l := by
        simp only [F.gone, M.scan, hs]
      rw [hg]
      have ih := F.gone_eq keep l (IntKind.i64.wrap (left - e.milli)) (b + (bif e.brk then 1 else 0)) (n + 1) (by cases e.brk <;> simp <;> omega) (by cases e.brk <;> simp <;> omega)
      refine ⟨?_, by omega⟩
      have : (F.gone keep (IntKind.i64.wrap (left - e.milli)) (b + (bif e.brk then 1 else 0)) (n + 1) l).2 - n = (F.gone keep (IntKind.i64.wrap (left - e.milli)) (b + (bif e.brk then 1 else 0)) (n + 1) l).2 - (n + 1) + 1 := by omega
      rw [this, List.take_succ_cons, ih.1]
      simp only [F.cntB]
      cases e.brk <;> simp <;> omega
    · have hs : F.goneS keep (left, b) e = none := by simp only [F.goneS, hk, if_false]
      simp only [F.gone, M.scan, hs]
      simp [F.cntB]

theorem F.goneL_eq {l : Lst} (hc : F.check l = 0) (keep : Int) : (F.goneL l keep).2 = l.breaks + F.cntB (l.entries.take (F.goneL l keep).1) := by
  obtain ⟨h1, _, _, h2, h3⟩ := F.check_ok hc
  have := (F.gone_eq keep l.entries (F.lenF 0 l.entries) l.breaks 0 (by omega) (by omega)).1
  simpa [F.goneL] using this

theorem F.check_mk {l : Lst} (h1 : F.out l.target 1 3600 = false) (h2 : F.out l.first 0 999999999999000 = false) (h3 : F.out l.breaks 0 1000000000000000 = false) (h4 : l.entries.length ≤ 1000) (h5 : ∀ e ∈ l.entries, F.entryFault e l.target = 0) : F.check l = 0 := by
  unfold F.check
  rw [h1, h2, h3]
  simp only [Bool.or_self, Bool.false_eq_true, if_false]
  rw [if_neg (by omega)]
  exact F.ffI_zr h5

theorem F.add_ok {l : Lst} {e : Ent} (h : (F.add l e).2 = 0) : l.ended = false ∧ F.check (F.withE l (l.entries ++ [e])) = 0 ∧ (F.add l e).1 = F.withE l (l.entries ++ [e]) := by
  unfold F.add at h ⊢
  split at h
  · exact absurd h ‹_›
  · rename_i h0
    rw [if_neg h0]
    split at h
    · cases h
    · rename_i h1
      rw [if_neg h1]
      split at h
      · exact absurd h ‹_›
      · rename_i h2
        rw [if_neg h2]
        exact ⟨by simpa using h1, by simpa using h2, rfl⟩

theorem F.slide_ok {l : Lst} {keep : Int} (h : (F.slide l keep).2.2 = 0) : F.check l = 0 ∧ l.ended = false ∧ IntKind.i64.wrap (l.first + (F.goneL l keep).1) ≤ 999999999999000 ∧ (F.goneL l keep).2 ≤ 1000000000000000 ∧
    (F.slide l keep).1 = ⟨l.target, IntKind.i64.wrap (l.first + (F.goneL l keep).1), (F.goneL l keep).2, l.entries.drop (F.goneL l keep).1, l.ended⟩ := by
  unfold F.slide at h ⊢
  split at h
  · exact absurd h ‹_›
  · rename_i h0
    rw [if_neg h0]
    split at h
    · cases h
    · rename_i h1
      rw [if_neg h1]
      split at h
      · cases h
      · rename_i h2
        rw [if_neg h2]
        split at h
        · cases h
        · rename_i h3
          rw [if_neg h3]
          simp only [Bool.or_eq_true, decide_eq_true_eq] at h3
          exact ⟨by simpa using h0, by simpa using h2, by omega, by omega, rfl⟩

theorem F.end_ok {l : Lst} (h : (F.endL l).2 = 0) : F.check l = 0 ∧ (F.endL l).1 = ⟨l.target, l.first, l.breaks, l.entries, true⟩ := by
  unfold F.endL at h ⊢
  split at h
  · exact absurd h ‹_›
  · rename_i h0
    rw [if_neg h0]
    exact ⟨by simpa using h0, rfl⟩

theorem F.rel_turned {l now : Lst} (h : F.Rel l now) (t : Trn) : F.Rel l (F.turned now t) := by
  have hor : ∀ (b : Lst) (f : Int), (f = 0 → F.Rel l b) → F.Rel l (F.orL now b f) := by
    intro b f hb
    unfold F.orL
    by_cases hf : f = 0
    · simp only [hf, bne_self_eq_false, cond_false]; exact hb hf
    · have : (f != 0) = true := by simp [hf]
      rw [this]; exact h
  obtain ⟨c1, c2, ht, hend, added, d, h1, h2, h3, h4⟩ := h
  unfold F.turned
  cases (t.kind == 0)
  · cases (t.kind == 1)
    · cases (t.kind == 2)
      · exact ⟨c1, c2, ht, hend, added, d, h1, h2, h3, h4⟩
      · refine hor _ _ fun hf => ?_
        obtain ⟨_, e⟩ := F.end_ok hf
        rw [e]
        refine ⟨c1, c2, ht, fun hl => ?_, added, d, h1, h2, h3, h4⟩
        have := hend hl
        subst this
        cases now
        simp only at hl
        simp only [hl]
    · refine hor _ _ fun hf => ?_
      obtain ⟨_, e1, e2, e3, e4⟩ := F.slide_ok hf
      obtain ⟨n1, n2, n3, n4, n5⟩ := F.check_ok c2
      have hgl := F.goneL_le now t.keep
      have hgb := F.goneL_eq c2 t.keep
      have hw : IntKind.i64.wrap (now.first + ((F.goneL now t.keep).1 : Int)) = now.first + ((F.goneL now t.keep).1 : Int) := M.wrap_id (by omega) (by omega)
      rw [hw] at e2
      rw [e4, hw]
      refine ⟨c1, ?_, ht, fun hl => ?_, added, d + (F.goneL now t.keep).1, ?_, ?_, ?_, ?_⟩
      · refine F.check_mk ?_ ?_ ?_ ?_ ?_
        · simp only [F.out]; simp; omega
        · simp only [F.out]; simp; omega
        · simp only [F.out]; simp; omega
        · simp only [List.length_drop]; omega
        · intro e he
          exact n2 e (List.mem_of_mem_drop he)
      · have := hend hl
        subst this
        rw [hl] at e1; cases e1
      · simp only [h1, List.drop_drop]
      · have : now.entries.length = (l.entries ++ added).length - d := by rw [h1, List.length_drop]
        omega
      · simp only [h3]; omega
      · simp only [hgb, h4]
        rw [List.take_add, F.cntB_app, h1]
        omega
  · refine hor _ _ fun hf => ?_
    obtain ⟨e1, e2, e3⟩ := F.add_ok hf
    rw [e3]
    refine ⟨c1, e2, ht, fun hl => ?_, added ++ [t.entry], d, ?_, ?_, h3, ?_⟩
    · have := hend hl
      subst this
      rw [hl] at e1; cases e1
    · simp only [F.withE, h1]
      rw [← List.append_assoc, List.drop_append_of_le_length h2]
    · rw [← List.append_assoc, List.length_append]; omega
    · show now.breaks = _
      rw [← List.append_assoc, List.take_append_of_le_length h2]
      exact h4

def F.turns (now : Lst) (ts : List Trn) : Lst := ts.foldl F.turned now

theorem F.rel_turns {l : Lst} : ∀ (ts : List Trn) {now : Lst}, F.Rel l now → F.Rel l (F.turns now ts)
  | [], now, h => h
  | t :: ts, now, h => F.rel_turns ts (F.rel_turned h t)

def F.tOK (ts : List Trn) : Bool := ts.all fun t => decide (t.entry.extra.length * 16 ≤ 140737488355328)

namespace M

end M

namespace M

end M

def F.brk (b : Int) (l : List Ent) : Int := l.foldl (fun b e => bif e.brk then IntKind.i64.wrap (b + 1) else b) b

namespace M

end M



def F.shN (l : Lst) (have' : Int) : Nat := bif F.lt l.first have' then (max 0 (min (have' - 1 - l.first) ((l.entries.length : Int) - 1))).toNat else 0

def F.cutE (l : Lst) (n : Nat) : Lst := ⟨l.target, l.first, l.breaks, l.entries.drop n, l.ended⟩

def F.sht (l : Lst) (have' : Int) : Dlt × Int := bif F.check l != 0 then (default, F.check l) else (⟨(F.shN l have' : Nat), F.cutE l (F.shN l have')⟩, 0)

def F.patL (l : Lst) (d : Dlt) : Lst := ⟨d.list.target, d.list.first, d.list.breaks, (l.entries.drop (d.list.first - l.first).toNat).take d.skipped.toNat ++ d.list.entries, d.list.ended⟩

def F.patB (l : Lst) (d : Dlt) : Bool := F.lt 0 d.skipped && (F.lt (d.list.first - l.first) 0 || F.lt l.entries.length (d.list.first - l.first + d.skipped))

def F.patT (l : Lst) (d : Dlt) : Lst := bif F.lt 0 d.skipped then F.patL l d else d.list

def F.pat (l : Lst) (d : Dlt) : Lst × Int :=
  bif F.check l != 0 then (default, F.check l) else bif F.check d.list != 0 then (default, F.check d.list) else bif F.out d.skipped 0 1000 then (default, 1) else bif F.patB l d then (default, 9) else
  bif F.check (F.patT l d) != 0 then (default, F.check (F.patT l d)) else bif F.fol l (F.patT l d) != 0 then (default, F.fol l (F.patT l d)) else (F.patT l d, 0)

namespace M

theorem idx_nn (n : Nat) : idx ((n : Nat) : Int) = some n := rfl

noncomputable def enSht : Env := envH ty noG lks [oChk, oCpL] [] [] []

theorem enSht_ok : EnvOK Tryz.prog enSht := by
  refine envH_ok lks_ok ty_ok ?_ ?_
  · simp only [List.forall_mem_cons]
    exact ⟨okChk, okCpL, by simp⟩
  · simp

theorem evSht (l : Lst) (n : Int) : (runF enSht false Tryz.f16 [.agg (eLst l), vI n]).val =
  Option.bind (unenc encChk [AV.agg [(vI l.target), (vI l.first), (vI l.breaks), AV.sl (List.map eEnt l.entries), (vB l.ended)]]) fun (z : Lst) => bif F.check z != (0 : Int)
  then some (AV.tup [AV.agg [(vI (0 : Int)), (vI (0 : Int)), (vI (0 : Int)), (vI (0 : Int)), AV.sl [], (vB false)], (vI (F.check z))], []) else Option.bind (unenc encCpL
  [AV.agg [(vI l.target), (vI l.first), (vI l.breaks), AV.sl (List.map eEnt l.entries), (vB l.ended)]]) fun (z : Lst) => bif decide (List.length z.entries * (88 : Nat) ≤
  (140737488355328 : Nat)) && List.all z.entries fun (e : Ent) => decide (List.length e.extra * (16 : Nat) ≤ (140737488355328 : Nat)) then bif decide (l.first < n) then
  Option.bind (idx (max (0 : Int) (min (IntKind.wrap IntKind.i64 (IntKind.wrap IntKind.i64 (n - (1 : Int)) - l.first)) (IntKind.wrap IntKind.i64 ((↑(List.length (List.map
  eEnt l.entries)) : Int) - (1 : Int)))))) fun (z_1 : Nat) => bif Nat.ble z_1 (List.length (List.map eEnt z.entries)) && Nat.ble (List.length (List.map eEnt z.entries))
  (List.length (List.map eEnt z.entries)) && List.all (List.map eEnt z.entries) fun (r : Row) => Nat.beq (List.length r) (7 : Nat) then some (AV.tup [AV.agg [(vI (max (0 :
  Int) (min (IntKind.wrap IntKind.i64 (IntKind.wrap IntKind.i64 (n - (1 : Int)) - l.first)) (IntKind.wrap IntKind.i64 ((↑(List.length (List.map eEnt l.entries)) : Int) - (1
  : Int)))))), (vI z.target), (vI z.first), (vI z.breaks), AV.sl (List.drop z_1 (List.map eEnt z.entries)), (vB z.ended)], (vI (0 : Int))], []) else none else bif Nat.ble (0
  : Nat) (List.length (List.map eEnt z.entries)) && Nat.ble (List.length (List.map eEnt z.entries)) (List.length (List.map eEnt z.entries)) && List.all (List.map eEnt
  z.entries) fun (r : Row) => Nat.beq (List.length r) (7 : Nat) then some (AV.tup [AV.agg [(vI (0 : Int)), (vI z.target), (vI z.first), (vI z.breaks), AV.sl (List.map eEnt
  z.entries), (vB z.ended)], (vI (0 : Int))], []) else none else none := (runFR_val).symm.trans (by kernel_rfl)

def encSht1 (l : Lst) (n : Int) : List AV := [.agg (eLst l), vI n]

def encSht (a : Lst × Int) : List AV := encSht1 a.1 a.2

theorem encSht_inj (a a' : Lst × Int) (h : encSht a = encSht a') : a = a' := by
  simp only [encSht, encSht1] at h
  try simp [strs_inj, ints_inj, ents_inj, eEnt_iff, eLst_iff, eDlt_iff] at h
  grind

theorem unSht (l : Lst) (n : Int) : unenc encSht ([AV.agg [(vI l.target), (vI l.first), (vI l.breaks), AV.sl (List.map eEnt l.entries), (vB l.ended)], (vI n)]) = some (l, n) := unenc_of encSht_inj (l, n) rfl

theorem unShtw (l_target : Int) (l_first : Int) (l_breaks : Int) (l_entries : List Ent) (l_ended : Bool) (n : Int) : unenc encSht ([AV.agg [(vI l_target), (vI l_first), (vI l_breaks), AV.sl (List.map eEnt l_entries), (vB l_ended)], (vI n)]) = some ((Lst.mk l_target l_first l_breaks l_entries l_ended), n) := unenc_of encSht_inj ((Lst.mk l_target l_first l_breaks l_entries l_ended), n) rfl

def resSht1 (l : Lst) (n : Int) : AV × Heap := (.tup [.agg (eDlt (F.sht l n).1), vI (F.sht l n).2], [])

def preSht1 (l : Lst) (n : Int) : Bool := true

noncomputable def oSht : Orc := orc 16 false encSht (fun a => preSht1 a.1 a.2) fun a => resSht1 a.1 a.2

theorem okSht : OrcOK Tryz.prog noG oSht := by
  refine mk_ok Tryz.f16 (keep := false) (by kernel_rfl) (by kernel_rfl) enSht_ok mixed (no_loops (by kernel_rfl)) (by first | exact fun _ _ => ⟨rfl, rfl⟩ | (intro h; cases h)) ?_
  rintro ⟨l, n⟩ hpre hok
  show (runF enSht false _ (encSht1 _ _)).val = some (resSht1 _ _)
  unfold encSht1 resSht1
  rw [evSht]
  have hn := okA_int (hok _ (List.mem_cons_of_mem _ (List.mem_cons_self ..)))
  simp only [unChk, unCpL, unChkw, unCpLw, preChk1, preCpL1, etaEnt, etaLst, etaSnd, etaStrm, etaMas, Option.bind_some, List.length_map, unStrs, unInts, unBools, unEnts, unItms, unTrns, cond_true, cond_false, Bool.and_true, Bool.true_and, all_ents]
  unfold F.sht
  by_cases h0 : F.check l = 0
  · obtain ⟨c1, c2, c3, c4, c5⟩ := F.check_ok h0
    rw [bne0 h0, cond_false, cond_false, F.check_room h0, cond_true]
    have w1 : IntKind.i64.wrap ((l.entries.length : Int) - 1) = (l.entries.length : Int) - 1 := wrap_id (by omega) (by omega)
    by_cases hl : l.first < n
    · have w2 : IntKind.i64.wrap (n - 1) = n - 1 := wrap_id (by omega) (by omega)
      have w3 : IntKind.i64.wrap (n - 1 - l.first) = n - 1 - l.first := wrap_id (by omega) (by omega)
      have hN : F.shN l n = (max 0 (min (n - 1 - l.first) ((l.entries.length : Int) - 1))).toNat := by
        unfold F.shN F.lt; rw [decide_eq_true hl, cond_true]
      have hi : max 0 (min (n - 1 - l.first) ((l.entries.length : Int) - 1)) = ((F.shN l n : Nat) : Int) := by rw [hN]; omega
      have hle : F.shN l n ≤ l.entries.length := by rw [hN]; omega
      rw [w1, w2, w3, hi, decide_eq_true hl, cond_true]
      simp only [idx_nn, Option.bind_some, ble_t hle, ble_t (Nat.le_refl _), Bool.and_self, cond_true, eDlt, F.cutE, List.map_drop]
    · have hN : F.shN l n = 0 := by unfold F.shN F.lt; rw [decide_eq_false hl, cond_false]
      rw [decide_eq_false hl, cond_false, hN]
      simp only [ble_t (Nat.zero_le _), ble_t (Nat.le_refl _), Bool.and_self, cond_true, eDlt, F.cutE, List.drop_zero]
      rfl
  · rw [bne1 h0]
    rfl

noncomputable def enPat : Env := envH ty noG lks [oChk, oFst, oOut, oCpL, oFol] [] [69] []

theorem enPat_ok : EnvOK Tryz.prog enPat := by
  refine envH_ok lks_ok ty_ok ?_ ?_
  · simp only [List.forall_mem_cons]
    exact ⟨okChk, okFst, okOut, okCpL, okFol, by simp⟩
  · simp

theorem evPat (l : Lst) (d : Dlt) : (runF enPat false Tryz.f21 [.agg (eLst l), .agg (eDlt d)]).val =
  (fun (q : Bool) => (fun (q_1 : List AV) => (fun (q_2 : Int) => (fun (q_3 : Bool) => (fun (q_4 : Int) => (fun (q_5 : Option Nat) => (fun (q_6 : Bool) => (fun (q_7 : AV) =>
  (fun (q_8 : AV) => (fun (q_9 : Option (AV × Heap)) => (fun (q_10 : List AV) => (fun (q_11 : Nat) => Option.bind (unenc encChk [q_8]) fun (z : Lst) => Option.bind (unenc
  encChk q_10) fun (z_1 : Lst) => Option.bind (unenc encFst [AV.sl [[(vI (F.check z))], [(vI (F.check z_1))]]]) fun (z : List Int) => bif ffI id z != (0 : Int) then some
  (AV.tup [q_7, (vI (ffI id z))], []) else Option.bind (unenc encOut [(vI d.skipped), (vI (0 : Int)), (vI (1000 : Int))]) fun (z : Int × Int × Int) => bif F.out z.fst
  z.snd.fst z.snd.snd then some (AV.tup [q_7, (vI (1 : Int))], []) else Option.bind (unenc encCpL q_10) fun (z : Lst) => (fun (q_12 : AV) => (fun (q_13 : AV) => (fun (q_14 :
  AV) => (fun (q_15 : AV) => (fun (q_16 : List AV) => (fun (q_17 : Option (AV × Heap)) => bif decide (List.length z.entries * (88 : Nat) ≤ (140737488355328 : Nat)) &&
  List.all z.entries fun (e : Ent) => decide (List.length e.extra * (16 : Nat) ≤ (140737488355328 : Nat)) then bif q_6 then bif bif q then decide ((↑(List.length (List.map
  eEnt l.entries)) : Int) < q_4) else false then q_9 else q_17 else bif q_6 then none else bif bif q then true else false then q_9 else q_17 else none) (bif q then
  Option.bind (idx q_2) fun (z_2 : Nat) => Option.bind q_5 fun (z_3 : Nat) => bif Nat.ble z_2 z_3 && Nat.ble z_3 (List.length (List.map eEnt l.entries)) && q_3 then
  Option.bind (unenc encCpL [AV.agg [(vI (0 : Int)), (vI (0 : Int)), (vI (0 : Int)), AV.sl (List.drop z_2 (List.take z_3 (List.map eEnt l.entries))), (vB false)]]) fun (z_4
  : Lst) => bif decide (List.length z_4.entries * (88 : Nat) ≤ (140737488355328 : Nat)) && List.all z_4.entries fun (e : Ent) => decide (List.length e.extra * (16 : Nat) ≤
  (140737488355328 : Nat)) then bif Nat.ble ((List.length (List.map eEnt z_4.entries) + List.length (List.map eEnt z.entries)) * (88 : Nat)) (140737488355328 : Nat) &&
  List.all (List.map eEnt z.entries) fun (r : Row) => Nat.beq (List.length r) q_11 then Option.bind (unenc encChk [AV.agg [q_14, q_12, q_13, AV.sl (List.map eEnt z_4.entries
  ++ List.map eEnt z.entries), (vB z.ended)]]) fun (z_5 : Lst) => bif F.check z_5 != (0 : Int) then some (AV.tup [q_7, (vI (F.check z_5))], []) else Option.bind (unenc
  encFol [q_8, AV.agg [q_14, q_12, q_13, AV.sl (List.map eEnt z_4.entries ++ List.map eEnt z.entries), (vB z.ended)]]) fun (z_6 : Lst × Lst) => bif decide (F.check z_6.fst =
  (0 : Int)) && decide (F.check z_6.snd = (0 : Int)) then bif F.fol z_6.fst z_6.snd != (0 : Int) then some (AV.tup [q_7, (vI (F.fol z_6.fst z_6.snd))], []) else some (AV.tup
  (AV.agg [q_14, q_12, q_13, AV.sl (List.map eEnt z_4.entries ++ List.map eEnt z.entries), (vB z.ended)] :: q_1), []) else none else none else none else none else
  Option.bind (unenc encChk q_16) fun (z : Lst) => bif F.check z != (0 : Int) then some (AV.tup [q_7, (vI (F.check z))], []) else Option.bind (unenc encFol (q_8 :: q_16))
  fun (z : Lst × Lst) => bif decide (F.check z.fst = (0 : Int)) && decide (F.check z.snd = (0 : Int)) then bif F.fol z.fst z.snd != (0 : Int) then some (AV.tup [q_7, (vI
  (F.fol z.fst z.snd))], []) else some (AV.tup (q_15 :: q_1), []) else none)) [q_15]) (AV.agg [q_14, q_12, q_13, AV.sl (List.map eEnt z.entries), (vB z.ended)])) ((vI
  z.target))) ((vI z.breaks))) ((vI z.first))) (TI.mk false (1 : Nat) [] [AV.e0] (50 : Nat) (7 : Nat) (88 : Nat) [(vS (ByteArray.mk (Array.mk []))), (vI (0 : Int)), (vB
  false), (vI (0 : Int)), (vS (ByteArray.mk (Array.mk []))), (vB false), AV.e0] none (4 : Nat) []).esize) [AV.agg [(vI d.list.target), (vI d.list.first), (vI d.list.breaks),
  AV.sl (List.map eEnt d.list.entries), (vB d.list.ended)]]) (some (AV.tup [q_7, (vI (9 : Int))], []))) (AV.agg [(vI l.target), (vI l.first), (vI l.breaks), AV.sl (List.map
  eEnt l.entries), (vB l.ended)])) (AV.agg [(vI (0 : Int)), (vI (0 : Int)), (vI (0 : Int)), AV.sl [], (vB false)])) (q && !decide (q_2 < (0 : Int)))) (idx q_4))
  (IntKind.wrap IntKind.i64 (q_2 + d.skipped))) (List.all (List.map eEnt l.entries) fun (r : Row) => Nat.beq (List.length r) (7 : Nat))) (IntKind.wrap IntKind.i64
  (d.list.first - l.first))) [(vI (0 : Int))]) (decide ((0 : Int) < d.skipped)) := (runFR_val).symm.trans (by kernel_rfl)

def encPat1 (l : Lst) (d : Dlt) : List AV := [.agg (eLst l), .agg (eDlt d)]

def encPat (a : Lst × Dlt) : List AV := encPat1 a.1 a.2

theorem encPat_inj (a a' : Lst × Dlt) (h : encPat a = encPat a') : a = a' := by
  simp only [encPat, encPat1] at h
  try simp [strs_inj, ints_inj, ents_inj, eEnt_iff, eLst_iff, eDlt_iff] at h
  grind

theorem unPat (l : Lst) (d : Dlt) : unenc encPat ([AV.agg [(vI l.target), (vI l.first), (vI l.breaks), AV.sl (List.map eEnt l.entries), (vB l.ended)], AV.agg [(vI d.skipped), (vI d.list.target), (vI d.list.first), (vI
  d.list.breaks), AV.sl (List.map eEnt d.list.entries), (vB d.list.ended)]]) = some (l, d) := unenc_of encPat_inj (l, d) rfl

theorem unPatw (l_target : Int) (l_first : Int) (l_breaks : Int) (l_entries : List Ent) (l_ended : Bool) (d : Dlt) : unenc encPat ([AV.agg [(vI l_target), (vI l_first), (vI l_breaks), AV.sl (List.map eEnt l_entries), (vB l_ended)], AV.agg [(vI d.skipped), (vI d.list.target), (vI d.list.first), (vI
  d.list.breaks), AV.sl (List.map eEnt d.list.entries), (vB d.list.ended)]]) = some ((Lst.mk l_target l_first l_breaks l_entries l_ended), d) := unenc_of encPat_inj ((Lst.mk l_target l_first l_breaks l_entries l_ended), d) rfl

def resPat1 (l : Lst) (d : Dlt) : AV × Heap := (.tup [.agg (eLst (F.pat l d).1), vI (F.pat l d).2], [])

def prePat1 (l : Lst) (d : Dlt) : Bool := true

noncomputable def oPat : Orc := orc 21 false encPat (fun a => prePat1 a.1 a.2) fun a => resPat1 a.1 a.2

theorem okPat : OrcOK Tryz.prog noG oPat := by
  refine mk_ok Tryz.f21 (keep := false) (by kernel_rfl) (by kernel_rfl) enPat_ok mixed (no_loops (by kernel_rfl)) (by first | exact fun _ _ => ⟨rfl, rfl⟩ | (intro h; cases h)) ?_
  rintro ⟨l, d⟩ hpre hok
  show (runF enPat false _ (encPat1 _ _)).val = some (resPat1 _ _)
  unfold encPat1 resPat1
  rw [evPat]
  have hu : unenc encFst [.sl [[.v (.int .i64 (F.check l))], [.v (.int .i64 (F.check d.list))]]] = some [F.check l, F.check d.list] := unenc_of encFst_inj [F.check l, F.check d.list] rfl
  simp only [unChk, unFst, unOut, unCpL, unFol, unChkw, unCpLw, unFolw, preChk1, preFst1, preOut1, preCpL1, preFol1, etaEnt, etaLst, etaSnd, etaStrm, etaMas, Option.bind_some, List.length_map, unStrs, unInts, unBools, unEnts, unItms, unTrns, cond_true, cond_false, Bool.and_true, Bool.true_and, all_ents, hu]
  unfold F.pat
  by_cases h1 : F.check l = 0
  case neg =>
    have e : M.ffI id [F.check l, F.check d.list] = F.check l := by simp [M.ffI, h1]
    rw [e, bne1 h1]
    rfl
  by_cases h2 : F.check d.list = 0
  case neg =>
    have e : M.ffI id [F.check l, F.check d.list] = F.check d.list := by simp [M.ffI, h1, h2]
    rw [e, bne1 h2, bne0 h1]
    rfl
  have e : M.ffI id [F.check l, F.check d.list] = 0 := by simp [M.ffI, h1, h2]
  rw [e, bne0 h1, bne0 h2, bne0 rfl]
  simp only [cond_false]
  cases ho : F.out d.skipped 0 1000
  case true => rfl
  have ho : 0 ≤ d.skipped ∧ d.skipped ≤ 1000 := by
    unfold F.out at ho
    simp only [Bool.or_eq_false_iff, decide_eq_false_iff_not] at ho
    omega
  obtain ⟨a1, a2, a3, a4, a5⟩ := F.check_ok h1
  obtain ⟨b1, b2, b3, b4, b5⟩ := F.check_ok h2
  have w1 : IntKind.i64.wrap (d.list.first - l.first) = d.list.first - l.first := wrap_id (by omega) (by omega)
  have w2 : IntKind.i64.wrap (d.list.first - l.first + d.skipped) = d.list.first - l.first + d.skipped := wrap_id (by omega) (by omega)
  rw [F.check_room h2, w1, w2]
  simp only [cond_false, cond_true]
  by_cases hs : 0 < d.skipped
  · rw [decide_eq_true hs]
    by_cases hf : d.list.first - l.first < 0
    · have hB : F.patB l d = true := by unfold F.patB F.lt; rw [decide_eq_true hs, decide_eq_true hf]; rfl
      rw [hB, decide_eq_true hf]
      rfl
    · rw [decide_eq_false hf]
      by_cases hg : (l.entries.length : Int) < d.list.first - l.first + d.skipped
      · have hB : F.patB l d = true := by unfold F.patB F.lt; rw [decide_eq_true hs, decide_eq_false hf, decide_eq_true hg]; rfl
        rw [hB, decide_eq_true hg]
        rfl
      · have hB : F.patB l d = false := by unfold F.patB F.lt; rw [decide_eq_true hs, decide_eq_false hf, decide_eq_false hg]; rfl
        obtain ⟨k, hk⟩ : ∃ k : Nat, d.list.first - l.first = (k : Int) := ⟨(d.list.first - l.first).toNat, by omega⟩
        obtain ⟨s, hsk⟩ : ∃ s : Nat, d.skipped = (s : Int) := ⟨d.skipped.toNat, by omega⟩
        have hT : F.patT l d = ⟨d.list.target, d.list.first, d.list.breaks, (l.entries.drop k).take s ++ d.list.entries, d.list.ended⟩ := by
          unfold F.patT F.patL F.lt
          rw [decide_eq_true hs, hk, hsk]
          rfl
        have hks : (k : Int) + (s : Int) = ((k + s : Nat) : Int) := by omega
        have hlen : k + s ≤ l.entries.length := by omega
        have hdt : List.drop k (List.take (k + s) l.entries) = (l.entries.drop k).take s := by rw [List.drop_take]; congr 1; omega
        have hln : ((l.entries.drop k).take s).length ≤ 1000 := by rw [List.length_take, List.length_drop]; omega
        have hall : (((l.entries.drop k).take s).all fun e => decide (e.extra.length * 16 ≤ 140737488355328)) = true := List.all_eq_true.2 fun e he => by
          have := (F.entry_ok (a2 e (List.mem_of_mem_drop (List.mem_of_mem_take he)))).2.1
          exact decide_eq_true (by omega)
        rw [hB, hk, hsk, hks, decide_eq_false (by omega : ¬ (l.entries.length : Int) < ((k + s : Nat) : Int))]
        simp only [idx_nn, Option.bind_some, cond_true, cond_false, ble_t (show k ≤ k + s by omega), ble_t hlen, Bool.and_self, Bool.not_false, ← List.map_take, ← List.map_drop, hdt, unCpLw, decide_eq_true (show ((l.entries.drop k).take s).length * 88 ≤ 140737488355328 by omega), hall, ble_t (show (((l.entries.drop k).take s).length + d.list.entries.length) * 88 ≤ 140737488355328 by omega), ← List.map_append, unChkw, unFolw, hT]
        by_cases hx : F.check (Lst.mk d.list.target d.list.first d.list.breaks ((l.entries.drop k).take s ++ d.list.entries) d.list.ended) = 0
        · rw [bne0 hx, decide_eq_true h1, decide_eq_true hx]
          simp only [Bool.and_self, cond_true, cond_false]
          cases F.fol l (Lst.mk d.list.target d.list.first d.list.breaks ((l.entries.drop k).take s ++ d.list.entries) d.list.ended) != 0 <;> rfl
        · rw [bne1 hx]
          rfl
  · have hB : F.patB l d = false := by unfold F.patB F.lt; rw [decide_eq_false hs]; rfl
    have hT : F.patT l d = d.list := by unfold F.patT F.lt; rw [decide_eq_false hs]; rfl
    rw [hB, hT, decide_eq_false hs, bne0 h2, decide_eq_true h1, decide_eq_true h2]
    simp only [Bool.false_and, Bool.and_self, cond_true, cond_false]
    cases F.fol l d.list != 0 <;> rfl

end M

def F.skL (n : Int) : ByteArray := ⟨⟨[35, 83, 75, 73, 80, 32]⟩⟩ ++ F.itoa n ++ ⟨⟨[10]⟩⟩

def F.dtx (d : Dlt) : ByteArray × Int :=
  bif F.check d.list != 0 then (⟨⟨[]⟩⟩, F.check d.list) else bif decide (500000 < (F.ltB d.list (F.skL d.skipped)).size) then (⟨⟨[]⟩⟩, 2) else bif F.out d.skipped 0 1000 then (⟨⟨[]⟩⟩, 1) else (F.ltB d.list (F.skL d.skipped), 0)

theorem F.skL_sz {n : Int} (h1 : -9223372036854775808 ≤ n) (h2 : n ≤ 9223372036854775807) : (F.skL n).size ≤ 100 := by
  have := F.itoa_size h1 h2
  unfold F.skL
  rw [ByteArray.size_append, ByteArray.size_append]
  have e1 : (⟨⟨[35, 83, 75, 73, 80, 32]⟩⟩ : ByteArray).size = 6 := rfl
  have e2 : (⟨⟨[10]⟩⟩ : ByteArray).size = 1 := rfl
  omega

namespace M

noncomputable def enDtt : Env := envH ty noG lks [oChk, oIta, oLtx, oBnd, oOut] [] [] []

theorem enDtt_ok : EnvOK Tryz.prog enDtt := by
  refine envH_ok lks_ok ty_ok ?_ ?_
  · simp only [List.forall_mem_cons]
    exact ⟨okChk, okIta, okLtx, okBnd, okOut, by simp⟩
  · simp

theorem evDtt (d : Dlt) : (runF enDtt false Tryz.f19 [.agg (eDlt d)]).val =
  Option.bind (unenc encChk [AV.agg [(vI d.list.target), (vI d.list.first), (vI d.list.breaks), AV.sl (List.map eEnt d.list.entries), (vB d.list.ended)]]) fun (z : Lst) =>
  bif F.check z != (0 : Int) then some (AV.tup [(vS (ByteArray.mk (Array.mk []))), (vI (F.check z))], []) else Option.bind (unenc encIta [(vI d.skipped)]) fun (z : Int) =>
  bif decide ((-9223372036854775808 : Int) ≤ z) && decide (z ≤ (9223372036854775807 : Int)) then bif Nat.ble (ByteArray.size (ByteArray.mk (Array.mk [(35 : UInt8), (83 :
  UInt8), (75 : UInt8), (73 : UInt8), (80 : UInt8), (32 : UInt8)])) + ByteArray.size (F.itoa z)) (9223372036854775807 : Nat) then bif Nat.ble (ByteArray.size (ByteArray.mk
  (Array.mk [(35 : UInt8), (83 : UInt8), (75 : UInt8), (73 : UInt8), (80 : UInt8), (32 : UInt8)]) ++ F.itoa z) + ByteArray.size (ByteArray.mk (Array.mk [(10 : UInt8)])))
  (9223372036854775807 : Nat) then Option.bind (unenc encLtx [AV.agg [(vI d.list.target), (vI d.list.first), (vI d.list.breaks), AV.sl (List.map eEnt d.list.entries), (vB
  d.list.ended)], (vS (ByteArray.mk (Array.mk [(35 : UInt8), (83 : UInt8), (75 : UInt8), (73 : UInt8), (80 : UInt8), (32 : UInt8)]) ++ F.itoa z ++ ByteArray.mk (Array.mk
  [(10 : UInt8)])))]) fun (z : Lst × ByteArray) => bif decide (F.check z.fst = (0 : Int)) && decide (ByteArray.size z.snd ≤ (100 : Nat)) then Option.bind (unenc encBnd [(vS
  (F.ltB z.fst z.snd))]) fun (z : ByteArray) => bif (bif decide ((500000 : Nat) < ByteArray.size z) then (2 : Int) else (0 : Int)) != (0 : Int) then some (AV.tup [(vS
  (ByteArray.mk (Array.mk []))), (vI (bif decide ((500000 : Nat) < ByteArray.size z) then (2 : Int) else (0 : Int)))], []) else Option.bind (unenc encOut [(vI d.skipped),
  (vI (0 : Int)), (vI (1000 : Int))]) fun (z_1 : Int × Int × Int) => bif F.out z_1.fst z_1.snd.fst z_1.snd.snd then some (AV.tup [(vS (ByteArray.mk (Array.mk []))), (vI (1 :
  Int))], []) else some (AV.tup [(vS (bif decide ((500000 : Nat) < ByteArray.size z) then ByteArray.mk (Array.mk []) else z)), (vI (0 : Int))], []) else none else none else
  none else none := by kernel_rfl

def encDtt1 (d : Dlt) : List AV := [.agg (eDlt d)]

def encDtt (a : Dlt) : List AV := encDtt1 a

theorem encDtt_inj (a a' : Dlt) (h : encDtt a = encDtt a') : a = a' := by
  simp only [encDtt, encDtt1] at h
  try simp [strs_inj, ints_inj, ents_inj, eEnt_iff, eLst_iff, eDlt_iff] at h
  grind

theorem unDtt (d : Dlt) : unenc encDtt ([AV.agg [(vI d.skipped), (vI d.list.target), (vI d.list.first), (vI d.list.breaks), AV.sl (List.map eEnt d.list.entries), (vB d.list.ended)]]) = some (d) := unenc_of encDtt_inj (d) rfl

def resDtt1 (d : Dlt) : AV × Heap := (.tup [vS (F.dtx d).1, vI (F.dtx d).2], [])

def preDtt1 (d : Dlt) : Bool := true

noncomputable def oDtt : Orc := orc 19 true encDtt (fun a => preDtt1 a) fun a => resDtt1 a

theorem okDtt : OrcOK Tryz.prog noG oDtt := by
  refine mk_ok Tryz.f19 (keep := false) (by kernel_rfl) (by kernel_rfl) enDtt_ok mixed (no_loops (by kernel_rfl)) (by first | exact fun _ _ => ⟨rfl, rfl⟩ | (intro h; cases h)) ?_
  rintro d hpre hok
  show (runF enDtt false _ (encDtt1 _)).val = some (resDtt1 _)
  unfold encDtt1 resDtt1
  rw [evDtt]
  have hn : -9223372036854775808 ≤ d.skipped ∧ d.skipped ≤ 9223372036854775807 := okA_int (okA_agg (hok _ (List.mem_cons_self ..)) _ (List.mem_cons_self ..))
  have hz := F.skL_sz hn.1 hn.2
  simp only [unChk, unIta, unLtx, unBnd, unOut, unChkw, unLtxw, preChk1, preIta1, preLtx1, preBnd1, preOut1, etaEnt, etaLst, etaSnd, etaStrm, etaMas, Option.bind_some, List.length_map, unStrs, unInts, unBools, unEnts, unItms, unTrns, cond_true, cond_false, Bool.and_true, Bool.true_and, decide_eq_true hn.1, decide_eq_true hn.2]
  have q1 : (⟨⟨[35, 83, 75, 73, 80, 32]⟩⟩ : ByteArray) ++ F.itoa d.skipped ++ (⟨⟨[10]⟩⟩ : ByteArray) = F.skL d.skipped := rfl
  have z1 : (⟨⟨[35, 83, 75, 73, 80, 32]⟩⟩ : ByteArray).size = 6 := rfl
  have z2 : (⟨⟨[10]⟩⟩ : ByteArray).size = 1 := rfl
  have hi := F.itoa_size hn.1 hn.2
  rw [q1, decide_eq_true hz, z2, ByteArray.size_append, z1, ble_t (by omega), ble_t (by omega)]
  unfold F.dtx
  by_cases hc : F.check d.list = 0
  case neg =>
    rw [show (F.check d.list != 0) = true by simp [hc]]
    rfl
  rw [show (F.check d.list != 0) = false by simp [hc], decide_eq_true hc]
  generalize F.ltB d.list (F.skL d.skipped) = T
  cases decide (500000 < T.size) <;> cases F.out d.skipped 0 1000 <;> rfl

end M

theorem F.no_wSk : (10 : UInt8) ∉ F.bs (F.hdW F.wSk) := by unfold F.hdW; rw [F.bs_app]; decide

theorem F.bs_skL (n : Int) : F.bs (F.skL n) = F.lnB (F.hdW F.wSk ++ F.itoa n) := by
  have w1 : F.hdW F.wSk = ⟨⟨[35, 83, 75, 73, 80, 32]⟩⟩ := F.bsx (by unfold F.hdW; rw [F.bs_app]; rfl)
  unfold F.skL F.lnB
  rw [w1, F.bs_app]
  rfl

theorem F.tx_dl {l : Lst} {k : Int} {s : ByteArray} (hc : F.check l = 0) (hk : 0 ≤ k ∧ k ≤ 1000) (hz : s.size ≤ 500000) (h : F.bs s = F.txL l (F.lnB (F.hdW F.wSk ++ F.itoa k))) : F.dlT s = (l, k, 0, 0) := by
  obtain ⟨c1, c2, c3, c4, c5, c6, c7⟩ := F.checkW_ok hc
  unfold F.txL at h
  obtain ⟨a1, a2, a3⟩ := F.line (by decide) h
  obtain ⟨b1, b2, b3⟩ := F.tx_hd F.no_wTg (by omega) (by omega) a3
  obtain ⟨d1, d2, d3⟩ := F.tx_hd F.no_wFi (by omega) (by omega) b3
  obtain ⟨e1, e2, e3⟩ := F.tx_hd F.no_wBr (by omega) (by omega) d3
  obtain ⟨f1, f2, f3⟩ := F.tx_hd F.no_wSk hk.1 (by omega) e3
  obtain ⟨s', n', i1⟩ := F.tx_bd l.ended l.entries _ ⟨⟨[]⟩⟩ (1 + 1 + 1 + 1 + 1) [] c7 f3
  have hB : F.dlB (F.cutT s F.nl) 1 = (true, s', n', l.entries, l.ended) := i1
  have hG : F.dlG (F.cutT s F.nl) 1 = l := by
    unfold F.dlG
    rw [hB]
    show (⟨F.hdV (F.cutT s F.nl) F.wTg, F.hdV (F.cutT (F.cutT s F.nl) F.nl) F.wFi, F.hdV (F.cutT (F.cutT (F.cutT s F.nl) F.nl) F.nl) F.wBr, l.entries, l.ended⟩ : Lst) = l
    rw [b2, d2, e2]
  have d1 : F.hdOk (F.dr 1 (F.cutT s F.nl)) F.wFi = true := d1
  have e1 : F.hdOk (F.dr 2 (F.cutT s F.nl)) F.wBr = true := e1
  have f1 : F.hdOk (F.dr 3 (F.cutT s F.nl)) F.wSk = true := f1
  have f2 : F.hdV (F.dr 3 (F.cutT s F.nl)) F.wSk = k := f2
  have ho : F.out k 0 1000 = false := by unfold F.out; rw [decide_eq_false (by omega), decide_eq_false (by omega)]; rfl
  unfold F.dlT
  rw [decide_eq_false (by omega : ¬ 500000 < s.size), a1, a2, F.seq_iff.2 rfl, b1, d1, e1, f1, f2, hG, hB, hc, ho]
  rfl

theorem F.turned_bad {l : Lst} (h : F.check l ≠ 0) (t : Trn) : F.turned l t = l := by
  have hb : (F.check l != 0) = true := by simp [h]
  unfold F.turned F.orL F.add F.slide F.endL
  simp only [if_pos h]
  rw [hb]
  cases (t.kind == 0) <;> cases (t.kind == 1) <;> cases (t.kind == 2) <;> rfl

theorem F.turns_bad {l : Lst} (h : F.check l ≠ 0) : ∀ ts : List Trn, F.turns l ts = l
  | [] => rfl
  | t :: ts => by
    show F.turns (F.turned l t) ts = l
    rw [F.turned_bad h]
    exact F.turns_bad h ts

theorem F.cutE_ok {l : Lst} (h : F.check l = 0) (n : Nat) : F.check (F.cutE l n) = 0 := by
  have h0 := h
  obtain ⟨h1, h2, h3, h4, h5⟩ := F.check_ok h0
  refine F.check_mk ?_ ?_ ?_ ?_ ?_
  · show F.out l.target 1 3600 = false
    unfold F.out; rw [decide_eq_false (by omega), decide_eq_false (by omega)]; rfl
  · show F.out l.first 0 999999999999000 = false
    unfold F.out; rw [decide_eq_false (by omega), decide_eq_false (by omega)]; rfl
  · show F.out l.breaks 0 1000000000000000 = false
    unfold F.out; rw [decide_eq_false (by omega), decide_eq_false (by omega)]; rfl
  · show (l.entries.drop n).length ≤ 1000
    rw [List.length_drop]; omega
  · exact fun e he => h2 e (List.mem_of_mem_drop he)

theorem F.pat_rel {l now : Lst} (h : F.Rel l now) (hf : now.first ≤ F.endN l) : F.pat l (F.sht now (F.endN l)).1 = (now, 0) := by
  have hF := F.rel_follows h
  obtain ⟨h1, h2, h3, h4, added, d, e1, e2, e3, e4⟩ := h
  obtain ⟨a1, a2, a3, a4, a5⟩ := F.check_ok h1
  obtain ⟨b1, b2, b3, b4, b5⟩ := F.check_ok h2
  have hE := F.endN_eq h1
  have hfol : F.fol l now = 0 := by
    unfold F.follows at hF
    rw [show (F.check l != 0) = false by simp [h1], show (F.check now != 0) = false by simp [h2]] at hF
    exact hF
  have hs : F.sht now (F.endN l) = (⟨(F.shN now (F.endN l) : Nat), F.cutE now (F.shN now (F.endN l))⟩, 0) := by
    unfold F.sht; rw [show (F.check now != 0) = false by simp [h2]]; rfl
  rw [hs]
  obtain ⟨k, hk⟩ : ∃ k, F.shN now (F.endN l) = k := ⟨_, rfl⟩
  rw [hk]
  have hkl : k ≤ now.entries.length ∧ d + k ≤ l.entries.length := by
    rw [← hk]
    unfold F.shN F.lt
    by_cases hl : now.first < F.endN l
    · rw [decide_eq_true hl, cond_true]
      omega
    · rw [decide_eq_false hl, cond_false]
      omega
  have hk1 : k ≤ 1000 := by omega
  show F.pat l ⟨(k : Nat), F.cutE now k⟩ = (now, 0)
  have hd : (F.cutE now k).first - l.first = (d : Int) := by show now.first - l.first = _; omega
  have hB : F.patB l ⟨(k : Nat), F.cutE now k⟩ = false := by
    unfold F.patB F.lt
    show (decide ((0 : Int) < (k : Int)) && (decide ((F.cutE now k).first - l.first < 0) || decide ((l.entries.length : Int) < (F.cutE now k).first - l.first + (k : Int)))) = false
    rw [hd, decide_eq_false (by omega : ¬ (d : Int) < 0), decide_eq_false (by omega : ¬ (l.entries.length : Int) < (d : Int) + (k : Int))]
    simp
  have hT : F.patT l ⟨(k : Nat), F.cutE now k⟩ = now := by
    have he : (l.entries.drop d).take k ++ now.entries.drop k = now.entries := by
      have : (l.entries.drop d).take k = now.entries.take k := by
        rw [e1, List.drop_append_of_le_length (by omega), List.take_append_of_le_length (by rw [List.length_drop]; omega)]
      rw [this, List.take_append_drop]
    unfold F.patT F.lt
    show (bif decide ((0 : Int) < (k : Int)) then F.patL l ⟨(k : Nat), F.cutE now k⟩ else F.cutE now k) = now
    by_cases h0 : (0 : Int) < (k : Int)
    · rw [decide_eq_true h0, cond_true]
      unfold F.patL
      show (⟨now.target, now.first, now.breaks, (l.entries.drop ((F.cutE now k).first - l.first).toNat).take (k : Int).toNat ++ now.entries.drop k, now.ended⟩ : Lst) = now
      rw [hd, Int.toNat_natCast, Int.toNat_natCast, he]
    · rw [decide_eq_false h0, cond_false]
      have : k = 0 := by omega
      subst this
      rfl
  unfold F.pat
  have ho : F.out (k : Int) 0 1000 = false := by unfold F.out; rw [decide_eq_false (by omega), decide_eq_false (by omega)]; rfl
  have hc := F.cutE_ok h2 k
  show (bif F.check l != 0 then (default, F.check l) else bif F.check (F.cutE now k) != 0 then (default, F.check (F.cutE now k)) else bif F.out (k : Int) 0 1000 then (default, 1) else bif F.patB l ⟨(k : Nat), F.cutE now k⟩ then (default, 9) else
    bif F.check (F.patT l ⟨(k : Nat), F.cutE now k⟩) != 0 then (default, F.check (F.patT l ⟨(k : Nat), F.cutE now k⟩)) else bif F.fol l (F.patT l ⟨(k : Nat), F.cutE now k⟩) != 0 then (default, F.fol l (F.patT l ⟨(k : Nat), F.cutE now k⟩)) else (F.patT l ⟨(k : Nat), F.cutE now k⟩, 0)) = (now, 0)
  rw [h1, hc, ho, hB, hT, h2, hfol]
  rfl

namespace M

def stLDP (l : Lst) (ts : List Trn) (now : Lst) (k : Nat) : St := ⟨[(6, vI k), (5, .ptr 5 0 0), (2, .ptr 2 0 0), (1, .sl (ts.map eTrn))], [(5, ⟨true, 0, 0, [eLst now]⟩), (2, ⟨true, 0, 0, [eLst l]⟩)]⟩

def stLDP1 (a : Lst × (List Trn) × Lst × Nat) : St := stLDP a.1 a.2.1 a.2.2.1 a.2.2.2

theorem stLDP_inj (a a' : Lst × (List Trn) × Lst × Nat) (h : stLDP1 a = stLDP1 a') : a = a' := by
  simp only [stLDP1, stLDP] at h
  try simp [strs_inj, ints_inj, ents_inj, eEnt_iff, eLst_iff, eDlt_iff, eTrn_iff, trns_inj] at h
  grind

theorem unstLDP (l : Lst) (ts : List Trn) (now : Lst) (k : Nat) : unenc stLDP1 (St.mk [(6, (vI (↑k : Int))), (5, .ptr 5 0 0), (2, .ptr 2 0 0), (1, AV.sl (List.map eTrn ts))] [(5, Blk.mk true 0 0 [[(vI now.target), (vI now.first), (vI now.breaks),
  AV.sl (List.map eEnt now.entries), (vB now.ended)]]), (2, Blk.mk true 0 0 [[(vI l.target), (vI l.first), (vI l.breaks), AV.sl (List.map eEnt l.entries), (vB l.ended)]])]) = some (l, ts, now, k) := unenc_of stLDP_inj (l, ts, now, k) rfl

theorem unstLDP0 (l : Lst) (ts : List Trn) (now : Lst)  : unenc stLDP1 (St.mk [(6, (vI (0 : Int))), (5, .ptr 5 0 0), (2, .ptr 2 0 0), (1, AV.sl (List.map eTrn ts))] [(5, Blk.mk true 0 0 [[(vI now.target), (vI now.first), (vI now.breaks), AV.sl
  (List.map eEnt now.entries), (vB now.ended)]]), (2, Blk.mk true 0 0 [[(vI l.target), (vI l.first), (vI l.breaks), AV.sl (List.map eEnt l.entries), (vB l.ended)]])]) = some (l, ts, now, 0) := unenc_of stLDP_inj (l, ts, now, 0) rfl

def outLDP (l : Lst) (ts : List Trn) (now : Lst) (k : Nat) : T (Ex × St) := .ret (.exit 0, ⟨[(5, .ptr 5 0 0), (2, .ptr 2 0 0)], [(5, ⟨true, 0, 0, [eLst (F.turns now (ts.drop k))]⟩), (2, ⟨true, 0, 0, [eLst l]⟩)]⟩)

noncomputable def prlLDP (l : Lst) (ts : List Trn) (now : Lst) (k : Nat) : Bool := decide (ts.length ≤ 9223372036854775807) && decide (k ≤ ts.length) && F.tOK ts

noncomputable def lpLDP : Nat × (St → T (Ex × St)) := (3, lpo [6, 5, 2, 1] [5, 2] stLDP1 (fun a => prlLDP a.1 a.2.1 a.2.2.1 a.2.2.2) fun a => outLDP a.1 a.2.1 a.2.2.1 a.2.2.2)

noncomputable def enLDP : Env := envH ty noG lks [oTrd, oSht, oDtt, oRed, oPat, oSmL, oAwk] [] [] [lpLDP]

theorem enLDP_ok : EnvOK Tryz.prog enLDP := by
  refine envH_ok lks_ok ty_ok ?_ ?_
  · simp only [List.forall_mem_cons]
    exact ⟨okTrd, okSht, okDtt, okRed, okPat, okSmL, okAwk, by simp⟩
  · simp

theorem evLDPL (l : Lst) (ts : List Trn) (now : Lst) (k : Nat) : ((exec enLDP (loopN Tryz.f5 0) (stLDP l ts now k)).bind (lessX ([6, 5, 2, 1], [5, 2]) ([5, 2], [5, 2]) ([], []))).val =
  (fun (q : Trn) => (fun (q_1 : List AV) => (fun (q_2 : List (Nat × Blk)) => bif decide ((↑k : Int) < (↑(List.length (List.map eTrn ts)) : Int)) then Option.bind (unenc
  (List.map eTrn) (List.map eTrn ts)) fun (z : List Trn) => (fun (q_3 : Ent) => bif decide (k < List.length z) then Option.bind (unenc encTrd [AV.agg q_1, AV.agg [(vI
  (List.getD z k q).kind), (vS q_3.uri), (vI q_3.milli), (vB q_3.brk), (vI q_3.date), (vS q_3.key), (vB q_3.gap), AV.sl (List.map eStr q_3.extra), (vI (List.getD z k
  q).keep)]]) fun (z : Lst × Trn) => bif decide (List.length z.snd.entry.extra * (16 : Nat) ≤ (140737488355328 : Nat)) then some (Ex.normal, St.mk [(6, (vI (IntKind.wrap
  IntKind.i64 ((↑k : Int) + (1 : Int))))), (5, .ptr 5 0 0), (2, .ptr 2 0 0), (1, AV.sl (List.map eTrn ts))] ((5, Blk.mk true 0 0 [[(vI (F.turned z.fst z.snd).target), (vI
  (F.turned z.fst z.snd).first), (vI (F.turned z.fst z.snd).breaks), AV.sl (List.map eEnt (F.turned z.fst z.snd).entries), (vB (F.turned z.fst z.snd).ended)]]) :: q_2)) else
  none else none) (List.getD z k q).entry else some (Ex.exit (0 : Nat), St.mk [(5, .ptr 5 0 0), (2, .ptr 2 0 0)] ((5, Blk.mk true 0 0 [q_1]) :: q_2))) [(2, Blk.mk true 0 0
  [[(vI l.target), (vI l.first), (vI l.breaks), AV.sl (List.map eEnt l.entries), (vB l.ended)]])]) [(vI now.target), (vI now.first), (vI now.breaks), AV.sl (List.map eEnt
  now.entries), (vB now.ended)]) (Trn.mk (0 : Int) (Ent.mk (ByteArray.mk (Array.mk [])) (0 : Int) false (0 : Int) (ByteArray.mk (Array.mk [])) false []) (0 : Int)) := by kernel_rfl

theorem lpLDP_ok (l : Lst) (ts : List Trn) (now : Lst) (k : Nat) (hp : prlLDP l ts now k = true) : ∀ ex s', (outLDP l ts now k).val = some (ex, s') → LoopOK enLDP (loopN Tryz.f5 0) (stLDP l ts now k) ex s' := by
  simp only [prlLDP, Bool.and_eq_true, decide_eq_true_eq] at hp
  obtain ⟨⟨h1, h2⟩, h3⟩ := hp
  refine loop_fold (xs := ts) (st := fun a k => stLDP l ts a k) (f := F.turned) (fin := fun a => (.exit 0, ⟨[(5, .ptr 5 0 0), (2, .ptr 2 0 0)], [(5, ⟨true, 0, 0, [eLst a]⟩), (2, ⟨true, 0, 0, [eLst l]⟩)]⟩)) (I := fun a _ => True) (n := ([6, 5, 2, 1], [5, 2])) (e := ([5, 2], [5, 2])) (r := ([], [])) ?_ (fun _ => ⟨by simp, rfl⟩) (fun _ _ => rfl) ?_ now k h2 trivial
  · intro now _
    rw [evLDPL]; simp
    exact ⟨rfl, rfl⟩
  · intro now k y hy hI
    have hlt := lt_at hy
    have hy16 : decide (y.entry.extra.length * 16 ≤ 140737488355328) = true := List.all_eq_true.1 h3 y (List.mem_of_getElem? hy)
    refine ⟨?_, trivial⟩
    rw [evLDPL]
    simp only [unTrd, unSht, unDtt, unRed, unPat, unSmL, unAwk, unTrdw, unShtw, unPatw, unSmLw, preTrd1, preSht1, preDtt1, preRed1, prePat1, preSmL1, preAwk1, unstLDP, unstLDP0, prlLDP, outLDP, etaEnt, etaLst, etaSnd, etaStrm, etaMas, Option.bind_some, List.length_map, unStrs, unInts, unBools, unEnts, unItms, unTrns, cond_true, cond_false, Bool.and_true, Bool.true_and, cast_lt hlt, decide_eq_true hlt, next_at hlt h1, getD_at hy, stLDP, hy16]
    rfl

theorem evLDP (l : Lst) (ts : List Trn) : (runF enLDP false Tryz.f5 [.agg (eLst l), .sl (ts.map eTrn)]).val =
  (fun (q : Option (AV × Heap)) => (fun (q_1 : Blk) => Option.bind (unenc stLDP1 (St.mk [(6, (vI (0 : Int))), (5, .ptr 5 0 0), (2, .ptr 2 0 0), (1, AV.sl (List.map eTrn
  ts))] [(5, q_1), (2, q_1)])) fun (z : Lst × List Trn × Lst × Nat) => (fun (q_2 : Lst) => (fun (q_3 : Int) => (fun (q_4 : Int) => (fun (q_5 : AV) => bif decide (List.length
  z.snd.fst ≤ (9223372036854775807 : Nat)) && decide (z.snd.snd.snd ≤ List.length z.snd.fst) && F.tOK z.snd.fst && true then Option.bind (unenc encSht [q_5, (vI q_3)]) fun
  (z_1 : Lst × Int) => (fun (q_6 : Lst) => (fun (q_7 : Bool) => bif bif (F.sht z_1.fst z_1.snd).snd != (0 : Int) then true else decide (q_3 < q_4) then bif q_7 then
  Option.bind (unenc encAwk []) fun (z : Unit) => some ((vB (bif q_7 then true else false)), []) else q else Option.bind (unenc encDtt [AV.agg [(vI (F.sht z_1.fst
  z_1.snd).fst.skipped), (vI q_6.target), (vI q_6.first), (vI q_6.breaks), AV.sl (List.map eEnt q_6.entries), (vB q_6.ended)]]) fun (z_2 : Dlt) => bif (F.dtx z_2).snd != (0
  : Int) then bif (F.dtx z_2).snd == (2 : Int) then Option.bind (unenc encAwk []) fun (z : Unit) => some ((vB (bif (F.dtx z_2).snd == (2 : Int) then true else false)), [])
  else q else Option.bind (unenc encRed [(vS (F.dtx z_2).fst)]) fun (z_3 : ByteArray) => bif bif bif (F.dlT z_3).snd.snd.snd != (0 : Int) then true else (F.dlT
  z_3).snd.snd.fst != (0 : Int) then true else (F.dlT z_3).snd.fst != (F.sht z_1.fst z_1.snd).fst.skipped then q else Option.bind (unenc encPat [AV.agg [(vI z.fst.target),
  (vI z.fst.first), (vI z.fst.breaks), AV.sl (List.map eEnt z.fst.entries), (vB z.fst.ended)], AV.agg [(vI (F.dlT z_3).snd.fst), (vI (F.dlT z_3).fst.target), (vI (F.dlT
  z_3).fst.first), (vI (F.dlT z_3).fst.breaks), AV.sl (List.map eEnt (F.dlT z_3).fst.entries), (vB (F.dlT z_3).fst.ended)]]) fun (z : Lst × Dlt) => (fun (q_8 : Lst) => bif
  (F.pat z.fst z.snd).snd == (0 : Int) then Option.bind (unenc encSmL [AV.agg [(vI q_8.target), (vI q_8.first), (vI q_8.breaks), AV.sl (List.map eEnt q_8.entries), (vB
  q_8.ended)], q_5]) fun (z_4 : Lst × Lst) => (fun (q_9 : Bool) => bif q_9 then Option.bind (unenc encAwk []) fun (z : Unit) => some ((vB (bif q_9 then true else false)),
  []) else q) (bif (F.pat z.fst z.snd).snd == (0 : Int) then F.sameL z_4.fst z_4.snd else false) else q) (F.pat z.fst z.snd).fst) (bif (F.sht z_1.fst z_1.snd).snd == (0 :
  Int) then true else (F.sht z_1.fst z_1.snd).fst.skipped == (0 : Int))) (F.sht z_1.fst z_1.snd).fst.list else none) (AV.agg [(vI q_2.target), (vI q_4), (vI q_2.breaks),
  AV.sl (List.map eEnt q_2.entries), (vB q_2.ended)])) q_2.first) (IntKind.wrap IntKind.i64 (z.fst.first + (↑(List.length (List.map eEnt z.fst.entries)) : Int)))) (F.turns
  z.snd.snd.fst (List.drop z.snd.snd.snd z.snd.fst))) (Blk.mk true 0 0 [[(vI l.target), (vI l.first), (vI l.breaks), AV.sl (List.map eEnt l.entries), (vB l.ended)]])) (some
  ((vB false), [])) := by kernel_rfl

def encLDP1 (l : Lst) (ts : List Trn) : List AV := [.agg (eLst l), .sl (ts.map eTrn)]

def encLDP (a : Lst × (List Trn)) : List AV := encLDP1 a.1 a.2

theorem encLDP_inj (a a' : Lst × (List Trn)) (h : encLDP a = encLDP a') : a = a' := by
  simp only [encLDP, encLDP1] at h
  try simp [strs_inj, ints_inj, ents_inj, eEnt_iff, eLst_iff, eDlt_iff, eTrn_iff, trns_inj] at h
  grind

def resLDP1 (l : Lst) (ts : List Trn) : AV × Heap := (vB true, [])

def preLDP1 (l : Lst) (ts : List Trn) : Bool := F.tOK ts

noncomputable def oLDP : Orc := orc 5 true encLDP (fun a => preLDP1 a.1 a.2) fun a => resLDP1 a.1 a.2

theorem okLDP : OrcOK Tryz.prog noG oLDP := by
  refine mk_ok Tryz.f5 (keep := false) (by kernel_rfl) (by kernel_rfl) enLDP_ok mixed (one_loop (x0 := loopN Tryz.f5 0) (by kernel_rfl) (lpo_ok ?_)) (by first | exact fun _ _ => ⟨rfl, rfl⟩ | (intro h; cases h)) ?_
  · rintro ⟨l, ts, now, k⟩ hp
    exact lpLDP_ok l ts now k hp
  rintro ⟨l, ts⟩ hpre hok
  show (runF enLDP false _ (encLDP1 _ _)).val = some (resLDP1 _ _)
  unfold encLDP1 resLDP1
  rw [evLDP]
  simp only [preLDP1] at hpre
  have hx : ts.length ≤ 9223372036854775807 := by simpa using (okA_sl (hok _ (List.mem_cons_of_mem _ (List.mem_cons_self ..)))).1
  simp only [unTrd, unSht, unDtt, unRed, unPat, unSmL, unAwk, unTrdw, unShtw, unPatw, unSmLw, preTrd1, preSht1, preDtt1, preRed1, prePat1, preSmL1, preAwk1, unstLDP, unstLDP0, prlLDP, outLDP, etaEnt, etaLst, etaSnd, etaStrm, etaMas, Option.bind_some, List.length_map, unStrs, unInts, unBools, unEnts, unItms, unTrns, cond_true, cond_false, Bool.and_true, Bool.true_and, hx, List.drop_zero, Nat.zero_le, decide_true, hpre]
  rw [F.endN_def]
  have hbad : F.check l ≠ 0 → F.turns l ts = l := fun h => F.turns_bad h ts
  have hrel : F.check l = 0 → F.Rel l (F.turns l ts) := fun h => F.rel_turns ts (F.rel_self h)
  generalize F.turns l ts = now at hbad hrel ⊢
  by_cases hs : F.check now = 0
  case neg =>
    have e : F.sht now (F.endN l) = (default, F.check now) := by
      unfold F.sht; rw [show (F.check now != 0) = true by simp [hs]]; rfl
    have hb : (F.check now != 0) = true := by simp [hs]
    rw [e]
    simp only [hb, cond_true]
    cases F.check now == 0 <;> rfl
  have h0 : F.check l = 0 := by
    by_cases h : F.check l = 0
    · exact h
    · rw [hbad h] at hs; exact absurd hs h
  have hr := hrel h0
  have e : F.sht now (F.endN l) = (⟨(F.shN now (F.endN l) : Nat), F.cutE now (F.shN now (F.endN l))⟩, 0) := by
    unfold F.sht; rw [show (F.check now != 0) = false by simp [hs]]; rfl
  by_cases hf : F.endN l < now.first
  · rw [e, decide_eq_true hf]
    rfl
  have hP := F.pat_rel hr (by omega)
  have hle : F.shN now (F.endN l) ≤ now.entries.length := by
    unfold F.shN F.lt
    cases decide (now.first < F.endN l)
    · exact Nat.zero_le _
    · rw [cond_true]; omega
  have hlen := (F.check_ok hs).1
  rw [e] at hP ⊢
  generalize F.shN now (F.endN l) = k at *
  rw [decide_eq_false hf]
  simp only [bne_self_eq_false, cond_false]
  have hc := F.cutE_ok hs k
  have ho : F.out (k : Int) 0 1000 = false := by unfold F.out; rw [decide_eq_false (by omega), decide_eq_false (by omega)]; rfl
  have hD : F.dtx ⟨(k : Nat), F.cutE now k⟩ = bif decide (500000 < (F.ltB (F.cutE now k) (F.skL (k : Int))).size) then (⟨⟨[]⟩⟩, 2) else (F.ltB (F.cutE now k) (F.skL (k : Int)), 0) := by
    unfold F.dtx
    show (bif F.check (F.cutE now k) != 0 then (⟨⟨[]⟩⟩, F.check (F.cutE now k)) else bif decide (500000 < (F.ltB (F.cutE now k) (F.skL (k : Int))).size) then (⟨⟨[]⟩⟩, 2) else bif F.out (k : Int) 0 1000 then (⟨⟨[]⟩⟩, 1) else (F.ltB (F.cutE now k) (F.skL (k : Int)), 0)) = _
    rw [hc, ho]
    rfl
  rw [hD]
  by_cases hz : 500000 < (F.ltB (F.cutE now k) (F.skL (k : Int))).size
  · rw [decide_eq_true hz]
    rfl
  rw [decide_eq_false hz]
  simp only [cond_false, bne_self_eq_false]
  have hR : F.dlT (F.ltB (F.cutE now k) (F.skL (k : Int))) = (F.cutE now k, (k : Int), 0, 0) := F.tx_dl hc (by omega) (by omega) (by rw [F.bs_ltB, F.bs_skL])
  have hu : unenc encPat [.agg [vI l.target, vI l.first, vI l.breaks, .sl (l.entries.map eEnt), vB l.ended], .agg [vI (k : Int), vI (F.cutE now k).target, vI (F.cutE now k).first, vI (F.cutE now k).breaks, .sl ((F.cutE now k).entries.map eEnt), vB (F.cutE now k).ended]] = some (l, ⟨(k : Int), F.cutE now k⟩) := unenc_of encPat_inj (l, ⟨(k : Int), F.cutE now k⟩) rfl
  rw [hR]
  simp only [hu, Option.bind_some, hP, F.sameL_refl, bne_self_eq_false, beq_self_eq_true, cond_true, cond_false]

end M

end Go.Proofs.YtajmdlpanlbnjaaGreatDoor

namespace Go.Proofs.YtajmdlpanlbnjaaGreatDoor.M
open Go.ChangeShapes Go.WideShapes Go.ChangeAt Go.RowKit Go.Deep
set_option linter.unusedVariables false

theorem own : ownKnob Tryz.prog.godebug = none := by kernel_rfl

theorem laidOut : laidOutB Tryz.prog = true := by kernel_rfl

theorem op_string : OpnU Tryz.prog 9 (cS) (smS) := opnU_str Tryz.underlying9

theorem cells_string : Tryz.prog.cellsOf 9 = 1 := by kernel_rfl

theorem op_int : OpnU Tryz.prog 3 (cI) (fun _ => True) := (opn_int Tryz.underlying3).small

theorem cells_int : Tryz.prog.cellsOf 3 = 1 := by kernel_rfl

theorem op_bool : OpnU Tryz.prog 4 (cB) (fun _ => True) := (opn_bool Tryz.underlying4).small

theorem cells_bool : Tryz.prog.cellsOf 4 = 1 := by kernel_rfl

theorem bytes_string : Tryz.prog.bytesOf 9 = 16 := by kernel_rfl

theorem cells_sstring : Tryz.prog.cellsOf 48 = 1 := by kernel_rfl

theorem op_sstring : OpnU Tryz.prog 48 (cSl (cS)) (KU (smS)) := opnU_slice Tryz.underlying48 cells_string bytes_string (by decide) (fun _ => rfl) op_string

def kEnt (x : Ent) : Prop := (smS) x.uri ∧ (smS) x.key ∧ (KU (smS)) x.extra

theorem cells_Ent : Tryz.prog.cellsOf 50 = 7 := by kernel_rfl

set_option maxRecDepth 100000 in
theorem op_Ent : OpnU Tryz.prog 50 eEnt kEnt := by
  intro H enc w fuel cs d p h hw hbk
  obtain ⟨hl, hf⟩ := opnU_fields Tryz.underlying50 h hw hbk
  obtain ⟨x0, r0, k0⟩ : ∃ x, RL (R0 w (Inn w)) ((cS) x) ((cs.drop 0).take (Tryz.prog.cellsOf 9)) ∧ (smS) x := hf 0 _ rfl op_string
  rw [cells_string] at r0
  obtain ⟨x1, r1, k1⟩ : ∃ x, RL (R0 w (Inn w)) ((cI) x) ((cs.drop 1).take (Tryz.prog.cellsOf 3)) ∧ (fun _ => True) x := hf 1 _ rfl op_int
  rw [cells_int] at r1
  obtain ⟨x2, r2, k2⟩ : ∃ x, RL (R0 w (Inn w)) ((cB) x) ((cs.drop 2).take (Tryz.prog.cellsOf 4)) ∧ (fun _ => True) x := hf 2 _ rfl op_bool
  rw [cells_bool] at r2
  obtain ⟨x3, r3, k3⟩ : ∃ x, RL (R0 w (Inn w)) ((cI) x) ((cs.drop 3).take (Tryz.prog.cellsOf 3)) ∧ (fun _ => True) x := hf 3 _ rfl op_int
  rw [cells_int] at r3
  obtain ⟨x4, r4, k4⟩ : ∃ x, RL (R0 w (Inn w)) ((cS) x) ((cs.drop 4).take (Tryz.prog.cellsOf 9)) ∧ (smS) x := hf 4 _ rfl op_string
  rw [cells_string] at r4
  obtain ⟨x5, r5, k5⟩ : ∃ x, RL (R0 w (Inn w)) ((cB) x) ((cs.drop 5).take (Tryz.prog.cellsOf 4)) ∧ (fun _ => True) x := hf 5 _ rfl op_bool
  rw [cells_bool] at r5
  obtain ⟨x6, r6, k6⟩ : ∃ x, RL (R0 w (Inn w)) ((cSl (cS)) x) ((cs.drop 6).take (Tryz.prog.cellsOf 48)) ∧ (KU (smS)) x := hf 6 _ rfl op_sstring
  rw [cells_sstring] at r6
  rw [cells_Ent] at hl
  match cs, hl with
  | [c0, c1, c2, c3, c4, c5, c6], _ =>
    refine ⟨⟨x0, x1, x2, x3, x4, x5, x6⟩, ?_, k0, k4, k6⟩
    show RL (R0 w (Inn w)) (((cS) x0) ++ (((cI) x1) ++ (((cB) x2) ++ (((cI) x3) ++ (((cS) x4) ++ (((cB) x5) ++ (((cSl (cS)) x6)))))))) ([c0] ++ ([c1] ++ ([c2] ++ ([c3] ++ ([c4] ++ ([c5] ++ ([c6])))))))
    exact RL.append r0 (RL.append r1 (RL.append r2 (RL.append r3 (RL.append r4 (RL.append r5 (r6))))))

theorem bytes_Ent : Tryz.prog.bytesOf 50 = 88 := by kernel_rfl

theorem cells_sEnt : Tryz.prog.cellsOf 22 = 1 := by kernel_rfl

theorem op_sEnt : OpnU Tryz.prog 22 (cSl (eEnt)) (KU (kEnt)) := opnU_slice Tryz.underlying22 cells_Ent bytes_Ent (by decide) (fun _ => rfl) op_Ent

def kLst (x : Lst) : Prop := (KU (kEnt)) x.entries

theorem cells_Lst : Tryz.prog.cellsOf 24 = 5 := by kernel_rfl

set_option maxRecDepth 100000 in
theorem op_Lst : OpnU Tryz.prog 24 eLst kLst := by
  intro H enc w fuel cs d p h hw hbk
  obtain ⟨hl, hf⟩ := opnU_fields Tryz.underlying24 h hw hbk
  obtain ⟨x0, r0, k0⟩ : ∃ x, RL (R0 w (Inn w)) ((cI) x) ((cs.drop 0).take (Tryz.prog.cellsOf 3)) ∧ (fun _ => True) x := hf 0 _ rfl op_int
  rw [cells_int] at r0
  obtain ⟨x1, r1, k1⟩ : ∃ x, RL (R0 w (Inn w)) ((cI) x) ((cs.drop 1).take (Tryz.prog.cellsOf 3)) ∧ (fun _ => True) x := hf 1 _ rfl op_int
  rw [cells_int] at r1
  obtain ⟨x2, r2, k2⟩ : ∃ x, RL (R0 w (Inn w)) ((cI) x) ((cs.drop 2).take (Tryz.prog.cellsOf 3)) ∧ (fun _ => True) x := hf 2 _ rfl op_int
  rw [cells_int] at r2
  obtain ⟨x3, r3, k3⟩ : ∃ x, RL (R0 w (Inn w)) ((cSl (eEnt)) x) ((cs.drop 3).take (Tryz.prog.cellsOf 22)) ∧ (KU (kEnt)) x := hf 3 _ rfl op_sEnt
  rw [cells_sEnt] at r3
  obtain ⟨x4, r4, k4⟩ : ∃ x, RL (R0 w (Inn w)) ((cB) x) ((cs.drop 4).take (Tryz.prog.cellsOf 4)) ∧ (fun _ => True) x := hf 4 _ rfl op_bool
  rw [cells_bool] at r4
  rw [cells_Lst] at hl
  match cs, hl with
  | [c0, c1, c2, c3, c4], _ =>
    refine ⟨⟨x0, x1, x2, x3, x4⟩, ?_, k3⟩
    show RL (R0 w (Inn w)) (((cI) x0) ++ (((cI) x1) ++ (((cI) x2) ++ (((cSl (eEnt)) x3) ++ (((cB) x4)))))) ([c0] ++ ([c1] ++ ([c2] ++ ([c3] ++ ([c4])))))
    exact RL.append r0 (RL.append r1 (RL.append r2 (RL.append r3 (r4))))

def kTrn (x : Trn) : Prop := (kEnt) x.entry

theorem cells_Trn : Tryz.prog.cellsOf 52 = 9 := by kernel_rfl

set_option maxRecDepth 100000 in
theorem op_Trn : OpnU Tryz.prog 52 eTrn kTrn := by
  intro H enc w fuel cs d p h hw hbk
  obtain ⟨hl, hf⟩ := opnU_fields Tryz.underlying52 h hw hbk
  obtain ⟨x0, r0, k0⟩ : ∃ x, RL (R0 w (Inn w)) ((cI) x) ((cs.drop 0).take (Tryz.prog.cellsOf 3)) ∧ (fun _ => True) x := hf 0 _ rfl op_int
  rw [cells_int] at r0
  obtain ⟨x1, r1, k1⟩ : ∃ x, RL (R0 w (Inn w)) ((eEnt) x) ((cs.drop 1).take (Tryz.prog.cellsOf 50)) ∧ (kEnt) x := hf 1 _ rfl op_Ent
  rw [cells_Ent] at r1
  obtain ⟨x2, r2, k2⟩ : ∃ x, RL (R0 w (Inn w)) ((cI) x) ((cs.drop 8).take (Tryz.prog.cellsOf 3)) ∧ (fun _ => True) x := hf 2 _ rfl op_int
  rw [cells_int] at r2
  rw [cells_Trn] at hl
  match cs, hl with
  | [c0, c1, c2, c3, c4, c5, c6, c7, c8], _ =>
    refine ⟨⟨x0, x1, x2⟩, ?_, k1⟩
    show RL (R0 w (Inn w)) (((cI) x0) ++ (((eEnt) x1) ++ (((cI) x2)))) ([c0] ++ ([c1, c2, c3, c4, c5, c6, c7] ++ ([c8])))
    exact RL.append r0 (RL.append r1 (r2))

theorem bytes_Trn : Tryz.prog.bytesOf 52 = 104 := by kernel_rfl

theorem op_sTrn : OpnU Tryz.prog 46 (cSl (eTrn)) (KU (kTrn)) := opnU_slice Tryz.underlying46 cells_Trn bytes_Trn (by decide) (fun _ => rfl) op_Trn

end Go.Proofs.YtajmdlpanlbnjaaGreatDoor.M

namespace Go.Proofs.YtajmdlpanlbnjaaGreatDoor.M
open Go.ChangeShapes Go.WideShapes Go.ChangeAt Go.RowKit Go.Deep
set_option linter.unusedVariables false

theorem noG_at {W : World} {laid : List (String × DataW Unit)} (hsh : W.ShapedOpen Tryz.prog) (hL : laidMetH Tryz.prog laid W)
    (hp : (laid.all fun x => x.2.handleName?.isNone) = true := by kernel_rfl)
    (m3 : ∃ i : Nat, laid[i]? = some ("internal/strconv.uint64pow10", Rows.laid_internal_strconv_uint64pow10) := by first | exact ⟨0, rfl⟩ | exact ⟨1, rfl⟩ | exact ⟨2, rfl⟩ | exact ⟨3, rfl⟩ | exact ⟨4, rfl⟩ | exact ⟨5, rfl⟩ | exact ⟨6, rfl⟩ | exact ⟨7, rfl⟩) :
    ∀ g r, noG g = some r → GlobAt W (Inn W) g r := by
  obtain ⟨_, m3⟩ := m3
  rw [MakeChecks.laidMetH_plain _ _ _ hp] at hL
  have hr : Lib.VarReads Tryz.prog W "internal/strconv.uint64pow10" Rows.laid_internal_strconv_uint64pow10 := Lib.laidMet.reads hL (List.mem_of_getElem? m3)
  have cellAt : ∀ {g : Nat} {cs : Array Value} {ty : TypeId} {o : Nat × Nat} (_ : W.heap[g]? = some (.cells cs ty o)) (j : Nat), W.cell? ⟨g, j, none⟩ = cs[j]? := fun h j => by simp [World.cell?, h]
  intro g r hg
  unfold noG at hg
  split at hg
  · rename_i hb
    have e : g = 3 := beq_true.1 hb
    subst e
    cases hg
    have hz : ((begin Tryz.prog (fun _ _ => 0) default).world.heap[3]?).bind Obj.row? = some (#[.int .i64 0], 3) := by kernel_rfl
    obtain ⟨cs, hh, hs, hr2⟩ := hsh.1 3 _ _ (of_decide_eq_true (by kernel_rfl)) hz
    obtain ⟨m, hm⟩ := cell_of_shapedOpen_int hsh (g := 3) (of_decide_eq_true (by kernel_rfl)) hz rfl (by kernel_rfl) (by kernel_rfl) Tryz.underlying3
    exact glob_mk hh ⟨m, by rw [← cellAt hh 0]; exact hm⟩
  · split at hg
    · rename_i hb
      have e : g = 2 := beq_true.1 hb
      subst e
      cases hg
      obtain ⟨g', t, cs, fuel, p, h1, h2, h3, h4⟩ := hr
      have hn : Tryz.prog.globalNamed "internal/strconv.uint64pow10" = some 2 := by kernel_rfl
      obtain rfl := Option.some.inj (hn.symm.trans h1)
      obtain rfl := Option.some.inj ((show (Tryz.prog.globals[2]?).map (·.type) = some 154 by kernel_rfl).symm.trans h2)
      have hd : (Rows.laid_internal_strconv_uint64pow10 : DataW Unit) = Lib.tabData .u64 Lib.pow10Tab := by kernel_rfl
      rw [hd] at h4
      have hcs := Lib.cells_of_tab Tryz.underlying154 Tryz.underlying128 (by kernel_rfl) (by kernel_rfl) h4
      obtain ⟨ty, o, hh⟩ := var_cells hn h3
      exact glob_mk hh (by rw [← hcs])
    · cases hg

end Go.Proofs.YtajmdlpanlbnjaaGreatDoor.M
