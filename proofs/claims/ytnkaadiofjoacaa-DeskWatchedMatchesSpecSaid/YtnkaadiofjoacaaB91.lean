/- What is proved here: the walk of desk.levels: a map of steps, its keys collected and sorted, and the levels laid (no statement of the seat). -/
import Derived.Test.YtnkaadiofjoacaaB90
namespace Go.Proofs.Ytnkaadiofjoacaa
open Go Go.RowKit Go.Lib Go.Maps Go.Sort
set_option linter.unusedVariables false
set_option linter.unusedSimpArgs false
set_option maxHeartbeats 4000000
set_option maxRecDepth 100000

theorem lv_undM : Try.prog.underlying 84 = some (.map 3 3) := by kernel_rfl
theorem lv_undI : Try.prog.underlying 3 = some (.int .i64) := by kernel_rfl
theorem lv_undSI : Try.prog.underlying 75 = some (.slice 3) := by kernel_rfl
theorem lv_undSL : Try.prog.underlying 25 = some (.slice 30) := by kernel_rfl
theorem lv_law : Keyed Try.prog 3 := int_keyed lv_undI
theorem lv_zero (w : World) : (zeroValue 3).run Try.prog w = .ok (.int .i64 0) w := by kernel_rfl
theorem lv_infoI : (Try.prog.info? 3).map (fun i => (i.zero, i.size, i.bytes)) = some (some (.int .i64 0), 1, 8) := by kernel_rfl
theorem lv_infoL : (Try.prog.info? 30).map (fun i => (i.zero, i.size, i.bytes)) = some (some (.agg #[.int .i64 0, .int .i64 0]), 2, 16) := by kernel_rfl

/-- What the map reads as, key by key. -/
def NetD (T : List Stay) (D : DataW Unit) : Prop := IsMap D ∧ ∀ x, D.atKey (.int .i64 x) (.lit (.int .i64 0)) = .lit (.int .i64 (F.net T x))

theorem NetD.start : NetD [] (.map []) := ⟨isMap_empty, fun _ => rfl⟩

theorem NetD.step {T : List Stay} {s : Stay} {D : DataW Unit} {a b c d : Int} (h : NetD T D) (ha : a = s.sp.fr) (hb : b = s.sp.to)
    (hc : c = F.net T s.sp.fr + 1) (hd : d = (bif s.sp.fr == s.sp.to then c else F.net T s.sp.to) - 1) :
    NetD (T ++ [s]) ((D.put (.int .i64 a) (.lit (.int .i64 c))).put (.int .i64 b) (.lit (.int .i64 d))) := by
  subst ha hb
  refine ⟨(h.1.put _ _).put _ _, fun x => ?_⟩
  by_cases h2 : x = s.sp.to
  · subst h2
    rw [atKey_put_same (k := .int .i64 s.sp.to) (h.1.put _ _) trivial, hd, hc, F.net_append]
    simp only [F.net, F.stp, beq_self_eq_true, cond_true]
    by_cases h1 : s.sp.fr = s.sp.to
    · rw [h1, beq_self_eq_true]; simp only [cond_true]; congr 2; omega
    · rw [beq_eq_false_iff_ne.2 h1]; simp only [cond_false]; congr 2
  · rw [atKey_put_other (fun e => h2 (by cases e; rfl))]
    by_cases h1 : x = s.sp.fr
    · subst h1
      rw [atKey_put_same (k := .int .i64 s.sp.fr) h.1 trivial, hc, F.net_append]
      simp only [F.net, F.stp, beq_self_eq_true, cond_true]
      rw [beq_eq_false_iff_ne.2 (Ne.symm h2)]; simp only [cond_false]; congr 2
    · rw [atKey_put_other (fun e => h1 (by cases e; rfl)), h.2, F.net_append]
      simp only [F.net, F.stp]
      rw [beq_eq_false_iff_ne.2 (Ne.symm h2), beq_eq_false_iff_ne.2 (Ne.symm h1)]; simp only [cond_false]; congr 2; omega

/-- Which keys have been collected. -/
def Got (T : List Stay) (D : DataW Unit) (left : Lit → Bool) (ks : List Int) : Prop :=
  ks.Nodup ∧ (∀ x ∈ ks, -9223372036854775808 ≤ x ∧ x ≤ 9223372036854775807) ∧ ∀ x, x ∈ ks ↔ (has D (.int .i64 x) = true ∧ left (.int .i64 x) = false ∧ F.net T x ≠ 0)

theorem Got.start (T : List Stay) (D : DataW Unit) : Got T D (has D) [] := ⟨List.nodup_nil, (fun x hx => by cases hx), fun x => by cases has D (.int .i64 x) <;> simp⟩

theorem strike_ne {x y : Int} (h : y ≠ x) : (Lit.int .i64 y).sameKey (.int .i64 x) = false := sameKey_ne fun e => h (by cases e; rfl)

theorem strike_eq (x : Int) : (Lit.int .i64 x).sameKey (.int .i64 x) = true := by simp [Lit.sameKey]

theorem Got.step {T : List Stay} {D : DataW Unit} {left : Lit → Bool} {ks : List Int} {x : Int} (h : Got T D left ks) (hx : left (.int .i64 x) = true) (hh : has D (.int .i64 x) = true)
    (hw : -9223372036854775808 ≤ x ∧ x ≤ 9223372036854775807) (hn : F.net T x ≠ 0) : Got T D (fun z => left z && !z.sameKey (.int .i64 x)) (ks ++ [x]) := by
  have hno : x ∉ ks := fun hm => by
    have := ((h.2.2 x).1 hm).2.1
    rw [hx] at this; cases this
  refine ⟨List.nodup_append.2 ⟨h.1, by simp, fun a ha b hb => ?_⟩, fun y hy => ?_, fun y => ?_⟩
  · rw [List.mem_singleton] at hb
    subst hb
    exact fun e => hno (e ▸ ha)
  · rcases List.mem_append.1 hy with hy | hy
    · exact h.2.1 y hy
    · rw [List.mem_singleton] at hy; subst hy; exact hw
  · by_cases e : y = x
    · subst e
      simp [strike_eq, hh, hn]
    · simp [strike_ne e, h.2.2 y, e]

theorem Got.skip {T : List Stay} {D : DataW Unit} {left : Lit → Bool} {ks : List Int} {x : Int} (h : Got T D left ks) (hn : F.net T x = 0) : Got T D (fun z => left z && !z.sameKey (.int .i64 x)) ks := by
  refine ⟨h.1, h.2.1, fun y => ?_⟩
  by_cases e : y = x
  · subst e
    rw [h.2.2 y, hn]; simp
  · rw [h.2.2 y]; simp [strike_ne e]

theorem w64 (n : Int) (h : -9223372036854775808 ≤ n ∧ n ≤ 9223372036854775807) : wrap64 n = n := by unfold wrap64; omega

theorem w64_eq (n : Int) : wrap64 n = IntKind.i64.wrap n := by rw [IntKind.wrap_i64]; unfold wrap64; omega

theorem wf_bounds {x : Int} (h : (Lit.int .i64 x).wf = true) : -9223372036854775808 ≤ x ∧ x ≤ 9223372036854775807 := by
  simp [Lit.wf, IntKind.min, IntKind.max, IntKind.signed, IntKind.bits] at h
  omega

theorem got_sorted {T : List Stay} {D : DataW Unit} {left : Lit → Bool} {ks : List Int} (h : NetD T D) (hg : Got T D left ks) (hl : ∀ kl, left kl = false) : F.srtI ks = F.times T := by
  refine F.ext_lt (F.srtI_lt hg.1) (F.times_lt T) fun x => ?_
  rw [F.srtI_mem, F.times_mem, hg.2.2 x]
  constructor
  · exact fun h => h.2.2
  · intro hn
    refine ⟨?_, hl _, hn⟩
    cases hh : has D (.int .i64 x)
    · have := h.2 x
      rw [atKey_of_not_has hh] at this
      simp only [DataW.lit.injEq, Lit.int.injEq, true_and] at this
      exact absurd this.symm hn
    · rfl

theorem NetD.look {T : List Stay} {D : DataW Unit} {x c : Int} (h : NetD T D) (hc : D.atKey (.int .i64 x) (.lit (.int .i64 0)) = .lit (.int .i64 c)) : c = F.net T x := by
  rw [h.2] at hc
  cases hc; rfl

theorem NetD.look2 {T : List Stay} {D : DataW Unit} {x y c d : Int} (h : NetD T D) (hd : (D.put (.int .i64 x) (.lit (.int .i64 c))).atKey (.int .i64 y) (.lit (.int .i64 0)) = .lit (.int .i64 d)) :
    d = bif x == y then c else F.net T y := by
  by_cases e : x = y
  · subst e
    rw [atKey_put_same (k := .int .i64 x) h.1 trivial] at hd
    rw [beq_self_eq_true]
    cases hd; rfl
  · rw [atKey_put_other (fun e1 => e (by cases e1; rfl)), h.2] at hd
    rw [beq_eq_false_iff_ne.2 e]
    cases hd; rfl

theorem size_le {P : Program} {k : TypeId} {R : Value → Option (DataW Unit × List MemPlace)} {w : World} {b n : Nat} {D : DataW Unit} (h : w.ownsMap P k R b n D) : Maps.size D ≤ n := by
  obtain ⟨es, clock, _, _, hs, rfl⟩ := h
  rw [Maps.size_eq, length_sorted]
  simpa using hs

theorem ownsMap_of_block {P : Program} {k : TypeId} {R : Value → Option (DataW Unit × List MemPlace)} {w w' : World} {b n : Nat} {D : DataW Unit} (h : w.ownsMap P k R b n D) (hb : w'.heap[b]? = w.heap[b]?) : w'.ownsMap P k R b n D := by
  obtain ⟨es, clock, h1, h2⟩ := h
  exact ⟨es, clock, hb.trans h1, h2⟩

theorem ownsRow_mono {w : World} {base base' : Nat} {e : TypeId} {size : Nat} {v : Value} {n : Nat} {xs : List Value} (h : w.ownsRow base e size v n xs) (hb : base' ≤ base) : w.ownsRow base' e size v n xs := by
  refine ⟨h.1, h.2.imp (fun x => x) ?_⟩
  rintro ⟨g, cap, cur, h1, h2, h3⟩
  exact ⟨g, cap, cur, h1, Nat.le_trans hb h2, h3⟩

/-- A row of integers, by its cells. -/
theorem ints_row {w : World} {base : Nat} {t : TypeId} {v : Value} {ks : List Int} (h : w.ownsRow base t 1 v ks.length (ks.map (Value.int .i64))) :
    ∃ A cap b, v = .slice A ks.length cap ∧ (0 < ks.length → A = some ⟨b, 0, none⟩ ∧ base ≤ b ∧ b < w.heap.size) ∧ ∀ (j : Nat) (x : Int), ks[j]? = some x → w.cell? ⟨b, j, none⟩ = some (.int .i64 x) := by
  rcases h.2 with ⟨rfl, h0⟩ | ⟨g, cap, cur, rfl, hbase, hb, h1, h2, h3, h4⟩
  · refine ⟨none, 0, 0, by rw [h0], fun h1 => by omega, fun j x hx => ?_⟩
    have := (List.getElem?_eq_some_iff.1 hx).1
    omega
  · refine ⟨some ⟨g, 0, none⟩, cap, g, rfl, fun _ => ⟨rfl, hbase, (Array.getElem?_eq_some_iff.1 hb).1⟩, fun j x hx => ?_⟩
    have hj := (List.getElem?_eq_some_iff.1 hx).1
    have e : (cur.toList.take (ks.length * 1))[j]? = some (.int .i64 x) := by rw [h4, List.getElem?_map, hx]; rfl
    rw [List.getElem?_take_of_lt (by omega)] at e
    unfold World.cell?
    simp only [hb]
    simpa using e

/-- The keys are sorted. -/
theorem sort_any {w : World} {base : Nat} {v : Value} {ks : List Int} (h : w.ownsRow base 3 1 v ks.length (ks.map (Value.int .i64))) (hl : ks.length ≤ 100000) :
    Calls Try.prog 39 #[v] w fun e w' => e = .returned (.tuple #[]) ∧ w'.ownsRow base 3 1 v (F.srtI ks).length ((F.srtI ks).map (Value.int .i64)) ∧ w.grownBy w' v.ownBlock := by
  rcases h.2 with ⟨rfl, h0⟩ | ⟨g, cap, cur, rfl, hbase, hb, h1, h2, h3, h4⟩
  · obtain rfl : ks = [] := List.eq_nil_of_length_eq_zero h0
    refine (Try.slices_Sort_int_none none 0 w).mono ?_
    rintro e w' ⟨rfl, rfl⟩
    have e0 : F.srtI [] = [] := by simp [F.srtI]
    rw [e0]
    exact ⟨rfl, h, World.grownBy.refl _ _⟩
  · have hH : Holds (Value.int .i64) w g 0 ks.toArray := holds_of_blockI hb (by simpa using h4)
    have hgl : g < w.heap.size := (Array.getElem?_eq_some_iff.1 hb).1
    have hl2 : (F.srtI ks).length = ks.length := F.srtI_len ks
    have hkl : ks.length = (ks.map (Value.int .i64)).length := by simp
    refine (Try.slices_Sort_int g 0 cap ks w hH hgl (by omega)).mono ?_
    rintro e w' ⟨rfl, nn, os, rfl⟩
    have hg := grownBy_sortedI (w := w) (g := g) (n := nn) (os := os) (F.srtI ks).toArray
    have hro := ownsRow_sortedI (n := nn) (os := os) (ts := F.srtI ks) hl2 hbase hb h1 h2 h3
    refine ⟨rfl, ?_, hg⟩
    rw [hl2]
    exact hro

namespace M

theorem ok_wf {x : Int} (h : okAtom (.int .i64 x)) : (Lit.int .i64 x).wf = true := by
  simp only [okAtom, IntKind.min, IntKind.max, IntKind.signed, IntKind.bits] at h
  simp at h
  exact WalkArith.wf_i64 (by omega)

theorem alloc_cell {w w' : World} {row : Option Nat} {cs : Array Value} {t : TypeId} {j : Nat} {x : Value} (h : (w.alloc (.cells cs t)).grownBy w' row) (hne : some w.heap.size ≠ row) (hx : cs[j]? = some x) : w'.cell? ⟨w.heap.size, j, none⟩ = some x := by
  rw [World.cell?_of_block (a := ⟨w.heap.size, j, none⟩) (h.block w.heap.size (by simp) hne)]
  unfold World.cell?
  simp only [(MapKept.heap_alloc w (.cells cs t)).1]
  exact hx

/-- A stay in cells. -/
theorem stay_cells {w : World} {S : Nat → Prop} {T : List Stay} {v : Value} (h : R0 w S (.sl (T.map M.eStay)) v) : ∃ (A : Option Addr) (cap b off : Nat), v = .slice A T.length cap ∧ T.length ≤ cap ∧ cap ≤ 9223372036854775807 ∧ (0 < T.length → A = some ⟨b, off, none⟩ ∧ S b) ∧
    ∀ (k : Nat) (s : Stay), T[k]? = some s → w.cell? ⟨b, off + k * 7, none⟩ = some (.string s.beat.session) ∧ w.cell? ⟨b, off + k * 7 + 1, none⟩ = some (.int .i64 s.beat.no) ∧ w.cell? ⟨b, off + k * 7 + 2, none⟩ = some (.int .i64 s.beat.time) ∧
      w.cell? ⟨b, off + k * 7 + 3, none⟩ = some (.int .i64 s.beat.state) ∧ w.cell? ⟨b, off + k * 7 + 4, none⟩ = some (.int .i64 s.beat.rate) ∧ w.cell? ⟨b, off + k * 7 + 5, none⟩ = some (.int .i64 s.sp.fr) ∧ w.cell? ⟨b, off + k * 7 + 6, none⟩ = some (.int .i64 s.sp.to) ∧
      okAtom (.int .i64 s.sp.fr) ∧ okAtom (.int .i64 s.sp.to) := by
  generalize hr : T.map M.eStay = rows at h
  cases h with
  | @sl _ A cap size b off vals hc hm hA hl hcell hrr =>
    subst hr
    refine ⟨A, cap, b, off, by rw [List.length_map], by rw [List.length_map] at hc; exact hc, hm, fun h0 => hA (fun e => by have := congrArg List.length e; simp at this; rw [this] at h0; simp at h0), fun k s hs => ?_⟩
    have hrow : (T.map M.eStay)[k]? = some (M.eStay s) := by rw [List.getElem?_map, hs]; rfl
    have h7 : size = 7 := by have := hl k _ hrow; simpa [M.eStay] using this.symm
    subst h7
    have key : ∀ (j : Nat) (x : Value), (M.eStay s)[j]? = some (.v x) → w.cell? ⟨b, off + k * 7 + j, none⟩ = some x ∧ okAtom x := fun j x hj => by
      have c := hcell k j _ _ hrow hj
      have r := hrr k j _ _ hrow hj
      generalize hv : vals k j = u at c r
      cases r with
      | v hx => exact ⟨c, hx⟩
    exact ⟨(key 0 _ rfl).1, (key 1 _ rfl).1, (key 2 _ rfl).1, (key 3 _ rfl).1, (key 4 _ rfl).1, (key 5 _ rfl).1, (key 6 _ rfl).1, (key 5 _ rfl).2, (key 6 _ rfl).2⟩

theorem stays_at {w : World} {S : Nat → Prop} {vl : Value} {q : Int} {l : List Beat} (hlen : l.length ≤ 3000) (hS : ∀ b, S b → b < w.heap.size) (hR : R0 w S (.sl (l.map M.eBeat)) vl) (hq : okAtom (.int .i64 q)) :
    Calls Try.prog 28 #[vl, .int .i64 q] w fun e w' => ∃ v S', e = .returned v ∧ Below w.heap.size w w' ∧ (∀ b, S' b → S b ∨ w.heap.size ≤ b) ∧ (∀ b, S' b → b < w'.heap.size) ∧ R0 w' S' (.sl ((F.stays q l).map M.eStay)) v := by
  have hsp := M.orc_at M.okSty M.encSty_inj (l, q) (decide_eq_true hlen)
  refine (hsp w S [vl, .int .i64 q] hS (fun g r h => by cases h) ⟨hR, .v hq, trivial⟩).mono ?_
  rintro e w' ⟨v, S', β', rfl, hb, _, h3, h4, _, _, _, _, hr⟩
  exact ⟨v, S', rfl, hb, h3, h4, hr⟩

/-- The levels in cells. -/
def lvCells (l : List Level) : List Value := l.flatMap fun x => [.int .i64 x.time, .int .i64 x.many]

theorem levels_any {W : World} {S : Nat → Prop} {vl : Value} {q : Int} {l : List Beat} (hlen : l.length ≤ 3000) (hS : ∀ b, S b → b < W.heap.size) (hR : R0 W S (.sl (l.map M.eBeat)) vl) (hq : okAtom (.int .i64 q)) :
    Calls Try.prog 21 #[vl, .int .i64 q] W fun e w' => ∃ v, e = .returned v ∧ Below W.heap.size W w' ∧ w'.ownsRow W.heap.size 30 2 v (F.levels q l).length (lvCells (F.levels q l)) ∧ ∀ x ∈ F.levels q l, (Lit.int .i64 x.time).wf = true := by
  obtain ⟨i0, hi, hz0, hz1, hz2⟩ := info_parts lv_infoI
  obtain ⟨j0, hj, hj0, hj1, hj2⟩ := info_parts lv_infoL
  have hmm := @run_makeMap Try.prog
  have hst := stays_at (w := W.alloc (.map #[] 0)) (S := S) (vl := vl) (q := q) (l := l) hlen (fun b hb => by simp; exact Nat.lt_succ_of_lt (hS b hb)) (hR.mono (fun b hb => ((Below.refl W.heap.size W).alloc (Nat.le_refl _) _).block b (hS b hb)) fun _ h => h) hq
  go_enter Try.func21, Try.ntmps21
  generalize hT : F.stays q l = T at hst
  have hTl : T.length ≤ 3000 := by
    have := F.staysA_len q l []
    rw [← hT]; unfold F.stays; simp only [List.length_nil, Nat.zero_add] at this; omega
  clear hR
  go_wp2_with (go_at_call 28; refine hst.mono ?_; rintro e w2 ⟨v, S2, rfl, hbel, hS2, hS2', hR2⟩; obtain ⟨A, cap, b, off, rfl, hcap, hcap2, hA, hcells⟩ := stay_cells hR2)
  have hbel : Hid (Below (W.heap.size + 1) (W.alloc (.map #[] 0)) w2) := by
    have e : (W.alloc (.map #[] 0)).heap.size = W.heap.size + 1 := by simp
    rw [e] at hbel
    exact hbel
  have hcells := (⟨hcells⟩ : PLift _)
  clear hR2 hst
  go_loopw [20] (fun i wr => ∃ (k : Nat) (D : DataW Unit), k ≤ T.length ∧ i = .int .i64 k ∧ wr.ownsMap Try.prog 3 (plainElem Try.prog 3) W.heap.size (2 * k) D ∧ Hid (NetD (T.take k) D) ∧ Hid (w2.grownBy wr (some W.heap.size)))
    (fun i _ => T.length - (RowKit.intOf i).toNat)
  case atStart =>
    have hsz2 := hbel.out.size
    refine ⟨0, .map [], Nat.zero_le _, rfl, ?_, NetD.start, World.grownBy.refl _ _⟩
    refine World.ownsMap.mono (n := 0) ?_ (Nat.zero_le _)
    have h1 := World.ownsMap_made (H := Unit) W Try.prog 3 (plainElem Try.prog 3)
    refine h1.kept (row := none) ⟨hbel.out.os, hbel.out.tape, hbel.out.output, hbel.out.size, fun j hj _ => hbel.out.block j (by simpa using hj)⟩ (by simp)
  case round =>
    obtain ⟨k, D, hk, rfl, hown, hN, hg⟩ := hrel
    by_cases hlt : k < T.length
    · obtain ⟨rfl, hSb⟩ := hA (by omega)
      obtain ⟨s, hTk⟩ : ∃ s, T[k]? = some s := ⟨_, List.getElem?_eq_getElem hlt⟩
      have hbb : wr.heap[b]? = w2.heap[b]? := hg.out.block b (hS2' b hSb) (fun e => by
        have e := Option.some.inj e
        have h1 : (W.alloc (.map #[] 0)).heap.size = W.heap.size + 1 := by simp
        rcases hS2 b hSb with h | h
        · have := hS b h; omega
        · rw [h1] at h; omega)
      obtain ⟨c0, c1, c2, c3, c4, c5, c6, o5, o6⟩ := hcells.down k s hTk
      have hTk : Hid (T[k]? = some s) := hTk
      rw [← World.cell?_of_block (a := ⟨b, _, none⟩) hbb] at c0 c1 c2 c3 c4 c5 c6
      have hk5 : keyOf Try.prog 3 (.int .i64 s.sp.fr) = some (.int .i64 s.sp.fr) := keyOf_int_mk lv_undI (ok_wf o5)
      have hk6 : keyOf Try.prog 3 (.int .i64 s.sp.to) = some (.int .i64 s.sp.to) := keyOf_int_mk lv_undI (ok_wf o6)
      go_wp2_with (first
        | (at_lookup; refine wpList_lookup_own_int _ rfl _ _ 84 rfl 3 3 .i64 lv_law lv_undM lv_undI (lv_zero _) W.heap.size _ _ rfl hown1 _ _ rfl hk6 ?_; intro d hat2 hwd)
        | (at_lookup; refine wpList_lookup_own_int _ rfl _ _ 84 rfl 3 3 .i64 lv_law lv_undM lv_undI (lv_zero _) W.heap.size _ _ rfl (hown.alloc _) _ _ rfl hk5 ?_; intro c hat hwc)
        | (at_mapUpdate; refine wpList_mapUpdate_own _ rfl _ _ _ 84 rfl 3 3 lv_law lv_undM _ W.heap.size _ _ rfl hown1 (by unfold maxLen; omega) _ _ _ rfl rfl hk6 _ [] (plainElem_int lv_undI (wrap64_wf _)) ?_; intro w4 hown2 hgrow2)
        | (at_mapUpdate; refine wpList_mapUpdate_own _ rfl _ _ _ 84 rfl 3 3 lv_law lv_undM _ W.heap.size _ _ rfl (hown.alloc _) (by unfold maxLen; omega) _ _ _ rfl rfl hk5 _ [] (plainElem_int lv_undI (wrap64_wf _)) ?_; intro w3 hown1 hgrow1
           have c6' : w3.cell? ⟨wr.heap.size, 6, none⟩ = some (.int .i64 s.sp.to) := alloc_cell (j := 6) hgrow1 (fun e => by have := hown.lt; have e := Option.some.inj e; omega) rfl)
        | go_in)
      have hc5 := hN.out.look hat
      have hd6 := hN.out.look2 hat2
      have hb5 := F.net_le (T.take k) s.sp.fr
      have hb6 := F.net_le (T.take k) s.sp.to
      have htk : (T.take k).length ≤ 3000 := by simp; omega
      have hk1 : T.take (k + 1) = T.take k ++ [s] := by rw [List.take_add_one, hTk.out]; rfl
      go_roundw
      case rel =>
        refine ⟨k + 1, _, by omega, by go_num, hown2, ?_, ?_⟩
        · show NetD (T.take (k + 1)) _
          rw [hk1]
          refine hN.out.step rfl rfl ?_ ?_
          · rw [hc5]; exact w64 _ ⟨by omega, by omega⟩
          · rw [hd6]
            cases s.sp.fr == s.sp.to
            · simp only [cond_false]; exact w64 _ ⟨by omega, by omega⟩
            · simp only [cond_true]; rw [hc5, w64 (F.net (T.take k) s.sp.fr + 1) ⟨by omega, by omega⟩]; exact w64 _ ⟨by omega, by omega⟩
        · exact hg.out.trans (((World.grownBy_alloc wr _ none).but _).trans (hgrow1.trans hgrow2))
      case measure => simp [RowKit.intOf]; omega
    · obtain rfl : k = T.length := by omega
      have hsz := size_le hown
      have hbw : Hid (Below W.heap.size W wr) := by
        have h1 : (W.alloc (.map #[] 0)).heap.size = W.heap.size + 1 := by simp
        refine (((Below.refl W.heap.size W).alloc (Nat.le_refl _) (.map #[] 0)).trans (hbel.out.mono (Nat.le_succ _))).grown hg.out ?_ (fun j hj => by cases hj; exact Nat.le_refl _)
        have := hbel.out.size
        omega
      rw [List.take_length] at hN
      clear hg hA hcells
      go_wp2_with (first
        | (at_range; refine wpList_range_own _ rfl _ 84 rfl 3 3 lv_law lv_undM _ W.heap.size _ _ rfl hown ?_; intro w0 hrg0 hg0 hs0)
        | go_in)
      go_frame
      have hRRge : W.heap.size ≤ wr.heap.size := hbw.out.size
      generalize hRR : wr.heap.size = RR at hrg0 hs0 hRRge ⊢
      go_loopw [8] (fun v w' => ∃ (left : Lit → Bool) (cnt : Nat) (ks : List Int), w'.ranges Try.prog 3 (plainElem Try.prog 3) W.heap.size RR (2 * T.length) D left cnt ∧
          w'.ownsRow (W.heap.size + 1) 3 1 v ks.length (ks.map (Value.int .i64)) ∧ Hid (Got T D left ks) ∧ ks.length + cnt ≤ 2 * T.length ∧ Hid (Below W.heap.size W w'))
        (fun _ w' => w'.rangeLeft W.heap.size RR)
      case atStart =>
        refine ⟨_, _, [], hrg0, World.ownsRow_nil _ _ _ _, Got.start _ _, by simpa using hsz, ?_⟩
        have := hbw.out.size
        exact hbw.out.grown hg0 this (fun j hj => by cases hj)
      case round =>
        obtain ⟨left, cnt, ks, hrg, hrow, hG, hlen, hB⟩ := hrel
        go_wp2_with (first
          | (at_next; refine wpList_next_ranges_ii _ rfl _ rfl 3 3 .i64 .i64 lv_law lv_undI lv_undI W.heap.size RR _ _ _ _ rfl hrg ?_ ?_)
          | go_in)
        · -- nothing is left
          intro hc0 hl0
          have hownz := hrg.owns
          have hks : F.srtI ks = F.times T := got_sorted hN.out hG.out hl0
          have hbd : ∀ x ∈ F.times T, (Lit.int .i64 x).wf = true := fun x hx => by
            rw [← hks] at hx
            have := hG.out.2.1 x ((List.mergeSort_perm ..).subset hx)
            exact WalkArith.wf_i64 (by omega)
          have hso := sort_any hrow (by omega)
          have hne5 := row_ne_low hrow (Nat.lt_succ_self W.heap.size)
          have hlt5 : ∀ g, u8.ownBlock = some g → W.heap.size ≤ g := fun g hg => by have := (hrow.lt g hg).1; omega
          have hsL := hB.out.size
          have hkl : (F.times T).length = ks.length := by rw [← hks]; exact F.srtI_len ks
          rw [hks] at hso
          have hLV : Hid (F.levels q l = F.lvA T 0 (F.times T)) := by show F.levels q l = _; rw [F.levels, hT]
          generalize F.times T = ts at hso hbd hkl hLV
          clear hrg hrow hks
          go_wp2_with (go_at_call 39; refine hso.mono ?_; rintro e w5 ⟨rfl, hrow5, hg5⟩
                       have hown5 := hownz.kept hg5 hne5
                       have hB5 : Hid (Below W.heap.size W w5) := hB.out.grown hg5 hsL hlt5
                       have hM5 := hown5.lt
                       obtain ⟨A5, cap5, b5, rfl, hA5, hcell5⟩ := ints_row hrow5
                       clear hg5 hso hownz hrow5)
          have hcell5 := (⟨hcell5⟩ : PLift _)
          go_loopw [54, 12, 11] (fun i m v w' => ∃ (k : Nat) (n : Int) (acc : List Level), k ≤ ts.length ∧ i = .int .i64 k ∧ m = .int .i64 n ∧ acc.length = k ∧ w'.ownsRow w5.heap.size 30 2 v k (lvCells acc) ∧
              Hid (acc ++ F.lvA T n (ts.drop k) = F.lvA T 0 ts) ∧ Hid (Below w5.heap.size w5 w'))
            (fun i _ _ _ => ts.length - (RowKit.intOf i).toNat)
          case atStart => exact ⟨0, 0, [], Nat.zero_le _, rfl, rfl, rfl, World.ownsRow_nil _ _ _ _, rfl, Below.refl _ _⟩
          case round =>
            obtain ⟨k, n, acc, hk3, rfl, rfl, hacc, hrow3, hE, hB3⟩ := hrel
            by_cases hlt3 : k < ts.length
            · obtain ⟨rfl, -, hb5⟩ := hA5 (by omega)
              obtain ⟨x, hTk⟩ : ∃ x, ts[k]? = some x := ⟨_, List.getElem?_eq_getElem hlt3⟩
              have c0 := hcell5.down k x hTk
              rw [← hB3.out.cell (p := ⟨b5, k, none⟩) hb5] at c0
              have hown6 := ownsMap_of_block hown5 (hB3.out.block W.heap.size hM5)
              have hkx : keyOf Try.prog 3 (.int .i64 x) = some (.int .i64 x) := keyOf_int_mk lv_undI (hbd x (List.mem_of_getElem? hTk))
              have hTk : Hid (ts[k]? = some x) := hTk
              go_wp2_with (first
                | (at_lookup; refine wpList_lookup_own_int _ rfl _ _ 84 rfl 3 3 .i64 lv_law lv_undM lv_undI (lv_zero _) W.heap.size _ _ rfl hown6 _ _ rfl hkx ?_; intro c hat hwc)
                | (at_builtin; refine wpList_append_own _ rfl _ _ 25 rfl w5.heap.size 30 j0 _ 2 16 lv_undSL hj hj0 hj1 hj2 rfl (by decide) _ _ _ rfl (hrow3.alloc _) ⟨wr.heap.size, 0, none⟩ 1 1 [.int .i64 x, .int .i64 (wrap64 (n + c))] rfl rfl ?d1 ?d2 ?d3 ?d4 ?d5 ?_)
                | go_in)
              case d2 => exact ⟨rfl, rfl⟩
              case d3 => unfold maxLen; omega
              case d4 => omega
              case d5 => have := hB3.out.size; simp; omega
              · intro v' w6 hown' hgrow _
                have hcx : c = F.net T x := hN.out.look hat
                have hdk : ts.drop k = x :: ts.drop (k + 1) := drop_at hTk.out
                have hB6 : Hid (Below w5.heap.size w5 w6) := (hB3.out.alloc hB3.out.size (.cells #[.int .i64 x, .int .i64 (wrap64 (n + c))] 30)).grown hgrow (by have := hB3.out.size; simp; omega)
                  (fun j hj => ((hrow3.alloc (.cells #[.int .i64 x, .int .i64 (wrap64 (n + c))] 30)).lt j hj).1)
                go_wp2
                go_roundw
                case rel =>
                  refine ⟨k + 1, wrap64 (n + c), acc ++ [⟨x, wrap64 (n + c)⟩], by omega, by go_num, rfl, by simp [hacc], by simpa [lvCells] using hown', ?_, hB6⟩
                  have e := hE.out
                  rw [hdk, F.lvA, ← hcx, ← w64_eq] at e
                  show _ ++ F.lvA T _ _ = _
                  rw [List.append_assoc]
                  exact e
                case measure => simp [RowKit.intOf]; omega
            · obtain rfl : k = ts.length := by omega
              have hE2 : acc = F.levels q l := by
                have := hE.out
                rw [List.drop_length, F.lvA, List.append_nil] at this
                rw [this, hLV.out]
              go_wp2
              go_ret
              refine ⟨_, rfl, ?_, ?_, fun x hx => ?_⟩
              · exact hB5.out.trans (hB3.out.mono hB5.out.size)
              · rw [← hE2, hacc]
                exact ownsRow_mono hrow3 hB5.out.size
              · rw [hLV.out] at hx
                exact hbd _ (F.lvA_ok T ts 0 x hx).1
        · -- a key has come
          intro x c w1 cnt1 hwx hwc hlx hat hrg1 hltc hg1 hs1 hen
          have hm0 : Hid (wr.rangeLeft W.heap.size RR = cnt) := hrg.left_eq
          have hcx : c = F.net T x := hN.out.look (hat _)
          have hhas : has D (.int .i64 x) = true := has_true_of_atKey hat
          have hrow1 := hrow.kept hg1 (by
            cases hob : u8.ownBlock with
            | none => exact Or.inl rfl
            | some g => exact Or.inr (fun e => row_ne_iter hrow hrg (by rw [hob]; exact e.symm)))
          have hB1 : Hid (Below W.heap.size W w1) := hB.out.grown hg1 hB.out.size (fun j hj => by cases hj; exact hRRge)
          clear hrow hrg hB hs1
          have hcx : Hid (c = F.net T x) := hcx
          by_cases hz : c = 0
          · subst hz
            go_wp2
            go_roundw
            case rel => exact ⟨_, cnt1, ks, hrg1, hrow1, hG.out.skip hcx.out.symm, by omega, hB1⟩
            case measure => rw [hrg1.left_eq, hm0.out]; exact hltc
          · go_wp2_with (first
              | (at_builtin; refine (wpList_append_own_at _ rfl _ _ 75 rfl (W.heap.size + 1) 3 i0 (.int .i64 0) 1 8 lv_undSI hi hz0 hz1 hz2 rfl (by decide) _ _ _ rfl (hrow1.alloc _) ⟨w1.heap.size, 0, none⟩ 1 1 [.int .i64 x] rfl rfl ?c1 ?c2 ?c3 ?c4 ?c5 ?_))
              | go_in)
            case c1 =>
              intro j u hj
              match j, hj with
              | 0, hj => simp at hj; subst hj; simp [Addr.add]
            case c2 => intro u hu; simp at hu; subst hu; rfl
            case c3 => unfold maxLen; omega
            case c4 => omega
            case c5 => have := hrg1.owns.lt; simp; omega
            · intro v' w4 hown' hgrow _ hloc
              have hrg4 := (hrg1.alloc (.cells #[.int .i64 x] 3)).kept hgrow (row_ne_low (hrow1.alloc (.cells #[.int .i64 x] 3)) (Nat.lt_succ_self _)) (row_ne_iter (hrow1.alloc (.cells #[.int .i64 x] 3)) (hrg1.alloc (.cells #[.int .i64 x] 3)))
              have hB4 : Hid (Below W.heap.size W w4) := (hB1.out.alloc hB1.out.size (.cells #[.int .i64 x] 3)).grown hgrow (by have := hB1.out.size; simp; omega)
                (fun j hj => by have := ((hrow1.alloc (.cells #[.int .i64 x] 3)).lt j hj).1; omega)
              have hrow4 : w4.ownsRow (W.heap.size + 1) 3 1 v' (ks ++ [x]).length ((ks ++ [x]).map (Value.int .i64)) := by simpa using hown'
              clear hown' hgrow hloc hB1 hrow1 hrg1
              go_wp2
              go_roundw
              case rel => exact ⟨_, cnt1, ks ++ [x], hrg4, hrow4, hG.out.step hlx hhas (wf_bounds hwx) (by rw [← hcx.out]; exact hz), by simp; omega, hB4⟩
              case measure => rw [hrg4.left_eq, hm0.out]; exact hltc

end M
end Go.Proofs.Ytnkaadiofjoacaa
