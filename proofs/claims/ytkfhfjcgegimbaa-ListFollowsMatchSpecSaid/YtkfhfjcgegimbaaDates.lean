/- What is proved here: what dates of the program returns (chapter 6). -/
import Derived.Test.YtkfhfjcgegimbaaDatesF
import Derived.Test.YtkfhfjcgegimbaaRow
import Derived.Test.YtkfhfjcgegimbaaSwitch
namespace Go.Proofs.Ytkfhfjcgegimbaa
open Go.RowKit
set_option linter.unusedVariables false

def GoodD (es : List Ent) : Prop := Good es ∧ ∀ e ∈ es, -1 ≤ e.date ∧ e.date ≤ 253402300799999
theorem goodD_of {l : Lst} (h : checkF l = 0) : GoodD l.entries := ⟨good_of h, fun e he => by
  obtain ⟨_, _, h3⟩ := checkF_ok h
  have := entF_ok (h3 e he); omega⟩
def FwdAt (es : List Ent) (xs : List Int) (k : Nat) : Prop :=
  xs.length = es.length ∧ ∀ (j : Nat) (d : Option Int), j < k → (forO es)[j]? = some d → xs[j]? = some (gd d) ∧ ∀ x, d = some x → x ≤ 253402300799999
theorem FwdAt.zero {es : List Ent} {xs : List Int} (h : xs.length = es.length) : FwdAt es xs 0 := ⟨h, fun j d hj => absurd hj (by omega)⟩
theorem FwdAt.step {es : List Ent} {xs : List Int} {k : Nat} {d : Option Int} (h : FwdAt es xs k) (hk : k < es.length) (hd : (forO es)[k]? = some d) (hm : ∀ x, d = some x → x ≤ 253402300799999) {v : Int} (hv : v = gd d) : FwdAt es (xs.set k v) (k + 1) := by
  subst hv
  refine ⟨by simp [h.1], fun j d' hj hd' => ?_⟩
  rcases Nat.lt_or_ge j k with hlt | hge
  · rw [List.getElem?_set_ne (by omega)]
    exact h.2 j d' hlt hd'
  · have : j = k := by omega
    subst this
    rw [hd] at hd'
    injection hd' with hd'
    subst hd'
    exact ⟨by rw [List.getElem?_set_self (by rw [h.1]; exact hk)], hm⟩
def BwdAt (es : List Ent) (xs : List Int) (z : Int) : Prop :=
  xs.length = es.length ∧ (∀ (j : Nat) (d : Option Int), z < j → (datO es)[j]? = some d → xs[j]? = some (gd d) ∧ okD d = true) ∧ (∀ (j : Nat) (d : Option Int), (j : Int) ≤ z → (forO es)[j]? = some d → xs[j]? = some (gd d)) ∧
    ∀ (j : Nat) (x : Int), (forO es)[j]? = some (some x) → x ≤ 253402300799999
theorem okD_of {x : Int} (h0 : 0 ≤ x) (h1 : x ≤ 253402300799999) : okD (some x) = true := by simp [okD, h0, h1]
theorem okD_bad {x : Int} (h : x < 0 ∨ 253402300799999 < x) : okD (some x) = false := by simp [okD]; omega
theorem BwdAt.start {es : List Ent} {xs : List Int} (hg : Good es) (h : FwdAt es xs es.length) : BwdAt es xs ((es.length : Int) - 2) := by
  have hm : ∀ (j : Nat) (x : Int), (forO es)[j]? = some (some x) → x ≤ 253402300799999 := fun j x hx =>
    (h.2 j _ (by rw [← forO_len es]; exact (List.getElem?_eq_some_iff.1 hx).1) hx).2 x rfl
  refine ⟨h.1, fun j d hj hd => ?_, fun j d hj hd => (h.2 j d (by rw [← forO_len es]; exact (List.getElem?_eq_some_iff.1 hd).1) hd).1, hm⟩
  have hlt : j < es.length := by rw [← datO_len es]; exact (List.getElem?_eq_some_iff.1 hd).1
  obtain ⟨f, hf⟩ := forO_at hlt
  have hje : j = es.length - 1 := by omega
  subst hje
  have hd2 := datO_last (by omega) hf
  rw [hd2] at hd
  injection hd with hd
  subst hd
  refine ⟨(h.2 _ f hlt hf).1, ?_⟩
  cases f with
  | none => rfl
  | some x => exact okD_of (forO_pos hg hf) (hm _ x hf)
theorem BwdAt.step {es : List Ent} {xs : List Int} {k : Nat} {d : Option Int} (h : BwdAt es xs k) (hk : k < es.length) (hd : (datO es)[k]? = some d) (ho : okD d = true) (hx : xs[k]? = some (gd d)) : BwdAt es xs ((k : Int) - 1) := by
  refine ⟨h.1, fun j d' hj hd' => ?_, fun j d' hj hd' => h.2.2.1 j d' (by omega) hd', h.2.2.2⟩
  rcases Nat.lt_or_ge k j with hlt | hge
  · exact h.2.1 j d' (by omega) hd'
  · have : j = k := by omega
    subst this
    rw [hd] at hd'
    injection hd' with hd'
    subst hd'
    exact ⟨hx, ho⟩
theorem BwdAt.stepSet {es : List Ent} {xs : List Int} {k : Nat} {d : Option Int} {v : Int} (h : BwdAt es xs k) (hk : k < es.length) (hd : (datO es)[k]? = some d) (ho : okD d = true) (hv : v = gd d) : BwdAt es (xs.set k v) ((k : Int) - 1) := by
  subst hv
  refine ⟨by simp [h.1], fun j d' hj hd' => ?_, fun j d' hj hd' => ?_, h.2.2.2⟩
  · rcases Nat.lt_or_ge k j with hlt | hge
    · rw [List.getElem?_set_ne (by omega)]
      exact h.2.1 j d' (by omega) hd'
    · have : j = k := by omega
      subst this
      rw [hd] at hd'
      injection hd' with hd'
      subst hd'
      exact ⟨by rw [List.getElem?_set_self (by rw [h.1]; exact hk)], ho⟩
  · rw [List.getElem?_set_ne (by omega)]
    exact h.2.2.1 j d' (by omega) hd'
theorem BwdAt.done {es : List Ent} {xs : List Int} {z : Int} (h : BwdAt es xs z) (hz : z < 0) : datesF es = (xs, 0) := by
  have h1 : ∀ (k : Nat) (d : Option Int), (datO es)[k]? = some d → okD d = true := fun k d hd => (h.2.1 k d (by omega) hd).2
  rw [datesF_ok h1]
  congr 1
  apply List.ext_getElem?
  intro j
  rw [List.getElem?_map]
  cases hd : (datO es)[j]? with
  | none =>
    have : xs.length ≤ j := by rw [h.1, ← datO_len es]; exact List.getElem?_eq_none_iff.1 hd
    simp [List.getElem?_eq_none this]
  | some d => simp [(h.2.1 j d (by omega) hd).1]
theorem i64_of_mem {es : List Ent} {xs : List Int} {z : Int} (h : BwdAt es xs z) (hz : z < 0) : ∀ x ∈ xs, I64 x := by
  intro x hx
  obtain ⟨j, hj⟩ := List.getElem?_of_mem hx
  have hlt : j < (datO es).length := by rw [datO_len, ← h.1]; exact (List.getElem?_eq_some_iff.1 hj).1
  have := h.2.1 j _ (by omega) (List.getElem?_eq_getElem hlt)
  rw [hj] at this
  obtain ⟨h1, h2⟩ := this
  injection h1 with h1
  subst h1
  cases hd : (datO es)[j] with
  | none => simp [gd, I64]
  | some y => rw [hd] at h2; simp [okD] at h2; simp [gd, I64]; omega
theorem ret_vi {v : Value} {a b : Int} (h : a = b) : Ending.returned (.tuple #[v, .int .i64 a]) = .returned (.tuple #[v, .int .i64 b]) := by rw [h]
theorem intsV_nil (w : World) : intsV w [] (.slice none 0 0) := ⟨none, 0, rfl, Nat.le_refl _, by omega, by simp, SlR.nil⟩
theorem set_set {xs : List Int} {k : Nat} {a b : Int} : (xs.set k a).set k b = xs.set k b := by simp

set_option maxRecDepth 100000 in
set_option maxHeartbeats 4000000 in
theorem dates_any (l : Lst) (A : Option Addr) (c : Nat) (w : World) (hg : GoodD l.entries) (hA : SlR 7 entR w (In w) l.entries A) :
    Calls Try.prog 54 #[.agg #[.int .i64 l.target, .int .i64 l.first, .int .i64 l.breaks, .slice A l.entries.length c, .bool l.ended]] w fun r w' => ∃ v, r = .returned (.tuple #[v, .int .i64 (datesF l.entries).2]) ∧ intsV w' (datesF l.entries).1 v ∧ Ext w w' := by
  obtain ⟨T, F, B, es, E⟩ := l
  simp only at hg hA ⊢
  have hn := hg.1.1
  have HG := Lib.hid hg
  clear hg
  have hmk := run_make1 (P := Try.prog) Try.underlying44 info_int rfl es.length (by omega) (by omega)
  go_enter Try.func54, Try.ntmps54
  go_wp2
  go_loopw [15] (fun i wr => ∃ (k : Nat) (xs : List Int), k ≤ es.length ∧ i = .int .i64 k ∧ Below (w.heap.size + 1) (w.alloc (.cells #[.int .i64 T, .int .i64 F, .int .i64 B, .slice A es.length c, .bool E] 24)) wr ∧ RowV wr (w.heap.size + 1) 3 (ints xs) ∧ Hid (FwdAt es xs k)) (fun i wr => es.length - (intOf i).toNat)
  case atStart => 
    refine ⟨0, List.replicate es.length 0, Nat.zero_le _, rfl, (Below.refl _ _).alloc (by simp) _, ?_, FwdAt.zero (by simp)⟩
    have := RowV.new (w.alloc (.cells #[.int .i64 T, .int .i64 F, .int .i64 B, .slice A es.length c, .bool E] 24)) 3 (ints (List.replicate es.length 0))
    simpa [ints] using this
  case round =>
    obtain ⟨k, xs, hk, rfl, hb, hrow, hv⟩ := hrel
    obtain ⟨t0, t1, t2, t3, t4, hs1⟩ := lst_box hb
    have hgl := hrow.lt
    have hxl := hv.out.1
    by_cases hlt : k < es.length
    · obtain ⟨b, off, X, cx, rfl, hin, c0, c1, c2, c3, c4, c5, c6, g1, g2, g3, g4, g5, g6, g7, g8⟩ := ent_at (hA.ext keeps_ent (Ext.ofBox hb)) hlt
      have hin' : b < wr.heap.size := hin
      obtain ⟨y, hck⟩ : ∃ y, wr.cell? ⟨w.heap.size + 1, k, none⟩ = some (.int .i64 y) := ⟨_, by rw [hrow.cell, ints_at (by omega)]⟩
      have hfk := hrow.frozen k
      have HXL := Lib.hid hxl
      clear hxl
      have hD := (HG.out.2 _ (mem_at hlt)).2
      by_cases hd0 : 0 ≤ es[k].date
      · have HF : Hid (∃ d, (forO es)[k]? = some d ∧ d = some es[k].date) := by
          rcases k with _ | k
          · exact ⟨_, forO_0 hlt, by unfold stepF; rw [if_pos hd0]⟩
          · obtain ⟨p, hp⟩ := forO_at (show k < es.length by omega)
            exact ⟨_, forO_next hlt hp, by unfold stepF; rw [if_pos hd0]⟩
        go_wp2
        go_roundw
        case rel =>
          obtain ⟨d, hd, rfl⟩ := HF.out
          exact ⟨k + 1, xs.set k es[k].date, by omega, by go_num, Below.call (hb.setCell (by simp) _) (by simp; omega) (Ext.new _ _), hrow.setI.ext (Ext.new _ _), hv.out.step hlt hd (fun x hx => by injection hx with hx; omega) rfl⟩
        case measure => simp [intOf]; omega
      · have hdm : es[k].date = -1 := by have := (HG.out.2 _ (mem_at hlt)).1; omega
        have hdm' := Lib.hid hdm
        clear hdm
        by_cases hp : k = 0 ∨ es[k].brk = true
        · have HF : Hid ((forO es)[k]? = some none) := by
            unfold Hid
            rcases k with _ | k
            · rw [forO_0 hlt]; unfold stepF; rw [if_neg hd0]; simp
            · obtain ⟨p, hpp⟩ := forO_at (show k < es.length by omega)
              rw [forO_next hlt hpp]; unfold stepF; rw [if_neg hd0, if_neg (by rcases hp with h | h <;> simp_all)]
          by_cases hk0 : k = 0
          · subst hk0
            simp only [Nat.zero_mul, Nat.add_zero] at c0 c1 c2 c3 c4 c5 c6
            go_wp2
            go_roundw
            case rel => exact ⟨0 + 1, xs.set 0 es[0].date, by omega, by go_num, Below.call (hb.setCell (by simp) _) (by simp; omega) (Ext.new _ _), hrow.setI.ext (Ext.new _ _), hv.out.step hlt HF.out (fun x hx => by cases hx) (by rw [hdm'.out]; rfl)⟩
            case measure => simp [intOf]; omega
          · have hbk : es[k].brk = true := by rcases hp with h | h; exact absurd h hk0; exact h
            have hkp : (0 : Int) < k := by omega
            clear hp
            go_wp2
            go_roundw
            case rel => exact ⟨k + 1, xs.set k es[k].date, by omega, by go_num, Below.call (hb.setCell (by simp) _) (by simp; omega) (Ext.new _ _), hrow.setI.ext (Ext.new _ _), hv.out.step hlt HF.out (fun x hx => by cases hx) (by rw [hdm'.out]; rfl)⟩
            case measure => simp [intOf]; omega
        · have hbk : es[k].brk = false := by cases h : es[k].brk <;> simp_all
          obtain ⟨j, rfl⟩ : ∃ j, k = j + 1 := ⟨k - 1, by omega⟩
          clear hp
          have hlt0 : j < es.length := by omega
          obtain ⟨p, hpp⟩ := forO_at hlt0
          have hj := (hv.out.2 j p (by omega) hpp)
          have hcj : wr.cell? ⟨w.heap.size + 1, j, none⟩ = some (.int .i64 (gd p)) := by
            have h1 := hj.1
            have hl := (List.getElem?_eq_some_iff.1 h1).1
            rw [hrow.cell, ints_at hl]
            have h2 := (List.getElem?_eq_some_iff.1 h1).2
            rw [h2]
          have HJ := Lib.hid hj
          have HP := Lib.hid hpp
          clear hj hpp
          cases p with
          | none =>
            have HF : Hid ((forO es)[j + 1]? = some none) := by unfold Hid; rw [forO_next hlt HP.out]; unfold stepF; rw [if_neg hd0, if_pos hbk]; rfl
            have hcj' : wr.cell? ⟨w.heap.size + 1, j, none⟩ = some (.int .i64 (-1)) := hcj
            clear hcj
            go_wp2
            go_roundw
            case rel => exact ⟨j + 1 + 1, xs.set (j + 1) es[j + 1].date, by omega, by go_num, Below.call (hb.setCell (by simp) _) (by simp; omega) (Ext.new _ _), hrow.setI.ext (Ext.new _ _), hv.out.step hlt HF.out (fun x hx => by cases hx) (by rw [hdm'.out]; rfl)⟩
            case measure => simp [intOf]; omega
          | some p =>
            have hcj' : wr.cell? ⟨w.heap.size + 1, j, none⟩ = some (.int .i64 p) := hcj
            have hp0 : 0 ≤ p := forO_pos HG.out.1 HP.out
            have hp1 : p ≤ 253402300799999 := HJ.out.2 p rfl
            obtain ⟨m1, m2⟩ := HG.out.1.at hlt0
            have HF : Hid ((forO es)[j + 1]? = some (some (p + es[j].milli))) := by unfold Hid; rw [forO_next hlt HP.out]; unfold stepF; rw [if_neg hd0, if_pos hbk]; rfl
            clear hcj
            have hrow2 := (hrow.setI (k := j + 1) (x := es[j + 1].date)).ext (Ext.new _ (.cells #[.string es[j + 1].uri, .int .i64 es[j + 1].milli, .bool false, .int .i64 es[j + 1].date, .string es[j + 1].key, .bool es[j + 1].gap, .slice X es[j + 1].extra.length cx] 32))
            have hb2 := Below.call (hb.setCell (p := ⟨w.heap.size + 1, j + 1, none⟩) (by simp) (.int .i64 es[j + 1].date)) (by simp; omega) (Ext.new _ (.cells #[.string es[j + 1].uri, .int .i64 es[j + 1].milli, .bool false, .int .i64 es[j + 1].date, .string es[j + 1].key, .bool es[j + 1].gap, .slice X es[j + 1].extra.length cx] 32))
            have hxl2 : Hid ((xs.set (j + 1) es[j + 1].date).length = es.length) := by unfold Hid; rw [List.length_set]; exact HXL.out
            have hxj2 : Hid ((xs.set (j + 1) es[j + 1].date)[j]? = some p) := by unfold Hid; rw [List.getElem?_set_ne (by omega)]; exact HJ.out.1
            go_wp2
            generalize (wr.setCell ⟨w.heap.size + 1, j + 1, none⟩ (.int .i64 es[j + 1].date)).alloc (.cells #[.string es[j + 1].uri, .int .i64 es[j + 1].milli, .bool false, .int .i64 es[j + 1].date, .string es[j + 1].key, .bool es[j + 1].gap, .slice X es[j + 1].extra.length cx] 32) = W at hrow2 hb2 ⊢
            obtain ⟨b', off', X', cx', hbo, hin2, d0, d1, d2, d3, d4, d5, d6, _⟩ := ent_at (hA.ext keeps_ent (Ext.ofBox hb2)) hlt0
            obtain ⟨rfl, rfl⟩ : b = b' ∧ off = off' := by injection hbo with h; injection h with h1 h2; exact ⟨h1, h2⟩
            clear hbo
            obtain ⟨t0, t1, t2, t3, t4, hs2⟩ := lst_box hb2
            have e1 : W.cell? ⟨w.heap.size + 1, j, none⟩ = some (.int .i64 p) := by
              have h1 := hxj2.out
              have hl := (List.getElem?_eq_some_iff.1 h1).1
              rw [hrow2.cell, ints_at hl, (List.getElem?_eq_some_iff.1 h1).2]
            obtain ⟨y2, e2⟩ : ∃ y, W.cell? ⟨w.heap.size + 1, j + 1, none⟩ = some (.int .i64 y) := ⟨_, by rw [hrow2.cell, ints_at (by rw [hxl2.out]; exact hlt)]⟩
            have e3 := hrow2.frozen (j + 1)
            have q1 : IntKind.i64.wrap (j : Int) = j := IntWalk.i64_in _ ⟨by omega, by omega⟩
            have q2 : IntKind.i64.wrap (p + es[j].milli) = p + es[j].milli := IntWalk.i64_in _ ⟨by omega, by omega⟩
            have q3 : (0 : Int) ≤ (j : Int) + 1 := by omega
            have q4 : ((j : Int) + 1).toNat = j + 1 := by omega
            have q5 : (j : Int) + 1 < (es.length : Int) := by omega
            go_still_tail 16, (by kernel_rfl)
            change wpList _ _ _ _ _ W.drew
            clear q1 q2 q4
            by_cases hbig : 253402300799999 < p + es[j].milli
            · have HE := Lib.hid (datesF_bad (datO_some HF.out) (okD_bad (.inr hbig)))
              go_wp2
              go_ret2
              exact ⟨_, ret_vi (by rw [HE.out]), by rw [HE.out]; exact intsV_nil _, Ext.ofBox (hb2.drew.setCell (by simp) _)⟩
            · go_wp2
              go_roundw
              case rel => exact ⟨j + 1 + 1, xs.set (j + 1) (p + es[j].milli), by omega, by go_num, hb2.drew.setCell (by simp) _, by have h : RowV W.drew (w.heap.size + 1) 3 (ints (xs.set (j + 1) es[j + 1].date)) := hrow2; have h2 := h.setI (k := j + 1) (x := p + es[j].milli); rw [set_set] at h2; exact h2, hv.out.step hlt HF.out (fun x hx => by injection hx with hx; omega) rfl⟩
              case measure => simp [intOf]; omega
    · have hk' : k = es.length := by omega
      have HB : Hid (BwdAt es xs ((es.length : Int) - 2)) := by have h := hv.out; rw [hk'] at h; exact BwdAt.start HG.out.1 h
      clear hk' hv t0 t1 t2 t3 t4 hs1 hgl hxl
      obtain ⟨wo, rfl⟩ : ∃ wo : World, wo = wr := ⟨_, rfl⟩
      go_wp2
      go_loopw [7] (fun i wr => ∃ (z : Int) (ys : List Int), i = .int .i64 z ∧ -2 ≤ z ∧ z ≤ (es.length : Int) - 2 ∧ Below (w.heap.size + 1) (w.alloc (.cells #[.int .i64 T, .int .i64 F, .int .i64 B, .slice A es.length c, .bool E] 24)) wr ∧ RowV wr (w.heap.size + 1) 3 (ints ys) ∧ Hid (BwdAt es ys z)) (fun i wr => (intOf i + 2).toNat)
      case atStart => exact ⟨_, xs, rfl, by omega, by omega, hb, hrow, HB⟩
      case round =>
        clear hb hrow HB
        obtain ⟨z, ys, rfl, hz2, hzn, hb, hrow, hv⟩ := hrel
        obtain ⟨t0, t1, t2, t3, t4, hs1⟩ := lst_box hb
        have hgl := hrow.lt
        by_cases hz : 0 ≤ z
        · obtain ⟨k, rfl⟩ := Int.eq_ofNat_of_zero_le hz
          have hlt : k < es.length := by omega
          have hlt1 : k + 1 < es.length := by omega
          obtain ⟨f, hf⟩ := forO_at hlt
          obtain ⟨y, hy⟩ : ∃ y, (datO es)[k + 1]? = some y := ⟨_, List.getElem?_eq_getElem (by rw [datO_len]; exact hlt1)⟩
          have hxk := hv.out.2.2.1 k f (by omega) hf
          have hxk1 := hv.out.2.1 (k + 1) y (by omega) hy
          have ck : wr.cell? ⟨w.heap.size + 1, k, none⟩ = some (.int .i64 (gd f)) := by
            have hl := (List.getElem?_eq_some_iff.1 hxk).1
            rw [hrow.cell, ints_at hl, (List.getElem?_eq_some_iff.1 hxk).2]
          have ck1 : wr.cell? ⟨w.heap.size + 1, k + 1, none⟩ = some (.int .i64 (gd y)) := by
            have hl := (List.getElem?_eq_some_iff.1 hxk1.1).1
            rw [hrow.cell, ints_at hl, (List.getElem?_eq_some_iff.1 hxk1.1).2]
          have fk := hrow.frozen k
          obtain ⟨b, off, X, cx, rfl, hin, c0, c1, c2, c3, c4, c5, c6, _⟩ := ent_at (hA.ext keeps_ent (Ext.ofBox hb)) hlt
          obtain ⟨b', off', X', cx', hbo, hin2, d0, d1, d2, d3, d4, d5, d6, _⟩ := ent_at (hA.ext keeps_ent (Ext.ofBox hb)) hlt1
          obtain ⟨rfl, rfl⟩ : b = b' ∧ off = off' := by injection hbo with h; injection h with h1 h2; exact ⟨h1, h2⟩
          clear hbo
          have hin' : b < wr.heap.size := hin
          obtain ⟨m1, m2⟩ := HG.out.1.at hlt
          have HXK := Lib.hid hxk
          have HXK1 := Lib.hid hxk1
          have Hf := Lib.hid hf
          have Hy := Lib.hid hy
          clear hxk hxk1 hf hy
          cases f with
          | some x =>
            have hx0 : 0 ≤ x := forO_pos HG.out.1 Hf.out
            have hx1 : x ≤ 253402300799999 := hv.out.2.2.2 k x Hf.out
            have ck' : wr.cell? ⟨w.heap.size + 1, k, none⟩ = some (.int .i64 x) := ck
            clear ck
            go_wp2
            go_roundw
            case rel => exact ⟨_, ys, rfl, by omega, by omega, hb, hrow, hv.out.step hlt (datO_some Hf.out) (okD_of hx0 hx1) HXK.out⟩
            case measure => simp [intOf]; omega
          | none =>
            have ck' : wr.cell? ⟨w.heap.size + 1, k, none⟩ = some (.int .i64 (-1)) := ck
            clear ck
            cases y with
            | none =>
              have HD : Hid ((datO es)[k]? = some none) := by unfold Hid; rw [datO_none hlt1 Hf.out Hy.out]; simp
              have ck1' : wr.cell? ⟨w.heap.size + 1, k + 1, none⟩ = some (.int .i64 (-1)) := ck1
              clear ck1
              go_wp2
              go_roundw
              case rel => exact ⟨_, ys, rfl, by omega, by omega, hb, hrow, hv.out.step hlt HD.out rfl HXK.out⟩
              case measure => simp [intOf]; omega
            | some y =>
              have hyo : 0 ≤ y ∧ y ≤ 253402300799999 := by have h := HXK1.out.2; simp [okD] at h; exact h
              obtain ⟨hy0, hy1⟩ := hyo
              have ck1' : wr.cell? ⟨w.heap.size + 1, k + 1, none⟩ = some (.int .i64 y) := ck1
              clear ck1
              cases hbk : es[k + 1].brk
              · have HD : Hid ((datO es)[k]? = some (some (y - es[k].milli))) := by unfold Hid; rw [datO_none hlt1 Hf.out Hy.out, if_pos hbk]; rfl
                have q1 : IntKind.i64.wrap ((k : Int) + 1) = (k : Int) + 1 := IntWalk.i64_in _ ⟨by omega, by omega⟩
                have q2 : IntKind.i64.wrap (y - es[k].milli) = y - es[k].milli := IntWalk.i64_in _ ⟨by omega, by omega⟩
                have q3 : (0 : Int) ≤ (k : Int) + 1 := by omega
                have q4 : ((k : Int) + 1).toNat = k + 1 := by omega
                have q5 : (k : Int) + 1 < (es.length : Int) := by omega
                have q6 : (k : Int) < (es.length : Int) := by omega
                go_wp2
                go_still_tail 15, (by kernel_rfl)
                change wpList _ _ _ _ _ wr.drew
                clear q1 q2 q4
                by_cases hneg : y - es[k].milli < 0
                · have HE := Lib.hid (datesF_bad HD.out (okD_bad (.inl hneg)))
                  go_wp2
                  go_ret2
                  exact ⟨_, ret_vi (by rw [HE.out]), by rw [HE.out]; exact intsV_nil _, Ext.ofBox (hb.drew.setCell (by simp) _)⟩
                · go_wp2
                  go_roundw
                  case rel => exact ⟨_, ys.set k (y - es[k].milli), rfl, by omega, by omega, hb.drew.setCell (by simp) _, (show RowV wr.drew (w.heap.size + 1) 3 (ints ys) from hrow).setI, hv.out.stepSet hlt HD.out (okD_of (by omega) (by omega)) rfl⟩
                  case measure => simp [intOf]; omega
              · have HD : Hid ((datO es)[k]? = some none) := by unfold Hid; rw [datO_none hlt1 Hf.out Hy.out, if_neg (by simp [hbk])]
                go_wp2
                go_roundw
                case rel => exact ⟨_, ys, rfl, by omega, by omega, hb, hrow, hv.out.step hlt HD.out rfl HXK.out⟩
                case measure => simp [intOf]; omega
        · have HE := Lib.hid (hv.out.done (by omega))
          have hl := Lib.hid hv.out.1
          have hi := Lib.hid (i64_of_mem hv.out (by omega))
          go_wp2
          go_ret2
          refine ⟨_, ret_vi (by rw [HE.out]), ?_, Ext.ofBox hb⟩
          rw [HE.out]
          have h := hrow.intsV hi.out (by have := hl.out; omega)
          rw [hl.out] at h
          exact h
end Go.Proofs.Ytkfhfjcgegimbaa
