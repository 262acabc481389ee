/- What is proved here: contracts of slices.Sort and slices.Compact at integers, and of strconv.Itoa (no statement of the seat). -/
import Derived.Test.YtlemjphdhapfpaaGreatDoorD65
import Derived.Sort.OwnSortedInts
import Derived.Lib.ItoaLen
namespace Go.Proofs.YtlemjphdhapfpaaGreatDoor
open Go Go.RowKit Go.Sort
set_option linter.unusedVariables false
set_option linter.unusedSimpArgs false

/-- Sorted. -/
def F.srtI (xs : List Int) : List Int := xs.mergeSort fun x y => decide (x ≤ y)

theorem F.srtI_len (xs : List Int) : (F.srtI xs).length = xs.length := (List.mergeSort_perm ..).length_eq

/-- Without repeats. -/
def F.cmpI (xs : List Int) : List Int := Lib.compact xs

theorem F.cmpI_len (xs : List Int) : (F.cmpI xs).length ≤ xs.length := by
  unfold F.cmpI Lib.compact Lib.compactUpTo
  rw [List.length_map]
  refine Nat.le_trans (List.length_filter_le ..) ?_
  simp

def F.itoa (n : Int) : ByteArray := ⟨(Lib.itoa n).toArray⟩

theorem F.itoa_size {n : Int} (h0 : -9223372036854775808 ≤ n) (h1 : n ≤ 9223372036854775807) : (F.itoa n).size ≤ 21 := by
  have := Lib.itoa_length_le n h0 h1
  show (Lib.itoa n).toArray.size ≤ 21
  simpa using this

namespace M

theorem getD_ints (xs : List Int) (i : Nat) (y : Int) (h : xs[i]? = some y) : (xs.toArray)[i]! = y := by
  have hi := lt_at h
  rw [getElem!_pos _ i (by simpa using hi)]
  have := List.getElem?_eq_getElem hi
  rw [h] at this
  simpa using (Option.some.inj this).symm

/-- A slice's cells, made anew. -/
theorem ints_put {G : Nat → Option GR} {B : Nat → Prop} {w : World} {S : Nat → Prop} {β : Nat → Option BI} {t : TypeId} {xs ys : List Int} {X : BI} (inv : InvG G B w S β [(900, ⟨false, t, 1, xs.map eI⟩)]) (hX : β 900 = some X) (hr : X.real = true)
    (hl : ys.length = xs.length) (hok : ∀ y ∈ ys, okAtom (.int .i64 y)) (n : Nat) (os : Array Obj) :
    Blw B w (grow (putRow (Value.int .i64) (Sort.ahead w n) X.b 0 ys.toArray) os) ∧ InvG G B (grow (putRow (Value.int .i64) (Sort.ahead w n) X.b 0 ys.toArray) os) S β [(900, ⟨false, t, 1, ys.map eI⟩)] := by
  obtain ⟨bl, hb, h3, h4⟩ := inv.dom 900 X hX
  have hb0 : some (⟨false, t, 1, xs.map eI⟩ : Blk) = some bl := hb
  cases hb0
  obtain ⟨cs, ty, c1, c2, c3, c4, c5, c6, c7, c8⟩ := h3 hr
  have hS1 : X.size = 1 := (c6 rfl).2
  have c3 : xs.length = X.len := by rw [← c3]; simp
  obtain ⟨n1, n2, n3⟩ := inv.new 900 X hX hr
  have hg := grownBy_sortedI (w := w) (g := X.b) (n := n) (os := os) ys.toArray
  have hH := heap_sortedI (w := w) (n := n) (os := os) ys.toArray c1
  generalize hw' : grow (putRow (Value.int .i64) (Sort.ahead w n) X.b 0 ys.toArray) os = w' at hg hH
  obtain ⟨g1, g2, g3, g4, g5⟩ := hg
  have hold : ∀ b, b < w.heap.size → b ≠ X.b → w'.heap[b]? = w.heap[b]? := fun b hb hne => g5 b hb (fun e => hne (Option.some.inj e))
  have hSo : ∀ b, S b → w'.heap[b]? = w.heap[b]? := fun b hb => hold b (inv.lt b hb) (fun e => n3 (e ▸ hb))
  refine ⟨⟨g1, g2, g3, g4, fun b hb => hold b (inv.base b hb) (fun e => n1 (e ▸ hb))⟩, ?_⟩
  refine ⟨fun b hb => Nat.lt_of_lt_of_le (inv.base b hb) g4, fun b hb => Nat.lt_of_lt_of_le (inv.lt b hb) g4, inv.inj, fun k x hk hxr => ?_, fun k x hk => ?_, fun k bl hk => ?_, fun g r hgr => (inv.glob g r hgr).mono hSo fun _ h => h⟩
  · obtain ⟨m1, m2, m3⟩ := inv.new k x hk hxr
    exact ⟨m1, Nat.lt_of_lt_of_le m2 g4, m3⟩
  · obtain ⟨bl0, hb0, _, _⟩ := inv.dom k x hk
    have hk9 : k = 900 := by
      unfold mget at hb0
      split at hb0
      · rename_i hkk; exact beq_true.1 hkk
      · cases hb0
    subst hk9
    rw [hX] at hk
    cases hk
    refine ⟨⟨false, t, 1, ys.map eI⟩, rfl, fun _ => ⟨putCells (Value.int .i64) 0 ys.toArray cs, ty, hH, by simp [putCells, c2], by simp [hl, c3], c4, c5, c6, (fun h => by cases h), fun i row hi => ?_⟩, fun h => by rw [hr] at h; cases h⟩
    simp only [List.getElem?_map, Option.map_eq_some_iff] at hi
    obtain ⟨y, hy, rfl⟩ := hi
    refine ⟨by rw [hS1]; rfl, fun j a hj => ?_⟩
    have hj0 : j = 0 := by
      have := (List.getElem?_eq_some_iff.1 hj).1
      simp [eI] at this; omega
    subst hj0
    have ha : a = vI y := by simpa [eI] using hj.symm
    subst ha
    refine ⟨.int .i64 y, ?_, .v (hok y (List.mem_of_getElem? hy))⟩
    have hil := lt_at hy
    rw [hS1, Nat.mul_one, Nat.add_zero]
    have hcs : i < cs.size := by rw [c2, hS1]; omega
    simp only [putCells, Array.getElem?_mapIdx, Array.getElem?_eq_getElem hcs, Option.map_some, Nat.zero_le, true_and, Nat.zero_add, Nat.sub_zero]
    rw [if_pos (by simpa using hil), getD_ints ys i y hy]
  · have hk9 : k = 900 := by
      unfold mget at hk
      split at hk
      · rename_i hkk; exact beq_true.1 hkk
      · cases hk
    subst hk9
    exact ⟨X, hX⟩

theorem rv_ownk {w : World} {S : Nat → Prop} {β : Nat → Option BI} {k : Nat} {v : Value} (h : RV w S β (.own k) v) : ∃ x, β k = some x ∧ (x.real = true → v = .slice (some ⟨x.b, 0, none⟩) x.len x.cap) ∧ (x.real = false → ∃ A, v = .slice A 0 0) := h

theorem ints_in {G : Nat → Option GR} {B : Nat → Prop} {w : World} {S : Nat → Prop} {β : Nat → Option BI} {t : TypeId} {xs : List Int} {X : BI} (inv : InvG G B w S β [(900, ⟨false, t, 1, xs.map eI⟩)]) (hX : β 900 = some X) (hr : X.real = true) :
    Holds (Value.int .i64) w X.b 0 xs.toArray ∧ X.b < w.heap.size ∧ X.len = xs.length ∧ X.len ≤ X.cap ∧ X.cap ≤ 9223372036854775807 ∧ X.size = 1 := by
  obtain ⟨bl, hb, h3, h4⟩ := inv.dom 900 X hX
  have hb0 : some (⟨false, t, 1, xs.map eI⟩ : Blk) = some bl := hb
  cases hb0
  obtain ⟨cs, ty, c1, c2, c3, c4, c5, c6, c7, c8⟩ := h3 hr
  have hS1 : X.size = 1 := (c6 rfl).2
  have c3 : X.len = xs.length := by rw [← c3]; simp
  refine ⟨fun j hj => ?_, (inv.new 900 X hX hr).2.1, c3, c4, c5, hS1⟩
  have hj : j < xs.length := by simpa using hj
  have hx : xs[j]? = some xs[j] := List.getElem?_eq_getElem hj
  obtain ⟨_, c9⟩ := c8 j (eI xs[j]) (by simp [hx])
  obtain ⟨v, hv, hrv⟩ := c9 0 (vI xs[j]) rfl
  rw [hS1, Nat.mul_one, Nat.add_zero] at hv
  have hv2 : v = .int .i64 xs[j] := by
    have : R0 w S (vI xs[j]) v := hrv
    cases this; rfl
  subst hv2
  rw [getD_ints xs j _ hx, Nat.zero_add]
  refine ⟨by simp [World.cell?, c1, hv], by simp [World.frozen?, c1]⟩

theorem ints_nil {G : Nat → Option GR} {B : Nat → Prop} {w : World} {S : Nat → Prop} {β : Nat → Option BI} {t : TypeId} {xs : List Int} {X : BI} (inv : InvG G B w S β [(900, ⟨false, t, 1, xs.map eI⟩)]) (hX : β 900 = some X) (hr : X.real = false) : xs = [] := by
  obtain ⟨bl, hb, h3, h4⟩ := inv.dom 900 X hX
  have hb0 : some (⟨false, t, 1, xs.map eI⟩ : Blk) = some bl := hb
  cases hb0
  simpa using (h4 hr).1

theorem ok_ints {t : TypeId} {xs : List Int} (h : ∀ k bl, mget ([(900, ⟨false, t, 1, xs.map eI⟩)] : Heap) k = some bl → OkK bl) : ∀ y ∈ xs, okAtom (.int .i64 y) := by
  intro y hy
  obtain ⟨_, h2⟩ := h 900 _ rfl
  exact okA_v (h2 (eI y) (List.mem_map.2 ⟨y, hy, rfl⟩) (vI y) (List.mem_singleton.2 rfl))

def encSo1 (xs : List Int) : List AV × Heap := ([.own 900], [(900, ⟨false, 3, 1, xs.map eI⟩)])

def encSo (a : (List Int)) : List AV × Heap := encSo1 a

theorem encSo_inj (a a' : (List Int)) (h : encSo a = encSo a') : a = a' := by
  simp only [encSo, encSo1] at h
  try simp [strs_inj, ints_inj, bools_inj, u8s_inj, eEnts_inj, eEnt_iff, eLsts_inj, eLst_iff, eSegs_inj, eSeg_iff, eRots_inj, eRot_iff, eBeats_inj, eBeat_iff, eSpans_inj, eSpan_iff, eHoles_inj, eHole_iff] at h
  grind

theorem unSo (xs : List Int) : unenc encSo (([.own 900], [(900, Blk.mk false 3 1 (List.map eI xs))])) = some (xs) := unenc_of encSo_inj (xs) rfl

def resSo1 (xs : List Int) : AV × Heap × List Nat := (.tup [], [(900, ⟨false, 3, 1, (F.srtI xs).map eI⟩)], [])

def preSo1 (xs : List Int) : Bool := decide (xs.length ≤ 100000)

noncomputable def oSo : OrcH := orcH 16 encSo (fun a => preSo1 a) fun a => resSo1 a

theorem okSo : OrcHOK Tryz.prog noG oSo := by
  refine orcH_ok ⟨Tryz.f16, by kernel_rfl, by kernel_rfl, by kernel_rfl⟩ (fun xs hp _ hk => ?_)
  have hp : xs.length ≤ 100000 := of_decide_eq_true hp
  have hk := ok_ints hk
  have hk2 : ∀ y ∈ F.srtI xs, okAtom (.int .i64 y) := fun y hy => hk y ((List.mergeSort_perm ..).subset hy)
  intro w S β cargs inv hargs
  match cargs, hargs with
  | [u], ⟨h1, _⟩ =>
    obtain ⟨X, hX, hr1, hr2⟩ := rv_ownk h1
    cases hr : X.real
    · obtain ⟨A, rfl⟩ := hr2 hr
      have := ints_nil inv hX hr
      subst this
      refine (Tryz.slices_Sort_int_none A 0 w).mono ?_
      rintro e w' ⟨rfl, rfl⟩
      have e0 : F.srtI [] = [] := by simp [F.srtI]
      have e1 : (resSo1 []).2.1 = [(900, ⟨false, 3, 1, ([] : List Int).map eI⟩)] := by unfold resSo1; rw [e0]
      exact ⟨_, S, β, rfl, Blw.refl _ _, fun _ h => h, fun _ h => .inl h, by rw [e1]; exact inv, fun _ _ _ _ h => h, [], rfl, trivial⟩
    · obtain ⟨g1, g2, g3, g4, g5, g6⟩ := ints_in inv hX hr
      rw [hr1 hr, g3]
      refine (Tryz.slices_Sort_int X.b 0 X.cap xs w g1 g2 (by omega)).mono ?_
      rintro e w' ⟨rfl, n, os, rfl⟩
      obtain ⟨k1, k2⟩ := ints_put (ys := F.srtI xs) inv hX hr (F.srtI_len xs) hk2 n os
      exact ⟨_, S, β, rfl, k1, fun _ h => h, fun _ h => .inl h, k2, fun _ _ _ _ h => h, [], rfl, trivial⟩

def encCpt1 (xs : List Int) : List AV × Heap := ([.own 900], [(900, ⟨false, 3, 1, xs.map eI⟩)])

def encCpt (a : (List Int)) : List AV × Heap := encCpt1 a

theorem encCpt_inj (a a' : (List Int)) (h : encCpt a = encCpt a') : a = a' := by
  simp only [encCpt, encCpt1] at h
  try simp [strs_inj, ints_inj, bools_inj, u8s_inj, eEnts_inj, eEnt_iff, eLsts_inj, eLst_iff, eSegs_inj, eSeg_iff, eRots_inj, eRot_iff, eBeats_inj, eBeat_iff, eSpans_inj, eSpan_iff, eHoles_inj, eHole_iff] at h
  grind

theorem unCpt (xs : List Int) : unenc encCpt (([.own 900], [(900, Blk.mk false 3 1 (List.map eI xs))])) = some (xs) := unenc_of encCpt_inj (xs) rfl

def resCpt1 (xs : List Int) : AV × Heap × List Nat := (.win 900 0 (F.cmpI xs).length, [(900, ⟨false, 3, 1, (F.cmpI xs ++ List.replicate (xs.length - (F.cmpI xs).length) 0).map eI⟩)], [])

def preCpt1 (xs : List Int) : Bool := decide (xs.length ≤ 100000)

noncomputable def oCpt : OrcH := orcH 17 encCpt (fun a => preCpt1 a) fun a => resCpt1 a

theorem mem_cmpI {xs : List Int} {y : Int} (h : y ∈ F.cmpI xs) : y ∈ xs := by
  unfold F.cmpI Lib.compact Lib.compactUpTo at h
  obtain ⟨i, hi, rfl⟩ := List.mem_map.1 h
  have hi := List.mem_range.1 (List.mem_filter.1 hi).1
  rw [getElem!_pos _ i (by simpa using hi)]
  simp

theorem okCpt : OrcHOK Tryz.prog noG oCpt := by
  refine orcH_ok ⟨Tryz.f17, by kernel_rfl, by kernel_rfl, by kernel_rfl⟩ (fun xs hp _ hk => ?_)
  have hp : xs.length ≤ 100000 := of_decide_eq_true hp
  have hk := ok_ints hk
  have hl := F.cmpI_len xs
  have hk2 : ∀ y ∈ F.cmpI xs ++ List.replicate (xs.length - (F.cmpI xs).length) 0, okAtom (.int .i64 y) := fun y hy => by
    rcases List.mem_append.1 hy with hy | hy
    · exact hk y (mem_cmpI hy)
    · rw [(List.mem_replicate.1 hy).2]; exact ⟨by decide, by decide⟩
  intro w S β cargs inv hargs
  match cargs, hargs with
  | [u], ⟨h1, _⟩ =>
    obtain ⟨X, hX, hr1, hr2⟩ := rv_ownk h1
    cases hr : X.real
    · obtain ⟨A, rfl⟩ := hr2 hr
      have := ints_nil inv hX hr
      subst this
      refine (Tryz.slices_Compact_int_empty A 0 w).mono ?_
      rintro e w' ⟨rfl, rfl⟩
      exact ⟨_, S, β, rfl, Blw.refl _ _, fun _ h => h, fun _ h => .inl h, inv, fun _ _ _ _ h => h, X, hX, A, 0, rfl, Nat.le_refl _, by omega, fun h => absurd rfl h⟩
    · obtain ⟨g1, g2, g3, g4, g5, g6⟩ := ints_in inv hX hr
      rw [hr1 hr, g3]
      refine (Tryz.slices_Compact_int X.b 0 X.cap xs w g1 (by omega) (by omega)).mono ?_
      rintro e w' ⟨rfl, n, rfl⟩
      obtain ⟨k1, k2⟩ := ints_put (ys := F.cmpI xs ++ List.replicate (xs.length - (F.cmpI xs).length) 0) inv hX hr (by rw [List.length_append, List.length_replicate]; omega) hk2 n #[]
      rw [grow_empty] at k1 k2
      refine ⟨_, S, β, rfl, k1, fun _ h => h, fun _ h => .inl h, k2, fun _ _ _ _ h => h, X, hX, _, _, rfl, ?_, g5, fun _ => ⟨hr, ?_, ?_⟩⟩
      · show (F.cmpI xs).length ≤ X.cap; omega
      · rw [Nat.zero_mul]
      · show 0 + (F.cmpI xs).length ≤ X.len; omega

theorem below_grow (w : World) (k : Nat) (os : Array Obj) : Below w.heap.size w (grow (w.drewN k) os) :=
  ⟨rfl, rfl, rfl, by first | (simp [grow]; done) | (simp [grow]; omega), fun i hi => by
    show ((w.drewN k).heap ++ os)[i]? = _
    rw [Array.getElem?_append_left (by show i < w.heap.size; omega)]
    rfl⟩

def encIta1 (n : Int) : List AV := [vI n]

def encIta (a : Int) : List AV := encIta1 a

theorem encIta_inj (a a' : Int) (h : encIta a = encIta a') : a = a' := by
  simp only [encIta, encIta1] at h
  try simp [strs_inj, ints_inj, bools_inj, u8s_inj, eEnts_inj, eEnt_iff, eLsts_inj, eLst_iff, eSegs_inj, eSeg_iff, eRots_inj, eRot_iff, eBeats_inj, eBeat_iff, eSpans_inj, eSpan_iff, eHoles_inj, eHole_iff] at h
  grind

theorem unIta (n : Int) : unenc encIta ([(vI n)]) = some (n) := unenc_of encIta_inj (n) rfl

def resIta1 (n : Int) : AV × Heap := (vS (F.itoa n), [])

def preIta1 (n : Int) : Bool := decide (-9223372036854775808 ≤ n) && decide (n ≤ 9223372036854775807)

noncomputable def oIta : Orc := orc 15 true encIta (fun a => preIta1 a) fun a => resIta1 a

theorem okIta : OrcOK Tryz.prog noG oIta := by
  refine orc_ok ⟨Tryz.f15, by kernel_rfl, by kernel_rfl, by kernel_rfl⟩ (fun n hp _ => ?_) (fun _ _ => ⟨rfl, rfl⟩)
  simp only [preIta1, Bool.and_eq_true, decide_eq_true_eq] at hp
  have hz := F.itoa_size hp.1 hp.2
  refine SpecP.below1 (fun w S => rv_mk (by show (F.itoa n).size ≤ 9223372036854775807; omega)) fun _ w S hG => ?_
  have hg := hG 2 ⟨[], fun cs => cs = (Lib.pow10Tab.map fun z => Value.int .u64 z).toArray⟩ rfl
  obtain ⟨cs, ty, o, h1, h2⟩ := hg.cells
  have htab : Lib.TabIs Tryz.prog w "internal/strconv.uint64pow10" .u64 Lib.pow10Tab := by
    have hn : Tryz.prog.globalNamed "internal/strconv.uint64pow10" = some 2 := by kernel_rfl
    simp only [Lib.TabIs, World.var?, hn, Option.bind_some, h1]
    rw [h2]
  refine (Tryz.strconv_Itoa n hp.1 hp.2 w htab).mono ?_
  rintro e w' ⟨he, k, os, rfl⟩
  exact ⟨he, below_grow w k os⟩

end M
end Go.Proofs.YtlemjphdhapfpaaGreatDoor
