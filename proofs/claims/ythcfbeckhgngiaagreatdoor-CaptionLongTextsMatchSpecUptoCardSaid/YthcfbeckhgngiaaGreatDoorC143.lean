/- What is proved here: contracts of strings.Builder for the machine (no statement of the seat). -/
import Derived.Test.YthcfbeckhgngiaaGreatDoorC142
import Derived.Test.YthcfbeckhgngiaaGreatDoorM9
import Derived.Test.YthcfbeckhgngiaaGreatDoorM10
namespace Go.Proofs.YthcfbeckhgngiaaGreatDoor
open Go Go.RowKit
set_option linter.unusedVariables false
set_option linter.unusedSimpArgs false

namespace M


theorem eU_inj (a b : UInt8) (h : F.eU a = F.eU b) : a = b := by
  simp only [F.eU, List.cons.injEq, AV.v.injEq, Value.int.injEq, true_and, and_true] at h
  exact UInt8.toNat_inj.1 (by omega)

theorem eUs_inj {a b : ByteArray} : F.eUs a = F.eUs b ↔ a = b := by
  unfold F.eUs
  rw [List.map_inj_right eU_inj]
  exact ⟨fun h => ByteArray.ext (Array.ext' h), fun h => by rw [h]⟩

theorem eUs_len (s : ByteArray) : (F.eUs s).length = s.size := by
  unfold F.eUs
  rw [List.length_map]
  simp

theorem strCells_app (s x : ByteArray) : Lib.strCells (s ++ x) = Lib.strCells s ++ Lib.strCells x := by
  unfold Lib.strCells
  simp

/-- The memory of a builder that comes in: fresh, or one that holds bytes. -/
def bldIn (o : Option ByteArray) : Heap := match o with
  | none => [(900, ⟨true, 55, 0, [[.v (.pointer none), .v (.slice none 0 0)]]⟩)]
  | some s => [(901, ⟨false, 5, 1, F.eUs s⟩), (900, ⟨true, 55, 0, [[.ptr 900 0 0, .own 901]]⟩)]

def bldOut (o : Option ByteArray) (x : ByteArray) : Heap := match o with
  | none => [(900, ⟨true, 55, 0, [[.ptr 900 0 0, .own 0]]⟩), (0, ⟨false, 5, 1, F.eUs x⟩)]
  | some s => [(901, ⟨false, 5, 1, F.eUs (s ++ x)⟩), (900, ⟨true, 55, 0, [[.ptr 900 0 0, .own 901]]⟩)]

def bldB (X Y : BI) (kY : Nat) : Nat → Option BI := fun k => if k = 900 then some X else if k = kY then some Y else none

theorem bldB_x (X Y : BI) (kY : Nat) : bldB X Y kY 900 = some X := by unfold bldB; rw [if_pos rfl]

theorem bldB_y (X Y : BI) {kY : Nat} (h : kY ≠ 900) : bldB X Y kY kY = some Y := by unfold bldB; rw [if_neg h, if_pos rfl]

theorem bldB_some {X Y : BI} {kY k : Nat} {x : BI} (h : bldB X Y kY k = some x) : (k = 900 ∧ x = X) ∨ (k = kY ∧ k ≠ 900 ∧ x = Y) := by
  unfold bldB at h
  split at h
  · cases h; exact .inl ⟨‹_›, rfl⟩
  · split at h
    · cases h; exact .inr ⟨‹_›, ‹_›, rfl⟩
    · cases h

theorem arr2 {cs : Array Value} {a b : Value} (h : cs.size = 2) (h0 : cs[0]? = some a) (h1 : cs[1]? = some b) : cs = #[a, b] := by
  refine Array.ext (by simpa using h) fun i hi hj => ?_
  have hi2 : i = 0 ∨ i = 1 := by omega
  rcases hi2 with rfl | rfl
  · have := (Array.getElem?_eq_some_iff.1 h0).2
    simpa using this
  · have := (Array.getElem?_eq_some_iff.1 h1).2
    simpa using this

/-- What a builder's call leaves of the world. -/
theorem bld_inv {G : Nat → Option GR} {w w' : World} {S : Nat → Prop} {β : Nat → Option BI} {hin hout : Heap} (inv : InvG G (ownFree w β) w S β hin) {X Y : BI} {kY : Nat} (hk : kY ≠ 900) (hX : β 900 = some X) (hXr : X.real = true)
    {P : Nat → Prop} (st : Stays w w' P) (hP : ∀ b, b < w.heap.size → (∀ k x, β k = some x → x.real = true → x.b ≠ b) → P b)
    (hY : Y.real = true → Y.b < w'.heap.size ∧ Y.b ≠ X.b ∧ ((∃ k y, β k = some y ∧ y.real = true ∧ y.b = Y.b) ∨ w.heap.size ≤ Y.b))
    {bX bY : Blk} (hbX : BlkOK w' S (bldB X Y kY) bX X) (hbY : Y.real = true → BlkOK w' S (bldB X Y kY) bY Y) (hbV : Y.real = false → bY.rows = [] ∧ bY.box = false)
    (h900 : mget hout 900 = some bX) (hkY : mget hout kY = some bY) (honly : ∀ k bl, mget hout k = some bl → k = 900 ∨ k = kY) (hxV : X.real = false → bX.rows = [] ∧ bX.box = false) :
    Blw (ownFree w β) w w' ∧ InvG G (ownFree w β) w' S (bldB X Y kY) hout := by
  obtain ⟨x1, x2, x3⟩ := inv.new 900 X hX hXr
  have hSb : ∀ b, S b → w'.heap[b]? = w.heap[b]? := fun b hb => st.block b (inv.lt b hb) (hP b (inv.lt b hb) fun k x hkx hxr e => (inv.new k x hkx hxr).2.2 (e ▸ hb))
  have hBb : ∀ b, ownFree w β b → w'.heap[b]? = w.heap[b]? := fun b hb => st.block b hb.1 (hP b hb.1 fun k x hkx hxr e => hb.2 ⟨k, x, hkx, hxr, e⟩)
  have hYn : Y.real = true → ¬ ownFree w β Y.b ∧ Y.b < w'.heap.size ∧ ¬ S Y.b := fun hr => by
    obtain ⟨y1, y2, y3⟩ := hY hr
    rcases y3 with ⟨k, y, k1, k2, k3⟩ | hge
    · obtain ⟨n1, n2, n3⟩ := inv.new k y k1 k2
      rw [← k3]
      exact ⟨n1, by rw [k3]; exact y1, n3⟩
    · exact ⟨fun h => by have := h.1; omega, y1, fun h => by have := inv.lt _ h; omega⟩
  refine ⟨⟨st.os, st.tape, st.output, st.size, hBb⟩, fun b hb => Nat.lt_of_lt_of_le (inv.base b hb) st.size, fun b hb => Nat.lt_of_lt_of_le (inv.lt b hb) st.size, ?_, ?_, ?_, ?_, fun g r hg => (inv.glob g r hg).mono hSb fun _ h => h⟩
  · intro k k' x x' h1 h2 r1 r2 e
    rcases bldB_some h1 with ⟨rfl, rfl⟩ | ⟨rfl, _, rfl⟩ <;> rcases bldB_some h2 with ⟨rfl, rfl⟩ | ⟨rfl, _, rfl⟩
    · rfl
    · exact absurd e.symm (hY r2).2.1
    · exact absurd e (hY r1).2.1
    · rfl
  · intro k x h1 r1
    rcases bldB_some h1 with ⟨rfl, rfl⟩ | ⟨rfl, _, rfl⟩
    · exact ⟨x1, Nat.lt_of_lt_of_le x2 st.size, x3⟩
    · exact hYn r1
  · intro k x h1
    rcases bldB_some h1 with ⟨rfl, rfl⟩ | ⟨rfl, _, rfl⟩
    · exact ⟨bX, h900, fun _ => hbX, hxV⟩
    · exact ⟨bY, hkY, hbY, hbV⟩
  · intro k bl h1
    rcases honly k bl h1 with rfl | rfl
    · exact ⟨X, bldB_x _ _ _⟩
    · exact ⟨Y, bldB_y _ _ hk⟩

/-- A buffer reads as plain data. -/
theorem buf_blk {w : World} {v : Value} {own : Option Nat} {s : ByteArray} (h : BufAt w v own (Lib.strCells s)) :
    ∃ Y : BI, (Y.real = true → own = some Y.b ∧ v = .slice (some ⟨Y.b, 0, none⟩) Y.len Y.cap ∧ Y.b < w.heap.size ∧ ∀ S β, BlkOK w S β ⟨false, 5, 1, F.eUs s⟩ Y) ∧ (Y.real = false → F.eUs s = [] ∧ own = none ∧ ∃ A, v = .slice A 0 0) := by
  have hl := strCells_len s
  rcases h with ⟨A, rfl, h1, rfl⟩ | ⟨g, cap, cur, rfl, rfl, hg, hnc, hcm, hcs, ht⟩
  · refine ⟨⟨false, 0, 0, 0, 0⟩, fun h => (by cases h), fun _ => ⟨?_, rfl, A, rfl⟩⟩
    refine List.eq_nil_of_length_eq_zero ?_
    rw [eUs_len, ← hl, h1]; rfl
  · refine ⟨⟨true, g, s.size, cap, 1⟩, fun _ => ⟨rfl, by rw [hl], (Array.getElem?_eq_some_iff.1 hg).1, fun S β => ?_⟩, fun h => (by cases h)⟩
    refine ⟨cur, 5, hg, by simp only [Nat.mul_one]; exact hcs, eUs_len s, by simp only; omega, hcm, fun _ => ⟨rfl, rfl⟩, (fun h => by cases h), fun i row hi => ?_⟩
    simp only [F.eUs, List.getElem?_map, Option.map_eq_some_iff] at hi
    obtain ⟨b, hb, rfl⟩ := hi
    refine ⟨rfl, fun j a hj => ?_⟩
    have hj0 : j = 0 := by
      have := (List.getElem?_eq_some_iff.1 hj).1
      simp only [F.eU, List.length_singleton] at this; omega
    subst hj0
    simp only [F.eU, List.getElem?_cons_zero, Option.some.injEq] at hj
    subst hj
    have hi2 : (Lib.strCells s)[i]? = some (.int .u8 b.toNat) := by
      unfold Lib.strCells
      rw [List.getElem?_map, hb]; rfl
    have hil := (List.getElem?_eq_some_iff.1 hi2).1
    rw [← ht, List.getElem?_take, if_pos hil] at hi2
    refine ⟨.int .u8 b.toNat, by simpa using hi2, ?_⟩
    have hlt := b.toNat_lt
    have hok : okAtom (.int .u8 b.toNat) := by
      show IntKind.u8.min ≤ _ ∧ _ ≤ IntKind.u8.max
      simp only [IntKind.min, IntKind.max, IntKind.signed, IntKind.bits]
      simp
      omega
    simpa using R0.v (w := w) (S := S) hok

theorem blk_buf {w : World} {S : Nat → Prop} {β : Nat → Option BI} {s : ByteArray} {Z : BI} (h : BlkOK w S β ⟨false, 5, 1, F.eUs s⟩ Z) : BufAt w (.slice (some ⟨Z.b, 0, none⟩) Z.len Z.cap) (some Z.b) (Lib.strCells s) := by
  obtain ⟨cs, ty, c1, c2, c3, c4, c5, c6, c7, c8⟩ := h
  obtain ⟨c61, c62⟩ := c6 rfl
  have hl := strCells_len s
  simp only at c61 c62 c3
  rw [eUs_len] at c3
  rw [c61] at c1
  refine .inr ⟨Z.b, Z.cap, cs, rfl, by rw [hl, c3], c1, by omega, c5, by rw [c2, c62]; simp, ?_⟩
  refine List.ext_getElem? fun i => ?_
  rw [List.getElem?_take]
  split
  · rename_i hi
    have hi2 : i < s.data.toList.length := by rw [hl] at hi; simpa using hi
    have hb : s.data.toList[i]? = some s.data.toList[i] := List.getElem?_eq_getElem hi2
    generalize s.data.toList[i] = b at hb
    obtain ⟨_, c9⟩ := c8 i (F.eU b) (by simp only [F.eUs, List.getElem?_map, hb]; rfl)
    obtain ⟨v, hv, hr⟩ := c9 0 (vU b.toNat) rfl
    rw [c62] at hv
    have hr : R0 w S (vU b.toNat) v := by simpa using hr
    cases hr
    unfold Lib.strCells
    rw [List.getElem?_map, hb]
    simpa using hv
  · rename_i hi
    rw [List.getElem?_eq_none (by omega)]

/-- The builder's own cells. -/
theorem box_blk {w : World} {S : Nat → Prop} {X Y : BI} {kY : Nat} (hk : kY ≠ 900) {v : Value} (hXr : X.real = true) (h : w.heap[X.b]? = some (.cells #[.pointer (some ⟨X.b, 0, none⟩), v] 55 (0, 0))) (hXs : X.size = 2) (hXl : X.len = 1) (hXc : X.cap = 1)
    (hv1 : Y.real = true → v = .slice (some ⟨Y.b, 0, none⟩) Y.len Y.cap) (hv2 : Y.real = false → ∃ A, v = .slice A 0 0) : BlkOK w S (bldB X Y kY) ⟨true, 55, 0, [[.ptr 900 0 0, .own kY]]⟩ X := by
  refine ⟨_, _, h, by rw [hXs, hXc]; rfl, hXl.symm, by omega, by omega, (fun h => by cases h), fun _ => ⟨hXc, .inr rfl⟩, fun i row hi => ?_⟩
  have hi0 : i = 0 := by
    have := (List.getElem?_eq_some_iff.1 hi).1
    simp at this; exact this
  subst hi0
  cases hi
  refine ⟨hXs.symm, fun j a hj => ?_⟩
  have hj2 : j < 2 := (List.getElem?_eq_some_iff.1 hj).1
  have hj3 : j = 0 ∨ j = 1 := by omega
  rcases hj3 with rfl | rfl
  · cases hj
    exact ⟨.pointer (some ⟨X.b, 0, none⟩), by rw [Nat.zero_mul]; rfl, X, bldB_x _ _ _, hXr, by simp⟩
  · cases hj
    exact ⟨v, by rw [Nat.zero_mul]; rfl, Y, bldB_y _ _ hk, hv1, hv2⟩

/-- A builder that comes in. -/
theorem bld_open {G : Nat → Option GR} {w : World} {S : Nat → Prop} {β : Nat → Option BI} {o : Option ByteArray} {u : Value} (inv : InvG G (ownFree w β) w S β (bldIn o)) (h : RV w S β (.ptr 900 0 0) u) :
    ∃ X p v own xs, β 900 = some X ∧ X.real = true ∧ X.size = 2 ∧ X.len = 1 ∧ X.cap = 1 ∧ u = .pointer (some ⟨X.b, 0, none⟩) ∧ (p = .pointer none ∨ p = .pointer (some ⟨X.b, 0, none⟩)) ∧ w.heap[X.b]? = some (.cells #[p, v] 55 (0, 0)) ∧
      BufAt w v own xs ∧ own ≠ some X.b ∧ (match o with | none => xs = [] ∧ own = none | some s => xs = Lib.strCells s) ∧ (∀ g, own = some g → ∃ k y, β k = some y ∧ y.real = true ∧ y.b = g) ∧ X.b < w.heap.size := by
  obtain ⟨X, hX, hXr, rfl⟩ : ∃ x, β 900 = some x ∧ x.real = true ∧ u = .pointer (some ⟨x.b, 0 * x.size + 0, none⟩) := h
  obtain ⟨bl, hb, h3, _⟩ := inv.dom 900 X hX
  obtain ⟨cs, ty, c1, c2, c3, c4, c5, c6, c7, c8⟩ := h3 hXr
  have hT : (55 : Nat) ≠ 0 := by decide
  cases o with
  | none =>
    have hb0 : some (⟨true, 55, 0, [[.v (.pointer none), .v (.slice none 0 0)]]⟩ : Blk) = some bl := hb
    cases hb0
    obtain ⟨d1, d2⟩ := c7 rfl
    have d2 : ty = 55 := d2.resolve_left hT
    obtain ⟨e1, e2⟩ := c8 0 _ rfl
    have e1 : X.size = 2 := e1.symm
    obtain ⟨v0, f0, g0⟩ := e2 0 _ rfl
    obtain ⟨v1, f1, g1⟩ := e2 1 _ rfl
    have g0 : R0 w S (.v (.pointer none)) v0 := g0
    cases g0
    have g1 : R0 w S (.v (.slice none 0 0)) v1 := g1
    cases g1
    rw [Nat.zero_mul] at f0 f1
    have hcs := arr2 (by rw [c2, d1, e1]) f0 f1
    rw [hcs, d2] at c1
    exact ⟨X, _, _, none, [], hX, hXr, e1, c3.symm, d1, by simp, .inl rfl, c1, .inl ⟨none, rfl, rfl, rfl⟩, (by simp), ⟨rfl, rfl⟩, (fun g h => by cases h), (inv.new 900 X hX hXr).2.1⟩
  | some s =>
    have hb0 : some (⟨true, 55, 0, [[.ptr 900 0 0, .own 901]]⟩ : Blk) = some bl := hb
    cases hb0
    obtain ⟨d1, d2⟩ := c7 rfl
    have d2 : ty = 55 := d2.resolve_left hT
    obtain ⟨e1, e2⟩ := c8 0 _ rfl
    have e1 : X.size = 2 := e1.symm
    obtain ⟨v0, f0, g0⟩ := e2 0 _ rfl
    obtain ⟨v1, f1, g1⟩ := e2 1 _ rfl
    obtain ⟨X', hX', _, rfl⟩ : ∃ x, β 900 = some x ∧ x.real = true ∧ v0 = .pointer (some ⟨x.b, 0 * x.size + 0, none⟩) := g0
    rw [hX] at hX'
    cases hX'
    obtain ⟨Z, hZ, z1, z2⟩ : ∃ x, β 901 = some x ∧ (x.real = true → v1 = .slice (some ⟨x.b, 0, none⟩) x.len x.cap) ∧ (x.real = false → ∃ A, v1 = .slice A 0 0) := g1
    rw [Nat.zero_mul] at f0 f1
    have hcs := arr2 (by rw [c2, d1, e1]) f0 f1
    rw [hcs, d2] at c1
    obtain ⟨bl2, hb2, h4, h5⟩ := inv.dom 901 Z hZ
    have hb3 : some (⟨false, 5, 1, F.eUs s⟩ : Blk) = some bl2 := hb2
    cases hb3
    cases hr : Z.real
    · obtain ⟨A, rfl⟩ := z2 hr
      have h6 : F.eUs s = [] := (h5 hr).1
      have h7 : Lib.strCells s = [] := List.eq_nil_of_length_eq_zero (by rw [strCells_len, ← eUs_len, h6]; rfl)
      exact ⟨X, _, _, none, _, hX, hXr, e1, c3.symm, d1, by simp, .inr (by simp), c1, .inl ⟨A, rfl, h7, rfl⟩, (by simp), rfl, (fun g h => by cases h), (inv.new 900 X hX hXr).2.1⟩
    · have hne : Z.b ≠ X.b := fun e => by
        have := inv.inj 901 900 Z X hZ hX hr hXr e
        omega
      rw [z1 hr] at c1
      exact ⟨X, _, _, some Z.b, _, hX, hXr, e1, c3.symm, d1, by simp, .inr (by simp), c1, blk_buf (h4 hr), (by simpa using hne), rfl, (fun g h => ⟨901, Z, hZ, hr, by cases h; rfl⟩), (inv.new 900 X hX hXr).2.1⟩

def encWst (a : Option ByteArray × ByteArray) : List AV × Heap := ([.ptr 900 0 0, vS a.2], bldIn a.1)

theorem encWst_inj (a a' : Option ByteArray × ByteArray) (h : encWst a = encWst a') : a = a' := by
  obtain ⟨o, x⟩ := a
  obtain ⟨o', x'⟩ := a'
  unfold encWst at h
  simp only [Prod.mk.injEq, List.cons.injEq, AV.v.injEq, Value.string.injEq, true_and, and_true] at h
  obtain ⟨rfl, h⟩ := h
  cases o with
  | none => cases o' with
    | none => rfl
    | some s => simp [bldIn] at h
  | some s => cases o' with
    | none => simp [bldIn] at h
    | some s' =>
      simp only [bldIn, List.cons.injEq, Prod.mk.injEq, Blk.mk.injEq, true_and, and_true] at h
      rw [eUs_inj.1 h]

theorem unWst (x : ByteArray) : unenc encWst (([.ptr 900 0 0, (vS x)], [(900, Blk.mk true 55 0 [[AV.v (Value.pointer none), AV.v (Value.slice none (0 : Nat) (0 : Nat))]])])) = some (none, x) := unenc_of encWst_inj (none, x) rfl

theorem unWstU (s : ByteArray) (x : ByteArray) : unenc encWst (([.ptr 900 0 0, (vS x)], [(901, Blk.mk false 5 1 (F.eUs s)), (900, Blk.mk true 55 0 [[.ptr 900 0 0, .own 901]])])) = some (some s, x) := unenc_of encWst_inj (some s, x) rfl

def preWst1 (o : Option ByteArray) (x : ByteArray) : Bool := decide (F.bldLen o + x.size ≤ 140737488355328)

def resWst (a : Option ByteArray × ByteArray) : T (AV × Heap × List Nat) := .ifB a.1.isNone
  (.ret (.tup [vI a.2.size, .v .nilIface], [(900, ⟨true, 55, 0, [[.ptr 900 0 0, .own 0]]⟩), (0, ⟨false, 5, 1, F.eUs a.2⟩)], []))
  (.ret (.tup [vI a.2.size, .v .nilIface], [(901, ⟨false, 5, 1, F.eUs (F.bldS a.1 ++ a.2)⟩), (900, ⟨true, 55, 0, [[.ptr 900 0 0, .own 901]]⟩)], [901]))

noncomputable def oWst : OrcH := orcT 23 encWst (fun a => preWst1 a.1 a.2) resWst

theorem okWst : OrcHOK Tryz.prog noG oWst := by
  refine orcT_ok ⟨Tryz.f23, by kernel_rfl, by kernel_rfl, by kernel_rfl⟩ (fun a r hp hk1 hk2 hr => ?_)
  obtain ⟨o, x⟩ := a
  have hp : F.bldLen o + x.size ≤ 140737488355328 := of_decide_eq_true hp
  have hx : x.size ≤ 9223372036854775807 := okA_v (hk1 (vS x) (by simp [encWst]))
  intro w S β cargs inv hargs
  match cargs, hargs with
  | [u, vx], ⟨h1, h2, _⟩ =>
    have hvx : vx = .string x := (rv_v h2).1
    subst hvx
    obtain ⟨X, p, v, own, xs, hX, hXr, hXs, hXl, hXc, rfl, hp2, hbk, hbuf, hne, ho, hown, hlt⟩ := bld_open (o := o) inv h1
    have hlen : xs.length + x.size ≤ 140737488355328 := by
      cases o with
      | none => rw [ho.1]; simpa [F.bldLen] using hp
      | some s => rw [show xs = Lib.strCells s from ho, strCells_len]; exact hp
    refine (bld_write X.b p v own xs x hp2 w hbk hbuf hne hlen).mono ?_
    rintro e w' ⟨rfl, v', own', k1, k2, k3, k4, k5⟩
    have hP : ∀ b, b < w.heap.size → (∀ k x, β k = some x → x.real = true → x.b ≠ b) → b ≠ X.b ∧ own ≠ some b := fun b _ hb => ⟨fun e => hb 900 X hX hXr e.symm, fun e => by
      obtain ⟨k, y, y1, y2, y3⟩ := hown b e
      exact hb k y y1 y2 y3⟩
    have ret : RV w' S (fun _ => none) (.tup [vI x.size, .v .nilIface]) (.tuple #[.int .i64 x.size, .nilIface]) := by
      refine ⟨[.int .i64 x.size, .nilIface], rfl, ?_, ?_, trivial⟩
      · have hok : okAtom (.int .i64 (x.size : Int)) := by
          show IntKind.i64.min ≤ _ ∧ _ ≤ IntKind.i64.max
          simp only [IntKind.min, IntKind.max, IntKind.signed, IntKind.bits]
          simp
          omega
        exact R0.v (w := w') (S := S) hok
      · exact R0.v (w := w') (S := S) (x := .nilIface) trivial
    cases o with
    | none =>
      have hr : (.tup [vI x.size, .v .nilIface], [(900, ⟨true, 55, 0, [[.ptr 900 0 0, .own 0]]⟩), (0, ⟨false, 5, 1, F.eUs x⟩)], []) = r := Option.some.inj hr
      subst hr
      rw [ho.1, List.nil_append] at k2
      obtain ⟨Y, y1, y2⟩ := buf_blk k2
      obtain ⟨f1, f2⟩ := bld_inv inv (kY := 0) (by omega) hX hXr k5 hP (Y := Y) (fun hr => by
          obtain ⟨z1, z2, z3, z4⟩ := y1 hr
          refine ⟨z3, fun e => k3 (by rw [z1, e]), ?_⟩
          rcases k4 _ z1 with h | h
          · exact .inl (hown _ h)
          · exact .inr h)
        (box_blk (by omega) hXr k1 hXs hXl hXc (fun hr => (y1 hr).2.1) (fun hr => (y2 hr).2.2)) (fun hr => (y1 hr).2.2.2 _ _) (fun hr => ⟨(y2 hr).1, rfl⟩)
        (hout := [(900, ⟨true, 55, 0, [[.ptr 900 0 0, .own 0]]⟩), (0, ⟨false, 5, 1, F.eUs x⟩)]) rfl rfl (fun k bl hk => by
          simp only [mget] at hk
          split at hk
          · rename_i h; exact .inl (beq_true.1 h)
          · split at hk
            · rename_i h; exact .inr (beq_true.1 h)
            · cases hk) (fun h => by rw [hXr] at h; cases h)
      refine ⟨_, S, _, rfl, f1, fun _ h => h, fun _ h => .inl h, f2, fun k y hk _ hy => ?_, ret.mono (fun _ _ => rfl) (fun _ h => h) fun k _ x hx => (by cases hx)⟩
      rcases bldB_some hy with ⟨rfl, rfl⟩ | ⟨rfl, _, rfl⟩
      · exact hX
      · exact absurd hk (by simp [inK])
    | some s =>
      have hr : (.tup [vI x.size, .v .nilIface], [(901, ⟨false, 5, 1, F.eUs (s ++ x)⟩), (900, ⟨true, 55, 0, [[.ptr 900 0 0, .own 901]]⟩)], [901]) = r := Option.some.inj hr
      subst hr
      rw [show xs = Lib.strCells s from ho, ← strCells_app] at k2
      obtain ⟨Y, y1, y2⟩ := buf_blk k2
      obtain ⟨f1, f2⟩ := bld_inv inv (kY := 901) (by omega) hX hXr k5 hP (Y := Y) (fun hr => by
          obtain ⟨z1, z2, z3, z4⟩ := y1 hr
          refine ⟨z3, fun e => k3 (by rw [z1, e]), ?_⟩
          rcases k4 _ z1 with h | h
          · exact .inl (hown _ h)
          · exact .inr h)
        (box_blk (by omega) hXr k1 hXs hXl hXc (fun hr => (y1 hr).2.1) (fun hr => (y2 hr).2.2)) (fun hr => (y1 hr).2.2.2 _ _) (fun hr => ⟨(y2 hr).1, rfl⟩)
        (hout := [(901, ⟨false, 5, 1, F.eUs (s ++ x)⟩), (900, ⟨true, 55, 0, [[.ptr 900 0 0, .own 901]]⟩)]) rfl rfl (fun k bl hk => by
          simp only [mget] at hk
          split at hk
          · rename_i h; exact .inr (beq_true.1 h)
          · split at hk
            · rename_i h; exact .inl (beq_true.1 h)
            · cases hk) (fun h => by rw [hXr] at h; cases h)
      refine ⟨_, S, _, rfl, f1, fun _ h => h, fun _ h => .inl h, f2, fun k y hk hm hy => ?_, ret.mono (fun _ _ => rfl) (fun _ h => h) fun k _ x hx => (by cases hx)⟩
      rcases bldB_some hy with ⟨rfl, rfl⟩ | ⟨rfl, _, rfl⟩
      · exact hX
      · exact absurd (List.mem_singleton.2 rfl) hm

theorem okBstU (s : ByteArray) (hp : decide (0 < s.size) = true) : SpecH Tryz.prog noG 28 [.ptr 900 0 0] [(901, ⟨false, 5, 1, F.eUs s⟩), (900, ⟨true, 55, 0, [[.ptr 900 0 0, .own 901]]⟩)] (vS s) [(901, ⟨false, 5, 1, []⟩), (900, ⟨true, 55, 0, [[.ptr 900 0 0, .unk]]⟩)] [901] := by
  have hp : 0 < s.size := of_decide_eq_true hp
  intro w S β cargs inv hargs
  match cargs, hargs with
  | [u], ⟨h1, _⟩ =>
    obtain ⟨X, p, v, own, xs, hX, hXr, hXs, hXl, hXc, rfl, hp2, hbk, hbuf, hne, ho, hown, hlt⟩ := bld_open (o := some s) inv h1
    have ho : xs = Lib.strCells s := ho
    subst ho
    rcases hbuf with ⟨A, _, h, _⟩ | ⟨g, cap, cur, rfl, rfl, hg, hnc, hcm, hcs, ht⟩
    · have := strCells_len s
      rw [h] at this
      simp at this; omega
    have hl : (Lib.strCells s).length = s.data.toList.length := by rw [strCells_len]; simp
    rw [hl] at hbk hnc ht
    have hgX : g ≠ X.b := fun e => hne (by rw [e])
    refine (bld_string X.b g cap p cur s.data.toList w hbk hg hnc hcm hcs ht (fun e => by
      have : s.data.toList.length = s.size := by simp
      rw [e] at this; simp at this; omega)).mono ?_
    rintro e w' ⟨rfl, st⟩
    have hsz : s.size ≤ 9223372036854775807 := by
      have : s.data.toList.length = s.size := by simp
      omega
    have hb2 : w'.heap[X.b]? = some (.cells #[p, .slice (some ⟨g, 0, none⟩) s.data.toList.length cap] 55 (0, 0)) := by
      rw [st.block X.b hlt (fun e => hgX e.symm)]; exact hbk
    have hpp : p = .pointer (some ⟨X.b, 0, none⟩) ∨ p = .pointer none := hp2.symm
    have hpX : p = .pointer (some ⟨X.b, 0, none⟩) := by
      obtain ⟨bl, hb, h3, _⟩ := inv.dom 900 X hX
      have hb0 : some (⟨true, 55, 0, [[.ptr 900 0 0, .own 901]]⟩ : Blk) = some bl := hb
      cases hb0
      obtain ⟨cs, ty, c1, c2, c3, c4, c5, c6, c7, c8⟩ := h3 hXr
      obtain ⟨e1, e2⟩ := c8 0 _ rfl
      obtain ⟨v0, f0, g0⟩ := e2 0 _ rfl
      obtain ⟨X', hX', _, rfl⟩ : ∃ x, β 900 = some x ∧ x.real = true ∧ v0 = .pointer (some ⟨x.b, 0 * x.size + 0, none⟩) := g0
      rw [hX] at hX'
      cases hX'
      rw [hbk] at c1
      cases c1
      rw [Nat.zero_mul] at f0
      exact (Option.some.inj f0)
    have hbX : BlkOK w' S (bldB X ⟨false, 0, 0, 0, 0⟩ 901) ⟨true, 55, 0, [[.ptr 900 0 0, .unk]]⟩ X := by
      refine ⟨_, _, hb2, by rw [hXs, hXc]; rfl, hXl.symm, by omega, by omega, (fun h => by cases h), fun _ => ⟨hXc, .inr rfl⟩, fun i row hi => ?_⟩
      have hi0 : i = 0 := by
        have := (List.getElem?_eq_some_iff.1 hi).1
        simp at this; exact this
      subst hi0
      cases hi
      refine ⟨hXs.symm, fun j a hj => ?_⟩
      have hj2 : j < 2 := (List.getElem?_eq_some_iff.1 hj).1
      have hj3 : j = 0 ∨ j = 1 := by omega
      rcases hj3 with rfl | rfl
      · cases hj
        exact ⟨p, by rw [Nat.zero_mul]; rfl, X, bldB_x _ _ _, hXr, by simp [hpX]⟩
      · cases hj
        exact ⟨.slice (some ⟨g, 0, none⟩) s.data.toList.length cap, by rw [Nat.zero_mul]; rfl, R0.unk (w := w') (S := S) rfl⟩
    obtain ⟨f1, f2⟩ := bld_inv inv (kY := 901) (by omega) hX hXr st (fun b _ hb => fun e => by
        obtain ⟨k, y, y1, y2, y3⟩ := hown g rfl
        exact hb k y y1 y2 (by rw [y3, e])) (Y := ⟨false, 0, 0, 0, 0⟩) (fun h => by cases h) hbX (fun h => by cases h) (bY := ⟨false, 5, 1, []⟩) (fun _ => ⟨rfl, rfl⟩)
        (hout := [(901, ⟨false, 5, 1, []⟩), (900, ⟨true, 55, 0, [[.ptr 900 0 0, .unk]]⟩)]) rfl rfl (fun k bl hk => by
          simp only [mget] at hk
          split at hk
          · rename_i h; exact .inr (beq_true.1 h)
          · split at hk
            · rename_i h; exact .inl (beq_true.1 h)
            · cases hk) (fun h => by rw [hXr] at h; cases h)
    refine ⟨_, S, _, rfl, f1, fun _ h => h, fun _ h => .inl h, f2, fun k y hk hm hy => ?_, rv_mk (show okAtom (.string s) from hsz)⟩
    rcases bldB_some hy with ⟨rfl, rfl⟩ | ⟨rfl, _, rfl⟩
    · exact hX
    · exact absurd (List.mem_singleton.2 rfl) hm

def encBst (o : Option ByteArray) : List AV × Heap := ([.ptr 900 0 0], bldIn o)

theorem encBst_inj (a a' : Option ByteArray) (h : encBst a = encBst a') : a = a' := by
  have := encWst_inj (a, ⟨⟨[]⟩⟩) (a', ⟨⟨[]⟩⟩) (by
    unfold encBst at h
    unfold encWst
    simp only [Prod.mk.injEq, true_and] at h ⊢
    exact h)
  exact (Prod.mk.inj this).1

theorem unBst : unenc encBst (([.ptr 900 0 0], [(900, Blk.mk true 55 0 [[AV.v (Value.pointer none), AV.v (Value.slice none (0 : Nat) (0 : Nat))]])])) = some none := unenc_of encBst_inj none rfl

theorem unBstU (s : ByteArray) : unenc encBst (([.ptr 900 0 0], [(901, Blk.mk false 5 1 (F.eUs s)), (900, Blk.mk true 55 0 [[.ptr 900 0 0, .own 901]])])) = some (some s) := unenc_of encBst_inj (some s) rfl

def preBst1 (o : Option ByteArray) : Bool := o.isNone || decide (0 < (F.bldS o).size)

def resBst (o : Option ByteArray) : T (AV × Heap × List Nat) := .ifB o.isNone
  (.ret (vS ⟨⟨[]⟩⟩, [(900, ⟨true, 55, 0, [[.v (.pointer none), .v (.slice none 0 0)]]⟩)], []))
  (.ret (vS (F.bldS o), [(901, ⟨false, 5, 1, []⟩), (900, ⟨true, 55, 0, [[.ptr 900 0 0, .unk]]⟩)], [901]))

noncomputable def oBst : OrcH := orcT 28 encBst preBst1 resBst

theorem okBst : OrcHOK Tryz.prog noG oBst := by
  refine orcT_ok ⟨Tryz.f28, by kernel_rfl, by kernel_rfl, by kernel_rfl⟩ (fun o r hp _ _ hr => ?_)
  cases o with
  | none =>
    have hr : (vS ⟨⟨[]⟩⟩, [(900, ⟨true, 55, 0, [[.v (.pointer none), .v (.slice none 0 0)]]⟩)], []) = r := Option.some.inj hr
    subst hr
    intro w S β cargs inv hargs
    match cargs, hargs with
    | [u], ⟨h1, _⟩ =>
      obtain ⟨X, hX, hXr, rfl⟩ : ∃ x, β 900 = some x ∧ x.real = true ∧ u = .pointer (some ⟨x.b, 0 * x.size + 0, none⟩) := h1
      obtain ⟨bl, hb, h3, _⟩ := inv.dom 900 X hX
      have hb0 : some (⟨true, 55, 0, [[.v (.pointer none), .v (.slice none 0 0)]]⟩ : Blk) = some bl := hb
      cases hb0
      obtain ⟨cs, ty, c1, c2, c3, c4, c5, c6, c7, c8⟩ := h3 hXr
      have hT : (55 : Nat) ≠ 0 := by decide
      obtain ⟨d1, d2⟩ := c7 rfl
      have d2 : ty = 55 := d2.resolve_left hT
      obtain ⟨e1, e2⟩ := c8 0 _ rfl
      have e1 : X.size = 2 := e1.symm
      obtain ⟨v0, f0, g0⟩ := e2 0 _ rfl
      obtain ⟨v1, f1, g1⟩ := e2 1 _ rfl
      have g0 : R0 w S (.v (.pointer none)) v0 := g0
      cases g0
      have g1 : R0 w S (.v (.slice none 0 0)) v1 := g1
      cases g1
      rw [Nat.zero_mul] at f0 f1
      have hcs := arr2 (by rw [c2, d1, e1]) f0 f1
      rw [hcs, d2] at c1
      rw [show (0 * X.size + 0) = 0 by simp]
      refine (bld_string_nil X.b _ w c1).mono ?_
      rintro e w' ⟨rfl, st⟩
      have hO : ∀ b, b < w.heap.size → w'.heap[b]? = w.heap[b]? := fun b hb => st.block b hb trivial
      refine ⟨_, S, β, rfl, ⟨st.os, st.tape, st.output, st.size, fun b hb => hO b hb.1⟩, fun _ h => h, fun _ h => .inl h, ?_, fun _ _ _ _ h => h, R0.v (w := w') (S := S) (x := .string ⟨#[]⟩) (by show (0 : Nat) ≤ _; omega)⟩
      have g : Gr (ownFree w β) w S β w' S β := ⟨⟨st.os, st.tape, st.output, st.size, fun b hb => hO b hb.1⟩, fun b hb => hO b (inv.lt b hb), fun _ h => h, fun _ h => .inl h, fun _ _ h => h, fun _ _ _ h => h⟩
      exact ⟨fun b hb => Nat.lt_of_lt_of_le (inv.base b hb) st.size, fun b hb => Nat.lt_of_lt_of_le (inv.lt b hb) st.size, inv.inj, fun k x hx hr => by
          obtain ⟨n1, n2, n3⟩ := inv.new k x hx hr
          exact ⟨n1, Nat.lt_of_lt_of_le n2 st.size, n3⟩, fun k x hx => by
          obtain ⟨bl, a1, a2, a3⟩ := inv.dom k x hx
          exact ⟨bl, a1, fun hr => (a2 hr).go g (hO _ (inv.new k x hx hr).2.1), a3⟩, inv.cov, fun gl row hg => (inv.glob gl row hg).mono g.keep g.sub⟩
  | some s =>
    have hr : (vS s, [(901, ⟨false, 5, 1, []⟩), (900, ⟨true, 55, 0, [[.ptr 900 0 0, .unk]]⟩)], [901]) = r := Option.some.inj hr
    subst hr
    have hp : decide (0 < s.size) = true := hp
    exact okBstU s hp


end M
end Go.Proofs.YthcfbeckhgngiaaGreatDoor
