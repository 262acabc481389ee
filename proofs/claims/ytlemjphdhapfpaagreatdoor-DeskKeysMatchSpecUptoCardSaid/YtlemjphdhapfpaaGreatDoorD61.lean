/- What is proved here: sums of numbers of 128 bits (no statement of the seat). -/
import Derived.Test.YtlemjphdhapfpaaGreatDoorD60
import Derived.Test.YtlemjphdhapfpaaGreatDoorM8
namespace Go.Proofs.YtlemjphdhapfpaaGreatDoor
open Go Go.RowKit
set_option linter.unusedVariables false
set_option linter.unusedSimpArgs false

set_option maxHeartbeats 4000000 in
set_option maxRecDepth 100000 in
theorem plus_walk0 (H1 H2 : Int) (l1 l2 h1 h2 : Nat) (e1 : IntKind.u64.wrap H1 = h1) (e2 : IntKind.u64.wrap H2 = h2) (hl1 : l1 < 18446744073709551616) (hl2 : l2 < 18446744073709551616) (w : World) :
    Calls Tryz.prog 50 #[.agg #[.int .i64 H1, .int .u64 (l1 : Int)], .agg #[.int .i64 H2, .int .u64 (l2 : Int)]] w fun e w' => ∃ r1 r2 : Int, e = .returned (.agg #[.int .i64 r1, .int .u64 r2]) ∧ Below w.heap.size w w' ∧
      r1 = IntKind.i64.wrap (((h1 + h2 + (l1 + l2) / 18446744073709551616) % 18446744073709551616 : Nat) : Int) ∧ r2 = (((l1 + l2) % 18446744073709551616 : Nat) : Int) := by
  obtain ⟨d, c, hd, hc, s1⟩ : ∃ d c : Nat, d = (l1 + l2) % 18446744073709551616 ∧ c = (l1 + l2) / 18446744073709551616 ∧ ∀ w, (callFunc 86 #[.int .u64 l1, .int .u64 l2, .int .u64 0]).run Tryz.prog w =
      .ok (.value (.tuple #[.int .u64 (d : Int), .int .u64 (c : Int)])) w := ⟨_, _, rfl, rfl, fun w => ext_add l1 l2 0 (by omega) w⟩
  have hc1 : c ≤ 1 := by omega
  obtain ⟨d2, c2, hd2, hc2, s2⟩ : ∃ d2 c2 : Nat, d2 = (h1 + h2 + c) % 18446744073709551616 ∧ c2 = (h1 + h2 + c) / 18446744073709551616 ∧ ∀ w, (callFunc 86 #[.int .u64 h1, .int .u64 h2, .int .u64 c]).run Tryz.prog w =
      .ok (.value (.tuple #[.int .u64 (d2 : Int), .int .u64 (c2 : Int)])) w := ⟨_, _, rfl, rfl, fun w => ext_add h1 h2 c hc1 w⟩
  rw [← hc, ← hd, ← hd2]
  clear hd hc hd2 hc2 hc1 hl1 hl2
  go_enter Tryz.func50, Tryz.ntmps50
  go_wp2
  go_returns
  exact ⟨_, _, rfl, Below.alloc (Below.alloc (Below.alloc (Below.refl _ _) (Nat.le_refl _) _) (by simp) _) (by simp; omega) _, w64_wrap _, rfl⟩

/-- A number of 128 bits as a value. -/
def wV (v : Int) : Value := .agg #[.int .i64 (F.whi v), .int .u64 (F.wlo v)]

theorem plus_walk (x y : Int) (x0 : -42535295865117307932921825928971026432 ≤ x) (x1 : x ≤ 42535295865117307932921825928971026432) (y0 : -42535295865117307932921825928971026432 ≤ y) (y1 : y ≤ 42535295865117307932921825928971026432) (w : World) :
    Calls Tryz.prog 50 #[wV x, wV y] w fun e w' => e = .returned (wV (x + y)) ∧ Below w.heap.size w w' := by
  have hx := F.w_split x
  have hy := F.w_split y
  have hxy := F.w_split (x + y)
  have b1 : 0 ≤ F.wlo x ∧ F.wlo x < 18446744073709551616 := by unfold F.wlo; omega
  have b2 : 0 ≤ F.wlo y ∧ F.wlo y < 18446744073709551616 := by unfold F.wlo; omega
  have b3 : 0 ≤ F.wlo (x + y) ∧ F.wlo (x + y) < 18446744073709551616 := by unfold F.wlo; omega
  unfold wV
  generalize F.whi x = p at *
  generalize F.whi y = q at *
  generalize F.whi (x + y) = r at *
  generalize F.wlo x = a at *
  generalize F.wlo y = b at *
  generalize F.wlo (x + y) = c at *
  obtain ⟨a, rfl⟩ := Int.eq_ofNat_of_zero_le b1.1
  obtain ⟨b, rfl⟩ := Int.eq_ofNat_of_zero_le b2.1
  obtain ⟨h1, e1⟩ : ∃ h1 : Nat, IntKind.u64.wrap p = h1 := ⟨(IntKind.u64.wrap p).toNat, by rw [IntKind.wrap_u64]; omega⟩
  obtain ⟨h2, e2⟩ : ∃ h2 : Nat, IntKind.u64.wrap q = h2 := ⟨(IntKind.u64.wrap q).toNat, by rw [IntKind.wrap_u64]; omega⟩
  refine (plus_walk0 p q a b h1 h2 e1 e2 (by omega) (by omega) w).mono ?_
  rintro e w' ⟨r1, r2, rfl, hb, rfl, rfl⟩
  refine ⟨?_, hb⟩
  rw [IntKind.wrap_u64] at e1 e2
  obtain ⟨k, hk⟩ : ∃ k, (a + b) / 18446744073709551616 = k := ⟨_, rfl⟩
  obtain ⟨m, hm⟩ : ∃ m, (a + b) % 18446744073709551616 = m := ⟨_, rfl⟩
  have hkm : a + b = 18446744073709551616 * k + m := by omega
  have hm2 : m < 18446744073709551616 := by omega
  have hc : c = (m : Int) := by omega
  have hr : r = p + q + (k : Int) := by omega
  have hk1 : k ≤ 1 := by omega
  have hp1 : -2305843009213693953 ≤ p ∧ p ≤ 2305843009213693952 := by omega
  have hq1 : -2305843009213693953 ≤ q ∧ q ≤ 2305843009213693952 := by omega
  have hh1 : (h1 : Int) = p ∨ (h1 : Int) = p + 18446744073709551616 := by omega
  have hh2 : (h2 : Int) = q ∨ (h2 : Int) = q + 18446744073709551616 := by omega
  rw [hk, hm]
  have hs : ∃ e : Int, ((h1 + h2 + k : Nat) : Int) = r + 18446744073709551616 * e := by
    rcases hh1 with hh1 | hh1 <;> rcases hh2 with hh2 | hh2
    · exact ⟨0, by omega⟩
    · exact ⟨1, by omega⟩
    · exact ⟨1, by omega⟩
    · exact ⟨2, by omega⟩
  obtain ⟨e, hs⟩ := hs
  have f0 : (((h1 + h2 + k) % 18446744073709551616 : Nat) : Int) = r % 18446744073709551616 := by
    first | rw [Int.natCast_emod, hs] | rw [Int.ofNat_emod, hs]
    exact Int.add_mul_emod_self_left _ _ _
  have hr1 : -9223372036854775808 ≤ r ∧ r ≤ 9223372036854775807 := by omega
  have f1 : IntKind.i64.wrap (((h1 + h2 + k) % 18446744073709551616 : Nat) : Int) = r := by
    rw [f0, IntKind.wrap_i64]
    clear f0 hs hr hh1 hh2 e1 e2 hx hy hxy
    omega
  rw [f1, hc]

/-- Numbers that two parts can hold. -/
def F.wOk (v : Int) : Bool := decide (-85070591730234615865843651857942052864 ≤ v) && decide (v ≤ 85070591730234615865843651857942052864)

def F.wOkS (v : Int) : Bool := decide (-42535295865117307932921825928971026432 ≤ v) && decide (v ≤ 42535295865117307932921825928971026432)

def F.i64B (a : Int) : Bool := decide (-9223372036854775808 ≤ a) && decide (a ≤ 9223372036854775807)

namespace M

def eW (v : Int) : AV := .agg [.v (.int .i64 (F.whi v)), .v (.int .u64 (F.wlo v))]

theorem eW_inj {a b : Int} : eW a = eW b ↔ a = b := by
  constructor
  · intro h
    simp only [eW, AV.agg.injEq, List.cons.injEq, AV.v.injEq, Value.int.injEq, true_and, and_true] at h
    rw [F.w_split a, F.w_split b, h.1, h.2]
  · rintro rfl; rfl

theorem wOk_rv {v : Int} (h : F.wOk v = true) (w : World) (S : Nat → Prop) : RV w S noKeys (eW v) (wV v) := by
  simp only [F.wOk, Bool.and_eq_true, decide_eq_true_eq] at h
  refine ⟨[.int .i64 (F.whi v), .int .u64 (F.wlo v)], rfl, R0.v (w := w) (S := S) ?_, R0.v (w := w) (S := S) ?_, trivial⟩
  · show IntKind.i64.min ≤ _ ∧ _ ≤ IntKind.i64.max
    simp only [IntKind.min, IntKind.max, IntKind.signed, IntKind.bits]
    unfold F.whi
    simp
    omega
  · show IntKind.u64.min ≤ _ ∧ _ ≤ IntKind.u64.max
    simp only [IntKind.min, IntKind.max, IntKind.signed, IntKind.bits]
    unfold F.wlo
    simp
    omega

theorem wV_rv {v : Int} {u : Value} {w : World} {S : Nat → Prop} {β : Nat → Option BI} (h : RV w S β (eW v) u) : u = wV v := by
  obtain ⟨vs, rfl, h1⟩ : ∃ vs : List Value, u = .agg vs.toArray ∧ RL (RC w S β) [.v (.int .i64 (F.whi v)), .v (.int .u64 (F.wlo v))] vs := h
  match vs, h1 with
  | [a, b], ⟨r1, r2, _⟩ =>
    have r1 : R0 w S (.v (.int .i64 (F.whi v))) a := r1
    have r2 : R0 w S (.v (.int .u64 (F.wlo v))) b := r2
    cases r1
    cases r2
    rfl

theorem below_ret {P : Program} {f : FuncId} {cargs : Array Value} {w : World} {S : Nat → Prop} {rv : Value} {r : AV} (hlt : ∀ b, S b → b < w.heap.size) (hr : ∀ w S, RV w S noKeys r rv)
    (h : Calls P f cargs w fun e w' => e = .returned rv ∧ Below w.heap.size w w') :
    Calls P f cargs w fun e w' => ∃ v S' β', e = .returned v ∧ Below w.heap.size w w' ∧ (∀ b, S b → S' b) ∧ (∀ b, S' b → S b ∨ w.heap.size ≤ b) ∧
      (∀ b, S' b → b < w'.heap.size) ∧ (∀ k k' x x', β' k = some x → β' k' = some x' → x.real = true → x'.real = true → x.b = x'.b → k = k') ∧
      (∀ k x, β' k = some x → x.real = true → w.heap.size ≤ x.b ∧ x.b < w'.heap.size ∧ ¬ S' x.b) ∧
      (∀ k x, β' k = some x → ∃ bl, mget ([] : Heap) k = some bl ∧ bl.box = false ∧ (x.real = true → BlkOK w' S' noKeys bl x) ∧ (x.real = false → bl.rows = [])) ∧
      (∀ k bl, mget ([] : Heap) k = some bl → ∃ x, β' k = some x) ∧ RV w' S' β' r v := by
  refine h.mono ?_
  rintro e w' ⟨rfl, hb⟩
  exact ⟨rv, S, noKeys, rfl, hb, fun _ h => h, fun _ h => .inl h, fun b h => Nat.lt_of_lt_of_le (hlt b h) hb.size, (fun _ _ _ _ h => by cases h), (fun _ _ h => by cases h), (fun _ _ h => by cases h), (fun _ _ h => by cases h), hr _ _⟩

theorem mul_wOk {a b : Int} (ha : F.i64B a = true) (hb : F.i64B b = true) : F.wOk (a * b) = true := by
  simp only [F.i64B, Bool.and_eq_true, decide_eq_true_eq] at ha hb
  have h1 : a.natAbs ≤ 9223372036854775808 := by omega
  have h2 : b.natAbs ≤ 9223372036854775808 := by omega
  have h3 : a.natAbs * b.natAbs ≤ 9223372036854775808 * 9223372036854775808 := Nat.mul_le_mul h1 h2
  rw [← Int.natAbs_mul] at h3
  simp only [F.wOk, Bool.and_eq_true, decide_eq_true_eq]
  omega

def encTim1 (a : Int) (b : Int) : List AV := [vI a, vI b]

def encTim (a : Int × Int) : List AV := encTim1 a.1 a.2

theorem encTim_inj (a a' : Int × Int) (h : encTim a = encTim a') : a = a' := by
  simp only [encTim, encTim1] at h
  try simp [eW_inj] at h
  grind

theorem unTim (a : Int) (b : Int) : unenc encTim ([(vI a), (vI b)]) = some (a, b) := unenc_of encTim_inj (a, b) rfl

def resTim1 (a : Int) (b : Int) : AV × Heap := (eW (a * b), [])

def preTim1 (a : Int) (b : Int) : Bool := F.i64B a && F.i64B b

noncomputable def oTim : Orc := orc 49 true encTim (fun a => preTim1 a.1 a.2) fun a => resTim1 a.1 a.2

theorem okTim : OrcOK Tryz.prog noG oTim := by
  refine orc_ok ⟨Tryz.f49, by kernel_rfl, by kernel_rfl, by kernel_rfl⟩ (fun x hp _ => ?_) (fun _ _ => ⟨rfl, rfl⟩)
  obtain ⟨a, b⟩ := x
  simp only [preTim1, Bool.and_eq_true] at hp
  have hw := mul_wOk hp.1 hp.2
  obtain ⟨h1, h2⟩ := hp
  simp only [F.i64B, Bool.and_eq_true, decide_eq_true_eq] at h1 h2
  exact SpecP.below2 (wOk_rv hw) fun _ _ w S hG => times_walk a b h1.1 h1.2 h2.1 h2.2 w

def encPls1 (x : Int) (y : Int) : List AV := [eW x, eW y]

def encPls (a : Int × Int) : List AV := encPls1 a.1 a.2

theorem encPls_inj (a a' : Int × Int) (h : encPls a = encPls a') : a = a' := by
  simp only [encPls, encPls1] at h
  try simp [eW_inj] at h
  grind

theorem unPls (x : Int) (y : Int) : unenc encPls ([AV.agg [(vI (F.whi x)), AV.v (Value.int IntKind.u64 (F.wlo x))], AV.agg [(vI (F.whi y)), AV.v (Value.int IntKind.u64 (F.wlo y))]]) = some (x, y) := unenc_of encPls_inj (x, y) rfl

def resPls1 (x : Int) (y : Int) : AV × Heap := (eW (x + y), [])

def prePls1 (x : Int) (y : Int) : Bool := F.wOkS x && F.wOkS y

noncomputable def oPls : Orc := orc 50 true encPls (fun a => prePls1 a.1 a.2) fun a => resPls1 a.1 a.2

theorem okPls : OrcOK Tryz.prog noG oPls := by
  refine orc_ok ⟨Tryz.f50, by kernel_rfl, by kernel_rfl, by kernel_rfl⟩ (fun x hp _ => ?_) (fun _ _ => ⟨rfl, rfl⟩)
  obtain ⟨x, y⟩ := x
  simp only [prePls1, Bool.and_eq_true] at hp
  obtain ⟨h1, h2⟩ := hp
  simp only [F.wOkS, Bool.and_eq_true, decide_eq_true_eq] at h1 h2
  have h3 : F.wOk (x + y) = true := by
    simp only [F.wOk, Bool.and_eq_true, decide_eq_true_eq]
    omega
  have hw := wOk_rv h3
  intro w S cargs hlt hg hargs
  match cargs, hargs with
  | [u, v], ⟨r1, r2, _⟩ =>
    have r1 := wV_rv r1
    have r2 := wV_rv r2
    subst r1 r2
    exact below_ret hlt hw (plus_walk x y h1.1 h1.2 h2.1 h2.2 w)

end M


end Go.Proofs.YtlemjphdhapfpaaGreatDoor
