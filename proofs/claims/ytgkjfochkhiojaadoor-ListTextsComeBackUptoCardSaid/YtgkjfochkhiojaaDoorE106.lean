/- What is proved here: products that are divided and rounded, on plain data (no statement of the seat). -/
import Derived.Test.YtgkjfochkhiojaaDoorE30
import Derived.Test.YtgkjfochkhiojaaDoorM8
import Derived.Test.YtgkjfochkhiojaaDoorM9
import Derived.Test.YtgkjfochkhiojaaDoorShelf
import Derived.Handy
import Derived.Shelf.Bits.Mul64
namespace Go.Proofs.YtgkjfochkhiojaaDoor
open Go Go.RowKit
set_option linter.unusedVariables false
set_option linter.unusedSimpArgs false

theorem size_walk (n : Int) (h0 : -9223372036854775808 ≤ n) (h1 : n ≤ 9223372036854775807) (w : World) :
    Calls Tryd.prog 54 #[.int .i64 n] w fun e w' => e = .returned (.int .u64 (n.natAbs : Int)) ∧ w' = w := by
  have e1 : n < 0 → IntKind.u64.wrap (-IntKind.u64.wrap n) = (n.natAbs : Int) := fun h => by rw [IntKind.wrap_u64, IntKind.wrap_u64]; omega
  have e2 : ¬ n < 0 → IntKind.u64.wrap n = (n.natAbs : Int) := fun h => by rw [IntKind.wrap_u64]; omega
  go_enter Tryd.func54, Tryd.ntmps54
  by_cases h : n < 0
  · go_wp2
    go_ret
    exact ⟨by simp [e1 h], rfl⟩
  · go_wp2
    go_ret
    exact ⟨by simp [e2 h], rfl⟩

def F.i64B (a : Int) : Bool := decide (-9223372036854775808 ≤ a) && decide (a ≤ 9223372036854775807)

namespace M

theorem below_ret {P : Program} {f : FuncId} {cargs : Array Value} {w : World} {S : Nat → Prop} {rv : Value} {r : AV} (hlt : ∀ b, S b → b < w.heap.size) (hr : ∀ w S, RV w S noKeys r rv)
    (h : Calls P f cargs w fun e w' => e = .returned rv ∧ Below w.heap.size w w') :
    Calls P f cargs w fun e w' => ∃ v S' β', e = .returned v ∧ Below w.heap.size w w' ∧ (∀ b, S b → S' b) ∧ (∀ b, S' b → S b ∨ w.heap.size ≤ b) ∧
      (∀ b, S' b → b < w'.heap.size) ∧ (∀ k k' x x', β' k = some x → β' k' = some x' → x.real = true → x'.real = true → x.b = x'.b → k = k') ∧
      (∀ k x, β' k = some x → x.real = true → w.heap.size ≤ x.b ∧ x.b < w'.heap.size ∧ ¬ S' x.b) ∧
      (∀ k x, β' k = some x → ∃ bl, mget ([] : Heap) k = some bl ∧ bl.box = false ∧ (x.real = true → BlkOK w' S' noKeys bl x) ∧ (x.real = false → bl.rows = [])) ∧
      (∀ k bl, mget ([] : Heap) k = some bl → ∃ x, β' k = some x) ∧ RV w' S' β' r v := by
  refine h.mono ?_
  rintro e w' ⟨rfl, hb⟩
  exact ⟨rv, S, noKeys, rfl, hb, fun _ h => h, fun _ h => .inl h, fun b h => Nat.lt_of_lt_of_le (hlt b h) hb.size, (fun _ _ _ _ h => by cases h), (fun _ _ h => by cases h), (fun _ _ h => by cases h), (fun _ _ h => by cases h), hr _ _⟩

end M

set_option maxHeartbeats 4000000 in
set_option maxRecDepth 100000 in
theorem div0_walk (l d : Nat) (hd : 0 < d) (hl : l < 18446744073709551616) (w : World) :
    Calls Tryd.prog 55 #[.int .u64 0, .int .u64 (l : Int), .int .u64 (d : Int)] w fun e w' => e = .returned (.tuple #[.int .u64 ((l / d : Nat) : Int), .int .u64 ((l % d : Nat) : Int)]) ∧ Below w.heap.size w w' := by
  have h1 : ¬ (d : Int) = 0 := by omega
  have h2 : ¬ (d : Int) ≤ 0 := by omega
  have h3 : (0 : Int) < (d : Int) := by omega
  go_enter Tryd.func55, Tryd.ntmps55
  go_wp2
  go_region
  all_goals (go_wp2; go_ret2; refine ⟨?_, Below.drew (Below.refl _ _)⟩)
  all_goals
    have e1 : IntKind.u64.wrap ((l : Int) / (d : Int)) = ((l / d : Nat) : Int) := by
      have := Nat.div_le_self l d
      rw [IntKind.wrap_u64, ← Int.natCast_ediv]
      generalize l / d = q at *
      omega
    show Ending.returned (Value.tuple #[.int .u64 (IntKind.u64.wrap ((l : Int) / (d : Int))), .int .u64 ((l : Int) % (d : Int))]) = _
    rw [e1]
    rfl

namespace F

def mhi (x y : Nat) : Nat := x * y / 18446744073709551616

def mlo (x y : Nat) : Nat := x * y % 18446744073709551616

def dqm (l d : Nat) : Nat := l / d

def drm (l d : Nat) : Nat := l % d

/-- Does the size of a quotient become greater by 1? -/
def rnd (way : Int) (neg : Bool) (r d : Int) : Bool := bif way == 1 then neg && decide (0 < r) else bif way == 3 then !neg && decide (0 < r) else decide (d - r ≤ r)

def sclQ (n m d : Int) : Nat := n.natAbs * m.natAbs / d.natAbs

def sclR (n m d : Int) : Nat := n.natAbs * m.natAbs % d.natAbs

def sclP (n m d way : Int) : Int := bif rnd way (decide (n < 0)) (sclR n m d) d then (sclQ n m d : Int) + 1 else (sclQ n m d : Int)

def sclS (n m d way : Int) : Int := bif decide (1152921504606846976 < sclP n m d way) then 1152921504606846976 else sclP n m d way

/-- A number times one by another, rounded. -/
def scl (n m d way : Int) : Int := bif decide (n < 0) then -(sclS n m d way) else sclS n m d way

theorem sclS_le (n m d way : Int) : 0 ≤ sclS n m d way ∧ sclS n m d way ≤ 1152921504606846976 := by
  have h0 : 0 ≤ sclP n m d way := by
    unfold sclP
    cases rnd way (decide (n < 0)) (sclR n m d) d
    · simp only [cond_false]; omega
    · simp only [cond_true]; omega
  unfold sclS
  by_cases h : 1152921504606846976 < sclP n m d way
  · rw [decide_eq_true h]; simp
  · rw [decide_eq_false h]; simp only [cond_false]; omega

end F

namespace M

theorem evRnd (way : Int) (neg : Bool) (r : Int) (d : Int) : (runF en0 false Tryd.f56 [vI way, vB neg, .v (.int .u64 r), .v (.int .u64 d)]).val =
  bif way == (1 : Int) then some ((vB (bif neg then decide ((0 : Int) < r) else false)), []) else bif way == (3 : Int) then some ((vB (bif !neg then decide ((0 : Int) < r)
  else false)), []) else some ((vB (decide (IntKind.wrap IntKind.u64 (d - r) ≤ r))), []) := (runFR_val).symm.trans (by kernel_rfl)

def encRnd1 (way : Int) (neg : Bool) (r : Int) (d : Int) : List AV := [vI way, vB neg, .v (.int .u64 r), .v (.int .u64 d)]

def encRnd (a : Int × Bool × Int × Int) : List AV := encRnd1 a.1 a.2.1 a.2.2.1 a.2.2.2

theorem encRnd_inj (a a' : Int × Bool × Int × Int) (h : encRnd a = encRnd a') : a = a' := by
  simp only [encRnd, encRnd1] at h
  try simp  at h
  grind

theorem unRnd (way : Int) (neg : Bool) (r : Int) (d : Int) : unenc encRnd ([(vI way), (vB neg), AV.v (Value.int IntKind.u64 r), AV.v (Value.int IntKind.u64 d)]) = some (way, neg, r, d) := unenc_of encRnd_inj (way, neg, r, d) rfl

def resRnd1 (way : Int) (neg : Bool) (r : Int) (d : Int) : AV × Heap := (vB (F.rnd way neg r d), [])

def preRnd1 (way : Int) (neg : Bool) (r : Int) (d : Int) : Bool := decide (0 ≤ r) && decide (r ≤ d) && decide (d ≤ 18446744073709551615)

noncomputable def oRnd : Orc := orc 56 true encRnd (fun a => preRnd1 a.1 a.2.1 a.2.2.1 a.2.2.2) fun a => resRnd1 a.1 a.2.1 a.2.2.1 a.2.2.2

theorem okRnd : OrcOK Tryd.prog noG oRnd := by
  refine mk_ok Tryd.f56 (keep := false) (by kernel_rfl) (by kernel_rfl) en0_ok mixed (no_loops (by kernel_rfl)) (by first | exact fun _ _ => ⟨rfl, rfl⟩ | (intro h; cases h)) ?_
  rintro ⟨way, neg, r, d⟩ hpre hok
  show (runF en0 false _ (encRnd1 _ _ _ _)).val = some (resRnd1 _ _ _ _)
  unfold encRnd1 resRnd1
  rw [evRnd]
  simp only [preRnd1, Bool.and_eq_true, decide_eq_true_eq] at hpre
  obtain ⟨⟨h1, h2⟩, h3⟩ := hpre
  have w1 : IntKind.u64.wrap (d - r) = d - r := by rw [IntKind.wrap_u64]; omega
  simp only [etaEnt, etaLst, etaSnd, etaStrm, etaMas, Option.bind_some, List.length_map, unStrs, unInts, unBools, unEnts, unItms, unTrns, cond_true, cond_false, Bool.and_true, Bool.true_and, w1, F.rnd]
  cases way == 1
  · cases way == 3
    · rfl
    · cases neg <;> rfl
  · cases neg <;> rfl

def encSiz1 (n : Int) : List AV := [vI n]

def encSiz (a : Int) : List AV := encSiz1 a

theorem encSiz_inj (a a' : Int) (h : encSiz a = encSiz a') : a = a' := by
  simp only [encSiz, encSiz1] at h
  try simp  at h
  grind

theorem unSiz (n : Int) : unenc encSiz ([(vI n)]) = some (n) := unenc_of encSiz_inj (n) rfl

def resSiz1 (n : Int) : AV × Heap := (.v (.int .u64 (n.natAbs : Int)), [])

def preSiz1 (n : Int) : Bool := F.i64B n

noncomputable def oSiz : Orc := orc 54 true encSiz (fun a => preSiz1 a) fun a => resSiz1 a

theorem u64_ok {n : Nat} (h : n < 18446744073709551616) : okAtom (.int .u64 (n : Int)) := by
  show IntKind.u64.min ≤ _ ∧ _ ≤ IntKind.u64.max
  simp only [IntKind.min, IntKind.max, IntKind.signed, IntKind.bits]
  simp
  omega

theorem okSiz : OrcOK Tryd.prog noG oSiz := by
  refine orc_ok ⟨Tryd.f54, by kernel_rfl, by kernel_rfl, by kernel_rfl⟩ (fun n hp _ => ?_) (fun _ _ => ⟨rfl, rfl⟩)
  simp only [preSiz1, F.i64B, Bool.and_eq_true, decide_eq_true_eq] at hp
  refine SpecP.below1 (fun w S => rv_mk (u64_ok (by omega))) fun _ w S hG => ?_
  refine (size_walk n hp.1 hp.2 w).mono ?_
  rintro e w' ⟨he, rfl⟩
  exact ⟨he, Below.refl _ _⟩

def encMul1 (x : Nat) (y : Nat) : List AV := [.v (.int .u64 x), .v (.int .u64 y)]

def encMul (a : Nat × Nat) : List AV := encMul1 a.1 a.2

theorem encMul_inj (a a' : Nat × Nat) (h : encMul a = encMul a') : a = a' := by
  simp only [encMul, encMul1] at h
  try simp  at h
  grind

theorem unMul (x : Nat) (y : Nat) : unenc encMul ([AV.v (Value.int IntKind.u64 (↑x : Int)), AV.v (Value.int IntKind.u64 (↑y : Int))]) = some (x, y) := unenc_of encMul_inj (x, y) rfl

def resMul1 (x : Nat) (y : Nat) : AV × Heap := (.tup [.v (.int .u64 (F.mhi x y : Nat)), .v (.int .u64 (F.mlo x y : Nat))], [])

def preMul1 (x : Nat) (y : Nat) : Bool := decide (x < 18446744073709551616) && decide (y < 18446744073709551616)

noncomputable def oMul : Orc := orc 53 true encMul (fun a => preMul1 a.1 a.2) fun a => resMul1 a.1 a.2

theorem pair_rv {a b : Nat} (ha : a < 18446744073709551616) (hb : b < 18446744073709551616) (w : World) (S : Nat → Prop) : RV w S noKeys (.tup [.v (.int .u64 (a : Int)), .v (.int .u64 (b : Int))]) (.tuple #[.int .u64 (a : Int), .int .u64 (b : Int)]) :=
  ⟨[.int .u64 (a : Int), .int .u64 (b : Int)], rfl, R0.v (w := w) (S := S) (u64_ok ha), R0.v (w := w) (S := S) (u64_ok hb), trivial⟩

theorem okMul : OrcOK Tryd.prog noG oMul := by
  refine orc_ok ⟨Tryd.f53, by kernel_rfl, by kernel_rfl, by kernel_rfl⟩ (fun z hp _ => ?_) (fun _ _ => ⟨rfl, rfl⟩)
  obtain ⟨x, y⟩ := z
  simp only [preMul1, Bool.and_eq_true, decide_eq_true_eq] at hp
  have h1 : x * y ≤ 18446744073709551615 * 18446744073709551615 := Nat.mul_le_mul (by omega) (by omega)
  refine SpecP.below2 (pair_rv (by show x * y / 18446744073709551616 < _; generalize x * y = p at h1; omega) (by unfold F.mlo; omega)) fun _ _ w S hG => ?_
  refine (Tryd.bits_Mul64 x y hp.1 hp.2 w).mono ?_
  rintro e w' ⟨he, rfl⟩
  exact ⟨he, Below.refl _ _⟩

def encDv01 (l : Nat) (d : Nat) : List AV := [.v (.int .u64 0), .v (.int .u64 l), .v (.int .u64 d)]

def encDv0 (a : Nat × Nat) : List AV := encDv01 a.1 a.2

theorem encDv0_inj (a a' : Nat × Nat) (h : encDv0 a = encDv0 a') : a = a' := by
  simp only [encDv0, encDv01] at h
  try simp  at h
  grind

theorem unDv0 (l : Nat) (d : Nat) : unenc encDv0 ([AV.v (Value.int IntKind.u64 (0 : Int)), AV.v (Value.int IntKind.u64 (↑l : Int)), AV.v (Value.int IntKind.u64 (↑d : Int))]) = some (l, d) := unenc_of encDv0_inj (l, d) rfl

def resDv01 (l : Nat) (d : Nat) : AV × Heap := (.tup [.v (.int .u64 (F.dqm l d : Nat)), .v (.int .u64 (F.drm l d : Nat))], [])

def preDv01 (l : Nat) (d : Nat) : Bool := decide (0 < d) && decide (l < 18446744073709551616)

noncomputable def oDv0 : Orc := orc 55 true encDv0 (fun a => preDv01 a.1 a.2) fun a => resDv01 a.1 a.2

theorem okDv0 : OrcOK Tryd.prog noG oDv0 := by
  refine orc_ok ⟨Tryd.f55, by kernel_rfl, by kernel_rfl, by kernel_rfl⟩ (fun z hp _ => ?_) (fun _ _ => ⟨rfl, rfl⟩)
  obtain ⟨l, d⟩ := z
  simp only [preDv01, Bool.and_eq_true, decide_eq_true_eq] at hp
  have h1 := Nat.div_le_self l d
  have h2 := Nat.mod_le l d
  have hr := pair_rv (a := F.dqm l d) (b := F.drm l d) (by unfold F.dqm; omega) (by unfold F.drm; omega)
  intro w S cargs hlt hg hargs
  match cargs, hargs with
  | [u, v, t], ⟨r1, r2, r3, _⟩ =>
    obtain ⟨rfl, _⟩ := rv_v r1
    obtain ⟨rfl, _⟩ := rv_v r2
    obtain ⟨rfl, _⟩ := rv_v r3
    exact below_ret hlt hr (div0_walk l d hp.1 hp.2 w)

noncomputable def enScl : Env := envH ty noG lks [oSiz, oMul, oDv0, oRnd] [] [] []

theorem enScl_ok : EnvOK Tryd.prog enScl := by
  refine envH_ok lks_ok ty_ok ?_ ?_
  · simp only [List.forall_mem_cons]
    exact ⟨okSiz, okMul, okDv0, okRnd, by simp⟩
  · simp

theorem evScl (n : Int) (m : Int) (d : Int) (way : Int) : (runF enScl false Tryd.f42 [vI n, vI m, vI d, vI way]).val =
  Option.bind (unenc encSiz [(vI n)]) fun (z : Int) => bif F.i64B z then Option.bind (unenc encMul [AV.v (Value.int IntKind.u64 (↑(Int.natAbs z) : Int)), AV.v (Value.int
  IntKind.u64 (IntKind.wrap IntKind.u64 m))]) fun (z : Nat × Nat) => bif decide (z.fst < (18446744073709551616 : Nat)) && decide (z.snd < (18446744073709551616 : Nat)) then
  bif decide ((↑(F.mhi z.fst z.snd) : Int) < IntKind.wrap IntKind.u64 d) then Option.bind (unenc encDv0 [AV.v (Value.int IntKind.u64 (↑(F.mhi z.fst z.snd) : Int)), AV.v
  (Value.int IntKind.u64 (↑(F.mlo z.fst z.snd) : Int)), AV.v (Value.int IntKind.u64 (IntKind.wrap IntKind.u64 d))]) fun (z : Nat × Nat) => bif decide ((0 : Nat) < z.snd) &&
  decide (z.fst < (18446744073709551616 : Nat)) then Option.bind (unenc encRnd [(vI way), (vB (decide (n < (0 : Int)))), AV.v (Value.int IntKind.u64 (↑(F.drm z.fst z.snd) :
  Int)), AV.v (Value.int IntKind.u64 (IntKind.wrap IntKind.u64 d))]) fun (z_1 : Int × Bool × Int × Int) => bif decide ((0 : Int) ≤ z_1.snd.snd.fst) && decide
  (z_1.snd.snd.fst ≤ z_1.snd.snd.snd) && decide (z_1.snd.snd.snd ≤ (18446744073709551615 : Int)) then bif F.rnd z_1.fst z_1.snd.fst z_1.snd.snd.fst z_1.snd.snd.snd then bif
  decide ((1152921504606846976 : Int) < IntKind.wrap IntKind.u64 ((↑(F.dqm z.fst z.snd) : Int) + (1 : Int))) then bif decide (n < (0 : Int)) then some ((vI (IntKind.wrap
  IntKind.i64 ((0 : Int) - IntKind.wrap IntKind.i64 (1152921504606846976 : Int)))), []) else some ((vI (IntKind.wrap IntKind.i64 (1152921504606846976 : Int))), []) else bif
  decide (n < (0 : Int)) then some ((vI (IntKind.wrap IntKind.i64 ((0 : Int) - IntKind.wrap IntKind.i64 (IntKind.wrap IntKind.u64 ((↑(F.dqm z.fst z.snd) : Int) + (1 :
  Int)))))), []) else some ((vI (IntKind.wrap IntKind.i64 (IntKind.wrap IntKind.u64 ((↑(F.dqm z.fst z.snd) : Int) + (1 : Int))))), []) else bif decide ((1152921504606846976
  : Int) < (↑(F.dqm z.fst z.snd) : Int)) then bif decide (n < (0 : Int)) then some ((vI (IntKind.wrap IntKind.i64 ((0 : Int) - IntKind.wrap IntKind.i64 (1152921504606846976
  : Int)))), []) else some ((vI (IntKind.wrap IntKind.i64 (1152921504606846976 : Int))), []) else bif decide (n < (0 : Int)) then some ((vI (IntKind.wrap IntKind.i64 ((0 :
  Int) - IntKind.wrap IntKind.i64 (↑(F.dqm z.fst z.snd) : Int)))), []) else some ((vI (IntKind.wrap IntKind.i64 (↑(F.dqm z.fst z.snd) : Int))), []) else none else none else
  Option.bind (unenc encRnd [(vI way), (vB (decide (n < (0 : Int)))), AV.v (Value.int IntKind.u64 (0 : Int)), AV.v (Value.int IntKind.u64 (IntKind.wrap IntKind.u64 d))]) fun
  (z : Int × Bool × Int × Int) => bif decide ((0 : Int) ≤ z.snd.snd.fst) && decide (z.snd.snd.fst ≤ z.snd.snd.snd) && decide (z.snd.snd.snd ≤ (18446744073709551615 : Int))
  then bif F.rnd z.fst z.snd.fst z.snd.snd.fst z.snd.snd.snd then bif decide (n < (0 : Int)) then some ((vI (IntKind.wrap IntKind.i64 ((0 : Int) - IntKind.wrap IntKind.i64
  (1152921504606846976 : Int)))), []) else some ((vI (IntKind.wrap IntKind.i64 (1152921504606846976 : Int))), []) else bif decide (n < (0 : Int)) then some ((vI
  (IntKind.wrap IntKind.i64 ((0 : Int) - IntKind.wrap IntKind.i64 (1152921504606846976 : Int)))), []) else some ((vI (IntKind.wrap IntKind.i64 (1152921504606846976 : Int))),
  []) else none else none else none := (runFR_val).symm.trans (by kernel_rfl)

def encScl1 (n : Int) (m : Int) (d : Int) (way : Int) : List AV := [vI n, vI m, vI d, vI way]

def encScl (a : Int × Int × Int × Int) : List AV := encScl1 a.1 a.2.1 a.2.2.1 a.2.2.2

theorem encScl_inj (a a' : Int × Int × Int × Int) (h : encScl a = encScl a') : a = a' := by
  simp only [encScl, encScl1] at h
  try simp  at h
  grind

theorem unScl (n : Int) (m : Int) (d : Int) (way : Int) : unenc encScl ([(vI n), (vI m), (vI d), (vI way)]) = some (n, m, d, way) := unenc_of encScl_inj (n, m, d, way) rfl

def resScl1 (n : Int) (m : Int) (d : Int) (way : Int) : AV × Heap := (vI (F.scl n m d way), [])

def preScl1 (n : Int) (m : Int) (d : Int) (way : Int) : Bool := F.i64B n && decide (0 ≤ m) && decide (m ≤ 1000000) && decide (1 ≤ d) && decide (d ≤ 9223372036854775807) && decide (n.natAbs * m.natAbs < 9223372036854775808)

noncomputable def oScl : Orc := orc 42 true encScl (fun a => preScl1 a.1 a.2.1 a.2.2.1 a.2.2.2) fun a => resScl1 a.1 a.2.1 a.2.2.1 a.2.2.2

theorem okScl : OrcOK Tryd.prog noG oScl := by
  refine mk_ok Tryd.f42 (keep := false) (by kernel_rfl) (by kernel_rfl) enScl_ok mixed (no_loops (by kernel_rfl)) (by first | exact fun _ _ => ⟨rfl, rfl⟩ | (intro h; cases h)) ?_
  rintro ⟨n, m, d, way⟩ hpre hok
  show (runF enScl false _ (encScl1 _ _ _ _)).val = some (resScl1 _ _ _ _)
  unfold encScl1 resScl1
  rw [evScl]
  simp only [preScl1, Bool.and_eq_true, decide_eq_true_eq] at hpre
  obtain ⟨⟨⟨⟨⟨h1, h2⟩, h3⟩, h4⟩, h5⟩, h6⟩ := hpre
  have hn := h1
  simp only [F.i64B, Bool.and_eq_true, decide_eq_true_eq] at hn
  have w1 : IntKind.u64.wrap m = ((m.natAbs : Nat) : Int) := by rw [IntKind.wrap_u64]; omega
  have w2 : IntKind.u64.wrap d = ((d.natAbs : Nat) : Int) := by rw [IntKind.wrap_u64]; omega
  have w3 : ((F.mhi n.natAbs m.natAbs : Nat) : Int) = 0 := by unfold F.mhi; omega
  have w4 : F.mlo n.natAbs m.natAbs = n.natAbs * m.natAbs := by unfold F.mlo; omega
  have hd : ((d.natAbs : Nat) : Int) = d := by omega
  have hr : F.drm (n.natAbs * m.natAbs) d.natAbs < d.natAbs := Nat.mod_lt _ (by omega)
  have hq : F.dqm (n.natAbs * m.natAbs) d.natAbs ≤ n.natAbs * m.natAbs := Nat.div_le_self _ _
  simp only [unSiz, unMul, unDv0, unRnd, preSiz1, preMul1, preDv01, preRnd1, etaEnt, etaLst, etaSnd, etaStrm, etaMas, Option.bind_some, List.length_map, unStrs, unInts, unBools, unEnts, unItms, unTrns, cond_true, cond_false, Bool.and_true, Bool.true_and, h1, w1, w2, w3, w4]
  simp (disch := omega) only [decide_eq_true, Bool.and_self, cond_true]
  unfold F.scl F.sclS F.sclP
  rw [show F.sclQ n m d = F.dqm (n.natAbs * m.natAbs) d.natAbs from rfl, show F.sclR n m d = F.drm (n.natAbs * m.natAbs) d.natAbs from rfl, hd]
  generalize F.dqm (n.natAbs * m.natAbs) d.natAbs = q at *
  generalize F.drm (n.natAbs * m.natAbs) d.natAbs = r at *
  generalize n.natAbs * m.natAbs = p at *
  have u1 : IntKind.u64.wrap ((q : Int) + 1) = (q : Int) + 1 := by rw [IntKind.wrap_u64]; omega
  rw [u1]
  have key : ∀ x : Int, 0 ≤ x → x ≤ 1152921504606846976 → IntKind.i64.wrap x = x ∧ IntKind.i64.wrap (0 - x) = -x := fun x h1 h2 => by
    rw [IntKind.wrap_i64, IntKind.wrap_i64]; omega
  have kF := key 1152921504606846976 (by omega) (by omega)
  cases F.rnd way (decide (n < 0)) (r : Int) d
  · simp only [cond_false]
    by_cases hx : (1152921504606846976 : Int) < q
    · rw [decide_eq_true hx]
      cases decide (n < 0) <;> simp only [cond_true, cond_false, kF.1, kF.2]
    · rw [decide_eq_false hx]
      have k1 := key q (by omega) (by omega)
      cases decide (n < 0) <;> simp only [cond_true, cond_false, k1.1, k1.2]
  · simp only [cond_true]
    by_cases hx : (1152921504606846976 : Int) < q + 1
    · rw [decide_eq_true hx]
      cases decide (n < 0) <;> simp only [cond_true, cond_false, kF.1, kF.2]
    · rw [decide_eq_false hx]
      have k1 := key (q + 1) (by omega) (by omega)
      cases decide (n < 0) <;> simp only [cond_true, cond_false, k1.1, k1.2]

end M

end Go.Proofs.YtgkjfochkhiojaaDoor
