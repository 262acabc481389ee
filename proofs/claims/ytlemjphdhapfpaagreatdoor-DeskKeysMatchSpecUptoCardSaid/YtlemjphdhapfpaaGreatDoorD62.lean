/- What is proved here: whether a sum lies in a range, on plain data (no statement of the seat). -/
import Derived.Test.YtlemjphdhapfpaaGreatDoorD61
import Derived.Test.YtlemjphdhapfpaaGreatDoorM9
namespace Go.Proofs.YtlemjphdhapfpaaGreatDoor
open Go Go.RowKit
set_option linter.unusedVariables false
set_option linter.unusedSimpArgs false

/-- Which of two numbers is greater. -/
def F.cmp (a b : Int) : Int := bif decide (a < b) then -1 else bif decide (b < a) then 1 else 0

theorem F.cmp_w (x y : Int) : F.cmp x y = bif F.cmp (F.whi x) (F.whi y) != 0 then F.cmp (F.whi x) (F.whi y) else F.cmp (F.wlo x) (F.wlo y) := by
  have hx := F.w_split x
  have hy := F.w_split y
  have b1 : 0 ≤ F.wlo x ∧ F.wlo x < 18446744073709551616 := by unfold F.wlo; omega
  have b2 : 0 ≤ F.wlo y ∧ F.wlo y < 18446744073709551616 := by unfold F.wlo; omega
  generalize F.whi x = p at *
  generalize F.whi y = q at *
  generalize F.wlo x = a at *
  generalize F.wlo y = b at *
  unfold F.cmp
  by_cases h1 : p < q
  · rw [decide_eq_true h1, decide_eq_true (show x < y by omega)]; rfl
  · by_cases h2 : q < p
    · rw [decide_eq_false h1, decide_eq_true h2, decide_eq_false (show ¬ x < y by omega), decide_eq_true (show y < x by omega)]; rfl
    · have : p = q := by omega
      subst this
      rw [decide_eq_false h1]
      by_cases h3 : a < b
      · rw [decide_eq_true h3, decide_eq_true (show x < y by omega)]; rfl
      · by_cases h4 : b < a
        · rw [decide_eq_false h3, decide_eq_true h4, decide_eq_false (show ¬ x < y by omega), decide_eq_true (show y < x by omega)]; rfl
        · rw [decide_eq_false h3, decide_eq_false h4, decide_eq_false (show ¬ x < y by omega), decide_eq_false (show ¬ y < x by omega)]; rfl

theorem F.cmp_ge (x y : Int) : decide ((0 : Int) ≤ F.cmp x y) = decide (y ≤ x) := by
  unfold F.cmp
  by_cases h1 : x < y
  · rw [decide_eq_true h1, decide_eq_false (show ¬ y ≤ x by omega)]; rfl
  · rw [decide_eq_false h1, decide_eq_true (show y ≤ x by omega)]
    cases decide (y < x) <;> rfl

theorem F.cmp_le (x y : Int) : decide (F.cmp x y ≤ (0 : Int)) = decide (x ≤ y) := by
  unfold F.cmp
  by_cases h1 : y < x
  · rw [decide_eq_false (show ¬ x < y by omega), decide_eq_true h1, decide_eq_false (show ¬ x ≤ y by omega)]; rfl
  · rw [decide_eq_false h1, decide_eq_true (show x ≤ y by omega)]
    cases decide (x < y) <;> rfl

def F.isSum (a b l h : Int) : Bool := decide (l ≤ a + b) && decide (a + b ≤ h)

set_option maxHeartbeats 4000000 in
set_option maxRecDepth 100000 in
theorem div0_walk (l d : Nat) (hd : 0 < d) (hl : l < 18446744073709551616) (w : World) :
    Calls Tryz.prog 54 #[.int .u64 0, .int .u64 (l : Int), .int .u64 (d : Int)] w fun e w' => e = .returned (.tuple #[.int .u64 ((l / d : Nat) : Int), .int .u64 ((l % d : Nat) : Int)]) ∧ Below w.heap.size w w' := by
  have h1 : ¬ (d : Int) = 0 := by omega
  have h2 : ¬ (d : Int) ≤ 0 := by omega
  have h3 : (0 : Int) < (d : Int) := by omega
  go_enter Tryz.func54, Tryz.ntmps54
  go_wp2
  go_region
  all_goals (go_wp2; go_ret2; refine ⟨?_, Below.drew (Below.refl _ _)⟩)
  all_goals
    have e1 : IntKind.u64.wrap ((l : Int) / (d : Int)) = ((l / d : Nat) : Int) := by
      have := Nat.div_le_self l d
      rw [IntKind.wrap_u64, ← Int.natCast_ediv]
      generalize l / d = q at *
      omega
    show Ending.returned (Value.tuple #[.int .u64 (IntKind.u64.wrap ((l : Int) / (d : Int))), .int .u64 ((l : Int) % (d : Int))]) = _
    rw [e1]
    rfl

namespace M

theorem evNaI (a : Int) : (runF en0 false Tryz.f108 [vI a]).val =
  some ((vB (a != a)), []) := (runFR_val).symm.trans (by kernel_rfl)

def encNaI1 (a : Int) : List AV := [vI a]

def encNaI (a : Int) : List AV := encNaI1 a

theorem encNaI_inj (a a' : Int) (h : encNaI a = encNaI a') : a = a' := by
  simp only [encNaI, encNaI1] at h
  try simp [eW_inj] at h
  grind

theorem unNaI (a : Int) : unenc encNaI ([(vI a)]) = some (a) := unenc_of encNaI_inj (a) rfl

def resNaI1 (a : Int) : AV × Heap := (vB false, [])

def preNaI1 (a : Int) : Bool := true

noncomputable def oNaI : Orc := orc 108 true encNaI (fun a => preNaI1 a) fun a => resNaI1 a

theorem okNaI : OrcOK Tryz.prog noG oNaI := by
  refine mk_ok Tryz.f108 (keep := false) (by kernel_rfl) (by kernel_rfl) en0_ok mixed (no_loops (by kernel_rfl)) (by first | exact fun _ _ => ⟨rfl, rfl⟩ | (intro h; cases h)) ?_
  rintro a hpre hok
  show (runF en0 false _ (encNaI1 _)).val = some (resNaI1 _)
  unfold encNaI1 resNaI1
  rw [evNaI]
  rw [bne_self_eq_false]

theorem evNaU (a : Int) : (runF en0 false Tryz.f109 [.v (.int .u64 a)]).val =
  some ((vB (a != a)), []) := (runFR_val).symm.trans (by kernel_rfl)

def encNaU1 (a : Int) : List AV := [.v (.int .u64 a)]

def encNaU (a : Int) : List AV := encNaU1 a

theorem encNaU_inj (a a' : Int) (h : encNaU a = encNaU a') : a = a' := by
  simp only [encNaU, encNaU1] at h
  try simp [eW_inj] at h
  grind

theorem unNaU (a : Int) : unenc encNaU ([AV.v (Value.int IntKind.u64 a)]) = some (a) := unenc_of encNaU_inj (a) rfl

def resNaU1 (a : Int) : AV × Heap := (vB false, [])

def preNaU1 (a : Int) : Bool := true

noncomputable def oNaU : Orc := orc 109 true encNaU (fun a => preNaU1 a) fun a => resNaU1 a

theorem okNaU : OrcOK Tryz.prog noG oNaU := by
  refine mk_ok Tryz.f109 (keep := false) (by kernel_rfl) (by kernel_rfl) en0_ok mixed (no_loops (by kernel_rfl)) (by first | exact fun _ _ => ⟨rfl, rfl⟩ | (intro h; cases h)) ?_
  rintro a hpre hok
  show (runF en0 false _ (encNaU1 _)).val = some (resNaU1 _)
  unfold encNaU1 resNaU1
  rw [evNaU]
  rw [bne_self_eq_false]

noncomputable def enCmI : Env := envH ty noG lks [oNaI] [] [] []

theorem enCmI_ok : EnvOK Tryz.prog enCmI := by
  refine envH_ok lks_ok ty_ok ?_ ?_
  · simp only [List.forall_mem_cons]
    exact ⟨okNaI, by simp⟩
  · simp

theorem evCmI (a : Int) (b : Int) : (runF enCmI false Tryz.f87 [vI a, vI b]).val =
  Option.bind (unenc encNaI [(vI a)]) fun (z : Int) => Option.bind (unenc encNaI [(vI b)]) fun (z : Int) => bif decide (a < b) then some ((vI (-1 : Int)), []) else bif
  decide (b < a) then some ((vI (1 : Int)), []) else some ((vI (0 : Int)), []) := (runFR_val).symm.trans (by kernel_rfl)

def encCmI1 (a : Int) (b : Int) : List AV := [vI a, vI b]

def encCmI (a : Int × Int) : List AV := encCmI1 a.1 a.2

theorem encCmI_inj (a a' : Int × Int) (h : encCmI a = encCmI a') : a = a' := by
  simp only [encCmI, encCmI1] at h
  try simp [eW_inj] at h
  grind

theorem unCmI (a : Int) (b : Int) : unenc encCmI ([(vI a), (vI b)]) = some (a, b) := unenc_of encCmI_inj (a, b) rfl

def resCmI1 (a : Int) (b : Int) : AV × Heap := (vI (F.cmp a b), [])

def preCmI1 (a : Int) (b : Int) : Bool := true

noncomputable def oCmI : Orc := orc 87 true encCmI (fun a => preCmI1 a.1 a.2) fun a => resCmI1 a.1 a.2

theorem okCmI : OrcOK Tryz.prog noG oCmI := by
  refine mk_ok Tryz.f87 (keep := false) (by kernel_rfl) (by kernel_rfl) enCmI_ok mixed (no_loops (by kernel_rfl)) (by first | exact fun _ _ => ⟨rfl, rfl⟩ | (intro h; cases h)) ?_
  rintro ⟨a, b⟩ hpre hok
  show (runF enCmI false _ (encCmI1 _ _)).val = some (resCmI1 _ _)
  unfold encCmI1 resCmI1
  rw [evCmI]
  simp only [unNaI, preNaI1, etaEnt, etaLst, etaSeg, etaRot, etaBeat, etaSpan, etaHole, Option.bind_some, List.length_map, unStrs, unInts, unBools, unU8s, unEnts, unLsts, unSegs, unRots, unBeats, unSpans, unHoles, F.lt, F.le, cond_true, cond_false, Bool.and_true, Bool.true_and, F.cmp]
  cases decide (a < b) <;> cases decide (b < a) <;> rfl

noncomputable def enCmU : Env := envH ty noG lks [oNaU] [] [] []

theorem enCmU_ok : EnvOK Tryz.prog enCmU := by
  refine envH_ok lks_ok ty_ok ?_ ?_
  · simp only [List.forall_mem_cons]
    exact ⟨okNaU, by simp⟩
  · simp

theorem evCmU (a : Int) (b : Int) : (runF enCmU false Tryz.f88 [.v (.int .u64 a), .v (.int .u64 b)]).val =
  Option.bind (unenc encNaU [AV.v (Value.int IntKind.u64 a)]) fun (z : Int) => Option.bind (unenc encNaU [AV.v (Value.int IntKind.u64 b)]) fun (z : Int) => bif decide (a <
  b) then some ((vI (-1 : Int)), []) else bif decide (b < a) then some ((vI (1 : Int)), []) else some ((vI (0 : Int)), []) := (runFR_val).symm.trans (by kernel_rfl)

def encCmU1 (a : Int) (b : Int) : List AV := [.v (.int .u64 a), .v (.int .u64 b)]

def encCmU (a : Int × Int) : List AV := encCmU1 a.1 a.2

theorem encCmU_inj (a a' : Int × Int) (h : encCmU a = encCmU a') : a = a' := by
  simp only [encCmU, encCmU1] at h
  try simp [eW_inj] at h
  grind

theorem unCmU (a : Int) (b : Int) : unenc encCmU ([AV.v (Value.int IntKind.u64 a), AV.v (Value.int IntKind.u64 b)]) = some (a, b) := unenc_of encCmU_inj (a, b) rfl

def resCmU1 (a : Int) (b : Int) : AV × Heap := (vI (F.cmp a b), [])

def preCmU1 (a : Int) (b : Int) : Bool := true

noncomputable def oCmU : Orc := orc 88 true encCmU (fun a => preCmU1 a.1 a.2) fun a => resCmU1 a.1 a.2

theorem okCmU : OrcOK Tryz.prog noG oCmU := by
  refine mk_ok Tryz.f88 (keep := false) (by kernel_rfl) (by kernel_rfl) enCmU_ok mixed (no_loops (by kernel_rfl)) (by first | exact fun _ _ => ⟨rfl, rfl⟩ | (intro h; cases h)) ?_
  rintro ⟨a, b⟩ hpre hok
  show (runF enCmU false _ (encCmU1 _ _)).val = some (resCmU1 _ _)
  unfold encCmU1 resCmU1
  rw [evCmU]
  simp only [unNaU, preNaU1, etaEnt, etaLst, etaSeg, etaRot, etaBeat, etaSpan, etaHole, Option.bind_some, List.length_map, unStrs, unInts, unBools, unU8s, unEnts, unLsts, unSegs, unRots, unBeats, unSpans, unHoles, F.lt, F.le, cond_true, cond_false, Bool.and_true, Bool.true_and, F.cmp]
  cases decide (a < b) <;> cases decide (b < a) <;> rfl

noncomputable def enCmp : Env := envH ty noG lks [oCmI, oCmU] [] [] []

theorem enCmp_ok : EnvOK Tryz.prog enCmp := by
  refine envH_ok lks_ok ty_ok ?_ ?_
  · simp only [List.forall_mem_cons]
    exact ⟨okCmI, okCmU, by simp⟩
  · simp

theorem evCmp (x : Int) (y : Int) : (runF enCmp false Tryz.f51 [eW x, eW y]).val =
  Option.bind (unenc encCmI [(vI (F.whi x)), (vI (F.whi y))]) fun (z : Int × Int) => bif F.cmp z.fst z.snd != (0 : Int) then some ((vI (F.cmp z.fst z.snd)), []) else
  Option.bind (unenc encCmU [AV.v (Value.int IntKind.u64 (F.wlo x)), AV.v (Value.int IntKind.u64 (F.wlo y))]) fun (z : Int × Int) => some ((vI (F.cmp z.fst z.snd)), []) := (runFR_val).symm.trans (by kernel_rfl)

def encCmp1 (x : Int) (y : Int) : List AV := [eW x, eW y]

def encCmp (a : Int × Int) : List AV := encCmp1 a.1 a.2

theorem encCmp_inj (a a' : Int × Int) (h : encCmp a = encCmp a') : a = a' := by
  simp only [encCmp, encCmp1] at h
  try simp [eW_inj] at h
  grind

theorem unCmp (x : Int) (y : Int) : unenc encCmp ([AV.agg [(vI (F.whi x)), AV.v (Value.int IntKind.u64 (F.wlo x))], AV.agg [(vI (F.whi y)), AV.v (Value.int IntKind.u64 (F.wlo y))]]) = some (x, y) := unenc_of encCmp_inj (x, y) rfl

def resCmp1 (x : Int) (y : Int) : AV × Heap := (vI (F.cmp x y), [])

def preCmp1 (x : Int) (y : Int) : Bool := true

noncomputable def oCmp : Orc := orc 51 true encCmp (fun a => preCmp1 a.1 a.2) fun a => resCmp1 a.1 a.2

theorem okCmp : OrcOK Tryz.prog noG oCmp := by
  refine mk_ok Tryz.f51 (keep := false) (by kernel_rfl) (by kernel_rfl) enCmp_ok mixed (no_loops (by kernel_rfl)) (by first | exact fun _ _ => ⟨rfl, rfl⟩ | (intro h; cases h)) ?_
  rintro ⟨x, y⟩ hpre hok
  show (runF enCmp false _ (encCmp1 _ _)).val = some (resCmp1 _ _)
  unfold encCmp1 resCmp1
  rw [evCmp]
  rw [F.cmp_w x y]
  simp only [unCmI, unCmU, preCmI1, preCmU1, etaEnt, etaLst, etaSeg, etaRot, etaBeat, etaSpan, etaHole, Option.bind_some, List.length_map, unStrs, unInts, unBools, unU8s, unEnts, unLsts, unSegs, unRots, unBeats, unSpans, unHoles, F.lt, F.le, cond_true, cond_false, Bool.and_true, Bool.true_and]
  cases F.cmp (F.whi x) (F.whi y) != 0 <;> rfl

theorem wOkS_i {a : Int} (h : F.i64B a = true) : F.wOkS a = true := by
  simp only [F.i64B, F.wOkS, Bool.and_eq_true, decide_eq_true_eq] at h ⊢
  omega

noncomputable def enIsS : Env := envH ty noG lks [oTim, oPls, oCmp] [] [] []

theorem enIsS_ok : EnvOK Tryz.prog enIsS := by
  refine envH_ok lks_ok ty_ok ?_ ?_
  · simp only [List.forall_mem_cons]
    exact ⟨okTim, okPls, okCmp, by simp⟩
  · simp

theorem evIsS (a : Int) (b : Int) (l : Int) (h : Int) : (runF enIsS false Tryz.f31 [vI a, vI b, vI l, vI h]).val =
  Option.bind (unenc encTim [(vI a), (vI (1 : Int))]) fun (z : Int × Int) => bif F.i64B z.fst && F.i64B z.snd then Option.bind (unenc encTim [(vI b), (vI (1 : Int))]) fun
  (z_1 : Int × Int) => bif F.i64B z_1.fst && F.i64B z_1.snd then Option.bind (unenc encPls [AV.agg [(vI (F.whi (z.fst * z.snd))), AV.v (Value.int IntKind.u64 (F.wlo (z.fst *
  z.snd)))], AV.agg [(vI (F.whi (z_1.fst * z_1.snd))), AV.v (Value.int IntKind.u64 (F.wlo (z_1.fst * z_1.snd)))]]) fun (z : Int × Int) => bif F.wOkS z.fst && F.wOkS z.snd
  then Option.bind (unenc encTim [(vI l), (vI (1 : Int))]) fun (z_2 : Int × Int) => bif F.i64B z_2.fst && F.i64B z_2.snd then Option.bind (unenc encCmp [AV.agg [(vI (F.whi
  (z.fst + z.snd))), AV.v (Value.int IntKind.u64 (F.wlo (z.fst + z.snd)))], AV.agg [(vI (F.whi (z_2.fst * z_2.snd))), AV.v (Value.int IntKind.u64 (F.wlo (z_2.fst *
  z_2.snd)))]]) fun (z_3 : Int × Int) => bif decide ((0 : Int) ≤ F.cmp z_3.fst z_3.snd) then Option.bind (unenc encTim [(vI h), (vI (1 : Int))]) fun (z_4 : Int × Int) => bif
  F.i64B z_4.fst && F.i64B z_4.snd then Option.bind (unenc encCmp [AV.agg [(vI (F.whi (z.fst + z.snd))), AV.v (Value.int IntKind.u64 (F.wlo (z.fst + z.snd)))], AV.agg [(vI
  (F.whi (z_4.fst * z_4.snd))), AV.v (Value.int IntKind.u64 (F.wlo (z_4.fst * z_4.snd)))]]) fun (z : Int × Int) => some ((vB (decide (F.cmp z.fst z.snd ≤ (0 : Int)))), [])
  else none else some ((vB false), []) else none else none else none else none := (runFR_val).symm.trans (by kernel_rfl)

def encIsS1 (a : Int) (b : Int) (l : Int) (h : Int) : List AV := [vI a, vI b, vI l, vI h]

def encIsS (a : Int × Int × Int × Int) : List AV := encIsS1 a.1 a.2.1 a.2.2.1 a.2.2.2

theorem encIsS_inj (a a' : Int × Int × Int × Int) (h : encIsS a = encIsS a') : a = a' := by
  simp only [encIsS, encIsS1] at h
  try simp [eW_inj] at h
  grind

theorem unIsS (a : Int) (b : Int) (l : Int) (h : Int) : unenc encIsS ([(vI a), (vI b), (vI l), (vI h)]) = some (a, b, l, h) := unenc_of encIsS_inj (a, b, l, h) rfl

def resIsS1 (a : Int) (b : Int) (l : Int) (h : Int) : AV × Heap := (vB (F.isSum a b l h), [])

def preIsS1 (a : Int) (b : Int) (l : Int) (h : Int) : Bool := F.i64B a && F.i64B b && F.i64B l && F.i64B h

noncomputable def oIsS : Orc := orc 31 true encIsS (fun a => preIsS1 a.1 a.2.1 a.2.2.1 a.2.2.2) fun a => resIsS1 a.1 a.2.1 a.2.2.1 a.2.2.2

theorem okIsS : OrcOK Tryz.prog noG oIsS := by
  refine mk_ok Tryz.f31 (keep := false) (by kernel_rfl) (by kernel_rfl) enIsS_ok mixed (no_loops (by kernel_rfl)) (by first | exact fun _ _ => ⟨rfl, rfl⟩ | (intro h; cases h)) ?_
  rintro ⟨a, b, l, h⟩ hpre hok
  show (runF enIsS false _ (encIsS1 _ _ _ _)).val = some (resIsS1 _ _ _ _)
  unfold encIsS1 resIsS1
  rw [evIsS]
  simp only [preIsS1, Bool.and_eq_true] at hpre
  obtain ⟨⟨⟨h1, h2⟩, h3⟩, h4⟩ := hpre
  have h5 : F.i64B 1 = true := by decide
  simp only [unTim, unPls, unCmp, preTim1, prePls1, preCmp1, etaEnt, etaLst, etaSeg, etaRot, etaBeat, etaSpan, etaHole, Option.bind_some, List.length_map, unStrs, unInts, unBools, unU8s, unEnts, unLsts, unSegs, unRots, unBeats, unSpans, unHoles, F.lt, F.le, cond_true, cond_false, Bool.and_true, Bool.true_and, h1, h2, h3, h4, h5, Int.mul_one, wOkS_i h1, wOkS_i h2, Bool.and_self, F.cmp_ge, F.cmp_le, F.isSum]
  cases decide (l ≤ a + b) <;> rfl

end M


end Go.Proofs.YtlemjphdhapfpaaGreatDoor
