/- What is proved here: days of months and years, of both (no statement of the seat). -/
import Derived.Test.YtgkjfochkhiojaaDoorE71
namespace Go.Proofs.YtgkjfochkhiojaaDoor
open Go Go.RowKit
set_option linter.unusedVariables false
set_option linter.unusedSimpArgs false

def F.leap (y : Int) : Bool := bif (bif (y.tmod 4 == 0) then !(y.tmod 100 == 0) else false) then true else y.tmod 400 == 0

def F.mdays (y m : Int) : Int := bif m == 2 then (bif F.leap y then 29 else 28) else bif m == 4 || m == 6 || m == 9 || m == 11 then 30 else 31

/-- Days from 1970 on to a year. -/
def F.ydays (y : Int) : Int := 365 * (y - 1970) + ((y - 1).tdiv 4 - 492) - ((y - 1).tdiv 100 - 19) + ((y - 1).tdiv 400 - 4)

namespace M


theorem evLep (y : Int) : (runF en0 false Tryd.f52 [vI y]).val =
  bif Int.tmod y (4 : Int) == (0 : Int) then bif !Int.tmod y (100 : Int) != (0 : Int) then some ((vB (Int.tmod y (400 : Int) == (0 : Int))), []) else some ((vB true), [])
  else some ((vB (Int.tmod y (400 : Int) == (0 : Int))), []) := (runFR_val).symm.trans (by kernel_rfl)

def encLep1 (y : Int) : List AV := [vI y]

def encLep (a : Int) : List AV := encLep1 a

theorem encLep_inj (a a' : Int) (h : encLep a = encLep a') : a = a' := by
  simp only [encLep, encLep1] at h
  try simp [strs_inj, ints_inj, ents_inj, eEnt_iff, eLst_iff, eSnds_inj, eStrms_inj] at h
  grind

theorem unLep (y : Int) : unenc encLep ([(vI y)]) = some (y) := unenc_of encLep_inj (y) rfl

def resLep1 (y : Int) : AV × Heap := (vB (F.leap y), [])

def preLep1 (y : Int) : Bool := decide (0 ≤ y) && decide (y ≤ 100000)

noncomputable def oLep : Orc := orc 52 true encLep (fun a => preLep1 a) fun a => resLep1 a

theorem okLep : OrcOK Tryd.prog noG oLep := by
  refine mk_ok Tryd.f52 (keep := false) (by kernel_rfl) (by kernel_rfl) en0_ok mixed (no_loops (by kernel_rfl)) (by first | exact fun _ _ => ⟨rfl, rfl⟩ | (intro h; cases h)) ?_
  rintro y hpre hok
  show (runF en0 false _ (encLep1 _)).val = some (resLep1 _)
  unfold encLep1 resLep1
  rw [evLep]
  have hpre : (decide (0 ≤ y) && decide (y ≤ 100000)) = true := hpre
  simp only [Bool.and_eq_true, decide_eq_true_eq] at hpre
  simp only [etaEnt, etaLst, etaSnd, etaStrm, etaMas, Option.bind_some, List.length_map, unStrs, unInts, unBools, unEnts, unItms, unTrns, cond_true, cond_false, Bool.and_true, Bool.true_and, F.leap, bne]
  cases y.tmod 4 == 0 <;> cases y.tmod 100 == 0 <;> rfl

def encRLep1 (y : Int) : List AV := [vI y]

def encRLep (a : Int) : List AV := encRLep1 a

theorem encRLep_inj (a a' : Int) (h : encRLep a = encRLep a') : a = a' := by
  simp only [encRLep, encRLep1] at h
  try simp [strs_inj, ints_inj, ents_inj, eEnt_iff, eLst_iff, eSnds_inj, eStrms_inj] at h
  grind

theorem unRLep (y : Int) : unenc encRLep ([(vI y)]) = some (y) := unenc_of encRLep_inj (y) rfl

def resRLep1 (y : Int) : AV × Heap := (vB (F.leap y), [])

def preRLep1 (y : Int) : Bool := decide (0 ≤ y) && decide (y ≤ 100000)

noncomputable def enMdy : Env := envH ty noG lks [oLep] [] [] []

theorem enMdy_ok : EnvOK Tryd.prog enMdy := by
  refine envH_ok lks_ok ty_ok ?_ ?_
  · simp only [List.forall_mem_cons]
    exact ⟨okLep, by simp⟩
  · simp

theorem evMdy (y : Int) (m : Int) : (runF enMdy false Tryd.f37 [vI y, vI m]).val =
  bif m == (2 : Int) then Option.bind (unenc encLep [(vI y)]) fun (z : Int) => bif decide ((0 : Int) ≤ z) && decide (z ≤ (100000 : Int)) then bif F.leap z then some ((vI (29
  : Int)), []) else some ((vI (28 : Int)), []) else none else bif m == (4 : Int) then bif m == (4 : Int) then some ((vI (30 : Int)), []) else some ((vI (31 : Int)), []) else
  bif m == (6 : Int) then bif m == (6 : Int) then some ((vI (30 : Int)), []) else some ((vI (31 : Int)), []) else bif m == (9 : Int) then bif m == (9 : Int) then some ((vI
  (30 : Int)), []) else some ((vI (31 : Int)), []) else bif m == (11 : Int) then some ((vI (30 : Int)), []) else some ((vI (31 : Int)), []) := (runFR_val).symm.trans (by kernel_rfl)

def encMdy1 (y : Int) (m : Int) : List AV := [vI y, vI m]

def encMdy (a : Int × Int) : List AV := encMdy1 a.1 a.2

theorem encMdy_inj (a a' : Int × Int) (h : encMdy a = encMdy a') : a = a' := by
  simp only [encMdy, encMdy1] at h
  try simp [strs_inj, ints_inj, ents_inj, eEnt_iff, eLst_iff, eSnds_inj, eStrms_inj] at h
  grind

theorem unMdy (y : Int) (m : Int) : unenc encMdy ([(vI y), (vI m)]) = some (y, m) := unenc_of encMdy_inj (y, m) rfl

def resMdy1 (y : Int) (m : Int) : AV × Heap := (vI (F.mdays y m), [])

def preMdy1 (y : Int) (m : Int) : Bool := decide (0 ≤ y) && decide (y ≤ 100000)

noncomputable def oMdy : Orc := orc 37 true encMdy (fun a => preMdy1 a.1 a.2) fun a => resMdy1 a.1 a.2

theorem okMdy : OrcOK Tryd.prog noG oMdy := by
  refine mk_ok Tryd.f37 (keep := false) (by kernel_rfl) (by kernel_rfl) enMdy_ok mixed (no_loops (by kernel_rfl)) (by first | exact fun _ _ => ⟨rfl, rfl⟩ | (intro h; cases h)) ?_
  rintro ⟨y, m⟩ hpre hok
  show (runF enMdy false _ (encMdy1 _ _)).val = some (resMdy1 _ _)
  unfold encMdy1 resMdy1
  rw [evMdy]
  have hpre : (decide (0 ≤ y) && decide (y ≤ 100000)) = true := hpre
  rw [Bool.and_eq_true] at hpre
  simp only [unLep, preLep1, etaEnt, etaLst, etaSnd, etaStrm, etaMas, Option.bind_some, List.length_map, unStrs, unInts, unBools, unEnts, unItms, unTrns, cond_true, cond_false, Bool.and_true, Bool.true_and, F.mdays, hpre.1, hpre.2]
  cases m == 2 <;> cases m == 4 <;> cases m == 6 <;> cases m == 9 <;> cases m == 11 <;> cases F.leap y <;> rfl

def encRDy1 (y : Int) (m : Int) : List AV := [vI y, vI m]

def encRDy (a : Int × Int) : List AV := encRDy1 a.1 a.2

theorem encRDy_inj (a a' : Int × Int) (h : encRDy a = encRDy a') : a = a' := by
  simp only [encRDy, encRDy1] at h
  try simp [strs_inj, ints_inj, ents_inj, eEnt_iff, eLst_iff, eSnds_inj, eStrms_inj] at h
  grind

theorem unRDy (y : Int) (m : Int) : unenc encRDy ([(vI y), (vI m)]) = some (y, m) := unenc_of encRDy_inj (y, m) rfl

def resRDy1 (y : Int) (m : Int) : AV × Heap := (vI (F.mdays y m), [])

def preRDy1 (y : Int) (m : Int) : Bool := decide (0 ≤ y) && decide (y ≤ 100000)

theorem evYdy (y : Int) : (runF en0 false Tryd.f36 [vI y]).val =
  some ((vI (IntKind.wrap IntKind.i64 (IntKind.wrap IntKind.i64 (IntKind.wrap IntKind.i64 (IntKind.wrap IntKind.i64 ((365 : Int) * IntKind.wrap IntKind.i64 (y - (1970 :
  Int))) + IntKind.wrap IntKind.i64 (IntKind.wrap IntKind.i64 (Int.tdiv (IntKind.wrap IntKind.i64 (y - (1 : Int))) (4 : Int)) - (492 : Int))) - IntKind.wrap IntKind.i64
  (IntKind.wrap IntKind.i64 (Int.tdiv (IntKind.wrap IntKind.i64 (y - (1 : Int))) (100 : Int)) - (19 : Int))) + IntKind.wrap IntKind.i64 (IntKind.wrap IntKind.i64 (Int.tdiv
  (IntKind.wrap IntKind.i64 (y - (1 : Int))) (400 : Int)) - (4 : Int))))), []) := (runFR_val).symm.trans (by kernel_rfl)

def encYdy1 (y : Int) : List AV := [vI y]

def encYdy (a : Int) : List AV := encYdy1 a

theorem encYdy_inj (a a' : Int) (h : encYdy a = encYdy a') : a = a' := by
  simp only [encYdy, encYdy1] at h
  try simp [strs_inj, ints_inj, ents_inj, eEnt_iff, eLst_iff, eSnds_inj, eStrms_inj] at h
  grind

theorem unYdy (y : Int) : unenc encYdy ([(vI y)]) = some (y) := unenc_of encYdy_inj (y) rfl

def resYdy1 (y : Int) : AV × Heap := (vI (F.ydays y), [])

def preYdy1 (y : Int) : Bool := decide (1970 ≤ y) && decide (y ≤ 9999)

noncomputable def oYdy : Orc := orc 36 true encYdy (fun a => preYdy1 a) fun a => resYdy1 a

theorem okYdy : OrcOK Tryd.prog noG oYdy := by
  refine mk_ok Tryd.f36 (keep := false) (by kernel_rfl) (by kernel_rfl) en0_ok mixed (no_loops (by kernel_rfl)) (by first | exact fun _ _ => ⟨rfl, rfl⟩ | (intro h; cases h)) ?_
  rintro y hpre hok
  show (runF en0 false _ (encYdy1 _)).val = some (resYdy1 _)
  unfold encYdy1 resYdy1
  rw [evYdy]
  have hpre : (decide (1970 ≤ y) && decide (y ≤ 9999)) = true := hpre
  simp only [Bool.and_eq_true, decide_eq_true_eq] at hpre
  have h1 : 0 ≤ (y - 1).tdiv 4 ∧ (y - 1).tdiv 4 ≤ 10000 := by rw [Int.tdiv_eq_ediv_of_nonneg (by omega)]; omega
  have h2 : 0 ≤ (y - 1).tdiv 100 ∧ (y - 1).tdiv 100 ≤ 10000 := by rw [Int.tdiv_eq_ediv_of_nonneg (by omega)]; omega
  have h3 : 0 ≤ (y - 1).tdiv 400 ∧ (y - 1).tdiv 400 ≤ 10000 := by rw [Int.tdiv_eq_ediv_of_nonneg (by omega)]; omega
  have w0 : IntKind.i64.wrap (y - 1) = y - 1 := wrap_id (by omega) (by omega)
  have w1 : IntKind.i64.wrap (y - 1970) = y - 1970 := wrap_id (by omega) (by omega)
  have w2 : IntKind.i64.wrap (365 * (y - 1970)) = 365 * (y - 1970) := wrap_id (by omega) (by omega)
  simp only [etaEnt, etaLst, etaSnd, etaStrm, etaMas, Option.bind_some, List.length_map, unStrs, unInts, unBools, unEnts, unItms, unTrns, cond_true, cond_false, Bool.and_true, Bool.true_and, w0, w1, w2, F.ydays]
  generalize (y - 1).tdiv 4 = a at *
  generalize (y - 1).tdiv 100 = b at *
  generalize (y - 1).tdiv 400 = c at *
  simp (disch := omega) only [wrap_id]

end M
end Go.Proofs.YtgkjfochkhiojaaDoor
