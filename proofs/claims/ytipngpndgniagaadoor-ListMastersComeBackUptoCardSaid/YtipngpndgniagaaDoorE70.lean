/- What is proved here: the law that lists of all renditions come back, on plain data (no statement of the seat). -/
import Derived.Test.YtipngpndgniagaaDoorE69
import Derived.Test.YtipngpndgniagaaDoorE38
import Derived.Test.YtipngpndgniagaaDoorE10
namespace Go.Proofs.YtipngpndgniagaaDoor
open Go Go.RowKit
set_option linter.unusedVariables false
set_option linter.unusedSimpArgs false

/-- Both lists are as long, and their elements go together. -/
def F.eqL {α : Type} (p : α → α → Bool) (xs ys : List α) : Bool := decide (xs.length = ys.length) && ((xs.zip ys).all fun q => p q.1 q.2)

theorem F.eqL_refl {α : Type} {p : α → α → Bool} (h : ∀ a, p a a = true) (xs : List α) : F.eqL p xs xs = true := by
  have : ∀ l : List α, ((l.zip l).all fun q => p q.1 q.2) = true := by
    intro l
    induction l with
    | nil => rfl
    | cons y l ih => simp only [List.zip_cons_cons, List.all_cons, h, Bool.true_and]; exact ih
  simp only [eqL, this, decide_true, Bool.and_self]

namespace M

theorem len_eq (n m : Nat) : ((n : Int) == (m : Int)) = decide (n = m) := by by_cases h : n = m <;> simp [h]; omega


def stEqSt (xs : List Strm) (ys : List Strm) (k : Nat) : St := ⟨[(13, vI k), (12, vI xs.length), (1, .sl (ys.map eStrm)), (0, .sl (xs.map eStrm))], []⟩

def stEqSt1 (a : (List Strm) × (List Strm) × Nat) : St := stEqSt a.1 a.2.1 a.2.2

theorem stEqSt_inj (a a' : (List Strm) × (List Strm) × Nat) (h : stEqSt1 a = stEqSt1 a') : a = a' := by
  simp only [stEqSt1, stEqSt] at h
  try simp [ints_inj, strs_inj, ents_inj, eEnt_iff, eLst_iff, eSnds_inj, eSnd_iff, eStrms_inj, eStrm_iff, eMas_iff] at h
  grind

theorem unstEqSt (xs : List Strm) (ys : List Strm) (k : Nat) : unenc stEqSt1 (St.mk [(13, (vI (↑k : Int))), (12, (vI (↑(List.length xs) : Int))), (1, AV.sl (List.map eStrm ys)), (0, AV.sl (List.map eStrm xs))] []) = some (xs, ys, k) := unenc_of stEqSt_inj (xs, ys, k) rfl

theorem unstEqSt0 (xs : List Strm) (ys : List Strm)  : unenc stEqSt1 (St.mk [(13, (vI (0 : Int))), (12, (vI (↑(List.length xs) : Int))), (1, AV.sl (List.map eStrm ys)), (0, AV.sl (List.map eStrm xs))] []) = some (xs, ys, 0) := unenc_of stEqSt_inj (xs, ys, 0) rfl

def outEqSt (xs : List Strm) (ys : List Strm) (k : Nat) : T (Ex × St) := .ifB (((xs.zip ys).drop k).all fun p => (eqStrm) p.1 p.2) (.ret (.exit 0, ⟨[], []⟩)) (.ret (.ret, ⟨[(4, vB false)], []⟩))

noncomputable def prlEqSt (xs : List Strm) (ys : List Strm) (k : Nat) : Bool := decide (xs.length ≤ 9223372036854775807) && decide (k ≤ xs.length) && decide (xs.length = ys.length)

noncomputable def lpEqSt : Nat × (St → T (Ex × St)) := (4, lpo [13, 12, 1, 0] [] stEqSt1 (fun a => prlEqSt a.1 a.2.1 a.2.2) fun a => outEqSt a.1 a.2.1 a.2.2)

noncomputable def enEqSt : Env := envH ty noG lksS [] [] [] [lpEqSt]

theorem enEqSt_ok : EnvOK Tryd.prog enEqSt := by
  refine envH_ok lksS_ok ty_ok ?_ ?_
  · simp
  · simp

theorem evEqStL (xs : List Strm) (ys : List Strm) (k : Nat) : ((exec enEqSt (loopN Tryd.f22 0) (stEqSt xs ys k)).bind (lessX ([13, 12, 1, 0], []) ([], []) ([4], []))).val =
  bif decide ((↑k : Int) < (↑(List.length xs) : Int)) then Option.bind (unenc (List.map eStrm) (List.map eStrm xs)) fun (z : List Strm) => bif decide (k < List.length z)
  then Option.bind (unenc (List.map eStrm) (List.map eStrm ys)) fun (z_1 : List Strm) => bif decide (k < List.length z_1) then bif !(ByteArray.toList (List.getD z k (Strm.mk
  (ByteArray.mk (Array.mk [])) (ByteArray.mk (Array.mk [])) (0 : Int) (0 : Int) (0 : Int) (0 : Int) (ByteArray.mk (Array.mk [])))).name == ByteArray.toList (List.getD z_1 k
  (Strm.mk (ByteArray.mk (Array.mk [])) (ByteArray.mk (Array.mk [])) (0 : Int) (0 : Int) (0 : Int) (0 : Int) (ByteArray.mk (Array.mk [])))).name && (ByteArray.toList
  (List.getD z k (Strm.mk (ByteArray.mk (Array.mk [])) (ByteArray.mk (Array.mk [])) (0 : Int) (0 : Int) (0 : Int) (0 : Int) (ByteArray.mk (Array.mk [])))).uri ==
  ByteArray.toList (List.getD z_1 k (Strm.mk (ByteArray.mk (Array.mk [])) (ByteArray.mk (Array.mk [])) (0 : Int) (0 : Int) (0 : Int) (0 : Int) (ByteArray.mk (Array.mk
  [])))).uri && ((List.getD z k (Strm.mk (ByteArray.mk (Array.mk [])) (ByteArray.mk (Array.mk [])) (0 : Int) (0 : Int) (0 : Int) (0 : Int) (ByteArray.mk (Array.mk
  [])))).mean == (List.getD z_1 k (Strm.mk (ByteArray.mk (Array.mk [])) (ByteArray.mk (Array.mk [])) (0 : Int) (0 : Int) (0 : Int) (0 : Int) (ByteArray.mk (Array.mk
  [])))).mean && ((List.getD z k (Strm.mk (ByteArray.mk (Array.mk [])) (ByteArray.mk (Array.mk [])) (0 : Int) (0 : Int) (0 : Int) (0 : Int) (ByteArray.mk (Array.mk
  [])))).peak == (List.getD z_1 k (Strm.mk (ByteArray.mk (Array.mk [])) (ByteArray.mk (Array.mk [])) (0 : Int) (0 : Int) (0 : Int) (0 : Int) (ByteArray.mk (Array.mk
  [])))).peak && ((List.getD z k (Strm.mk (ByteArray.mk (Array.mk [])) (ByteArray.mk (Array.mk [])) (0 : Int) (0 : Int) (0 : Int) (0 : Int) (ByteArray.mk (Array.mk
  [])))).width == (List.getD z_1 k (Strm.mk (ByteArray.mk (Array.mk [])) (ByteArray.mk (Array.mk [])) (0 : Int) (0 : Int) (0 : Int) (0 : Int) (ByteArray.mk (Array.mk
  [])))).width && ((List.getD z k (Strm.mk (ByteArray.mk (Array.mk [])) (ByteArray.mk (Array.mk [])) (0 : Int) (0 : Int) (0 : Int) (0 : Int) (ByteArray.mk (Array.mk
  [])))).height == (List.getD z_1 k (Strm.mk (ByteArray.mk (Array.mk [])) (ByteArray.mk (Array.mk [])) (0 : Int) (0 : Int) (0 : Int) (0 : Int) (ByteArray.mk (Array.mk
  [])))).height && (ByteArray.toList (List.getD z k (Strm.mk (ByteArray.mk (Array.mk [])) (ByteArray.mk (Array.mk [])) (0 : Int) (0 : Int) (0 : Int) (0 : Int) (ByteArray.mk
  (Array.mk [])))).sound == ByteArray.toList (List.getD z_1 k (Strm.mk (ByteArray.mk (Array.mk [])) (ByteArray.mk (Array.mk [])) (0 : Int) (0 : Int) (0 : Int) (0 : Int)
  (ByteArray.mk (Array.mk [])))).sound && true))))))) then some (Ex.ret, St.mk [(4, (vB false))] []) else some (Ex.normal, St.mk [(13, (vI (IntKind.wrap IntKind.i64 ((↑k :
  Int) + (1 : Int))))), (12, (vI (↑(List.length xs) : Int))), (1, AV.sl (List.map eStrm ys)), (0, AV.sl (List.map eStrm xs))] []) else none else none else some (Ex.exit (0 :
  Nat), St.mk [] []) := by kernel_rfl

theorem lpEqSt_ok (xs : List Strm) (ys : List Strm) (k : Nat) (hp : prlEqSt xs ys k = true) : ∀ ex s', (outEqSt xs ys k).val = some (ex, s') → LoopOK enEqSt (loopN Tryd.f22 0) (stEqSt xs ys k) ex s' := by
  simp only [prlEqSt, Bool.and_eq_true, decide_eq_true_eq] at hp
  obtain ⟨⟨h1, h2⟩, h3⟩ := hp
  have hz : (xs.zip ys).length = xs.length := by rw [List.length_zip]; omega
  refine loop_all (xs := xs.zip ys) (st := stEqSt xs ys) (p := fun p => (eqStrm) p.1 p.2) (n := ([13, 12, 1, 0], [])) (e := ([], [])) (r := ([4], [])) ?_ ⟨by simp, rfl⟩ ⟨by simp, rfl⟩ (fun _ => rfl) ?_ k (by omega)
  · rw [hz]; rw [evEqStL]; simp
  · intro k y hy
    rw [List.getElem?_zip_eq_some] at hy
    obtain ⟨ha, hb⟩ := hy
    have hlt := lt_at ha
    have hlt' := lt_at hb
    rw [evEqStL]
    simp only [unstEqSt, unstEqSt0, prlEqSt, outEqSt, etaEnt, etaLst, etaSnd, etaStrm, etaMas, Option.bind_some, List.length_map, unStrs, unInts, unBools, unEnts, unItms, unTrns, cond_true, cond_false, Bool.and_true, Bool.true_and, unSnds, unStrms, cast_lt hlt, decide_eq_true hlt, decide_eq_true hlt', next_at hlt h1, getD_at ha, getD_at hb, stEqSt, eqStrm, bne]
    first | (generalize (_ && _) = b0; cases b0 <;> rfl) | (generalize (_ == _) = b0; cases b0 <;> rfl)

theorem evEqSt (xs : List Strm) (ys : List Strm) : (runF enEqSt false Tryd.f22 [.sl (xs.map eStrm), .sl (ys.map eStrm)]).val =
  bif (↑(List.length (List.map eStrm xs)) : Int) != (↑(List.length (List.map eStrm ys)) : Int) then some ((vB false), []) else Option.bind (unenc stEqSt1 (St.mk [(13, (vI (0
  : Int))), (12, (vI (↑(List.length (List.map eStrm xs)) : Int))), (1, AV.sl (List.map eStrm ys)), (0, AV.sl (List.map eStrm xs))] [])) fun (z : List Strm × List Strm × Nat)
  => bif decide (List.length z.fst ≤ (9223372036854775807 : Nat)) && decide (z.snd.snd ≤ List.length z.fst) && decide (List.length z.fst = List.length z.snd.fst) && true
  then bif List.all (List.drop z.snd.snd (List.zip z.fst z.snd.fst)) fun (p : Strm × Strm) => eqStrm p.fst p.snd then some ((vB true), []) else some ((vB false), []) else
  none := by kernel_rfl

def encEqSt1 (xs : List Strm) (ys : List Strm) : List AV := [.sl (xs.map eStrm), .sl (ys.map eStrm)]

def encEqSt (a : (List Strm) × (List Strm)) : List AV := encEqSt1 a.1 a.2

theorem encEqSt_inj (a a' : (List Strm) × (List Strm)) (h : encEqSt a = encEqSt a') : a = a' := by
  simp only [encEqSt, encEqSt1] at h
  try simp [ints_inj, strs_inj, ents_inj, eEnt_iff, eLst_iff, eSnds_inj, eSnd_iff, eStrms_inj, eStrm_iff, eMas_iff] at h
  grind

theorem unEqSt (xs : List Strm) (ys : List Strm) : unenc encEqSt ([AV.sl (List.map eStrm xs), AV.sl (List.map eStrm ys)]) = some (xs, ys) := unenc_of encEqSt_inj (xs, ys) rfl

def resEqSt1 (xs : List Strm) (ys : List Strm) : AV × Heap := (vB (F.eqL (eqStrm) xs ys), [])

def preEqSt1 (xs : List Strm) (ys : List Strm) : Bool := true

noncomputable def oEqSt : Orc := orc 22 true encEqSt (fun a => preEqSt1 a.1 a.2) fun a => resEqSt1 a.1 a.2

theorem okEqSt : OrcOK Tryd.prog noG oEqSt := by
  refine mk_ok Tryd.f22 (keep := false) (by kernel_rfl) (by kernel_rfl) enEqSt_ok mixed (one_loop (x0 := loopN Tryd.f22 0) (by kernel_rfl) (lpo_ok ?_)) (by first | exact fun _ _ => ⟨rfl, rfl⟩ | (intro h; cases h)) ?_
  · rintro ⟨xs, ys, k⟩ hp
    exact lpEqSt_ok xs ys k hp
  rintro ⟨xs, ys⟩ hpre hok
  show (runF enEqSt false _ (encEqSt1 _ _)).val = some (resEqSt1 _ _)
  unfold encEqSt1 resEqSt1
  rw [evEqSt]
  have hx : xs.length ≤ 9223372036854775807 := by simpa using (okA_sl (hok _ (List.mem_cons_self ..))).1
  simp only [unstEqSt, unstEqSt0, prlEqSt, outEqSt, etaEnt, etaLst, etaSnd, etaStrm, etaMas, Option.bind_some, List.length_map, unStrs, unInts, unBools, unEnts, unItms, unTrns, cond_true, cond_false, Bool.and_true, Bool.true_and, unSnds, unStrms, hx, List.drop_zero, Nat.zero_le, decide_true, len_eq, bne, F.eqL]
  cases h : decide (xs.length = ys.length)
  · rfl
  · simp only [Bool.not_true, cond_false, cond_true, Bool.true_and]
    cases ((xs.zip ys).all fun p => (eqStrm) p.1 p.2) <;> rfl


def stEqSo (xs : List Snd) (ys : List Snd) (k : Nat) : St := ⟨[(13, vI k), (12, vI xs.length), (1, .sl (ys.map eSnd)), (0, .sl (xs.map eSnd))], []⟩

def stEqSo1 (a : (List Snd) × (List Snd) × Nat) : St := stEqSo a.1 a.2.1 a.2.2

theorem stEqSo_inj (a a' : (List Snd) × (List Snd) × Nat) (h : stEqSo1 a = stEqSo1 a') : a = a' := by
  simp only [stEqSo1, stEqSo] at h
  try simp [ints_inj, strs_inj, ents_inj, eEnt_iff, eLst_iff, eSnds_inj, eSnd_iff, eStrms_inj, eStrm_iff, eMas_iff] at h
  grind

theorem unstEqSo (xs : List Snd) (ys : List Snd) (k : Nat) : unenc stEqSo1 (St.mk [(13, (vI (↑k : Int))), (12, (vI (↑(List.length xs) : Int))), (1, AV.sl (List.map eSnd ys)), (0, AV.sl (List.map eSnd xs))] []) = some (xs, ys, k) := unenc_of stEqSo_inj (xs, ys, k) rfl

theorem unstEqSo0 (xs : List Snd) (ys : List Snd)  : unenc stEqSo1 (St.mk [(13, (vI (0 : Int))), (12, (vI (↑(List.length xs) : Int))), (1, AV.sl (List.map eSnd ys)), (0, AV.sl (List.map eSnd xs))] []) = some (xs, ys, 0) := unenc_of stEqSo_inj (xs, ys, 0) rfl

def outEqSo (xs : List Snd) (ys : List Snd) (k : Nat) : T (Ex × St) := .ifB (((xs.zip ys).drop k).all fun p => (eqSnd) p.1 p.2) (.ret (.exit 0, ⟨[], []⟩)) (.ret (.ret, ⟨[(4, vB false)], []⟩))

noncomputable def prlEqSo (xs : List Snd) (ys : List Snd) (k : Nat) : Bool := decide (xs.length ≤ 9223372036854775807) && decide (k ≤ xs.length) && decide (xs.length = ys.length)

noncomputable def lpEqSo : Nat × (St → T (Ex × St)) := (4, lpo [13, 12, 1, 0] [] stEqSo1 (fun a => prlEqSo a.1 a.2.1 a.2.2) fun a => outEqSo a.1 a.2.1 a.2.2)

noncomputable def enEqSo : Env := envH ty noG lksS [] [] [] [lpEqSo]

theorem enEqSo_ok : EnvOK Tryd.prog enEqSo := by
  refine envH_ok lksS_ok ty_ok ?_ ?_
  · simp
  · simp

theorem evEqSoL (xs : List Snd) (ys : List Snd) (k : Nat) : ((exec enEqSo (loopN Tryd.f23 0) (stEqSo xs ys k)).bind (lessX ([13, 12, 1, 0], []) ([], []) ([4], []))).val =
  bif decide ((↑k : Int) < (↑(List.length xs) : Int)) then Option.bind (unenc (List.map eSnd) (List.map eSnd xs)) fun (z : List Snd) => bif decide (k < List.length z) then
  Option.bind (unenc (List.map eSnd) (List.map eSnd ys)) fun (z_1 : List Snd) => bif decide (k < List.length z_1) then bif !(ByteArray.toList (List.getD z k (Snd.mk
  (ByteArray.mk (Array.mk [])) (ByteArray.mk (Array.mk [])) (ByteArray.mk (Array.mk [])) false (ByteArray.mk (Array.mk [])))).group == ByteArray.toList (List.getD z_1 k
  (Snd.mk (ByteArray.mk (Array.mk [])) (ByteArray.mk (Array.mk [])) (ByteArray.mk (Array.mk [])) false (ByteArray.mk (Array.mk [])))).group && (ByteArray.toList (List.getD z
  k (Snd.mk (ByteArray.mk (Array.mk [])) (ByteArray.mk (Array.mk [])) (ByteArray.mk (Array.mk [])) false (ByteArray.mk (Array.mk [])))).name == ByteArray.toList (List.getD
  z_1 k (Snd.mk (ByteArray.mk (Array.mk [])) (ByteArray.mk (Array.mk [])) (ByteArray.mk (Array.mk [])) false (ByteArray.mk (Array.mk [])))).name && (ByteArray.toList
  (List.getD z k (Snd.mk (ByteArray.mk (Array.mk [])) (ByteArray.mk (Array.mk [])) (ByteArray.mk (Array.mk [])) false (ByteArray.mk (Array.mk [])))).lang == ByteArray.toList
  (List.getD z_1 k (Snd.mk (ByteArray.mk (Array.mk [])) (ByteArray.mk (Array.mk [])) (ByteArray.mk (Array.mk [])) false (ByteArray.mk (Array.mk [])))).lang && ((List.getD z
  k (Snd.mk (ByteArray.mk (Array.mk [])) (ByteArray.mk (Array.mk [])) (ByteArray.mk (Array.mk [])) false (ByteArray.mk (Array.mk [])))).dflt == (List.getD z_1 k (Snd.mk
  (ByteArray.mk (Array.mk [])) (ByteArray.mk (Array.mk [])) (ByteArray.mk (Array.mk [])) false (ByteArray.mk (Array.mk [])))).dflt && (ByteArray.toList (List.getD z k
  (Snd.mk (ByteArray.mk (Array.mk [])) (ByteArray.mk (Array.mk [])) (ByteArray.mk (Array.mk [])) false (ByteArray.mk (Array.mk [])))).uri == ByteArray.toList (List.getD z_1
  k (Snd.mk (ByteArray.mk (Array.mk [])) (ByteArray.mk (Array.mk [])) (ByteArray.mk (Array.mk [])) false (ByteArray.mk (Array.mk [])))).uri && true))))) then some (Ex.ret,
  St.mk [(4, (vB false))] []) else some (Ex.normal, St.mk [(13, (vI (IntKind.wrap IntKind.i64 ((↑k : Int) + (1 : Int))))), (12, (vI (↑(List.length xs) : Int))), (1, AV.sl
  (List.map eSnd ys)), (0, AV.sl (List.map eSnd xs))] []) else none else none else some (Ex.exit (0 : Nat), St.mk [] []) := by kernel_rfl

theorem lpEqSo_ok (xs : List Snd) (ys : List Snd) (k : Nat) (hp : prlEqSo xs ys k = true) : ∀ ex s', (outEqSo xs ys k).val = some (ex, s') → LoopOK enEqSo (loopN Tryd.f23 0) (stEqSo xs ys k) ex s' := by
  simp only [prlEqSo, Bool.and_eq_true, decide_eq_true_eq] at hp
  obtain ⟨⟨h1, h2⟩, h3⟩ := hp
  have hz : (xs.zip ys).length = xs.length := by rw [List.length_zip]; omega
  refine loop_all (xs := xs.zip ys) (st := stEqSo xs ys) (p := fun p => (eqSnd) p.1 p.2) (n := ([13, 12, 1, 0], [])) (e := ([], [])) (r := ([4], [])) ?_ ⟨by simp, rfl⟩ ⟨by simp, rfl⟩ (fun _ => rfl) ?_ k (by omega)
  · rw [hz]; rw [evEqSoL]; simp
  · intro k y hy
    rw [List.getElem?_zip_eq_some] at hy
    obtain ⟨ha, hb⟩ := hy
    have hlt := lt_at ha
    have hlt' := lt_at hb
    rw [evEqSoL]
    simp only [unstEqSo, unstEqSo0, prlEqSo, outEqSo, etaEnt, etaLst, etaSnd, etaStrm, etaMas, Option.bind_some, List.length_map, unStrs, unInts, unBools, unEnts, unItms, unTrns, cond_true, cond_false, Bool.and_true, Bool.true_and, unSnds, unStrms, cast_lt hlt, decide_eq_true hlt, decide_eq_true hlt', next_at hlt h1, getD_at ha, getD_at hb, stEqSo, eqSnd, bne]
    first | (generalize (_ && _) = b0; cases b0 <;> rfl) | (generalize (_ == _) = b0; cases b0 <;> rfl)

theorem evEqSo (xs : List Snd) (ys : List Snd) : (runF enEqSo false Tryd.f23 [.sl (xs.map eSnd), .sl (ys.map eSnd)]).val =
  bif (↑(List.length (List.map eSnd xs)) : Int) != (↑(List.length (List.map eSnd ys)) : Int) then some ((vB false), []) else Option.bind (unenc stEqSo1 (St.mk [(13, (vI (0 :
  Int))), (12, (vI (↑(List.length (List.map eSnd xs)) : Int))), (1, AV.sl (List.map eSnd ys)), (0, AV.sl (List.map eSnd xs))] [])) fun (z : List Snd × List Snd × Nat) => bif
  decide (List.length z.fst ≤ (9223372036854775807 : Nat)) && decide (z.snd.snd ≤ List.length z.fst) && decide (List.length z.fst = List.length z.snd.fst) && true then bif
  List.all (List.drop z.snd.snd (List.zip z.fst z.snd.fst)) fun (p : Snd × Snd) => eqSnd p.fst p.snd then some ((vB true), []) else some ((vB false), []) else none := by kernel_rfl

def encEqSo1 (xs : List Snd) (ys : List Snd) : List AV := [.sl (xs.map eSnd), .sl (ys.map eSnd)]

def encEqSo (a : (List Snd) × (List Snd)) : List AV := encEqSo1 a.1 a.2

theorem encEqSo_inj (a a' : (List Snd) × (List Snd)) (h : encEqSo a = encEqSo a') : a = a' := by
  simp only [encEqSo, encEqSo1] at h
  try simp [ints_inj, strs_inj, ents_inj, eEnt_iff, eLst_iff, eSnds_inj, eSnd_iff, eStrms_inj, eStrm_iff, eMas_iff] at h
  grind

theorem unEqSo (xs : List Snd) (ys : List Snd) : unenc encEqSo ([AV.sl (List.map eSnd xs), AV.sl (List.map eSnd ys)]) = some (xs, ys) := unenc_of encEqSo_inj (xs, ys) rfl

def resEqSo1 (xs : List Snd) (ys : List Snd) : AV × Heap := (vB (F.eqL (eqSnd) xs ys), [])

def preEqSo1 (xs : List Snd) (ys : List Snd) : Bool := true

noncomputable def oEqSo : Orc := orc 23 true encEqSo (fun a => preEqSo1 a.1 a.2) fun a => resEqSo1 a.1 a.2

theorem okEqSo : OrcOK Tryd.prog noG oEqSo := by
  refine mk_ok Tryd.f23 (keep := false) (by kernel_rfl) (by kernel_rfl) enEqSo_ok mixed (one_loop (x0 := loopN Tryd.f23 0) (by kernel_rfl) (lpo_ok ?_)) (by first | exact fun _ _ => ⟨rfl, rfl⟩ | (intro h; cases h)) ?_
  · rintro ⟨xs, ys, k⟩ hp
    exact lpEqSo_ok xs ys k hp
  rintro ⟨xs, ys⟩ hpre hok
  show (runF enEqSo false _ (encEqSo1 _ _)).val = some (resEqSo1 _ _)
  unfold encEqSo1 resEqSo1
  rw [evEqSo]
  have hx : xs.length ≤ 9223372036854775807 := by simpa using (okA_sl (hok _ (List.mem_cons_self ..))).1
  simp only [unstEqSo, unstEqSo0, prlEqSo, outEqSo, etaEnt, etaLst, etaSnd, etaStrm, etaMas, Option.bind_some, List.length_map, unStrs, unInts, unBools, unEnts, unItms, unTrns, cond_true, cond_false, Bool.and_true, Bool.true_and, unSnds, unStrms, hx, List.drop_zero, Nat.zero_le, decide_true, len_eq, bne, F.eqL]
  cases h : decide (xs.length = ys.length)
  · rfl
  · simp only [Bool.not_true, cond_false, cond_true, Bool.true_and]
    cases ((xs.zip ys).all fun p => (eqSnd) p.1 p.2) <;> rfl


noncomputable def enSmr : Env := envH ty noG lksS [oEqSt, oEqSo] [] [] []

theorem enSmr_ok : EnvOK Tryd.prog enSmr := by
  refine envH_ok lksS_ok ty_ok ?_ ?_
  · simp only [List.forall_mem_cons]
    exact ⟨okEqSt, okEqSo, by simp⟩
  · simp

theorem evSmr (m : Mas) (n : Mas) : (runF enSmr false Tryd.f8 [.agg (eMas m), .agg (eMas n)]).val =
  Option.bind (unenc encEqSt [AV.sl (List.map eStrm m.streams), AV.sl (List.map eStrm n.streams)]) fun (z : List Strm × List Strm) => bif F.eqL eqStrm z.fst z.snd then
  Option.bind (unenc encEqSo [AV.sl (List.map eSnd m.sounds), AV.sl (List.map eSnd n.sounds)]) fun (z_1 : List Snd × List Snd) => some ((vB (bif F.eqL eqStrm z.fst z.snd
  then F.eqL eqSnd z_1.fst z_1.snd else false)), []) else some ((vB false), []) := by kernel_rfl

def encSmr1 (m : Mas) (n : Mas) : List AV := [.agg (eMas m), .agg (eMas n)]

def encSmr (a : Mas × Mas) : List AV := encSmr1 a.1 a.2

theorem encSmr_inj (a a' : Mas × Mas) (h : encSmr a = encSmr a') : a = a' := by
  simp only [encSmr, encSmr1] at h
  try simp [ints_inj, strs_inj, ents_inj, eEnt_iff, eLst_iff, eSnds_inj, eSnd_iff, eStrms_inj, eStrm_iff, eMas_iff] at h
  grind

theorem unSmr (m : Mas) (n : Mas) : unenc encSmr ([AV.agg [AV.sl (List.map eStrm m.streams), AV.sl (List.map eSnd m.sounds)], AV.agg [AV.sl (List.map eStrm n.streams), AV.sl (List.map eSnd n.sounds)]]) = some (m, n) := unenc_of encSmr_inj (m, n) rfl

theorem unSmrw (m_streams : List Strm) (m_sounds : List Snd) (n_streams : List Strm) (n_sounds : List Snd) : unenc encSmr ([AV.agg [AV.sl (List.map eStrm m_streams), AV.sl (List.map eSnd m_sounds)], AV.agg [AV.sl (List.map eStrm n_streams), AV.sl (List.map eSnd n_sounds)]]) = some ((Mas.mk m_streams m_sounds), (Mas.mk n_streams n_sounds)) := unenc_of encSmr_inj ((Mas.mk m_streams m_sounds), (Mas.mk n_streams n_sounds)) rfl

def resSmr1 (m : Mas) (n : Mas) : AV × Heap := (vB (F.eqL eqStrm m.streams n.streams && F.eqL eqSnd m.sounds n.sounds), [])

def preSmr1 (m : Mas) (n : Mas) : Bool := true

noncomputable def oSmr : Orc := orc 8 true encSmr (fun a => preSmr1 a.1 a.2) fun a => resSmr1 a.1 a.2

theorem okSmr : OrcOK Tryd.prog noG oSmr := by
  refine mk_ok Tryd.f8 (keep := false) (by kernel_rfl) (by kernel_rfl) enSmr_ok mixed (no_loops (by kernel_rfl)) (by first | exact fun _ _ => ⟨rfl, rfl⟩ | (intro h; cases h)) ?_
  rintro ⟨m, n⟩ hpre hok
  show (runF enSmr false _ (encSmr1 _ _)).val = some (resSmr1 _ _)
  unfold encSmr1 resSmr1
  rw [evSmr]
  simp only [unEqSt, unEqSo, preEqSt1, preEqSo1, etaEnt, etaLst, etaSnd, etaStrm, etaMas, Option.bind_some, List.length_map, unStrs, unInts, unBools, unEnts, unItms, unTrns, cond_true, cond_false, Bool.and_true, Bool.true_and, unSnds, unStrms]
  cases F.eqL eqStrm m.streams n.streams <;> rfl

noncomputable def enLCB : Env := envH ty noG lksS [oTxx, oRd, oSmr, oAwk] [] [] []

theorem enLCB_ok : EnvOK Tryd.prog enLCB := by
  refine envH_ok lksS_ok ty_ok ?_ ?_
  · simp only [List.forall_mem_cons]
    exact ⟨okTxx, okRd, okSmr, okAwk, by simp⟩
  · simp

theorem evLCB (m : Mas) (s : ByteArray) : (runF enLCB false Tryd.f3 [.agg (eMas m), vS s]).val =
  Option.bind (unenc encTxx [AV.agg [AV.sl (List.map eStrm m.streams), AV.sl (List.map eSnd m.sounds)]]) fun (z : Mas) => bif (F.mtext z).snd == (0 : Int) then Option.bind
  (unenc encRd [(vS (F.mtext z).fst)]) fun (z : ByteArray) => bif !bif (F.rdMas z).snd.snd != (0 : Int) then true else (F.rdMas z).snd.fst != (0 : Int) then Option.bind
  (unenc encSmr [AV.agg [AV.sl (List.map eStrm (F.rdMas z).fst.streams), AV.sl (List.map eSnd (F.rdMas z).fst.sounds)], AV.agg [AV.sl (List.map eStrm m.streams), AV.sl
  (List.map eSnd m.sounds)]]) fun (z_1 : Mas × Mas) => bif bif bif (F.rdMas z).snd.snd != (0 : Int) then true else (F.rdMas z).snd.fst != (0 : Int) then true else !(F.eqL
  eqStrm z_1.fst.streams z_1.snd.streams && F.eqL eqSnd z_1.fst.sounds z_1.snd.sounds) then some ((vB false), []) else Option.bind (unenc encRd [(vS s)]) fun (z : ByteArray)
  => bif (F.rdMas z).snd.snd != (0 : Int) then bif bif (↑(List.length (List.map eStrm (F.rdMas z).fst.streams)) : Int) == (0 : Int) then (↑(List.length (List.map eSnd
  (F.rdMas z).fst.sounds)) : Int) == (0 : Int) else false then Option.bind (unenc encAwk []) fun (z_2 : Unit) => some ((vB (bif bif (↑(List.length (List.map eStrm (F.rdMas
  z).fst.streams)) : Int) == (0 : Int) then (↑(List.length (List.map eSnd (F.rdMas z).fst.sounds)) : Int) == (0 : Int) else false then true else false)), []) else some ((vB
  false), []) else Option.bind (unenc encTxx [AV.agg [AV.sl (List.map eStrm (F.rdMas z).fst.streams), AV.sl (List.map eSnd (F.rdMas z).fst.sounds)]]) fun (z : Mas) => bif
  bif (F.mtext z).snd == (0 : Int) then ByteArray.toList (F.mtext z).fst == ByteArray.toList s else false then Option.bind (unenc encAwk []) fun (z_2 : Unit) => some ((vB
  (bif bif (F.mtext z).snd == (0 : Int) then ByteArray.toList (F.mtext z).fst == ByteArray.toList s else false then true else false)), []) else some ((vB false), []) else
  bif !bif (F.rdMas z).snd.snd != (0 : Int) then true else (F.rdMas z).snd.fst != (0 : Int) then none else some ((vB false), []) else Option.bind (unenc encRd [(vS s)]) fun
  (z : ByteArray) => bif (F.rdMas z).snd.snd != (0 : Int) then bif bif (↑(List.length (List.map eStrm (F.rdMas z).fst.streams)) : Int) == (0 : Int) then (↑(List.length
  (List.map eSnd (F.rdMas z).fst.sounds)) : Int) == (0 : Int) else false then Option.bind (unenc encAwk []) fun (z_1 : Unit) => some ((vB (bif bif (↑(List.length (List.map
  eStrm (F.rdMas z).fst.streams)) : Int) == (0 : Int) then (↑(List.length (List.map eSnd (F.rdMas z).fst.sounds)) : Int) == (0 : Int) else false then true else false)), [])
  else some ((vB false), []) else Option.bind (unenc encTxx [AV.agg [AV.sl (List.map eStrm (F.rdMas z).fst.streams), AV.sl (List.map eSnd (F.rdMas z).fst.sounds)]]) fun (z :
  Mas) => bif bif (F.mtext z).snd == (0 : Int) then ByteArray.toList (F.mtext z).fst == ByteArray.toList s else false then Option.bind (unenc encAwk []) fun (z_1 : Unit) =>
  some ((vB (bif bif (F.mtext z).snd == (0 : Int) then ByteArray.toList (F.mtext z).fst == ByteArray.toList s else false then true else false)), []) else some ((vB false),
  []) := by kernel_rfl

def encLCB1 (m : Mas) (s : ByteArray) : List AV := [.agg (eMas m), vS s]

def encLCB (a : Mas × ByteArray) : List AV := encLCB1 a.1 a.2

theorem encLCB_inj (a a' : Mas × ByteArray) (h : encLCB a = encLCB a') : a = a' := by
  simp only [encLCB, encLCB1] at h
  try simp [ints_inj, strs_inj, ents_inj, eEnt_iff, eLst_iff, eSnds_inj, eSnd_iff, eStrms_inj, eStrm_iff, eMas_iff] at h
  grind

theorem unLCB (m : Mas) (s : ByteArray) : unenc encLCB ([AV.agg [AV.sl (List.map eStrm m.streams), AV.sl (List.map eSnd m.sounds)], (vS s)]) = some (m, s) := unenc_of encLCB_inj (m, s) rfl

theorem unLCBw (m_streams : List Strm) (m_sounds : List Snd) (s : ByteArray) : unenc encLCB ([AV.agg [AV.sl (List.map eStrm m_streams), AV.sl (List.map eSnd m_sounds)], (vS s)]) = some ((Mas.mk m_streams m_sounds), s) := unenc_of encLCB_inj ((Mas.mk m_streams m_sounds), s) rfl

def resLCB1 (m : Mas) (s : ByteArray) : AV × Heap := (vB true, [])

def preLCB1 (m : Mas) (s : ByteArray) : Bool := true

noncomputable def oLCB : Orc := orc 3 true encLCB (fun a => preLCB1 a.1 a.2) fun a => resLCB1 a.1 a.2

theorem okLCB : OrcOK Tryd.prog noG oLCB := by
  refine mk_ok Tryd.f3 (keep := false) (by kernel_rfl) (by kernel_rfl) enLCB_ok mixed (no_loops (by kernel_rfl)) (by first | exact fun _ _ => ⟨rfl, rfl⟩ | (intro h; cases h)) ?_
  rintro ⟨m, s⟩ hpre hok
  show (runF enLCB false _ (encLCB1 _ _)).val = some (resLCB1 _ _)
  unfold encLCB1 resLCB1
  rw [evLCB]
  simp only [unTxx, unRd, unSmr, unAwk, unTxxw, unSmrw, preTxx1, preRd1, preSmr1, preAwk1, etaEnt, etaLst, etaSnd, etaStrm, etaMas, Option.bind_some, List.length_map, unStrs, unInts, unBools, unEnts, unItms, unTrns, cond_true, cond_false, Bool.and_true, Bool.true_and, unSnds, unStrms]
  have hA : ((F.mtext m).2 == 0) = true → F.rdMas (F.mtext m).1 = (m, 0, 0) := fun h => F.mas_rd (by simpa using h)
  cases hf : (F.rdMas s).2.2 != 0
  · have e := F.mas_back (s := s) (by simpa using hf)
    rw [e]
    cases hg : (F.mtext m).2 == 0
    · simp only [cond_false, cond_true, beq_self_eq_true]
    · rw [hA hg]
      simp only [cond_false, cond_true, beq_self_eq_true, bne_self_eq_false, F.eqL_refl eqStrm_refl, F.eqL_refl eqSnd_refl, Bool.and_self, Bool.not_true, Bool.not_false]
  · have e := F.mas_none (s := s) (by simpa using hf)
    rw [e]
    cases hg : (F.mtext m).2 == 0
    · rfl
    · rw [hA hg]
      simp only [cond_false, cond_true, beq_self_eq_true, bne_self_eq_false, F.eqL_refl eqStrm_refl, F.eqL_refl eqSnd_refl, Bool.and_self, Bool.not_true, Bool.not_false]
      rfl

end M
end Go.Proofs.YtipngpndgniagaaDoor
