/- What is proved here: small facts on plain data (no statement of the seat). -/
import Derived.Test.YtlemjphdhapfpaaGreatDoorD0
import Derived.Test.YtlemjphdhapfpaaGreatDoorM8
import Derived.Test.YtlemjphdhapfpaaGreatDoorM9
import Derived.Test.YtlemjphdhapfpaaGreatDoorM10
import Derived.Test.YtlemjphdhapfpaaGreatDoorShelf
namespace Go.Proofs.YtlemjphdhapfpaaGreatDoor
open Go Go.RowKit
set_option linter.unusedVariables false
set_option linter.unusedSimpArgs false

/-- The bytes of a string. -/
def F.bs (s : ByteArray) : List UInt8 := s.data.toList

theorem F.bs_get (s : ByteArray) (k : Nat) : s[k]? = (F.bs s)[k]? := by
  unfold F.bs
  by_cases h : k < s.size
  · have h' : k < s.data.toList.length := by simp; exact h
    rw [getElem?_pos s k h, List.getElem?_eq_getElem h']
    simp [ByteArray.getElem_eq_getElem_data]
  · have h' : ¬ k < s.data.toList.length := by simp; simpa using h
    rw [getElem?_neg s k h, List.getElem?_eq_none (by omega)]

theorem F.bs_len (s : ByteArray) : (F.bs s).length = s.size := by simp [F.bs]

/-- Numbers in order (as functions, so that a walk may rewrite them). -/
def F.lt (a b : Int) : Bool := decide (a < b)

def F.le (a b : Int) : Bool := decide (a ≤ b)

def F.found {α : Type} (o : Option α) : Bool := o.isSome

def F.got {α : Type} (o : Option α) (d : α) : α := o.getD d

/-- A number outside of its bounds. -/
def F.out (n l h : Int) : Bool := decide (n < l) || decide (h < n)

def F.letter (n : Int) : Bool := decide (97 ≤ n) && decide (n ≤ 122)

def F.digit (n : Int) : Bool := decide (48 ≤ n) && decide (n ≤ 57)

/-- Strings are equal. -/
def F.seq (a b : ByteArray) : Bool := a.toList == b.toList

theorem F.seq_refl (s : ByteArray) : F.seq s s = true := by simp [F.seq]

theorem F.seq_iff {a b : ByteArray} : F.seq a b = true ↔ a = b := by
  unfold F.seq
  constructor
  · intro h
    have h : a.toList = b.toList := by simpa using h
    rw [ByteArray.toList_eq, ByteArray.toList_eq] at h
    cases a; cases b
    simp only [ByteArray.mk.injEq]
    exact Array.ext' h
  · rintro rfl; simp

def F.within (n l h : Int) : Bool := decide (l ≤ n) && decide (n ≤ h)

theorem F.within_eq (n l h : Int) : F.within n l h = !F.out n l h := by
  unfold F.within F.out
  by_cases h1 : l ≤ n <;> by_cases h2 : n ≤ h <;> simp [h1, h2] <;> omega

theorem F.cond_tl (c x : Bool) : (bif c then true else x) = (c || x) := by cases c <;> rfl

theorem F.cond_fl (c x : Bool) : (bif c then x else false) = (c && x) := by cases c <;> rfl

theorem F.empty_eq (s : ByteArray) : (s.toList == ByteArray.toList (ByteArray.mk (Array.mk []))) = !decide (s.size ≠ 0) := by
  have : s.toList.length = s.size := by simp [ByteArray.toList_eq]
  have e0 : ByteArray.toList (ByteArray.mk (Array.mk [])) = [] := by simp [ByteArray.toList_eq]
  rw [e0]
  by_cases h : s.size = 0
  · have : s.toList = [] := List.eq_nil_of_length_eq_zero (by omega)
    simp [h, this]
  · have : s.toList ≠ [] := fun hh => h (by rw [← this, hh]; rfl)
    simp [h, this]

def F.b0 (s : ByteArray) : Int := match (F.bs s)[0]? with
  | some b => (b.toNat : Int)
  | none => 0

def F.nameB (b : UInt8) : Bool := F.letter b.toNat || F.digit b.toNat || decide ((b.toNat : Int) = 45)

def F.nameL (l : List UInt8) : Bool := l.all F.nameB

def F.isName (s : ByteArray) : Bool := decide (s.size ≠ 0) && decide (s.size ≤ 40) && F.letter (F.b0 s) && F.nameL (F.bs s)

theorem F.ffI_zero {α : Type} {g : α → Int} : ∀ {l : List α}, M.ffI g l = 0 → ∀ y ∈ l, g y = 0
  | y :: l, h, z, hz => by
    simp only [M.ffI] at h
    split at h
    · rename_i h0
      rcases List.mem_cons.1 hz with rfl | hz
      · exact h0
      · exact F.ffI_zero h z hz
    · exact absurd h ‹_›

/-- Two lists, one by one. -/
def F.eqL {α : Type} (p : α → α → Bool) (xs ys : List α) : Bool := decide (xs.length = ys.length) && ((xs.zip ys).all fun q => p q.1 q.2)

theorem F.eqL_refl {α : Type} {p : α → α → Bool} (h : ∀ a, p a a = true) (xs : List α) : F.eqL p xs xs = true := by
  have : ∀ l : List α, ((l.zip l).all fun q => p q.1 q.2) = true := by
    intro l
    induction l with
    | nil => rfl
    | cons y l ih => simp only [List.zip_cons_cons, List.all_cons, h, Bool.true_and]; exact ih
  simp only [eqL, this, decide_true, Bool.and_self]

namespace M

theorem len_eq (n m : Nat) : ((n : Int) == (m : Int)) = decide (n = m) := by by_cases h : n = m <;> simp [h]; omega

theorem idx_sub {j : Nat} (h : j + 1 ≤ 9223372036854775807) : idx (IntKind.i64.wrap (((j + 1 : Nat) : Int) - 1)) = some j := by
  have : IntKind.i64.wrap (((j + 1 : Nat) : Int) - 1) = ((j : Nat) : Int) := by rw [wrap_id (by omega) (by omega)]; omega
  rw [this]; rfl

noncomputable def en0 : Env := envH ty noG lks [] [] [] []

theorem en0_ok : EnvOK Tryz.prog en0 := by
  refine envH_ok lks_ok ty_ok ?_ ?_
  · simp
  · simp

theorem evOut (n l h : Int) : (runF en0 false Tryz.f29 [vI n, vI l, vI h]).val =
  some ((vB (bif decide (n < l) then true else decide (h < n))), []) := by kernel_rfl

def encOut1 (n l h : Int) : List AV := [vI n, vI l, vI h]

def encOut (a : Int × Int × Int) : List AV := encOut1 a.1 a.2.1 a.2.2

theorem encOut_inj (a a' : Int × Int × Int) (h : encOut a = encOut a') : a = a' := by
  simp only [encOut, encOut1] at h
  try simp [strs_inj, ints_inj, bools_inj, u8s_inj, eEnts_inj, eEnt_iff, eLsts_inj, eLst_iff, eSegs_inj, eSeg_iff, eRots_inj, eRot_iff, eBeats_inj, eBeat_iff, eSpans_inj, eSpan_iff, eHoles_inj, eHole_iff] at h
  grind

theorem unOut (n l h : Int) : unenc encOut ([(vI n), (vI l), (vI h)]) = some (n, l, h) := unenc_of encOut_inj (n, l, h) rfl

def resOut1 (n l h : Int) : AV × Heap := (vB (F.out n l h), [])

def preOut1 (n l h : Int) : Bool := true

noncomputable def oOut : Orc := orc 29 true encOut (fun a => preOut1 a.1 a.2.1 a.2.2) fun a => resOut1 a.1 a.2.1 a.2.2

theorem okOut : OrcOK Tryz.prog noG oOut := by
  refine mk_ok Tryz.f29 (keep := false) (by kernel_rfl) (by kernel_rfl) en0_ok mixed (no_loops (by kernel_rfl)) (by first | exact fun _ _ => ⟨rfl, rfl⟩ | (intro h; cases h)) ?_
  rintro ⟨n, l, h⟩ hpre hok
  show (runF en0 false _ (encOut1 _ _ _)).val = some (resOut1 _ _ _)
  unfold encOut1 resOut1
  rw [evOut]
  unfold F.out
  cases decide (n < l) <;> cases decide (h < n) <;> rfl

theorem evLetter (n : Int) : (runF en0 false Tryz.f82 [vU n]).val =
  some ((vB (bif decide ((97 : Int) ≤ n) then decide (n ≤ (122 : Int)) else false)), []) := by kernel_rfl

def encLetter1 (n : Int) : List AV := [vU n]

def encLetter (a : Int) : List AV := encLetter1 a

theorem encLetter_inj (a a' : Int) (h : encLetter a = encLetter a') : a = a' := by
  simp only [encLetter, encLetter1] at h
  try simp [strs_inj, ints_inj, bools_inj, u8s_inj, eEnts_inj, eEnt_iff, eLsts_inj, eLst_iff, eSegs_inj, eSeg_iff, eRots_inj, eRot_iff, eBeats_inj, eBeat_iff, eSpans_inj, eSpan_iff, eHoles_inj, eHole_iff] at h
  grind

theorem unLetter (n : Int) : unenc encLetter ([(vU n)]) = some (n) := unenc_of encLetter_inj (n) rfl

def resLetter1 (n : Int) : AV × Heap := (vB (F.letter n), [])

def preLetter1 (n : Int) : Bool := true

noncomputable def oLetter : Orc := orc 82 true encLetter (fun a => preLetter1 a) fun a => resLetter1 a

theorem okLetter : OrcOK Tryz.prog noG oLetter := by
  refine mk_ok Tryz.f82 (keep := false) (by kernel_rfl) (by kernel_rfl) en0_ok mixed (no_loops (by kernel_rfl)) (by first | exact fun _ _ => ⟨rfl, rfl⟩ | (intro h; cases h)) ?_
  rintro n hpre hok
  show (runF en0 false _ (encLetter1 _)).val = some (resLetter1 _)
  unfold encLetter1 resLetter1
  rw [evLetter]
  unfold F.letter
  cases decide ((97 : Int) ≤ n) <;> rfl

theorem evDigit (n : Int) : (runF en0 false Tryz.f83 [vU n]).val =
  some ((vB (bif decide ((48 : Int) ≤ n) then decide (n ≤ (57 : Int)) else false)), []) := by kernel_rfl

def encDigit1 (n : Int) : List AV := [vU n]

def encDigit (a : Int) : List AV := encDigit1 a

theorem encDigit_inj (a a' : Int) (h : encDigit a = encDigit a') : a = a' := by
  simp only [encDigit, encDigit1] at h
  try simp [strs_inj, ints_inj, bools_inj, u8s_inj, eEnts_inj, eEnt_iff, eLsts_inj, eLst_iff, eSegs_inj, eSeg_iff, eRots_inj, eRot_iff, eBeats_inj, eBeat_iff, eSpans_inj, eSpan_iff, eHoles_inj, eHole_iff] at h
  grind

theorem unDigit (n : Int) : unenc encDigit ([(vU n)]) = some (n) := unenc_of encDigit_inj (n) rfl

def resDigit1 (n : Int) : AV × Heap := (vB (F.digit n), [])

def preDigit1 (n : Int) : Bool := true

noncomputable def oDigit : Orc := orc 83 true encDigit (fun a => preDigit1 a) fun a => resDigit1 a

theorem okDigit : OrcOK Tryz.prog noG oDigit := by
  refine mk_ok Tryz.f83 (keep := false) (by kernel_rfl) (by kernel_rfl) en0_ok mixed (no_loops (by kernel_rfl)) (by first | exact fun _ _ => ⟨rfl, rfl⟩ | (intro h; cases h)) ?_
  rintro n hpre hok
  show (runF en0 false _ (encDigit1 _)).val = some (resDigit1 _)
  unfold encDigit1 resDigit1
  rw [evDigit]
  unfold F.digit
  cases decide ((48 : Int) ≤ n) <;> rfl

def stName (s : ByteArray) (k : Nat) : St := ⟨[(20, vI k), (19, vI s.size), (0, vS s)], []⟩

def stName1 (a : ByteArray × Nat) : St := stName a.1 a.2

theorem stName_inj (a a' : ByteArray × Nat) (h : stName1 a = stName1 a') : a = a' := by
  simp only [stName1, stName] at h
  try simp [strs_inj, ints_inj, bools_inj, u8s_inj, eEnts_inj, eEnt_iff, eLsts_inj, eLst_iff, eSegs_inj, eSeg_iff, eRots_inj, eRot_iff, eBeats_inj, eBeat_iff, eSpans_inj, eSpan_iff, eHoles_inj, eHole_iff] at h
  grind

theorem unstName (s : ByteArray) (k : Nat) : unenc stName1 (St.mk [(20, (vI (↑k : Int))), (19, (vI (↑(ByteArray.size s) : Int))), (0, (vS s))] []) = some (s, k) := unenc_of stName_inj (s, k) rfl

theorem unstName0 (s : ByteArray)  : unenc stName1 (St.mk [(20, (vI (0 : Int))), (19, (vI (↑(ByteArray.size s) : Int))), (0, (vS s))] []) = some (s, 0) := unenc_of stName_inj (s, 0) rfl

def outName (s : ByteArray) (k : Nat) : T (Ex × St) := .ifB (F.nameL ((F.bs s).drop k)) (.ret (.exit 0, ⟨[], []⟩)) (.ret (.ret, ⟨[(2, vB false)], []⟩))

noncomputable def prlName (s : ByteArray) (k : Nat) : Bool := decide (s.size ≤ 9223372036854775807) && decide (k ≤ s.size)

noncomputable def lpName : Nat × (St → T (Ex × St)) := (4, lpo [20, 19, 0] [] stName1 (fun a => prlName a.1 a.2) fun a => outName a.1 a.2)

noncomputable def enName : Env := envH ty noG lks [oLetter, oDigit] [] [] [lpName]

theorem enName_ok : EnvOK Tryz.prog enName := by
  refine envH_ok lks_ok ty_ok ?_ ?_
  · simp only [List.forall_mem_cons]
    exact ⟨okLetter, okDigit, by simp⟩
  · simp

theorem evNameL (s : ByteArray) (k : Nat) : ((exec enName (loopN Tryz.f46 0) (stName s k)).bind (lessX ([20, 19, 0], []) ([], []) ([2], []))).val =
  bif decide ((↑k : Int) < (↑(ByteArray.size s) : Int)) then Option.bind s[k]? fun (z : UInt8) => Option.bind (unenc encLetter [(vU (↑(UInt8.toNat z) : Int))]) fun (z : Int)
  => bif !F.letter z then Option.bind s[k]? fun (z_1 : UInt8) => bif !F.letter z then Option.bind (unenc encDigit [(vU (↑(UInt8.toNat z_1) : Int))]) fun (z_2 : Int) => bif
  bif !F.letter z then !F.digit z_2 else false then Option.bind s[k]? fun (z_3 : UInt8) => bif bif bif !F.letter z then !F.digit z_2 else false then (↑(UInt8.toNat z_3) :
  Int) != (45 : Int) else false then some (Ex.ret, St.mk [(2, (vB false))] []) else some (Ex.normal, St.mk [(20, (vI (IntKind.wrap IntKind.i64 ((↑k : Int) + (1 : Int))))),
  (19, (vI (↑(ByteArray.size s) : Int))), (0, (vS s))] []) else bif bif !F.letter z then !F.digit z_2 else false then none else some (Ex.normal, St.mk [(20, (vI
  (IntKind.wrap IntKind.i64 ((↑k : Int) + (1 : Int))))), (19, (vI (↑(ByteArray.size s) : Int))), (0, (vS s))] []) else bif !F.letter z then none else some (Ex.normal, St.mk
  [(20, (vI (IntKind.wrap IntKind.i64 ((↑k : Int) + (1 : Int))))), (19, (vI (↑(ByteArray.size s) : Int))), (0, (vS s))] []) else bif !F.letter z then Option.bind (unenc
  encDigit [AV.unk]) fun (z_1 : Int) => bif bif !F.letter z then !F.digit z_1 else false then Option.bind s[k]? fun (z_2 : UInt8) => bif bif bif !F.letter z then !F.digit
  z_1 else false then (↑(UInt8.toNat z_2) : Int) != (45 : Int) else false then some (Ex.ret, St.mk [(2, (vB false))] []) else some (Ex.normal, St.mk [(20, (vI (IntKind.wrap
  IntKind.i64 ((↑k : Int) + (1 : Int))))), (19, (vI (↑(ByteArray.size s) : Int))), (0, (vS s))] []) else bif bif !F.letter z then !F.digit z_1 else false then none else some
  (Ex.normal, St.mk [(20, (vI (IntKind.wrap IntKind.i64 ((↑k : Int) + (1 : Int))))), (19, (vI (↑(ByteArray.size s) : Int))), (0, (vS s))] []) else bif !F.letter z then none
  else some (Ex.normal, St.mk [(20, (vI (IntKind.wrap IntKind.i64 ((↑k : Int) + (1 : Int))))), (19, (vI (↑(ByteArray.size s) : Int))), (0, (vS s))] []) else some (Ex.exit (0
  : Nat), St.mk [] []) := by kernel_rfl

theorem lpName_ok (s : ByteArray) (k : Nat) (hp : prlName s k = true) : ∀ ex s', (outName s k).val = some (ex, s') → LoopOK enName (loopN Tryz.f46 0) (stName s k) ex s' := by
  simp only [prlName, Bool.and_eq_true, decide_eq_true_eq] at hp
  refine loop_all (xs := F.bs s) (st := stName s) (n := ([20, 19, 0], [])) (e := ([], [])) (r := ([2], [])) ?_ ⟨by simp, rfl⟩ ⟨by simp, rfl⟩ (fun _ => rfl) ?_ k (by rw [F.bs_len]; exact hp.2)
  · rw [evNameL]; rw [F.bs_len]; simp
  · intro k y hy
    have hk : k < s.size := by rw [← F.bs_len]; exact (List.getElem?_eq_some_iff.1 hy).1
    have hkz : ((k : Int) < (s.size : Int)) := by omega
    have hw : IntKind.i64.wrap ((k : Int) + 1) = ((k + 1 : Nat) : Int) := by rw [wrap_id (by omega) (by omega)]; rfl
    rw [evNameL]
    rw [F.bs_get, hy]
    simp only [hkz, decide_true, Option.bind_some, hw, unLetter, unDigit, F.nameB, stName]
    grind

theorem evName (s : ByteArray) : (runF enName false Tryz.f46 [vS s]).val =
  bif !bif (↑(ByteArray.size s) : Int) == (0 : Int) then true else decide ((40 : Int) < (↑(ByteArray.size s) : Int)) then Option.bind s[(0 : Nat)]? fun (z : UInt8) => bif
  !bif (↑(ByteArray.size s) : Int) == (0 : Int) then true else decide ((40 : Int) < (↑(ByteArray.size s) : Int)) then Option.bind (unenc encLetter [(vU (↑(UInt8.toNat z) :
  Int))]) fun (z : Int) => bif bif bif (↑(ByteArray.size s) : Int) == (0 : Int) then true else decide ((40 : Int) < (↑(ByteArray.size s) : Int)) then true else !F.letter z
  then some ((vB false), []) else Option.bind (unenc stName1 (St.mk [(20, (vI (0 : Int))), (19, (vI (↑(ByteArray.size s) : Int))), (0, (vS s))] [])) fun (z : ByteArray ×
  Nat) => bif decide (ByteArray.size z.fst ≤ (9223372036854775807 : Nat)) && decide (z.snd ≤ ByteArray.size z.fst) && true then bif F.nameL (List.drop z.snd (F.bs z.fst))
  then some ((vB true), []) else some ((vB false), []) else none else bif !bif (↑(ByteArray.size s) : Int) == (0 : Int) then true else decide ((40 : Int) < (↑(ByteArray.size
  s) : Int)) then none else some ((vB false), []) else bif !bif (↑(ByteArray.size s) : Int) == (0 : Int) then true else decide ((40 : Int) < (↑(ByteArray.size s) : Int))
  then Option.bind (unenc encLetter [AV.unk]) fun (z : Int) => bif bif bif (↑(ByteArray.size s) : Int) == (0 : Int) then true else decide ((40 : Int) < (↑(ByteArray.size s)
  : Int)) then true else !F.letter z then some ((vB false), []) else Option.bind (unenc stName1 (St.mk [(20, (vI (0 : Int))), (19, (vI (↑(ByteArray.size s) : Int))), (0, (vS
  s))] [])) fun (z : ByteArray × Nat) => bif decide (ByteArray.size z.fst ≤ (9223372036854775807 : Nat)) && decide (z.snd ≤ ByteArray.size z.fst) && true then bif F.nameL
  (List.drop z.snd (F.bs z.fst)) then some ((vB true), []) else some ((vB false), []) else none else bif !bif (↑(ByteArray.size s) : Int) == (0 : Int) then true else decide
  ((40 : Int) < (↑(ByteArray.size s) : Int)) then none else some ((vB false), []) := by kernel_rfl

def encName1 (s : ByteArray) : List AV := [vS s]

def encName (a : ByteArray) : List AV := encName1 a

theorem encName_inj (a a' : ByteArray) (h : encName a = encName a') : a = a' := by
  simp only [encName, encName1] at h
  try simp [strs_inj, ints_inj, bools_inj, u8s_inj, eEnts_inj, eEnt_iff, eLsts_inj, eLst_iff, eSegs_inj, eSeg_iff, eRots_inj, eRot_iff, eBeats_inj, eBeat_iff, eSpans_inj, eSpan_iff, eHoles_inj, eHole_iff] at h
  grind

theorem unName (s : ByteArray) : unenc encName ([(vS s)]) = some (s) := unenc_of encName_inj (s) rfl

def resName1 (s : ByteArray) : AV × Heap := (vB (F.isName s), [])

def preName1 (s : ByteArray) : Bool := true

noncomputable def oName : Orc := orc 46 true encName (fun a => preName1 a) fun a => resName1 a

theorem okName : OrcOK Tryz.prog noG oName := by
  refine mk_ok Tryz.f46 (keep := false) (by kernel_rfl) (by kernel_rfl) enName_ok mixed (one_loop (x0 := loopN Tryz.f46 0) (by kernel_rfl) (lpo_ok ?_)) (by first | exact fun _ _ => ⟨rfl, rfl⟩ | (intro h; cases h)) ?_
  · rintro ⟨s, k⟩ hp
    exact lpName_ok s k hp
  rintro s hpre hok
  show (runF enName false _ (encName1 _)).val = some (resName1 _)
  unfold encName1 resName1
  rw [evName]
  have hs := okA_str (hok _ (List.mem_cons_self ..))
  have h0 := F.bs_len s
  simp only [unLetter, unDigit, preLetter1, preDigit1, unstName, unstName0, prlName, outName, etaEnt, etaLst, etaSeg, etaRot, etaBeat, etaSpan, etaHole, Option.bind_some, List.length_map, unStrs, unInts, unBools, unU8s, unEnts, unLsts, unSegs, unRots, unBeats, unSpans, unHoles, F.lt, F.le, cond_true, cond_false, Bool.and_true, Bool.true_and, F.bs_get, F.isName, F.b0, hs, List.drop_zero, Nat.zero_le, decide_true]
  cases hb : F.bs s with
  | nil => rw [hb] at h0; simp at h0; simp [← h0]
  | cons b l =>
    rw [hb] at h0
    simp at h0
    have a1 : ((s.size : Int) == 0) = false := by rw [beq_eq_false_iff_ne]; omega
    have a2 : decide ((40 : Int) < s.size) = !decide (s.size ≤ 40) := by by_cases h : s.size ≤ 40 <;> simp [h] <;> omega
    have a3 : decide (s.size ≠ 0) = true := decide_eq_true (by omega)
    simp only [a1, a2, a3]
    cases decide (s.size ≤ 40) <;> cases h1 : F.letter b.toNat <;> cases h2 : F.nameL (b :: l) <;> simp [h1, h2]


end M
end Go.Proofs.YtlemjphdhapfpaaGreatDoor
