/- What is proved here: what small functions and those of the library's strings return on plain data (no statement of the seat). -/
import Derived.Test.YthcfbeckhgngiaaGreatDoorC0
import Derived.Test.YthcfbeckhgngiaaGreatDoorM8
import Derived.Test.YthcfbeckhgngiaaGreatDoorShelf
import Derived.Shelf.Unicode.ValidAny
namespace Go.Proofs.YthcfbeckhgngiaaGreatDoor
open Go Go.RowKit Go.Shelf
set_option linter.unusedVariables false
set_option linter.unusedSimpArgs false

/-- The bytes of a string. -/
def F.bs (s : ByteArray) : List UInt8 := s.data.toList

theorem F.bs_get (s : ByteArray) (k : Nat) : s[k]? = (F.bs s)[k]? := by
  unfold F.bs
  by_cases h : k < s.size
  · have h' : k < s.data.toList.length := by simp; exact h
    rw [getElem?_pos s k h, List.getElem?_eq_getElem h']
    simp [ByteArray.getElem_eq_getElem_data]
  · have h' : ¬ k < s.data.toList.length := by simp; simpa using h
    rw [getElem?_neg s k h, List.getElem?_eq_none (by omega)]

theorem F.bs_len (s : ByteArray) : (F.bs s).length = s.size := by simp [F.bs]

/-- Numbers in order (as functions, so that a walk may rewrite them). -/
def F.lt (a b : Int) : Bool := decide (a < b)

def F.le (a b : Int) : Bool := decide (a ≤ b)

def F.found {α : Type} (o : Option α) : Bool := o.isSome

def F.got {α : Type} (o : Option α) (d : α) : α := o.getD d

/-- A number outside of its bounds. -/
def F.out (n l h : Int) : Bool := decide (n < l) || decide (h < n)

def F.letter (n : Int) : Bool := decide (97 ≤ n) && decide (n ≤ 122)

def F.digit (n : Int) : Bool := decide (48 ≤ n) && decide (n ≤ 57)

/-- Strings are equal. -/
def F.seq (a b : ByteArray) : Bool := a.toList == b.toList

theorem F.seq_refl (s : ByteArray) : F.seq s s = true := by simp [F.seq]

theorem F.seq_iff {a b : ByteArray} : F.seq a b = true ↔ a = b := by
  unfold F.seq
  constructor
  · intro h
    have h : a.toList = b.toList := by simpa using h
    rw [ByteArray.toList_eq, ByteArray.toList_eq] at h
    cases a; cases b
    simp only [ByteArray.mk.injEq]
    exact Array.ext' h
  · rintro rfl; simp

def F.within (n l h : Int) : Bool := decide (l ≤ n) && decide (n ≤ h)

theorem F.within_eq (n l h : Int) : F.within n l h = !F.out n l h := by
  unfold F.within F.out
  by_cases h1 : l ≤ n <;> by_cases h2 : n ≤ h <;> simp [h1, h2] <;> omega

theorem F.cond_tl (c x : Bool) : (bif c then true else x) = (c || x) := by cases c <;> rfl

theorem F.cond_fl (c x : Bool) : (bif c then x else false) = (c && x) := by cases c <;> rfl

theorem F.empty_eq (s : ByteArray) : (s.toList == ByteArray.toList (ByteArray.mk (Array.mk []))) = !decide (s.size ≠ 0) := by
  have : s.toList.length = s.size := by simp [ByteArray.toList_eq]
  have e0 : ByteArray.toList (ByteArray.mk (Array.mk [])) = [] := by simp [ByteArray.toList_eq]
  rw [e0]
  by_cases h : s.size = 0
  · have : s.toList = [] := List.eq_nil_of_length_eq_zero (by omega)
    simp [h, this]
  · have : s.toList ≠ [] := fun hh => h (by rw [← this, hh]; rfl)
    simp [h, this]

def F.b0 (s : ByteArray) : Int := match (F.bs s)[0]? with
  | some b => (b.toNat : Int)
  | none => 0

def F.nameB (b : UInt8) : Bool := F.letter b.toNat || F.digit b.toNat || decide ((b.toNat : Int) = 45)

def F.nameL (l : List UInt8) : Bool := l.all F.nameB

def F.isName (s : ByteArray) : Bool := decide (s.size ≠ 0) && decide (s.size ≤ 40) && F.letter (F.b0 s) && F.nameL (F.bs s)

theorem F.ffI_zero {α : Type} {g : α → Int} : ∀ {l : List α}, M.ffI g l = 0 → ∀ y ∈ l, g y = 0
  | y :: l, h, z, hz => by
    simp only [M.ffI] at h
    split at h
    · rename_i h0
      rcases List.mem_cons.1 hz with rfl | hz
      · exact h0
      · exact F.ffI_zero h z hz
    · exact absurd h ‹_›

/-- Two lists, one by one. -/
def F.eqL {α : Type} (p : α → α → Bool) (xs ys : List α) : Bool := decide (xs.length = ys.length) && ((xs.zip ys).all fun q => p q.1 q.2)

theorem F.eqL_refl {α : Type} {p : α → α → Bool} (h : ∀ a, p a a = true) (xs : List α) : F.eqL p xs xs = true := by
  have : ∀ l : List α, ((l.zip l).all fun q => p q.1 q.2) = true := by
    intro l
    induction l with
    | nil => rfl
    | cons y l ih => simp only [List.zip_cons_cons, List.all_cons, h, Bool.true_and]; exact ih
  simp only [eqL, this, decide_true, Bool.and_self]

namespace M

theorem len_eq (n m : Nat) : ((n : Int) == (m : Int)) = decide (n = m) := by by_cases h : n = m <;> simp [h]; omega

theorem idx_sub {j : Nat} (h : j + 1 ≤ 9223372036854775807) : idx (IntKind.i64.wrap (((j + 1 : Nat) : Int) - 1)) = some j := by
  have : IntKind.i64.wrap (((j + 1 : Nat) : Int) - 1) = ((j : Nat) : Int) := by rw [wrap_id (by omega) (by omega)]; omega
  rw [this]; rfl

noncomputable def en0 : Env := envH ty noG lks [] [] [] []

theorem en0_ok : EnvOK Tryz.prog en0 := by
  refine envH_ok lks_ok ty_ok ?_ ?_
  · simp
  · simp

theorem evOut (n l h : Int) : (runF en0 false Tryz.f50 [vI n, vI l, vI h]).val =
  some ((vB (bif decide (n < l) then true else decide (h < n))), []) := by kernel_rfl

def encOut1 (n l h : Int) : List AV := [vI n, vI l, vI h]

def encOut (a : Int × Int × Int) : List AV := encOut1 a.1 a.2.1 a.2.2

theorem encOut_inj (a a' : Int × Int × Int) (h : encOut a = encOut a') : a = a' := by
  simp only [encOut, encOut1] at h
  try simp [strs_inj, ints_inj, bools_inj, eL_eIs_inj, eCaps_inj, eCap_iff, eL_eCaps_inj, eMchs_inj, eMch_iff, eWrds_inj, eWrd_iff, eFnds_inj, eFnd_iff, eRatios_inj, eRatio_iff, eWays_inj, eWay_iff] at h
  grind

theorem unOut (n l h : Int) : unenc encOut ([(vI n), (vI l), (vI h)]) = some (n, l, h) := unenc_of encOut_inj (n, l, h) rfl

def resOut1 (n l h : Int) : AV × Heap := (vB (F.out n l h), [])

def preOut1 (n l h : Int) : Bool := true

noncomputable def oOut : Orc := orc 50 true encOut (fun a => preOut1 a.1 a.2.1 a.2.2) fun a => resOut1 a.1 a.2.1 a.2.2

theorem okOut : OrcOK Tryz.prog noG oOut := by
  refine mk_ok Tryz.f50 (keep := false) (by kernel_rfl) (by kernel_rfl) en0_ok mixed (no_loops (by kernel_rfl)) (by first | exact fun _ _ => ⟨rfl, rfl⟩ | (intro h; cases h)) ?_
  rintro ⟨n, l, h⟩ hpre hok
  show (runF en0 false _ (encOut1 _ _ _)).val = some (resOut1 _ _ _)
  unfold encOut1 resOut1
  rw [evOut]
  unfold F.out
  cases decide (n < l) <;> cases decide (h < n) <;> rfl


theorem evWithin (n l h : Int) : (runF en0 false Tryz.f48 [vI n, vI l, vI h]).val =
  some ((vB (bif decide (l ≤ n) then decide (n ≤ h) else false)), []) := by kernel_rfl

def encWithin1 (n l h : Int) : List AV := [vI n, vI l, vI h]

def encWithin (a : Int × Int × Int) : List AV := encWithin1 a.1 a.2.1 a.2.2

theorem encWithin_inj (a a' : Int × Int × Int) (h : encWithin a = encWithin a') : a = a' := by
  simp only [encWithin, encWithin1] at h
  try simp [strs_inj, ints_inj, bools_inj, eL_eIs_inj, eCaps_inj, eCap_iff, eL_eCaps_inj, eMchs_inj, eMch_iff, eWrds_inj, eWrd_iff, eFnds_inj, eFnd_iff, eRatios_inj, eRatio_iff, eWays_inj, eWay_iff] at h
  grind

theorem unWithin (n l h : Int) : unenc encWithin ([(vI n), (vI l), (vI h)]) = some (n, l, h) := unenc_of encWithin_inj (n, l, h) rfl

def resWithin1 (n l h : Int) : AV × Heap := (vB (F.within n l h), [])

def preWithin1 (n l h : Int) : Bool := true

noncomputable def oWithin : Orc := orc 48 true encWithin (fun a => preWithin1 a.1 a.2.1 a.2.2) fun a => resWithin1 a.1 a.2.1 a.2.2

theorem okWithin : OrcOK Tryz.prog noG oWithin := by
  refine mk_ok Tryz.f48 (keep := false) (by kernel_rfl) (by kernel_rfl) en0_ok mixed (no_loops (by kernel_rfl)) (by first | exact fun _ _ => ⟨rfl, rfl⟩ | (intro h; cases h)) ?_
  rintro ⟨n, l, h⟩ hpre hok
  show (runF en0 false _ (encWithin1 _ _ _)).val = some (resWithin1 _ _ _)
  unfold encWithin1 resWithin1
  rw [evWithin]
  unfold F.within
  cases decide (l ≤ n) <;> rfl

end M

/-- What the library's functions on strings return. -/
def F.valid (s : ByteArray) : Bool := Lib.validD (F.bs s)

def F.cont (s p : ByteArray) : Bool := Lib.contains (F.bs s) (F.bs p)

def F.hasP (s p : ByteArray) : Bool := Lib.hasPrefix (F.bs s) (F.bs p)

def F.hasS (s p : ByteArray) : Bool := Lib.hasSuffix (F.bs s) (F.bs p)

def F.runes (s : ByteArray) : Int := (Lib.runeCount s : Nat)

def F.split (s sep : ByteArray) : List ByteArray := Lib.splitB sep 0 (Lib.countB s sep) s

def F.join (xs : List ByteArray) (sep : ByteArray) : ByteArray := ⟨(Lib.join (xs.map (·.data.toList)) sep.data.toList).toArray⟩

def lays196_ren : Go.Shelf.Ren := ⟨fun | 196 => 74 | 259 => 93 | n => n, fun | 0 => 0 | 3 => 3 | 4 => 4 | 5 => 5 | 9 => 9 | 12 => 12 | 46 => 121 | 53 => 123 | 119 => 117 | 138 => 119 | 139 => 120 | n => n,
  fun | 3 => 0 | 4 => 1 | n => n⟩

theorem lays196 : Go.Proofs.Lays.n196 Tryz.prog lays196_ren := {
  mixed := by kernel_rfl
  f196 := Tryz.func74.trans (congrArg some (by kernel_rfl))
  f259 := Tryz.func93.trans (congrArg some (by kernel_rfl))
  t0 := Tryz.underlying0
  a0 := Tryz.isAgg0
  z0 := Tryz.sizeOf0
  v0 := Tryz.zeroValue0
  t3 := Tryz.underlying3
  a3 := Tryz.isAgg3
  z3 := Tryz.sizeOf3
  v3 := Tryz.zeroValue3
  t4 := Tryz.underlying4
  a4 := Tryz.isAgg4
  z4 := Tryz.sizeOf4
  v4 := Tryz.zeroValue4
  t5 := Tryz.underlying5
  a5 := Tryz.isAgg5
  z5 := Tryz.sizeOf5
  v5 := Tryz.zeroValue5
  t9 := Tryz.underlying9
  a9 := Tryz.isAgg9
  z9 := Tryz.sizeOf9
  v9 := Tryz.zeroValue9
  t12 := Tryz.underlying12
  a12 := Tryz.isAgg12
  z12 := Tryz.sizeOf12
  v12 := Tryz.zeroValue12
  t46 := Tryz.underlying121
  a46 := Tryz.isAgg121
  z46 := Tryz.sizeOf121
  v46 := Tryz.zeroValue121
  t53 := Tryz.underlying123
  a53 := Tryz.isAgg123
  z53 := Tryz.sizeOf123
  v53 := Tryz.zeroValue123
  t119 := Tryz.underlying117
  a119 := Tryz.isAgg117
  z119 := Tryz.sizeOf117
  t138 := Tryz.underlying119
  a138 := Tryz.isAgg119
  z138 := Tryz.sizeOf119
  v138 := Tryz.zeroValue119
  t139 := Tryz.underlying120
  a139 := Tryz.isAgg120
  z139 := Tryz.sizeOf120
  v139 := Tryz.zeroValue120
  g3 := by kernel_rfl
  g4 := by kernel_rfl }

namespace M

theorem tabs_of {w : World} {S : Nat → Prop} (hG : ∀ g r, noG g = some r → GlobAt w S g r) : Lib.Utf8Tabs 0 1 w := by
  obtain ⟨cs, h1, h2⟩ := (hG 0 _ rfl).cell
  obtain ⟨cs', h3, h4⟩ := (hG 1 _ rfl).cell
  refine ⟨fun c hc => ?_, fun i hi => ?_⟩
  · rw [h2]; exact h1 c hc
  · rw [h4, h4]; exact h3 i hi

theorem maxLen_of {w : World} {S : Nat → Prop} (hG : ∀ g r, noG g = some r → GlobAt w S g r) : ∃ m, w.cell? ⟨2, 0, none⟩ = some (.int .i64 m) := by
  obtain ⟨cs, ⟨m, h1⟩, h2⟩ := (hG 2 _ rfl).cell
  exact ⟨m, by rw [h2]; exact h1⟩

def encVal1 (s : ByteArray) : List AV := [vS s]

def encVal (a : ByteArray) : List AV := encVal1 a

theorem encVal_inj (a a' : ByteArray) (h : encVal a = encVal a') : a = a' := by
  simp only [encVal, encVal1] at h
  try simp [strs_inj, ints_inj, bools_inj, eL_eIs_inj, eCaps_inj, eCap_iff, eL_eCaps_inj, eMchs_inj, eMch_iff, eWrds_inj, eWrd_iff, eFnds_inj, eFnd_iff, eRatios_inj, eRatio_iff, eWays_inj, eWay_iff] at h
  grind

theorem unVal (s : ByteArray) : unenc encVal ([(vS s)]) = some (s) := unenc_of encVal_inj (s) rfl

def resVal1 (s : ByteArray) : AV × Heap := (vB (F.valid s), [])

def preVal1 (s : ByteArray) : Bool := true

noncomputable def oVal : Orc := orc 74 true encVal (fun a => preVal1 a) fun a => resVal1 a

theorem okVal : OrcOK Tryz.prog noG oVal := by
  refine orc_ok ⟨Tryz.f74, by kernel_rfl, by kernel_rfl, by kernel_rfl⟩ (fun s _ _ => ?_) (fun _ _ => ⟨rfl, rfl⟩)
  refine SpecP.below1 (fun w S => rv_mk trivial) fun hk w S hG => ?_
  exact Any.utf8_ValidString lays196 s w hk (tabs_of hG)

def encCnt1 (s : ByteArray) (p : ByteArray) : List AV := [vS s, vS p]

def encCnt (a : ByteArray × ByteArray) : List AV := encCnt1 a.1 a.2

theorem encCnt_inj (a a' : ByteArray × ByteArray) (h : encCnt a = encCnt a') : a = a' := by
  simp only [encCnt, encCnt1] at h
  try simp [strs_inj, ints_inj, bools_inj, eL_eIs_inj, eCaps_inj, eCap_iff, eL_eCaps_inj, eMchs_inj, eMch_iff, eWrds_inj, eWrd_iff, eFnds_inj, eFnd_iff, eRatios_inj, eRatio_iff, eWays_inj, eWay_iff] at h
  grind

theorem unCnt (s : ByteArray) (p : ByteArray) : unenc encCnt ([(vS s), (vS p)]) = some (s, p) := unenc_of encCnt_inj (s, p) rfl

def resCnt1 (s : ByteArray) (p : ByteArray) : AV × Heap := (vB (F.cont s p), [])

def preCnt1 (s : ByteArray) (p : ByteArray) : Bool := decide (s.size ≤ 4294967280)

noncomputable def oCnt : Orc := orc 52 true encCnt (fun a => preCnt1 a.1 a.2) fun a => resCnt1 a.1 a.2

theorem okCnt : OrcOK Tryz.prog noG oCnt := by
  refine orc_ok ⟨Tryz.f52, by kernel_rfl, by kernel_rfl, by kernel_rfl⟩ (fun x hp _ => ?_) (fun _ _ => ⟨rfl, rfl⟩)
  obtain ⟨s, p⟩ := x
  simp only [preCnt1, decide_eq_true_eq] at hp
  refine SpecP.below2 (fun w S => rv_mk trivial) fun hk _ w S hG => ?_
  obtain ⟨m, hm⟩ := maxLen_of hG
  refine (Tryz.strings_Contains s p m w (by omega) hm).mono ?_
  rintro e w' ⟨he, rfl⟩
  exact ⟨he, Below.refl _ _⟩

def encHsP1 (s : ByteArray) (p : ByteArray) : List AV := [vS s, vS p]

def encHsP (a : ByteArray × ByteArray) : List AV := encHsP1 a.1 a.2

theorem encHsP_inj (a a' : ByteArray × ByteArray) (h : encHsP a = encHsP a') : a = a' := by
  simp only [encHsP, encHsP1] at h
  try simp [strs_inj, ints_inj, bools_inj, eL_eIs_inj, eCaps_inj, eCap_iff, eL_eCaps_inj, eMchs_inj, eMch_iff, eWrds_inj, eWrd_iff, eFnds_inj, eFnd_iff, eRatios_inj, eRatio_iff, eWays_inj, eWay_iff] at h
  grind

theorem unHsP (s : ByteArray) (p : ByteArray) : unenc encHsP ([(vS s), (vS p)]) = some (s, p) := unenc_of encHsP_inj (s, p) rfl

def resHsP1 (s : ByteArray) (p : ByteArray) : AV × Heap := (vB (F.hasP s p), [])

def preHsP1 (s : ByteArray) (p : ByteArray) : Bool := true

noncomputable def oHsP : Orc := orc 44 true encHsP (fun a => preHsP1 a.1 a.2) fun a => resHsP1 a.1 a.2

theorem okHsP : OrcOK Tryz.prog noG oHsP := by
  refine orc_ok ⟨Tryz.f44, by kernel_rfl, by kernel_rfl, by kernel_rfl⟩ (fun x _ _ => ?_) (fun _ _ => ⟨rfl, rfl⟩)
  exact SpecP.pure2 trivial fun _ _ w => Tryz.strings_HasPrefix x.1 x.2 w

def encHsS1 (s : ByteArray) (p : ByteArray) : List AV := [vS s, vS p]

def encHsS (a : ByteArray × ByteArray) : List AV := encHsS1 a.1 a.2

theorem encHsS_inj (a a' : ByteArray × ByteArray) (h : encHsS a = encHsS a') : a = a' := by
  simp only [encHsS, encHsS1] at h
  try simp [strs_inj, ints_inj, bools_inj, eL_eIs_inj, eCaps_inj, eCap_iff, eL_eCaps_inj, eMchs_inj, eMch_iff, eWrds_inj, eWrd_iff, eFnds_inj, eFnd_iff, eRatios_inj, eRatio_iff, eWays_inj, eWay_iff] at h
  grind

theorem unHsS (s : ByteArray) (p : ByteArray) : unenc encHsS ([(vS s), (vS p)]) = some (s, p) := unenc_of encHsS_inj (s, p) rfl

def resHsS1 (s : ByteArray) (p : ByteArray) : AV × Heap := (vB (F.hasS s p), [])

def preHsS1 (s : ByteArray) (p : ByteArray) : Bool := true

noncomputable def oHsS : Orc := orc 75 true encHsS (fun a => preHsS1 a.1 a.2) fun a => resHsS1 a.1 a.2

theorem okHsS : OrcOK Tryz.prog noG oHsS := by
  refine orc_ok ⟨Tryz.f75, by kernel_rfl, by kernel_rfl, by kernel_rfl⟩ (fun x _ _ => ?_) (fun _ _ => ⟨rfl, rfl⟩)
  exact SpecP.pure2 trivial fun hk _ w => Tryz.strings_HasSuffix x.1 x.2 w hk

theorem below_iter (w : World) (s : ByteArray) (pos : Nat) : Below w.heap.size w (w.iter s pos) :=
  ⟨rfl, rfl, rfl, by simp [World.iter], fun k hk => by
    show (w.heap.push _)[k]? = _
    rw [Array.getElem?_push, if_neg (by omega)]⟩

def encRun1 (s : ByteArray) : List AV := [vS s]

def encRun (a : ByteArray) : List AV := encRun1 a

theorem encRun_inj (a a' : ByteArray) (h : encRun a = encRun a') : a = a' := by
  simp only [encRun, encRun1] at h
  try simp [strs_inj, ints_inj, bools_inj, eL_eIs_inj, eCaps_inj, eCap_iff, eL_eCaps_inj, eMchs_inj, eMch_iff, eWrds_inj, eWrd_iff, eFnds_inj, eFnd_iff, eRatios_inj, eRatio_iff, eWays_inj, eWay_iff] at h
  grind

theorem unRun (s : ByteArray) : unenc encRun ([(vS s)]) = some (s) := unenc_of encRun_inj (s) rfl

def resRun1 (s : ByteArray) : AV × Heap := (vI (F.runes s), [])

def preRun1 (s : ByteArray) : Bool := decide (s.size ≤ 4294967280)

noncomputable def oRun : Orc := orc 53 true encRun (fun a => preRun1 a) fun a => resRun1 a

theorem okRun : OrcOK Tryz.prog noG oRun := by
  refine orc_ok ⟨Tryz.f53, by kernel_rfl, by kernel_rfl, by kernel_rfl⟩ (fun s hp _ => ?_) (fun _ _ => ⟨rfl, rfl⟩)
  simp only [preRun1, decide_eq_true_eq] at hp
  have hl := Lib.runeCount_le s
  refine SpecP.below1 (fun w S => rv_mk (by show okAtom (.int .i64 ((Lib.runeCount s : Nat) : Int)); simp only [okAtom, IntKind.min, IntKind.max, IntKind.signed, IntKind.bits]; simp; omega)) fun hk w S hG => ?_
  refine (Tryz.utf8_RuneCountInString s w (by omega)).mono ?_
  rintro e w' ⟨he, pos, rfl⟩
  exact ⟨he, below_iter w s pos⟩

end M
end Go.Proofs.YthcfbeckhgngiaaGreatDoor
