/- What is proved here: what small functions on strings return on plain data: HasPrefix, letter, IsDigit, IsName, uriFault and those of the reference (no statement of the seat). -/
import Derived.Test.YtgkjfochkhiojaaDoorE1
namespace Go.Proofs.YtgkjfochkhiojaaDoor
open Go Go.RowKit
set_option linter.unusedVariables false
set_option linter.unusedSimpArgs false

def F.letter (n : Int) : Bool := decide (97 ≤ n) && decide (n ≤ 122)

def F.digit (n : Int) : Bool := decide (48 ≤ n) && decide (n ≤ 57)

/-- Strings are equal. -/
def F.seq (a b : ByteArray) : Bool := a.toList == b.toList

def F.hasPrefix (s p : ByteArray) : Bool := decide (p.size ≤ s.size) && F.seq (s.extract 0 p.size) p

def F.within (n l h : Int) : Bool := decide (l ≤ n) && decide (n ≤ h)

namespace M

def encLetter1 (n : Int) : List AV := [vU n]

def encLetter (a : Int) : List AV := encLetter1 a

theorem encLetter_inj (a a' : Int) (h : encLetter a = encLetter a') : a = a' := by
  simp only [encLetter, encLetter1] at h
  try simp  at h
  grind

theorem unLetter (n : Int) : unenc encLetter ([(vU n)]) = some (n) := unenc_of encLetter_inj (n) rfl

def resLetter1 (n : Int) : AV × Heap := (vB (F.letter n), [])

def preLetter1 (n : Int) : Bool := true

noncomputable def oLetter : Orc := orc 47 true encLetter (fun a => preLetter1 a) fun a => resLetter1 a

theorem evLetter (n : Int) : (runF en0 false Tryd.f47 [vU n]).val =
  some ((vB (bif decide ((97 : Int) ≤ n) then decide (n ≤ (122 : Int)) else false)), []) := by kernel_rfl

theorem okLetter : OrcOK Tryd.prog noG oLetter := by
  refine mk_ok Tryd.f47 (keep := false) (by kernel_rfl) (by kernel_rfl) en0_ok mixed (no_loops (by kernel_rfl)) (by first | exact fun _ _ => ⟨rfl, rfl⟩ | (intro h; cases h)) ?_
  rintro n _ hok
  show (runF en0 false _ (encLetter1 _)).val = some (resLetter1 _)
  unfold encLetter1 resLetter1
  rw [evLetter]
  unfold F.letter
  cases decide ((97 : Int) ≤ n) <;> rfl

def encDigit1 (n : Int) : List AV := [vU n]

def encDigit (a : Int) : List AV := encDigit1 a

theorem encDigit_inj (a a' : Int) (h : encDigit a = encDigit a') : a = a' := by
  simp only [encDigit, encDigit1] at h
  try simp  at h
  grind

theorem unDigit (n : Int) : unenc encDigit ([(vU n)]) = some (n) := unenc_of encDigit_inj (n) rfl

def resDigit1 (n : Int) : AV × Heap := (vB (F.digit n), [])

def preDigit1 (n : Int) : Bool := true

noncomputable def oDigit : Orc := orc 48 true encDigit (fun a => preDigit1 a) fun a => resDigit1 a

theorem evDigit (n : Int) : (runF en0 false Tryd.f48 [vU n]).val =
  some ((vB (bif decide ((48 : Int) ≤ n) then decide (n ≤ (57 : Int)) else false)), []) := by kernel_rfl

theorem okDigit : OrcOK Tryd.prog noG oDigit := by
  refine mk_ok Tryd.f48 (keep := false) (by kernel_rfl) (by kernel_rfl) en0_ok mixed (no_loops (by kernel_rfl)) (by first | exact fun _ _ => ⟨rfl, rfl⟩ | (intro h; cases h)) ?_
  rintro n _ hok
  show (runF en0 false _ (encDigit1 _)).val = some (resDigit1 _)
  unfold encDigit1 resDigit1
  rw [evDigit]
  unfold F.digit
  cases decide ((48 : Int) ≤ n) <;> rfl

def encWithin1 (n l h : Int) : List AV := [vI n, vI l, vI h]

def encWithin (a : Int × Int × Int) : List AV := encWithin1 a.1 a.2.1 a.2.2

theorem encWithin_inj (a a' : Int × Int × Int) (h : encWithin a = encWithin a') : a = a' := by
  simp only [encWithin, encWithin1] at h
  try simp  at h
  grind

theorem unWithin (n l h : Int) : unenc encWithin ([(vI n), (vI l), (vI h)]) = some (n, l, h) := unenc_of encWithin_inj (n, l, h) rfl

def resWithin1 (n l h : Int) : AV × Heap := (vB (F.within n l h), [])

def preWithin1 (n l h : Int) : Bool := true

def encHasPre01 (s p : ByteArray) : List AV := [vS s, vS p]

def encHasPre0 (a : ByteArray × ByteArray) : List AV := encHasPre01 a.1 a.2

theorem encHasPre0_inj (a a' : ByteArray × ByteArray) (h : encHasPre0 a = encHasPre0 a') : a = a' := by
  simp only [encHasPre0, encHasPre01] at h
  try simp  at h
  grind

theorem unHasPre0 (s p : ByteArray) : unenc encHasPre0 ([(vS s), (vS p)]) = some (s, p) := unenc_of encHasPre0_inj (s, p) rfl

def resHasPre01 (s p : ByteArray) : AV × Heap := (vB (F.hasPrefix s p), [])

def preHasPre01 (s p : ByteArray) : Bool := true

noncomputable def oHasPre0 : Orc := orc 49 true encHasPre0 (fun a => preHasPre01 a.1 a.2) fun a => resHasPre01 a.1 a.2

theorem evHasPre0 (s p : ByteArray) : (runF en0 false Tryd.f49 [vS s, vS p]).val =
  bif decide ((↑(ByteArray.size p) : Int) ≤ (↑(ByteArray.size s) : Int)) then bif Nat.ble (0 : Nat) (ByteArray.size p) && Nat.ble (ByteArray.size p) (ByteArray.size s) then
  some ((vB (bif decide ((↑(ByteArray.size p) : Int) ≤ (↑(ByteArray.size s) : Int)) then ByteArray.toList (ByteArray.extract s (0 : Nat) (ByteArray.size p)) ==
  ByteArray.toList p else false)), []) else none else bif decide ((↑(ByteArray.size p) : Int) ≤ (↑(ByteArray.size s) : Int)) then none else some ((vB false), []) := by kernel_rfl

theorem okHasPre0 : OrcOK Tryd.prog noG oHasPre0 := by
  refine mk_ok Tryd.f49 (keep := false) (by kernel_rfl) (by kernel_rfl) en0_ok mixed (no_loops (by kernel_rfl)) (by first | exact fun _ _ => ⟨rfl, rfl⟩ | (intro h; cases h)) ?_
  rintro ⟨s, p⟩ _ hok
  show (runF en0 false _ (encHasPre01 _ _)).val = some (resHasPre01 _ _)
  unfold encHasPre01 resHasPre01
  rw [evHasPre0]
  unfold F.hasPrefix F.seq
  by_cases h : p.size ≤ s.size
  · have h' : (p.size : Int) ≤ s.size := by omega
    have hb : Nat.ble p.size s.size = true := ble_t h
    have hb0 : Nat.ble 0 p.size = true := ble_t (Nat.zero_le _)
    simp only [h, h', hb, hb0, decide_true, Bool.true_and, cond_true]
  · have h' : ¬ (p.size : Int) ≤ s.size := by omega
    simp [h, h']

noncomputable def enHasPre : Env := envH ty noG lks [oHasPre0] [] [] []

theorem enHasPre_ok : EnvOK Tryd.prog enHasPre := by
  refine envH_ok lks_ok ty_ok ?_ ?_
  · simp only [List.forall_mem_cons]
    exact ⟨okHasPre0, by simp⟩
  · simp

def encHasPre1 (s p : ByteArray) : List AV := [vS s, vS p]

def encHasPre (a : ByteArray × ByteArray) : List AV := encHasPre1 a.1 a.2

theorem encHasPre_inj (a a' : ByteArray × ByteArray) (h : encHasPre a = encHasPre a') : a = a' := by
  simp only [encHasPre, encHasPre1] at h
  try simp  at h
  grind

theorem unHasPre (s p : ByteArray) : unenc encHasPre ([(vS s), (vS p)]) = some (s, p) := unenc_of encHasPre_inj (s, p) rfl

def resHasPre1 (s p : ByteArray) : AV × Heap := (vB (F.hasPrefix s p), [])

def preHasPre1 (s p : ByteArray) : Bool := true

noncomputable def oHasPre : Orc := orc 32 true encHasPre (fun a => preHasPre1 a.1 a.2) fun a => resHasPre1 a.1 a.2

theorem evHasPre (s p : ByteArray) : (runF enHasPre false Tryd.f32 [vS s, vS p]).val =
  Option.bind (unenc encHasPre0 [(vS s), (vS p)]) fun (z : ByteArray × ByteArray) => some ((vB (F.hasPrefix z.fst z.snd)), []) := by kernel_rfl

theorem okHasPre : OrcOK Tryd.prog noG oHasPre := by
  refine mk_ok Tryd.f32 (keep := false) (by kernel_rfl) (by kernel_rfl) enHasPre_ok mixed (no_loops (by kernel_rfl)) (by first | exact fun _ _ => ⟨rfl, rfl⟩ | (intro h; cases h)) ?_
  rintro ⟨s, p⟩ _ hok
  show (runF enHasPre false _ (encHasPre1 _ _)).val = some (resHasPre1 _ _)
  unfold encHasPre1 resHasPre1
  rw [evHasPre, unHasPre0]
  simp [preHasPre01]

def stPrn (s : ByteArray) (lo : Int) (k : Nat) : St := ⟨[(5, vI k), (1, vU lo), (0, vS s)], []⟩

def stPrn1 (a : ByteArray × Int × Nat) : St := stPrn a.1 a.2.1 a.2.2

theorem stPrn_inj (a a' : ByteArray × Int × Nat) (h : stPrn1 a = stPrn1 a') : a = a' := by
  simp only [stPrn1, stPrn] at h
  try simp  at h
  grind

theorem unstPrn (s : ByteArray) (lo : Int) (k : Nat) : unenc stPrn1 (St.mk [(5, (vI (↑k : Int))), (1, (vU lo)), (0, (vS s))] []) = some (s, lo, k) := unenc_of stPrn_inj (s, lo, k) rfl

theorem unstPrn0 (s : ByteArray) (lo : Int)  : unenc stPrn1 (St.mk [(5, (vI (0 : Int))), (1, (vU lo)), (0, (vS s))] []) = some (s, lo, 0) := unenc_of stPrn_inj (s, lo, 0) rfl

def outPrn (s : ByteArray) (lo : Int) (k : Nat) : T (Ex × St) := .ifB (((F.bs s).drop k).all (F.visB lo)) (.ret (.exit 0, ⟨[], []⟩)) (.ret (.ret, ⟨[(4, vB false)], []⟩))

noncomputable def prlPrn (s : ByteArray) (lo : Int) (k : Nat) : Bool := decide (s.size ≤ 9223372036854775807) && decide (k ≤ s.size)

noncomputable def lpPrn : Nat × (St → T (Ex × St)) := (2, lpo [5, 1, 0] [] stPrn1 (fun a => prlPrn a.1 a.2.1 a.2.2) fun a => outPrn a.1 a.2.1 a.2.2)

noncomputable def enPrn : Env := envH ty noG lks [] [] [] [lpPrn]

theorem enPrn_ok : EnvOK Tryd.prog enPrn := by
  refine envH_ok lks_ok ty_ok ?_ ?_
  · simp
  · simp

def encPrn1 (s : ByteArray) (lo : Int) : List AV := [vS s, vU lo]

def encPrn (a : ByteArray × Int) : List AV := encPrn1 a.1 a.2

theorem encPrn_inj (a a' : ByteArray × Int) (h : encPrn a = encPrn a') : a = a' := by
  simp only [encPrn, encPrn1] at h
  try simp  at h
  grind

theorem unPrn (s : ByteArray) (lo : Int) : unenc encPrn ([(vS s), (vU lo)]) = some (s, lo) := unenc_of encPrn_inj (s, lo) rfl

def resPrn1 (s : ByteArray) (lo : Int) : AV × Heap := (vB (F.vis s lo), [])

def prePrn1 (s : ByteArray) (lo : Int) : Bool := true

end M
end Go.Proofs.YtgkjfochkhiojaaDoor
