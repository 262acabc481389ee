/- What is proved here: what the checks of entries and lists return on plain data, of the reference, and of whole lists (no statement of the seat). -/
import Derived.Test.YtgkjfochkhiojaaDoorE4
namespace Go.Proofs.YtgkjfochkhiojaaDoor
open Go Go.RowKit
set_option linter.unusedVariables false
set_option linter.unusedSimpArgs false

/-- A name, by the reference. -/
def F.rnm : Nat → List UInt8 → Bool
  | _, [] => true
  | k, b :: l => (F.letter b.toNat || (decide (k ≠ 0) && (F.digit b.toNat || decide ((b.toNat : Int) = 45)))) && F.rnm (k + 1) l

theorem F.rnm_succ (k : Nat) (hk : k ≠ 0) : ∀ l, F.rnm k l = F.nameL l
  | [] => rfl
  | b :: l => by
    simp only [F.rnm, F.nameL, List.all_cons, F.nameB]
    rw [F.rnm_succ (k + 1) (by omega) l]
    simp [hk, F.nameL, Bool.or_assoc]

theorem F.isName_eq (s : ByteArray) : F.isName s = (F.rnm 0 (F.bs s) && decide (s.size ≠ 0) && decide (s.size ≤ 40)) := by
  have h0 := F.bs_len s
  unfold F.isName F.b0
  cases hb : F.bs s with
  | nil => rw [hb] at h0; simp at h0; simp [← h0]
  | cons b l =>
    simp only [F.rnm, F.nameL, List.all_cons]
    rw [F.rnm_succ 1 (by omega)]
    simp only [F.nameL, List.getElem?_cons_zero, F.nameB]
    cases F.letter b.toNat <;> simp
    cases l.all F.nameB <;> simp

namespace M


theorem u8_lt (b : UInt8) : (b.toNat : Int) < 256 := by have := b.toNat_lt; omega

def stRNm (s : ByteArray) (k : Nat) : St := ⟨[(3, vI k), (0, vS s)], []⟩

def stRNm1 (a : ByteArray × Nat) : St := stRNm a.1 a.2

theorem stRNm_inj (a a' : ByteArray × Nat) (h : stRNm1 a = stRNm1 a') : a = a' := by
  simp only [stRNm1, stRNm] at h
  try simp [strs_inj, ents_inj, eEnt_iff, eLst_iff] at h
  grind

theorem unstRNm (s : ByteArray) (k : Nat) : unenc stRNm1 (St.mk [(3, (vI (↑k : Int))), (0, (vS s))] []) = some (s, k) := unenc_of stRNm_inj (s, k) rfl

theorem unstRNm0 (s : ByteArray)  : unenc stRNm1 (St.mk [(3, (vI (0 : Int))), (0, (vS s))] []) = some (s, 0) := unenc_of stRNm_inj (s, 0) rfl

def outRNm (s : ByteArray) (k : Nat) : T (Ex × St) := .ifB (F.rnm k ((F.bs s).drop k)) (.ret (.exit 0, ⟨[(0, vS s)], []⟩)) (.ret (.ret, ⟨[(2, vB false)], []⟩))

noncomputable def prlRNm (s : ByteArray) (k : Nat) : Bool := decide (s.size ≤ 9223372036854775807) && decide (k ≤ s.size)

noncomputable def lpRNm : Nat × (St → T (Ex × St)) := (2, lpo [3, 0] [] stRNm1 (fun a => prlRNm a.1 a.2) fun a => outRNm a.1 a.2)

noncomputable def enRNm : Env := envH ty noG lks [] [] [] [lpRNm]

theorem enRNm_ok : EnvOK Tryd.prog enRNm := by
  refine envH_ok lks_ok ty_ok ?_ ?_
  · simp
  · simp

def encRNm1 (s : ByteArray) : List AV := [vS s]

def encRNm (a : ByteArray) : List AV := encRNm1 a

theorem encRNm_inj (a a' : ByteArray) (h : encRNm a = encRNm a') : a = a' := by
  simp only [encRNm, encRNm1] at h
  try simp [strs_inj, ents_inj, eEnt_iff, eLst_iff] at h
  grind

theorem unRNm (s : ByteArray) : unenc encRNm ([(vS s)]) = some (s) := unenc_of encRNm_inj (s) rfl

def resRNm1 (s : ByteArray) : AV × Heap := (vB (F.isName s), [])

def preRNm1 (s : ByteArray) : Bool := true

end M
end Go.Proofs.YtgkjfochkhiojaaDoor
