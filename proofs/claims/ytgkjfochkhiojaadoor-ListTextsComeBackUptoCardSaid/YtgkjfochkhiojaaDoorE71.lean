/- What is proved here: the reference's number, and times of a list's text (no statement of the seat). -/
import Derived.Test.YtgkjfochkhiojaaDoorE52
import Derived.Test.YtgkjfochkhiojaaDoorE57
import Derived.Lib.AtoiErrMem
namespace Go.Proofs.YtgkjfochkhiojaaDoor
open Go Go.RowKit
set_option linter.unusedVariables false
set_option linter.unusedSimpArgs false

theorem F.isD_le {s : ByteArray} (h : F.isD s = true) : F.dv s ≤ 9223372036854775807 := by
  unfold F.isD at h
  simp only [Bool.and_eq_true, decide_eq_true_eq] at h
  exact h.2

def F.dot : ByteArray := ⟨⟨[46]⟩⟩

/-- A time of a text: seconds, a point and three digits. -/
def F.milOk (s : ByteArray) : Bool := F.numOk (F.cutH s F.dot) 16 && F.cutF s F.dot && decide ((F.cutT s F.dot).size = 3) && (F.bs (F.cutT s F.dot)).all F.dgB

def F.milV (s : ByteArray) : Int := bif F.milOk s then min (F.numV (F.cutH s F.dot) 16) 1000000000000000 * 1000 + (F.dv (F.cutT s F.dot) : Nat) else 0

namespace M


def encAto1 (s : ByteArray) : List AV := [vS s]

def encAto (a : ByteArray) : List AV := encAto1 a

theorem encAto_inj (a a' : ByteArray) (h : encAto a = encAto a') : a = a' := by
  simp only [encAto, encAto1] at h
  try simp [strs_inj, ints_inj, ents_inj, eEnt_iff, eLst_iff, eSnds_inj, eStrms_inj] at h
  grind

theorem unAto (s : ByteArray) : unenc encAto ([(vS s)]) = some (s) := unenc_of encAto_inj (s) rfl

def resAto1 (s : ByteArray) : AV × Heap := (.tup [vI (F.dv s : Nat), .v .nilIface], [])

def preAto1 (s : ByteArray) : Bool := F.isD s && decide (s.size ≤ 1000)

noncomputable def oAto : Orc := orc 69 true encAto (fun a => preAto1 a) fun a => resAto1 a

theorem okAto : OrcOK Tryd.prog noG oAto := by
  refine orc_ok ⟨Tryd.f69, by kernel_rfl, by kernel_rfl, by kernel_rfl⟩ (fun s hp _ => ?_) (fun _ _ => ⟨rfl, rfl⟩)
  simp only [preAto1, Bool.and_eq_true, decide_eq_true_eq] at hp
  have h1 := F.isD_ato hp.1
  have h2 := F.isD_le hp.1
  refine SpecP.below1 (rv := .tuple #[.int .i64 (F.dv s : Nat), .nilIface]) (fun w S => ⟨[_, _], rfl, R0.v (by simp only [okAtom, IntKind.min, IntKind.max, IntKind.signed, IntKind.bits]; simp; omega), R0.v trivial, trivial⟩) fun hk w S hG => ?_
  refine (Tryd.strconv_Atoi_ok s (by omega) (F.dv s : Nat) h1 w).mono ?_
  rintro e w' ⟨he, h | ⟨t, h⟩⟩
  · subst h; exact ⟨he, Below.refl _ _⟩
  · subst h; exact ⟨he, Lib.bytesWorld_below w _ _⟩

def stRNu (s : ByteArray) (k : Nat) : St := ⟨[(6, vI k), (0, vS s)], []⟩

def stRNu1 (a : ByteArray × Nat) : St := stRNu a.1 a.2

theorem stRNu_inj (a a' : ByteArray × Nat) (h : stRNu1 a = stRNu1 a') : a = a' := by
  simp only [stRNu1, stRNu] at h
  try simp [strs_inj, ints_inj, ents_inj, eEnt_iff, eLst_iff, eSnds_inj, eStrms_inj] at h
  grind

theorem unstRNu (s : ByteArray) (k : Nat) : unenc stRNu1 (St.mk [(6, (vI (↑k : Int))), (0, (vS s))] []) = some (s, k) := unenc_of stRNu_inj (s, k) rfl

theorem unstRNu0 (s : ByteArray)  : unenc stRNu1 (St.mk [(6, (vI (0 : Int))), (0, (vS s))] []) = some (s, 0) := unenc_of stRNu_inj (s, 0) rfl

def outRNu (s : ByteArray) (k : Nat) : T (Ex × St) := .ifB (((F.bs s).drop k).all F.dgB) (.ret (.exit 0, ⟨[(0, vS s)], []⟩)) (.ret (.ret, ⟨[(5, vB false), (4, vI 0)], []⟩))

noncomputable def prlRNu (s : ByteArray) (k : Nat) : Bool := decide (s.size ≤ 18) && decide (k ≤ s.size)

noncomputable def lpRNu : Nat × (St → T (Ex × St)) := (4, lpo [6, 0] [] stRNu1 (fun a => prlRNu a.1 a.2) fun a => outRNu a.1 a.2)

noncomputable def enRNu : Env := envH ty noG lks [oAto] [] [] [lpRNu]

theorem enRNu_ok : EnvOK Tryd.prog enRNu := by
  refine envH_ok lks_ok ty_ok ?_ ?_
  · simp only [List.forall_mem_cons]
    exact ⟨okAto, by simp⟩
  · simp

def encRNu1 (s : ByteArray) (most : Int) : List AV := [vS s, vI most]

def encRNu (a : ByteArray × Int) : List AV := encRNu1 a.1 a.2

theorem encRNu_inj (a a' : ByteArray × Int) (h : encRNu a = encRNu a') : a = a' := by
  simp only [encRNu, encRNu1] at h
  try simp [strs_inj, ints_inj, ents_inj, eEnt_iff, eLst_iff, eSnds_inj, eStrms_inj] at h
  grind

theorem unRNu (s : ByteArray) (most : Int) : unenc encRNu ([(vS s), (vI most)]) = some (s, most) := unenc_of encRNu_inj (s, most) rfl

def resRNu1 (s : ByteArray) (most : Int) : AV × Heap := (.tup [vI (F.numV s most), vB (F.numOk s most)], [])

def preRNu1 (s : ByteArray) (most : Int) : Bool := decide (most ≤ 18)

end M
end Go.Proofs.YtgkjfochkhiojaaDoor
