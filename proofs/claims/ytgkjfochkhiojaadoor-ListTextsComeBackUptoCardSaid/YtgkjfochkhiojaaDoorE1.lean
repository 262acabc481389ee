/- What is proved here: what small functions of the program return on plain data: kit.Out, list.visible (no statement of the seat). -/
import Derived.Test.YtgkjfochkhiojaaDoorE0
namespace Go.Proofs.YtgkjfochkhiojaaDoor
open Go Go.RowKit
set_option linter.unusedVariables false
set_option linter.unusedSimpArgs false

/-- The bytes of a string. -/
def F.bs (s : ByteArray) : List UInt8 := s.data.toList

theorem F.bs_get (s : ByteArray) (k : Nat) : s[k]? = (F.bs s)[k]? := by
  unfold F.bs
  by_cases h : k < s.size
  · have h' : k < s.data.toList.length := by simp; exact h
    rw [getElem?_pos s k h, List.getElem?_eq_getElem h']
    simp [ByteArray.getElem_eq_getElem_data]
  · have h' : ¬ k < s.data.toList.length := by simp; simpa using h
    rw [getElem?_neg s k h, List.getElem?_eq_none (by omega)]

theorem F.bs_len (s : ByteArray) : (F.bs s).length = s.size := by simp [F.bs]

/-- A number outside of its bounds. -/
def F.out (n l h : Int) : Bool := decide (n < l) || decide (h < n)

def F.visB (lo : Int) (b : UInt8) : Bool := !(decide ((b.toNat : Int) < lo) || decide ((126 : Int) < (b.toNat : Int)))

def F.visL (lo : Int) (l : List UInt8) : Bool := l.all (F.visB lo)

def F.vis (s : ByteArray) (lo : Int) : Bool := F.visL lo (F.bs s)

namespace M

noncomputable def en0 : Env := envH ty noG lks [] [] [] []

theorem en0_ok : EnvOK Tryd.prog en0 := by
  refine envH_ok lks_ok ty_ok ?_ ?_
  · simp
  · simp

def encOut1 (n l h : Int) : List AV := [vI n, vI l, vI h]

def encOut (a : Int × Int × Int) : List AV := encOut1 a.1 a.2.1 a.2.2

theorem encOut_inj (a a' : Int × Int × Int) (h : encOut a = encOut a') : a = a' := by
  simp only [encOut, encOut1] at h
  try simp  at h
  grind

theorem unOut (n l h : Int) : unenc encOut ([(vI n), (vI l), (vI h)]) = some (n, l, h) := unenc_of encOut_inj (n, l, h) rfl

def resOut1 (n l h : Int) : AV × Heap := (vB (F.out n l h), [])

def preOut1 (n l h : Int) : Bool := true

noncomputable def oOut : Orc := orc 15 true encOut (fun a => preOut1 a.1 a.2.1 a.2.2) fun a => resOut1 a.1 a.2.1 a.2.2

theorem evOut (n l h : Int) : (runF en0 false Tryd.f15 [vI n, vI l, vI h]).val =
  some ((vB (bif decide (n < l) then true else decide (h < n))), []) := by kernel_rfl

theorem okOut : OrcOK Tryd.prog noG oOut := by
  refine mk_ok Tryd.f15 (keep := false) (by kernel_rfl) (by kernel_rfl) en0_ok mixed (no_loops (by kernel_rfl)) (by first | exact fun _ _ => ⟨rfl, rfl⟩ | (intro h; cases h)) ?_
  rintro ⟨n, l, h⟩ _ _
  show (runF en0 false _ (encOut1 _ _ _)).val = some (resOut1 _ _ _)
  unfold encOut1 resOut1 F.out
  rw [evOut]
  cases decide (n < l) <;> cases decide (h < n) <;> rfl

def stVis (s : ByteArray) (lo : Int) (k : Nat) : St := ⟨[(8, vI k), (7, vI s.size), (1, vU lo), (0, vS s)], []⟩

def stVis1 (a : ByteArray × Int × Nat) : St := stVis a.1 a.2.1 a.2.2

theorem stVis_inj (a a' : ByteArray × Int × Nat) (h : stVis1 a = stVis1 a') : a = a' := by
  simp only [stVis1, stVis] at h
  try simp  at h
  grind

theorem unstVis (s : ByteArray) (lo : Int) (k : Nat) : unenc stVis1 (St.mk [(8, (vI (↑k : Int))), (7, (vI (↑(ByteArray.size s) : Int))), (1, (vU lo)), (0, (vS s))] []) = some (s, lo, k) := unenc_of stVis_inj (s, lo, k) rfl

theorem unstVis0 (s : ByteArray) (lo : Int)  : unenc stVis1 (St.mk [(8, (vI (0 : Int))), (7, (vI (↑(ByteArray.size s) : Int))), (1, (vU lo)), (0, (vS s))] []) = some (s, lo, 0) := unenc_of stVis_inj (s, lo, 0) rfl

def outVis (s : ByteArray) (lo : Int) (k : Nat) : T (Ex × St) := .ifB (F.visL lo ((F.bs s).drop k)) (.ret (.exit 0, ⟨[], []⟩)) (.ret (.ret, ⟨[(4, vB false)], []⟩))

noncomputable def prlVis (s : ByteArray) (lo : Int) (k : Nat) : Bool := decide (s.size ≤ 9223372036854775807) && decide (k ≤ s.size)

noncomputable def lpVis : Nat × (St → T (Ex × St)) := (2, lpo [8, 7, 1, 0] [] stVis1 (fun a => prlVis a.1 a.2.1 a.2.2) fun a => outVis a.1 a.2.1 a.2.2)

noncomputable def enVis : Env := envH ty noG lks [] [] [] [lpVis]

theorem enVis_ok : EnvOK Tryd.prog enVis := by
  refine envH_ok lks_ok ty_ok ?_ ?_
  · simp
  · simp

def encVis1 (s : ByteArray) (lo : Int) : List AV := [vS s, vU lo]

def encVis (a : ByteArray × Int) : List AV := encVis1 a.1 a.2

theorem encVis_inj (a a' : ByteArray × Int) (h : encVis a = encVis a') : a = a' := by
  simp only [encVis, encVis1] at h
  try simp  at h
  grind

theorem unVis (s : ByteArray) (lo : Int) : unenc encVis ([(vS s), (vU lo)]) = some (s, lo) := unenc_of encVis_inj (s, lo) rfl

def resVis1 (s : ByteArray) (lo : Int) : AV × Heap := (vB (F.vis s lo), [])

def preVis1 (s : ByteArray) (lo : Int) : Bool := true

noncomputable def oVis : Orc := orc 33 true encVis (fun a => preVis1 a.1 a.2) fun a => resVis1 a.1 a.2

theorem evVisL (s : ByteArray) (lo : Int) (k : Nat) : ((exec enVis (loopN Tryd.f33 0) (stVis s lo k)).bind (lessX ([8, 7, 1, 0], []) ([], []) ([4], []))).val =
  bif decide ((↑k : Int) < (↑(ByteArray.size s) : Int)) then Option.bind s[k]? fun (z : UInt8) => bif !decide ((↑(UInt8.toNat z) : Int) < lo) then Option.bind s[k]? fun (z_1
  : UInt8) => bif bif decide ((↑(UInt8.toNat z) : Int) < lo) then true else decide ((126 : Int) < (↑(UInt8.toNat z_1) : Int)) then some (Ex.ret, St.mk [(4, (vB false))] [])
  else some (Ex.normal, St.mk [(8, (vI (IntKind.wrap IntKind.i64 ((↑k : Int) + (1 : Int))))), (7, (vI (↑(ByteArray.size s) : Int))), (1, (vU lo)), (0, (vS s))] []) else bif
  !decide ((↑(UInt8.toNat z) : Int) < lo) then none else some (Ex.ret, St.mk [(4, (vB false))] []) else some (Ex.exit (0 : Nat), St.mk [] []) := by kernel_rfl

theorem evVis (s : ByteArray) (lo : Int) : (runF enVis false Tryd.f33 [vS s, vU lo]).val =
  Option.bind (unenc stVis1 (St.mk [(8, (vI (0 : Int))), (7, (vI (↑(ByteArray.size s) : Int))), (1, (vU lo)), (0, (vS s))] [])) fun (z : ByteArray × Int × Nat) => bif decide
  (ByteArray.size z.fst ≤ (9223372036854775807 : Nat)) && decide (z.snd.snd ≤ ByteArray.size z.fst) && true then bif F.visL z.snd.fst (List.drop z.snd.snd (F.bs z.fst)) then
  some ((vB true), []) else some ((vB false), []) else none := by kernel_rfl

theorem lpVis_ok (s : ByteArray) (lo : Int) (hs : s.size ≤ 9223372036854775807) (k : Nat) (hk : k ≤ s.size) : ∀ e s', (outVis s lo k).val = some (e, s') → LoopOK enVis (loopN Tryd.f33 0) (stVis s lo k) e s' := by
  refine loop_all (xs := F.bs s) (st := stVis s lo) (n := ([8, 7, 1, 0], [])) (e := ([], [])) (r := ([4], [])) ?_ ⟨by simp, rfl⟩ ⟨by simp, rfl⟩ (fun _ => rfl) ?_ k (by rw [F.bs_len]; exact hk)
  · rw [evVisL, F.bs_len]; simp
  · intro k y hy
    have hk : k < s.size := by rw [← F.bs_len]; exact (List.getElem?_eq_some_iff.1 hy).1
    have hkz : ((k : Int) < (s.size : Int)) := by omega
    have hw : IntKind.i64.wrap ((k : Int) + 1) = ((k + 1 : Nat) : Int) := by rw [wrap_id (by omega) (by omega)]; rfl
    rw [evVisL, F.bs_get, hy]
    simp only [hkz, decide_true, Option.bind_some, hw, F.visB]
    cases h1 : decide ((y.toNat : Int) < lo) <;> cases h2 : decide ((126 : Int) < (y.toNat : Int)) <;> simp_all [stVis]

theorem okVis : OrcOK Tryd.prog noG oVis := by
  refine mk_ok Tryd.f33 (keep := false) (by kernel_rfl) (by kernel_rfl) enVis_ok mixed (one_loop (x0 := loopN Tryd.f33 0) (by kernel_rfl) (lpo_ok ?_)) (by first | exact fun _ _ => ⟨rfl, rfl⟩ | (intro h; cases h)) ?_
  · rintro ⟨s, lo, k⟩ hp
    simp only [prlVis, Bool.and_eq_true, decide_eq_true_eq] at hp
    exact lpVis_ok s lo hp.1 k hp.2
  · rintro ⟨s, lo⟩ _ hok
    have hs := okA_str (hok _ (List.mem_cons_self ..))
    show (runF enVis false _ (encVis1 _ _)).val = some (resVis1 _ _)
    unfold encVis1 resVis1
    rw [evVis, unstVis0]
    simp [hs, F.vis]
    cases F.visL lo (F.bs s) <;> rfl

end M
end Go.Proofs.YtgkjfochkhiojaaDoor
