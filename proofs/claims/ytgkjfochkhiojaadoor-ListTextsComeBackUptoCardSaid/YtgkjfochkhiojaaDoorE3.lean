/- What is proved here: what the checks of strings and entries return on plain data, of the program and of the reference (no statement of the seat). -/
import Derived.Test.YtgkjfochkhiojaaDoorE2
namespace Go.Proofs.YtgkjfochkhiojaaDoor
open Go Go.RowKit
set_option linter.unusedVariables false
set_option linter.unusedSimpArgs false

def F.b0 (s : ByteArray) : Int := match (F.bs s)[0]? with
  | some b => (b.toNat : Int)
  | none => 0

/-- The fault of a URI. -/
def F.uriFault (s : ByteArray) : Int := if F.out s.size 1 200 || decide (F.b0 s = 35) || !F.vis s 33 then 3 else 0

def F.nameB (b : UInt8) : Bool := F.letter b.toNat || F.digit b.toNat || decide ((b.toNat : Int) = 45)

def F.nameL (l : List UInt8) : Bool := l.all F.nameB

def F.isName (s : ByteArray) : Bool := decide (s.size ≠ 0) && decide (s.size ≤ 40) && F.letter (F.b0 s) && F.nameL (F.bs s)

namespace M

noncomputable def enUri : Env := envH ty noG lks [oOut, oVis] [] [] []

theorem enUri_ok : EnvOK Tryd.prog enUri := by
  refine envH_ok lks_ok ty_ok ?_ ?_
  · simp only [List.forall_mem_cons]
    exact ⟨okOut, okVis, by simp⟩
  · simp

theorem evUri (s : ByteArray) : (runF enUri false Tryd.f30 [vS s]).val =
  Option.bind (unenc encOut [(vI (↑(ByteArray.size s) : Int)), (vI (1 : Int)), (vI (200 : Int))]) fun (z : Int × Int × Int) => bif !F.out z.fst z.snd.fst z.snd.snd then
  Option.bind s[(0 : Nat)]? fun (z_1 : UInt8) => bif !bif F.out z.fst z.snd.fst z.snd.snd then true else (↑(UInt8.toNat z_1) : Int) == (35 : Int) then Option.bind (unenc
  encVis [(vS s), (vU (33 : Int))]) fun (z_2 : ByteArray × Int) => bif bif bif F.out z.fst z.snd.fst z.snd.snd then true else (↑(UInt8.toNat z_1) : Int) == (35 : Int) then
  true else !F.vis z_2.fst z_2.snd then some ((vI (3 : Int)), []) else some ((vI (0 : Int)), []) else bif !bif F.out z.fst z.snd.fst z.snd.snd then true else (↑(UInt8.toNat
  z_1) : Int) == (35 : Int) then none else some ((vI (3 : Int)), []) else bif !F.out z.fst z.snd.fst z.snd.snd then none else some ((vI (3 : Int)), []) := by kernel_rfl

def encUri1 (s : ByteArray) : List AV := [vS s]

def encUri (a : ByteArray) : List AV := encUri1 a

theorem encUri_inj (a a' : ByteArray) (h : encUri a = encUri a') : a = a' := by
  simp only [encUri, encUri1] at h
  try simp  at h
  grind

theorem unUri (s : ByteArray) : unenc encUri ([(vS s)]) = some (s) := unenc_of encUri_inj (s) rfl

def resUri1 (s : ByteArray) : AV × Heap := (vI (F.uriFault s), [])

def preUri1 (s : ByteArray) : Bool := true

noncomputable def oUri : Orc := orc 30 true encUri (fun a => preUri1 a) fun a => resUri1 a

theorem okUri : OrcOK Tryd.prog noG oUri := by
  refine mk_ok Tryd.f30 (keep := false) (by kernel_rfl) (by kernel_rfl) enUri_ok mixed (no_loops (by kernel_rfl)) (by first | exact fun _ _ => ⟨rfl, rfl⟩ | (intro h; cases h)) ?_
  rintro s _ hok
  show (runF enUri false _ (encUri1 _)).val = some (resUri1 _)
  unfold encUri1 resUri1
  rw [evUri, unOut]
  simp only [Option.bind_some, unVis]
  unfold F.uriFault F.b0
  rw [F.bs_get]
  have h0 := F.bs_len s
  cases h1 : F.out s.size 1 200
  · have : 0 < s.size := by simp [F.out] at h1; omega
    cases hb : F.bs s with
    | nil => rw [hb] at h0; simp at h0; omega
    | cons b l =>
      simp
      grind
  · simp

def stName (s : ByteArray) (k : Nat) : St := ⟨[(20, vI k), (19, vI s.size), (0, vS s)], []⟩

def stName1 (a : ByteArray × Nat) : St := stName a.1 a.2

theorem stName_inj (a a' : ByteArray × Nat) (h : stName1 a = stName1 a') : a = a' := by
  simp only [stName1, stName] at h
  try simp  at h
  grind

theorem unstName (s : ByteArray) (k : Nat) : unenc stName1 (St.mk [(20, (vI (↑k : Int))), (19, (vI (↑(ByteArray.size s) : Int))), (0, (vS s))] []) = some (s, k) := unenc_of stName_inj (s, k) rfl

theorem unstName0 (s : ByteArray)  : unenc stName1 (St.mk [(20, (vI (0 : Int))), (19, (vI (↑(ByteArray.size s) : Int))), (0, (vS s))] []) = some (s, 0) := unenc_of stName_inj (s, 0) rfl

def outName (s : ByteArray) (k : Nat) : T (Ex × St) := .ifB (F.nameL ((F.bs s).drop k)) (.ret (.exit 0, ⟨[], []⟩)) (.ret (.ret, ⟨[(2, vB false)], []⟩))

noncomputable def prlName (s : ByteArray) (k : Nat) : Bool := decide (s.size ≤ 9223372036854775807) && decide (k ≤ s.size)

noncomputable def lpName : Nat × (St → T (Ex × St)) := (4, lpo [20, 19, 0] [] stName1 (fun a => prlName a.1 a.2) fun a => outName a.1 a.2)

noncomputable def enName : Env := envH ty noG lks [oLetter, oDigit] [] [] [lpName]

theorem enName_ok : EnvOK Tryd.prog enName := by
  refine envH_ok lks_ok ty_ok ?_ ?_
  · simp only [List.forall_mem_cons]
    exact ⟨okLetter, okDigit, by simp⟩
  · simp

theorem evNameL (s : ByteArray) (k : Nat) : ((exec enName (loopN Tryd.f31 0) (stName s k)).bind (lessX ([20, 19, 0], []) ([], []) ([2], []))).val =
  bif decide ((↑k : Int) < (↑(ByteArray.size s) : Int)) then Option.bind s[k]? fun (z : UInt8) => Option.bind (unenc encLetter [(vU (↑(UInt8.toNat z) : Int))]) fun (z : Int)
  => bif !F.letter z then Option.bind s[k]? fun (z_1 : UInt8) => bif !F.letter z then Option.bind (unenc encDigit [(vU (↑(UInt8.toNat z_1) : Int))]) fun (z_2 : Int) => bif
  bif !F.letter z then !F.digit z_2 else false then Option.bind s[k]? fun (z_3 : UInt8) => bif bif bif !F.letter z then !F.digit z_2 else false then (↑(UInt8.toNat z_3) :
  Int) != (45 : Int) else false then some (Ex.ret, St.mk [(2, (vB false))] []) else some (Ex.normal, St.mk [(20, (vI (IntKind.wrap IntKind.i64 ((↑k : Int) + (1 : Int))))),
  (19, (vI (↑(ByteArray.size s) : Int))), (0, (vS s))] []) else bif bif !F.letter z then !F.digit z_2 else false then none else some (Ex.normal, St.mk [(20, (vI
  (IntKind.wrap IntKind.i64 ((↑k : Int) + (1 : Int))))), (19, (vI (↑(ByteArray.size s) : Int))), (0, (vS s))] []) else bif !F.letter z then none else some (Ex.normal, St.mk
  [(20, (vI (IntKind.wrap IntKind.i64 ((↑k : Int) + (1 : Int))))), (19, (vI (↑(ByteArray.size s) : Int))), (0, (vS s))] []) else bif !F.letter z then Option.bind (unenc
  encDigit [AV.unk]) fun (z_1 : Int) => bif bif !F.letter z then !F.digit z_1 else false then Option.bind s[k]? fun (z_2 : UInt8) => bif bif bif !F.letter z then !F.digit
  z_1 else false then (↑(UInt8.toNat z_2) : Int) != (45 : Int) else false then some (Ex.ret, St.mk [(2, (vB false))] []) else some (Ex.normal, St.mk [(20, (vI (IntKind.wrap
  IntKind.i64 ((↑k : Int) + (1 : Int))))), (19, (vI (↑(ByteArray.size s) : Int))), (0, (vS s))] []) else bif bif !F.letter z then !F.digit z_1 else false then none else some
  (Ex.normal, St.mk [(20, (vI (IntKind.wrap IntKind.i64 ((↑k : Int) + (1 : Int))))), (19, (vI (↑(ByteArray.size s) : Int))), (0, (vS s))] []) else bif !F.letter z then none
  else some (Ex.normal, St.mk [(20, (vI (IntKind.wrap IntKind.i64 ((↑k : Int) + (1 : Int))))), (19, (vI (↑(ByteArray.size s) : Int))), (0, (vS s))] []) else some (Ex.exit (0
  : Nat), St.mk [] []) := by kernel_rfl

theorem evName (s : ByteArray) : (runF enName false Tryd.f31 [vS s]).val =
  bif !bif (↑(ByteArray.size s) : Int) == (0 : Int) then true else decide ((40 : Int) < (↑(ByteArray.size s) : Int)) then Option.bind s[(0 : Nat)]? fun (z : UInt8) => bif
  !bif (↑(ByteArray.size s) : Int) == (0 : Int) then true else decide ((40 : Int) < (↑(ByteArray.size s) : Int)) then Option.bind (unenc encLetter [(vU (↑(UInt8.toNat z) :
  Int))]) fun (z : Int) => bif bif bif (↑(ByteArray.size s) : Int) == (0 : Int) then true else decide ((40 : Int) < (↑(ByteArray.size s) : Int)) then true else !F.letter z
  then some ((vB false), []) else Option.bind (unenc stName1 (St.mk [(20, (vI (0 : Int))), (19, (vI (↑(ByteArray.size s) : Int))), (0, (vS s))] [])) fun (z : ByteArray ×
  Nat) => bif decide (ByteArray.size z.fst ≤ (9223372036854775807 : Nat)) && decide (z.snd ≤ ByteArray.size z.fst) && true then bif F.nameL (List.drop z.snd (F.bs z.fst))
  then some ((vB true), []) else some ((vB false), []) else none else bif !bif (↑(ByteArray.size s) : Int) == (0 : Int) then true else decide ((40 : Int) < (↑(ByteArray.size
  s) : Int)) then none else some ((vB false), []) else bif !bif (↑(ByteArray.size s) : Int) == (0 : Int) then true else decide ((40 : Int) < (↑(ByteArray.size s) : Int))
  then Option.bind (unenc encLetter [AV.unk]) fun (z : Int) => bif bif bif (↑(ByteArray.size s) : Int) == (0 : Int) then true else decide ((40 : Int) < (↑(ByteArray.size s)
  : Int)) then true else !F.letter z then some ((vB false), []) else Option.bind (unenc stName1 (St.mk [(20, (vI (0 : Int))), (19, (vI (↑(ByteArray.size s) : Int))), (0, (vS
  s))] [])) fun (z : ByteArray × Nat) => bif decide (ByteArray.size z.fst ≤ (9223372036854775807 : Nat)) && decide (z.snd ≤ ByteArray.size z.fst) && true then bif F.nameL
  (List.drop z.snd (F.bs z.fst)) then some ((vB true), []) else some ((vB false), []) else none else bif !bif (↑(ByteArray.size s) : Int) == (0 : Int) then true else decide
  ((40 : Int) < (↑(ByteArray.size s) : Int)) then none else some ((vB false), []) := by kernel_rfl

theorem lpName_ok (s : ByteArray) (hs : s.size ≤ 9223372036854775807) (k : Nat) (hk : k ≤ s.size) : ∀ e s', (outName s k).val = some (e, s') → LoopOK enName (loopN Tryd.f31 0) (stName s k) e s' := by
  refine loop_all (xs := F.bs s) (st := stName s) (n := ([20, 19, 0], [])) (e := ([], [])) (r := ([2], [])) ?_ ⟨by simp, rfl⟩ ⟨by simp, rfl⟩ (fun _ => rfl) ?_ k (by rw [F.bs_len]; exact hk)
  · rw [evNameL, F.bs_len]; simp
  · intro k y hy
    have hk : k < s.size := by rw [← F.bs_len]; exact (List.getElem?_eq_some_iff.1 hy).1
    have hkz : ((k : Int) < (s.size : Int)) := by omega
    have hw : IntKind.i64.wrap ((k : Int) + 1) = ((k + 1 : Nat) : Int) := by rw [wrap_id (by omega) (by omega)]; rfl
    rw [evNameL, F.bs_get, hy]
    simp only [hkz, decide_true, Option.bind_some, hw, unLetter, unDigit, F.nameB, stName]
    grind

def encName1 (s : ByteArray) : List AV := [vS s]

def encName (a : ByteArray) : List AV := encName1 a

theorem encName_inj (a a' : ByteArray) (h : encName a = encName a') : a = a' := by
  simp only [encName, encName1] at h
  try simp  at h
  grind

theorem unName (s : ByteArray) : unenc encName ([(vS s)]) = some (s) := unenc_of encName_inj (s) rfl

def resName1 (s : ByteArray) : AV × Heap := (vB (F.isName s), [])

def preName1 (s : ByteArray) : Bool := true

noncomputable def oName : Orc := orc 31 true encName (fun a => preName1 a) fun a => resName1 a

theorem okName : OrcOK Tryd.prog noG oName := by
  refine mk_ok Tryd.f31 (keep := false) (by kernel_rfl) (by kernel_rfl) enName_ok mixed (one_loop (x0 := loopN Tryd.f31 0) (by kernel_rfl) (lpo_ok ?_)) (by first | exact fun _ _ => ⟨rfl, rfl⟩ | (intro h; cases h)) ?_
  · rintro ⟨s, k⟩ hp
    simp only [prlName, Bool.and_eq_true, decide_eq_true_eq] at hp
    exact lpName_ok s hp.1 k hp.2
  · rintro s _ hok
    have hs := okA_str (hok _ (List.mem_cons_self ..))
    show (runF enName false _ (encName1 _)).val = some (resName1 _)
    unfold encName1 resName1
    rw [evName]
    have h0 := F.bs_len s
    simp only [Option.bind_some, unLetter, unstName0, F.bs_get, F.isName, F.b0, hs]
    cases hb : F.bs s with
    | nil => rw [hb] at h0; simp at h0; simp [← h0]
    | cons b l =>
      rw [hb] at h0
      simp at h0
      have a1 : ((s.size : Int) == 0) = false := by rw [beq_eq_false_iff_ne]; omega
      have a2 : decide ((40 : Int) < s.size) = !decide (s.size ≤ 40) := by by_cases h : s.size ≤ 40 <;> simp [h] <;> omega
      have a3 : decide (s.size ≠ 0) = true := decide_eq_true (by omega)
      simp only [a1, a2, a3]
      cases decide (s.size ≤ 40) <;> cases h1 : F.letter b.toNat <;> cases h2 : F.nameL (b :: l) <;> simp [h1, h2]

end M
end Go.Proofs.YtgkjfochkhiojaaDoor
