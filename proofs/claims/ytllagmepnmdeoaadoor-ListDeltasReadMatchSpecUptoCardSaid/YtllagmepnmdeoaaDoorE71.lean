/- What is proved here: the reference's number, and times of a list's text (no statement of the seat). -/
import Derived.Test.YtllagmepnmdeoaaDoorE52
import Derived.Test.YtllagmepnmdeoaaDoorE57
import Derived.Lib.AtoiErrMem
namespace Go.Proofs.YtllagmepnmdeoaaDoor
open Go Go.RowKit
set_option linter.unusedVariables false
set_option linter.unusedSimpArgs false

theorem F.isD_le {s : ByteArray} (h : F.isD s = true) : F.dv s ≤ 9223372036854775807 := by
  unfold F.isD at h
  simp only [Bool.and_eq_true, decide_eq_true_eq] at h
  exact h.2

def F.dot : ByteArray := ⟨⟨[46]⟩⟩

/-- A time of a text: seconds, a point and three digits. -/
def F.milOk (s : ByteArray) : Bool := F.numOk (F.cutH s F.dot) 16 && F.cutF s F.dot && decide ((F.cutT s F.dot).size = 3) && (F.bs (F.cutT s F.dot)).all F.dgB

def F.milV (s : ByteArray) : Int := bif F.milOk s then min (F.numV (F.cutH s F.dot) 16) 1000000000000000 * 1000 + (F.dv (F.cutT s F.dot) : Nat) else 0

namespace M


def encAto1 (s : ByteArray) : List AV := [vS s]

def encAto (a : ByteArray) : List AV := encAto1 a

theorem encAto_inj (a a' : ByteArray) (h : encAto a = encAto a') : a = a' := by
  simp only [encAto, encAto1] at h
  try simp [strs_inj, ints_inj, ents_inj, eEnt_iff, eLst_iff, eSnds_inj, eStrms_inj] at h
  grind

theorem unAto (s : ByteArray) : unenc encAto ([(vS s)]) = some (s) := unenc_of encAto_inj (s) rfl

def resAto1 (s : ByteArray) : AV × Heap := (.tup [vI (F.dv s : Nat), .v .nilIface], [])

def preAto1 (s : ByteArray) : Bool := F.isD s && decide (s.size ≤ 1000)

noncomputable def oAto : Orc := orc 56 true encAto (fun a => preAto1 a) fun a => resAto1 a

theorem okAto : OrcOK Tryd.prog noG oAto := by
  refine orc_ok ⟨Tryd.f56, by kernel_rfl, by kernel_rfl, by kernel_rfl⟩ (fun s hp _ => ?_) (fun _ _ => ⟨rfl, rfl⟩)
  simp only [preAto1, Bool.and_eq_true, decide_eq_true_eq] at hp
  have h1 := F.isD_ato hp.1
  have h2 := F.isD_le hp.1
  refine SpecP.below1 (rv := .tuple #[.int .i64 (F.dv s : Nat), .nilIface]) (fun w S => ⟨[_, _], rfl, R0.v (by simp only [okAtom, IntKind.min, IntKind.max, IntKind.signed, IntKind.bits]; simp; omega), R0.v trivial, trivial⟩) fun hk w S hG => ?_
  refine (Tryd.strconv_Atoi_ok s (by omega) (F.dv s : Nat) h1 w).mono ?_
  rintro e w' ⟨he, h | ⟨t, h⟩⟩
  · subst h; exact ⟨he, Below.refl _ _⟩
  · subst h; exact ⟨he, Lib.bytesWorld_below w _ _⟩

def stRNu (s : ByteArray) (k : Nat) : St := ⟨[(6, vI k), (0, vS s)], []⟩

def stRNu1 (a : ByteArray × Nat) : St := stRNu a.1 a.2

theorem stRNu_inj (a a' : ByteArray × Nat) (h : stRNu1 a = stRNu1 a') : a = a' := by
  simp only [stRNu1, stRNu] at h
  try simp [strs_inj, ints_inj, ents_inj, eEnt_iff, eLst_iff, eSnds_inj, eStrms_inj] at h
  grind

theorem unstRNu (s : ByteArray) (k : Nat) : unenc stRNu1 (St.mk [(6, (vI (↑k : Int))), (0, (vS s))] []) = some (s, k) := unenc_of stRNu_inj (s, k) rfl

theorem unstRNu0 (s : ByteArray)  : unenc stRNu1 (St.mk [(6, (vI (0 : Int))), (0, (vS s))] []) = some (s, 0) := unenc_of stRNu_inj (s, 0) rfl

def outRNu (s : ByteArray) (k : Nat) : T (Ex × St) := .ifB (((F.bs s).drop k).all F.dgB) (.ret (.exit 0, ⟨[(0, vS s)], []⟩)) (.ret (.ret, ⟨[(5, vB false), (4, vI 0)], []⟩))

noncomputable def prlRNu (s : ByteArray) (k : Nat) : Bool := decide (s.size ≤ 18) && decide (k ≤ s.size)

noncomputable def lpRNu : Nat × (St → T (Ex × St)) := (4, lpo [6, 0] [] stRNu1 (fun a => prlRNu a.1 a.2) fun a => outRNu a.1 a.2)

noncomputable def enRNu : Env := envH ty noG lks [oAto] [] [] [lpRNu]

theorem enRNu_ok : EnvOK Tryd.prog enRNu := by
  refine envH_ok lks_ok ty_ok ?_ ?_
  · simp only [List.forall_mem_cons]
    exact ⟨okAto, by simp⟩
  · simp

theorem evRNuL (s : ByteArray) (k : Nat) : ((exec enRNu (loopN Tryd.f55 0) (stRNu s k)).bind (lessX ([6, 0], []) ([0], []) ([5, 4], []))).val =
  bif decide ((↑k : Int) < (↑(ByteArray.size s) : Int)) then Option.bind s[k]? fun (z : UInt8) => bif !decide ((↑(UInt8.toNat z) : Int) < (48 : Int)) then Option.bind s[k]?
  fun (z : UInt8) => bif decide ((57 : Int) < (↑(UInt8.toNat z) : Int)) then some (Ex.ret, St.mk [(5, (vB false)), (4, (vI (0 : Int)))] []) else some (Ex.normal, St.mk [(6,
  (vI (IntKind.wrap IntKind.i64 ((↑k : Int) + (1 : Int))))), (0, (vS s))] []) else some (Ex.ret, St.mk [(5, (vB false)), (4, (vI (0 : Int)))] []) else some (Ex.exit (0 :
  Nat), St.mk [(0, (vS s))] []) := (execR_bind _ _ _).symm.trans (by kernel_rfl)

theorem lpRNu_ok (s : ByteArray) (k : Nat) (hp : prlRNu s k = true) : ∀ ex s', (outRNu s k).val = some (ex, s') → LoopOK enRNu (loopN Tryd.f55 0) (stRNu s k) ex s' := by
  simp only [prlRNu, Bool.and_eq_true, decide_eq_true_eq] at hp
  obtain ⟨h1, h2⟩ := hp
  refine loop_gen (st := fun k => stRNu s k) (out := fun k => outRNu s k) (I := fun k => k ≤ s.size) (n := ([6, 0], [])) (e := ([0], [])) (r := ([5, 4], [])) (fun k => s.size - k) ?_ k h2
  clear h2
  intro k hk
  have hl := F.bs_len s
  by_cases hlt : k < s.size
  · have hy : (F.bs s)[k]? = some ((F.bs s)[k]'(by omega)) := List.getElem?_eq_getElem (by omega)
    generalize (F.bs s)[k]'(by omega) = y at hy
    have hd := drop_y hy
    have hb : (bif decide ((y.toNat : Int) < 48) then true else decide ((57 : Int) < (y.toNat : Int))) = !F.dgB y := by
      unfold F.dgB
      by_cases a1 : 48 ≤ y.toNat <;> by_cases a2 : y.toNat ≤ 57 <;> simp [a1, a2] <;> omega
    cases hc : F.dgB y
    · left
      refine ⟨(.ret, ⟨[(5, vB false), (4, vI 0)], []⟩), ?_, ?_, by simp, rfl⟩
      · rw [evRNuL]
        simp only [unAto, preAto1, unstRNu, unstRNu0, prlRNu, outRNu, etaEnt, etaLst, etaSnd, etaStrm, etaMas, Option.bind_some, List.length_map, unStrs, unInts, unBools, unEnts, unItms, unTrns, cond_true, cond_false, Bool.and_true, Bool.true_and, cast_lt hlt, F.bs_get, hy]
        rw [hc] at hb
        first | (rw [hb]; rfl) | (cases h1 : decide ((y.toNat : Int) < 48) <;> cases h2 : decide ((57 : Int) < (y.toNat : Int)) <;> rw [h1, h2] at hb <;> simp_all)
      · simp only [outRNu, hd, List.all_cons, hc]
        rfl
    · right
      refine ⟨k + 1, ?_, rfl, hlt, by omega, ?_⟩
      · rw [evRNuL]
        simp only [unAto, preAto1, unstRNu, unstRNu0, prlRNu, outRNu, etaEnt, etaLst, etaSnd, etaStrm, etaMas, Option.bind_some, List.length_map, unStrs, unInts, unBools, unEnts, unItms, unTrns, cond_true, cond_false, Bool.and_true, Bool.true_and, cast_lt hlt, F.bs_get, hy, next_at hlt (by omega : s.size ≤ 9223372036854775807), stRNu]
        rw [hc] at hb
        first | (rw [hb]; rfl) | (cases h1 : decide ((y.toNat : Int) < 48) <;> cases h2 : decide ((57 : Int) < (y.toNat : Int)) <;> rw [h1, h2] at hb <;> simp_all)
      · simp only [outRNu, hd, List.all_cons, hc, Bool.true_and]
  · have : k = s.size := by omega
    subst this
    have hd : (F.bs s).drop s.size = [] := List.drop_eq_nil_of_le (by omega)
    left
    refine ⟨(.exit 0, ⟨[(0, vS s)], []⟩), ?_, ?_, by simp, rfl⟩
    · rw [evRNuL]; simp
    · simp only [outRNu, hd, List.all_nil]
      rfl

theorem evRNu (s : ByteArray) (most : Int) : (runF enRNu false Tryd.f55 [vS s, vI most]).val =
  bif (!bif ByteArray.toList s == ByteArray.toList (ByteArray.mk (Array.mk [])) then true else decide (most < (↑(ByteArray.size s) : Int))) && decide ((1 : Int) <
  (↑(ByteArray.size s) : Int)) then Option.bind s[(0 : Nat)]? fun (z : UInt8) => bif bif bif ByteArray.toList s == ByteArray.toList (ByteArray.mk (Array.mk [])) then true
  else decide (most < (↑(ByteArray.size s) : Int)) then true else (↑(UInt8.toNat z) : Int) == (48 : Int) then some (AV.tup [(vI (0 : Int)), (vB false)], []) else Option.bind
  (unenc stRNu1 (St.mk [(6, (vI (0 : Int))), (0, (vS s))] [])) fun (z : ByteArray × Nat) => bif decide (ByteArray.size z.fst ≤ (18 : Nat)) && decide (z.snd ≤ ByteArray.size
  z.fst) && true then bif List.all (List.drop z.snd (F.bs z.fst)) F.dgB then Option.bind (unenc encAto [(vS z.fst)]) fun (z : ByteArray) => bif F.isD z && decide
  (ByteArray.size z ≤ (1000 : Nat)) then some (AV.tup [(vI (↑(F.dv z) : Int)), (vB true)], []) else none else some (AV.tup [(vI (0 : Int)), (vB false)], []) else none else
  bif (!bif ByteArray.toList s == ByteArray.toList (ByteArray.mk (Array.mk [])) then true else decide (most < (↑(ByteArray.size s) : Int))) && decide ((1 : Int) <
  (↑(ByteArray.size s) : Int)) then none else bif bif bif ByteArray.toList s == ByteArray.toList (ByteArray.mk (Array.mk [])) then true else decide (most < (↑(ByteArray.size
  s) : Int)) then true else false then some (AV.tup [(vI (0 : Int)), (vB false)], []) else Option.bind (unenc stRNu1 (St.mk [(6, (vI (0 : Int))), (0, (vS s))] [])) fun (z :
  ByteArray × Nat) => bif decide (ByteArray.size z.fst ≤ (18 : Nat)) && decide (z.snd ≤ ByteArray.size z.fst) && true then bif List.all (List.drop z.snd (F.bs z.fst)) F.dgB
  then Option.bind (unenc encAto [(vS z.fst)]) fun (z : ByteArray) => bif F.isD z && decide (ByteArray.size z ≤ (1000 : Nat)) then some (AV.tup [(vI (↑(F.dv z) : Int)), (vB
  true)], []) else none else some (AV.tup [(vI (0 : Int)), (vB false)], []) else none := (runFR_val).symm.trans (by kernel_rfl)

def encRNu1 (s : ByteArray) (most : Int) : List AV := [vS s, vI most]

def encRNu (a : ByteArray × Int) : List AV := encRNu1 a.1 a.2

theorem encRNu_inj (a a' : ByteArray × Int) (h : encRNu a = encRNu a') : a = a' := by
  simp only [encRNu, encRNu1] at h
  try simp [strs_inj, ints_inj, ents_inj, eEnt_iff, eLst_iff, eSnds_inj, eStrms_inj] at h
  grind

theorem unRNu (s : ByteArray) (most : Int) : unenc encRNu ([(vS s), (vI most)]) = some (s, most) := unenc_of encRNu_inj (s, most) rfl

def resRNu1 (s : ByteArray) (most : Int) : AV × Heap := (.tup [vI (F.numV s most), vB (F.numOk s most)], [])

def preRNu1 (s : ByteArray) (most : Int) : Bool := decide (most ≤ 18)

noncomputable def oRNu : Orc := orc 55 true encRNu (fun a => preRNu1 a.1 a.2) fun a => resRNu1 a.1 a.2

theorem okRNu : OrcOK Tryd.prog noG oRNu := by
  refine mk_ok Tryd.f55 (keep := false) (by kernel_rfl) (by kernel_rfl) enRNu_ok mixed (one_loop (x0 := loopN Tryd.f55 0) (by kernel_rfl) (lpo_ok ?_)) (by first | exact fun _ _ => ⟨rfl, rfl⟩ | (intro h; cases h)) ?_
  · rintro ⟨s, k⟩ hp
    exact lpRNu_ok s k hp
  rintro ⟨s, most⟩ hpre hok
  show (runF enRNu false _ (encRNu1 _ _)).val = some (resRNu1 _ _)
  unfold encRNu1 resRNu1
  rw [evRNu]
  have hpre : most ≤ 18 := of_decide_eq_true hpre
  have h0 := F.bs_len s
  simp only [unAto, preAto1, unstRNu, unstRNu0, prlRNu, outRNu, etaEnt, etaLst, etaSnd, etaStrm, etaMas, Option.bind_some, List.length_map, unStrs, unInts, unBools, unEnts, unItms, unTrns, cond_true, cond_false, Bool.and_true, Bool.true_and, List.drop_zero, Nat.zero_le, decide_true, F.empty_eq]
  unfold F.numV F.numOk
  by_cases hz : s.size = 0
  · rw [decide_eq_false (by omega : ¬ s.size ≠ 0)]
    rfl
  · rw [decide_eq_true hz]
    by_cases hm : most < (s.size : Int)
    · rw [decide_eq_true hm, decide_eq_false (by omega : ¬ (s.size : Int) ≤ most)]
      simp
    · rw [decide_eq_false hm, decide_eq_true (by omega : (s.size : Int) ≤ most), decide_eq_true (by omega : s.size ≤ 18), decide_eq_true (by omega : s.size ≤ 1000)]
      have hb : (F.bs s)[0]? = some ((F.bs s)[0]'(by omega)) := List.getElem?_eq_getElem (by omega)
      generalize (F.bs s)[0]'(by omega) = b at hb
      have hb0 : F.b0 s = (b.toNat : Int) := by unfold F.b0; rw [hb]
      have hs0 : s[0]? = some b := by rw [F.bs_get]; exact hb
      have e2 : decide ((1 : Int) < (s.size : Int)) = decide (1 < s.size) := decide_eq_decide.2 (by omega)
      have e3 : ((b.toNat : Int) == 48) = decide ((b.toNat : Int) = 48) := by by_cases h : (b.toNat : Int) = 48 <;> simp [h]
      have hD : (F.bs s).all F.dgB = true → F.isD s = true := fun ha => by
        have hlt := F.dvA_lt _ ha
        rw [h0] at hlt
        have hp18 : 10 ^ s.size ≤ 10 ^ 18 := Nat.pow_le_pow_right (by decide) (by omega)
        unfold F.isD F.dv
        rw [ha, decide_eq_true (by omega : 0 < s.size), decide_eq_true (by omega)]
        rfl
      rw [hb0, hs0]
      simp only [e2, e3, Option.bind_some, Bool.not_false, Bool.not_true, Bool.true_and, cond_false, cond_true]
      by_cases ha : (F.bs s).all F.dgB = true
      · have hd := hD ha
        simp only [ha, hd]
        cases decide ((b.toNat : Int) = 48) <;> cases decide (1 < s.size) <;> rfl
      · have ha : (F.bs s).all F.dgB = false := by cases h : (F.bs s).all F.dgB <;> simp_all
        simp only [ha]
        cases decide ((b.toNat : Int) = 48) <;> cases decide (1 < s.size) <;> rfl

end M
end Go.Proofs.YtllagmepnmdeoaaDoor
