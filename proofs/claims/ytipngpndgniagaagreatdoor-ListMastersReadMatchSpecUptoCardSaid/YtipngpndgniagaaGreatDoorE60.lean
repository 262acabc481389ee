/- What is proved here: what the reference's words, number, sound and stream return (no statement of the seat). -/
import Derived.Test.YtipngpndgniagaaGreatDoorE55
import Derived.Test.YtipngpndgniagaaGreatDoorE34
import Derived.Lib.AtoiErrMem
namespace Go.Proofs.YtipngpndgniagaaGreatDoor
open Go Go.RowKit
set_option linter.unusedVariables false
set_option linter.unusedSimpArgs false

theorem F.isD_le {s : ByteArray} (h : F.isD s = true) : F.dv s ≤ 9223372036854775807 := by
  unfold F.isD at h
  simp only [Bool.and_eq_true, decide_eq_true_eq] at h
  exact h.2

def F.sndR (w : List ByteArray) : Snd := bif F.isSnd w then F.sndOf w ⟨⟨[]⟩⟩ else ⟨⟨⟨[]⟩⟩, ⟨⟨[]⟩⟩, ⟨⟨[]⟩⟩, false, ⟨⟨[]⟩⟩⟩

/-- The numbers of a stream's words from a place on. -/
def F.nmB (w : List ByteArray) : Nat → Nat → Bool
  | 0, _ => true
  | n + 1, k => F.numOk (F.wAt w k) 11 && F.nmB w n (k + 1)

def F.nmW (w : List ByteArray) : Nat → Nat → List Int
  | 0, _ => []
  | n + 1, k => F.numV (F.wAt w k) 11 :: F.nmW w n (k + 1)

def F.nmA (w : List ByteArray) (k : Nat) : Bool := F.nmB w (6 - k) k

def F.nmV (w : List ByteArray) (k : Nat) : List Int := F.nmW w (6 - k) k

theorem F.nmA_2 (w : List ByteArray) : F.nmA w 2 = F.numsOk w := by
  show (F.numOk (F.wAt w 2) 11 && (F.numOk (F.wAt w 3) 11 && (F.numOk (F.wAt w 4) 11 && (F.numOk (F.wAt w 5) 11 && true)))) = _
  unfold F.numsOk
  simp only [Bool.and_true, Bool.and_assoc]

theorem F.nmV_2 (w : List ByteArray) : F.nmV w 2 = [F.numV (F.wAt w 2) 11, F.numV (F.wAt w 3) 11, F.numV (F.wAt w 4) 11, F.numV (F.wAt w 5) 11] := rfl

def F.strR (w : List ByteArray) : Strm := bif F.isStr w && F.numsOk w then F.strOf w ⟨⟨[]⟩⟩ else ⟨⟨⟨[]⟩⟩, ⟨⟨[]⟩⟩, 0, 0, 0, 0, ⟨⟨[]⟩⟩⟩

namespace M


def encAto1 (s : ByteArray) : List AV := [vS s]

def encAto (a : ByteArray) : List AV := encAto1 a

theorem encAto_inj (a a' : ByteArray) (h : encAto a = encAto a') : a = a' := by
  simp only [encAto, encAto1] at h
  try simp [strs_inj, ints_inj, ents_inj, eEnt_iff, eLst_iff, eSnds_inj, eStrms_inj] at h
  grind

theorem unAto (s : ByteArray) : unenc encAto ([(vS s)]) = some (s) := unenc_of encAto_inj (s) rfl

def resAto1 (s : ByteArray) : AV × Heap := (.tup [vI (F.dv s : Nat), .v .nilIface], [])

def preAto1 (s : ByteArray) : Bool := F.isD s && decide (s.size ≤ 1000)

noncomputable def oAto : Orc := orc 50 true encAto (fun a => preAto1 a) fun a => resAto1 a

theorem okAto : OrcOK Tryz.prog noG oAto := by
  refine orc_ok ⟨Tryz.f50, by kernel_rfl, by kernel_rfl, by kernel_rfl⟩ (fun s hp _ => ?_) (fun _ _ => ⟨rfl, rfl⟩)
  simp only [preAto1, Bool.and_eq_true, decide_eq_true_eq] at hp
  have h1 := F.isD_ato hp.1
  have h2 := F.isD_le hp.1
  refine SpecP.below1 (rv := .tuple #[.int .i64 (F.dv s : Nat), .nilIface]) (fun w S => ⟨[_, _], rfl, R0.v (by simp only [okAtom, IntKind.min, IntKind.max, IntKind.signed, IntKind.bits]; simp; omega), R0.v trivial, trivial⟩) fun hk w S hG => ?_
  refine (Tryz.strconv_Atoi_ok s (by omega) (F.dv s : Nat) h1 w).mono ?_
  rintro e w' ⟨he, h | ⟨t, h⟩⟩
  · subst h; exact ⟨he, Below.refl _ _⟩
  · subst h; exact ⟨he, Lib.bytesWorld_below w _ _⟩

def stRNu (s : ByteArray) (k : Nat) : St := ⟨[(6, vI k), (0, vS s)], []⟩

def stRNu1 (a : ByteArray × Nat) : St := stRNu a.1 a.2

theorem stRNu_inj (a a' : ByteArray × Nat) (h : stRNu1 a = stRNu1 a') : a = a' := by
  simp only [stRNu1, stRNu] at h
  try simp [strs_inj, ints_inj, ents_inj, eEnt_iff, eLst_iff, eSnds_inj, eStrms_inj] at h
  grind

theorem unstRNu (s : ByteArray) (k : Nat) : unenc stRNu1 (St.mk [(6, (vI (↑k : Int))), (0, (vS s))] []) = some (s, k) := unenc_of stRNu_inj (s, k) rfl

theorem unstRNu0 (s : ByteArray)  : unenc stRNu1 (St.mk [(6, (vI (0 : Int))), (0, (vS s))] []) = some (s, 0) := unenc_of stRNu_inj (s, 0) rfl

def outRNu (s : ByteArray) (k : Nat) : T (Ex × St) := .ifB (((F.bs s).drop k).all F.dgB) (.ret (.exit 0, ⟨[(0, vS s)], []⟩)) (.ret (.ret, ⟨[(5, vB false), (4, vI 0)], []⟩))

noncomputable def prlRNu (s : ByteArray) (k : Nat) : Bool := decide (s.size ≤ 18) && decide (k ≤ s.size)

noncomputable def lpRNu : Nat × (St → T (Ex × St)) := (4, lpo [6, 0] [] stRNu1 (fun a => prlRNu a.1 a.2) fun a => outRNu a.1 a.2)

noncomputable def enRNu : Env := envH ty noG lks [oAto] [] [] [lpRNu]

theorem enRNu_ok : EnvOK Tryz.prog enRNu := by
  refine envH_ok lks_ok ty_ok ?_ ?_
  · simp only [List.forall_mem_cons]
    exact ⟨okAto, by simp⟩
  · simp

theorem evRNuL (s : ByteArray) (k : Nat) : ((exec enRNu (loopN Tryz.f32 0) (stRNu s k)).bind (lessX ([6, 0], []) ([0], []) ([5, 4], []))).val =
  bif decide ((↑k : Int) < (↑(ByteArray.size s) : Int)) then Option.bind s[k]? fun (z : UInt8) => bif !decide ((↑(UInt8.toNat z) : Int) < (48 : Int)) then Option.bind s[k]?
  fun (z : UInt8) => bif decide ((57 : Int) < (↑(UInt8.toNat z) : Int)) then some (Ex.ret, St.mk [(5, (vB false)), (4, (vI (0 : Int)))] []) else some (Ex.normal, St.mk [(6,
  (vI (IntKind.wrap IntKind.i64 ((↑k : Int) + (1 : Int))))), (0, (vS s))] []) else some (Ex.ret, St.mk [(5, (vB false)), (4, (vI (0 : Int)))] []) else some (Ex.exit (0 :
  Nat), St.mk [(0, (vS s))] []) := (execR_bind _ _ _).symm.trans (by kernel_rfl)

theorem lpRNu_ok (s : ByteArray) (k : Nat) (hp : prlRNu s k = true) : ∀ ex s', (outRNu s k).val = some (ex, s') → LoopOK enRNu (loopN Tryz.f32 0) (stRNu s k) ex s' := by
  simp only [prlRNu, Bool.and_eq_true, decide_eq_true_eq] at hp
  obtain ⟨h1, h2⟩ := hp
  refine loop_gen (st := fun k => stRNu s k) (out := fun k => outRNu s k) (I := fun k => k ≤ s.size) (n := ([6, 0], [])) (e := ([0], [])) (r := ([5, 4], [])) (fun k => s.size - k) ?_ k h2
  clear h2
  intro k hk
  have hl := F.bs_len s
  by_cases hlt : k < s.size
  · have hy : (F.bs s)[k]? = some ((F.bs s)[k]'(by omega)) := List.getElem?_eq_getElem (by omega)
    generalize (F.bs s)[k]'(by omega) = y at hy
    have hd := drop_y hy
    have hb : (bif decide ((y.toNat : Int) < 48) then true else decide ((57 : Int) < (y.toNat : Int))) = !F.dgB y := by
      unfold F.dgB
      by_cases a1 : 48 ≤ y.toNat <;> by_cases a2 : y.toNat ≤ 57 <;> simp [a1, a2] <;> omega
    cases hc : F.dgB y
    · left
      refine ⟨(.ret, ⟨[(5, vB false), (4, vI 0)], []⟩), ?_, ?_, by simp, rfl⟩
      · rw [evRNuL]
        simp only [unAto, preAto1, unstRNu, unstRNu0, prlRNu, outRNu, etaEnt, etaLst, etaSnd, etaStrm, etaMas, Option.bind_some, List.length_map, unStrs, unInts, unBools, unEnts, unItms, unTrns, cond_true, cond_false, Bool.and_true, Bool.true_and, cast_lt hlt, F.bs_get, hy]
        rw [hc] at hb
        first | (rw [hb]; rfl) | (cases h1 : decide ((y.toNat : Int) < 48) <;> cases h2 : decide ((57 : Int) < (y.toNat : Int)) <;> rw [h1, h2] at hb <;> simp_all)
      · simp only [outRNu, hd, List.all_cons, hc]
        rfl
    · right
      refine ⟨k + 1, ?_, rfl, hlt, by omega, ?_⟩
      · rw [evRNuL]
        simp only [unAto, preAto1, unstRNu, unstRNu0, prlRNu, outRNu, etaEnt, etaLst, etaSnd, etaStrm, etaMas, Option.bind_some, List.length_map, unStrs, unInts, unBools, unEnts, unItms, unTrns, cond_true, cond_false, Bool.and_true, Bool.true_and, cast_lt hlt, F.bs_get, hy, next_at hlt (by omega : s.size ≤ 9223372036854775807), stRNu]
        rw [hc] at hb
        first | (rw [hb]; rfl) | (cases h1 : decide ((y.toNat : Int) < 48) <;> cases h2 : decide ((57 : Int) < (y.toNat : Int)) <;> rw [h1, h2] at hb <;> simp_all)
      · simp only [outRNu, hd, List.all_cons, hc, Bool.true_and]
  · have : k = s.size := by omega
    subst this
    have hd : (F.bs s).drop s.size = [] := List.drop_eq_nil_of_le (by omega)
    left
    refine ⟨(.exit 0, ⟨[(0, vS s)], []⟩), ?_, ?_, by simp, rfl⟩
    · rw [evRNuL]; simp
    · simp only [outRNu, hd, List.all_nil]
      rfl

theorem evRNu (s : ByteArray) (most : Int) : (runF enRNu false Tryz.f32 [vS s, vI most]).val =
  bif (!bif ByteArray.toList s == ByteArray.toList (ByteArray.mk (Array.mk [])) then true else decide (most < (↑(ByteArray.size s) : Int))) && decide ((1 : Int) <
  (↑(ByteArray.size s) : Int)) then Option.bind s[(0 : Nat)]? fun (z : UInt8) => bif bif bif ByteArray.toList s == ByteArray.toList (ByteArray.mk (Array.mk [])) then true
  else decide (most < (↑(ByteArray.size s) : Int)) then true else (↑(UInt8.toNat z) : Int) == (48 : Int) then some (AV.tup [(vI (0 : Int)), (vB false)], []) else Option.bind
  (unenc stRNu1 (St.mk [(6, (vI (0 : Int))), (0, (vS s))] [])) fun (z : ByteArray × Nat) => bif decide (ByteArray.size z.fst ≤ (18 : Nat)) && decide (z.snd ≤ ByteArray.size
  z.fst) && true then bif List.all (List.drop z.snd (F.bs z.fst)) F.dgB then Option.bind (unenc encAto [(vS z.fst)]) fun (z : ByteArray) => bif F.isD z && decide
  (ByteArray.size z ≤ (1000 : Nat)) then some (AV.tup [(vI (↑(F.dv z) : Int)), (vB true)], []) else none else some (AV.tup [(vI (0 : Int)), (vB false)], []) else none else
  bif (!bif ByteArray.toList s == ByteArray.toList (ByteArray.mk (Array.mk [])) then true else decide (most < (↑(ByteArray.size s) : Int))) && decide ((1 : Int) <
  (↑(ByteArray.size s) : Int)) then none else bif bif bif ByteArray.toList s == ByteArray.toList (ByteArray.mk (Array.mk [])) then true else decide (most < (↑(ByteArray.size
  s) : Int)) then true else false then some (AV.tup [(vI (0 : Int)), (vB false)], []) else Option.bind (unenc stRNu1 (St.mk [(6, (vI (0 : Int))), (0, (vS s))] [])) fun (z :
  ByteArray × Nat) => bif decide (ByteArray.size z.fst ≤ (18 : Nat)) && decide (z.snd ≤ ByteArray.size z.fst) && true then bif List.all (List.drop z.snd (F.bs z.fst)) F.dgB
  then Option.bind (unenc encAto [(vS z.fst)]) fun (z : ByteArray) => bif F.isD z && decide (ByteArray.size z ≤ (1000 : Nat)) then some (AV.tup [(vI (↑(F.dv z) : Int)), (vB
  true)], []) else none else some (AV.tup [(vI (0 : Int)), (vB false)], []) else none := (runFR_val).symm.trans (by kernel_rfl)

def encRNu1 (s : ByteArray) (most : Int) : List AV := [vS s, vI most]

def encRNu (a : ByteArray × Int) : List AV := encRNu1 a.1 a.2

theorem encRNu_inj (a a' : ByteArray × Int) (h : encRNu a = encRNu a') : a = a' := by
  simp only [encRNu, encRNu1] at h
  try simp [strs_inj, ints_inj, ents_inj, eEnt_iff, eLst_iff, eSnds_inj, eStrms_inj] at h
  grind

theorem unRNu (s : ByteArray) (most : Int) : unenc encRNu ([(vS s), (vI most)]) = some (s, most) := unenc_of encRNu_inj (s, most) rfl

def resRNu1 (s : ByteArray) (most : Int) : AV × Heap := (.tup [vI (F.numV s most), vB (F.numOk s most)], [])

def preRNu1 (s : ByteArray) (most : Int) : Bool := decide (most ≤ 18)

noncomputable def oRNu : Orc := orc 32 true encRNu (fun a => preRNu1 a.1 a.2) fun a => resRNu1 a.1 a.2

theorem okRNu : OrcOK Tryz.prog noG oRNu := by
  refine mk_ok Tryz.f32 (keep := false) (by kernel_rfl) (by kernel_rfl) enRNu_ok mixed (one_loop (x0 := loopN Tryz.f32 0) (by kernel_rfl) (lpo_ok ?_)) (by first | exact fun _ _ => ⟨rfl, rfl⟩ | (intro h; cases h)) ?_
  · rintro ⟨s, k⟩ hp
    exact lpRNu_ok s k hp
  rintro ⟨s, most⟩ hpre hok
  show (runF enRNu false _ (encRNu1 _ _)).val = some (resRNu1 _ _)
  unfold encRNu1 resRNu1
  rw [evRNu]
  have hpre : most ≤ 18 := of_decide_eq_true hpre
  have h0 := F.bs_len s
  simp only [unAto, preAto1, unstRNu, unstRNu0, prlRNu, outRNu, etaEnt, etaLst, etaSnd, etaStrm, etaMas, Option.bind_some, List.length_map, unStrs, unInts, unBools, unEnts, unItms, unTrns, cond_true, cond_false, Bool.and_true, Bool.true_and, List.drop_zero, Nat.zero_le, decide_true, F.empty_eq]
  unfold F.numV F.numOk
  by_cases hz : s.size = 0
  · rw [decide_eq_false (by omega : ¬ s.size ≠ 0)]
    rfl
  · rw [decide_eq_true hz]
    by_cases hm : most < (s.size : Int)
    · rw [decide_eq_true hm, decide_eq_false (by omega : ¬ (s.size : Int) ≤ most)]
      simp
    · rw [decide_eq_false hm, decide_eq_true (by omega : (s.size : Int) ≤ most), decide_eq_true (by omega : s.size ≤ 18), decide_eq_true (by omega : s.size ≤ 1000)]
      have hb : (F.bs s)[0]? = some ((F.bs s)[0]'(by omega)) := List.getElem?_eq_getElem (by omega)
      generalize (F.bs s)[0]'(by omega) = b at hb
      have hb0 : F.b0 s = (b.toNat : Int) := by unfold F.b0; rw [hb]
      have hs0 : s[0]? = some b := by rw [F.bs_get]; exact hb
      have e2 : decide ((1 : Int) < (s.size : Int)) = decide (1 < s.size) := decide_eq_decide.2 (by omega)
      have e3 : ((b.toNat : Int) == 48) = decide ((b.toNat : Int) = 48) := by by_cases h : (b.toNat : Int) = 48 <;> simp [h]
      have hD : (F.bs s).all F.dgB = true → F.isD s = true := fun ha => by
        have hlt := F.dvA_lt _ ha
        rw [h0] at hlt
        have hp18 : 10 ^ s.size ≤ 10 ^ 18 := Nat.pow_le_pow_right (by decide) (by omega)
        unfold F.isD F.dv
        rw [ha, decide_eq_true (by omega : 0 < s.size), decide_eq_true (by omega)]
        rfl
      rw [hb0, hs0]
      simp only [e2, e3, Option.bind_some, Bool.not_false, Bool.not_true, Bool.true_and, cond_false, cond_true]
      by_cases ha : (F.bs s).all F.dgB = true
      · have hd := hD ha
        simp only [ha, hd]
        cases decide ((b.toNat : Int) = 48) <;> cases decide (1 < s.size) <;> rfl
      · have ha : (F.bs s).all F.dgB = false := by cases h : (F.bs s).all F.dgB <;> simp_all
        simp only [ha]
        cases decide ((b.toNat : Int) = 48) <;> cases decide (1 < s.size) <;> rfl

theorem evRSn (w : List ByteArray) : (runF en0 false Tryz.f16 [.sl (w.map eStr)]).val =
  bif !bif (↑(List.length (List.map eStr w)) : Int) != (4 : Int) then (↑(List.length (List.map eStr w)) : Int) != (5 : Int) else false then Option.bind (unenc (List.map
  eStr) (List.map eStr w)) fun (z : List ByteArray) => bif decide ((0 : Nat) < List.length z) then bif !!ByteArray.toList (List.getD z (0 : Nat) (ByteArray.mk (Array.mk
  []))) == ByteArray.toList (ByteArray.mk (Array.mk [(35 : UInt8), (83 : UInt8), (79 : UInt8), (85 : UInt8), (78 : UInt8), (68 : UInt8)])) && (↑(List.length (List.map eStr
  w)) : Int) == (5 : Int) then Option.bind (unenc (List.map eStr) (List.map eStr w)) fun (z_1 : List ByteArray) => bif decide ((4 : Nat) < List.length z_1) then bif bif
  !ByteArray.toList (List.getD z (0 : Nat) (ByteArray.mk (Array.mk []))) == ByteArray.toList (ByteArray.mk (Array.mk [(35 : UInt8), (83 : UInt8), (79 : UInt8), (85 : UInt8),
  (78 : UInt8), (68 : UInt8)])) then true else !ByteArray.toList (List.getD z_1 (4 : Nat) (ByteArray.mk (Array.mk []))) == ByteArray.toList (ByteArray.mk (Array.mk [(68 :
  UInt8), (69 : UInt8), (70 : UInt8), (65 : UInt8), (85 : UInt8), (76 : UInt8), (84 : UInt8)])) then some (AV.tup [AV.agg [(vS (ByteArray.mk (Array.mk []))), (vS
  (ByteArray.mk (Array.mk []))), (vS (ByteArray.mk (Array.mk []))), (vB false), (vS (ByteArray.mk (Array.mk [])))], (vB false)], []) else Option.bind (unenc (List.map eStr)
  (List.map eStr w)) fun (z : List ByteArray) => bif decide ((1 : Nat) < List.length z) then Option.bind (unenc (List.map eStr) (List.map eStr w)) fun (z_2 : List ByteArray)
  => bif decide ((2 : Nat) < List.length z_2) then Option.bind (unenc (List.map eStr) (List.map eStr w)) fun (z_3 : List ByteArray) => bif decide ((3 : Nat) < List.length
  z_3) then some (AV.tup [AV.agg [(vS (List.getD z (1 : Nat) (ByteArray.mk (Array.mk [])))), (vS (List.getD z_2 (2 : Nat) (ByteArray.mk (Array.mk [])))), (vS (List.getD z_3
  (3 : Nat) (ByteArray.mk (Array.mk [])))), (vB ((↑(List.length (List.map eStr w)) : Int) == (5 : Int))), (vS (ByteArray.mk (Array.mk [])))], (vB true)], []) else none else
  none else none else none else bif !!ByteArray.toList (List.getD z (0 : Nat) (ByteArray.mk (Array.mk []))) == ByteArray.toList (ByteArray.mk (Array.mk [(35 : UInt8), (83 :
  UInt8), (79 : UInt8), (85 : UInt8), (78 : UInt8), (68 : UInt8)])) && (↑(List.length (List.map eStr w)) : Int) == (5 : Int) then none else bif !!ByteArray.toList (List.getD
  z (0 : Nat) (ByteArray.mk (Array.mk []))) == ByteArray.toList (ByteArray.mk (Array.mk [(35 : UInt8), (83 : UInt8), (79 : UInt8), (85 : UInt8), (78 : UInt8), (68 :
  UInt8)])) && (↑(List.length (List.map eStr w)) : Int) == (5 : Int) then none else bif bif !ByteArray.toList (List.getD z (0 : Nat) (ByteArray.mk (Array.mk []))) ==
  ByteArray.toList (ByteArray.mk (Array.mk [(35 : UInt8), (83 : UInt8), (79 : UInt8), (85 : UInt8), (78 : UInt8), (68 : UInt8)])) then true else false then some (AV.tup
  [AV.agg [(vS (ByteArray.mk (Array.mk []))), (vS (ByteArray.mk (Array.mk []))), (vS (ByteArray.mk (Array.mk []))), (vB false), (vS (ByteArray.mk (Array.mk [])))], (vB
  false)], []) else Option.bind (unenc (List.map eStr) (List.map eStr w)) fun (z : List ByteArray) => bif decide ((1 : Nat) < List.length z) then Option.bind (unenc
  (List.map eStr) (List.map eStr w)) fun (z_1 : List ByteArray) => bif decide ((2 : Nat) < List.length z_1) then Option.bind (unenc (List.map eStr) (List.map eStr w)) fun
  (z_2 : List ByteArray) => bif decide ((3 : Nat) < List.length z_2) then some (AV.tup [AV.agg [(vS (List.getD z (1 : Nat) (ByteArray.mk (Array.mk [])))), (vS (List.getD z_1
  (2 : Nat) (ByteArray.mk (Array.mk [])))), (vS (List.getD z_2 (3 : Nat) (ByteArray.mk (Array.mk [])))), (vB ((↑(List.length (List.map eStr w)) : Int) == (5 : Int))), (vS
  (ByteArray.mk (Array.mk [])))], (vB true)], []) else none else none else none else none else some (AV.tup [AV.agg [(vS (ByteArray.mk (Array.mk []))), (vS (ByteArray.mk
  (Array.mk []))), (vS (ByteArray.mk (Array.mk []))), (vB false), (vS (ByteArray.mk (Array.mk [])))], (vB false)], []) := (runFR_val).symm.trans (by kernel_rfl)

def encRSn1 (w : List ByteArray) : List AV := [.sl (w.map eStr)]

def encRSn (a : (List ByteArray)) : List AV := encRSn1 a

theorem encRSn_inj (a a' : (List ByteArray)) (h : encRSn a = encRSn a') : a = a' := by
  simp only [encRSn, encRSn1] at h
  try simp [strs_inj, ints_inj, ents_inj, eEnt_iff, eLst_iff, eSnds_inj, eStrms_inj] at h
  grind

theorem unRSn (w : List ByteArray) : unenc encRSn ([AV.sl (List.map eStr w)]) = some (w) := unenc_of encRSn_inj (w) rfl

def resRSn1 (w : List ByteArray) : AV × Heap := (.tup [.agg (eSnd (F.sndR w)), vB (F.isSnd w)], [])

def preRSn1 (w : List ByteArray) : Bool := true

noncomputable def oRSn : Orc := orc 16 false encRSn (fun a => preRSn1 a) fun a => resRSn1 a

theorem okRSn : OrcOK Tryz.prog noG oRSn := by
  refine mk_ok Tryz.f16 (keep := false) (by kernel_rfl) (by kernel_rfl) en0_ok mixed (no_loops (by kernel_rfl)) (by first | exact fun _ _ => ⟨rfl, rfl⟩ | (intro h; cases h)) ?_
  rintro w hpre hok
  show (runF en0 false _ (encRSn1 _)).val = some (resRSn1 _)
  unfold encRSn1 resRSn1
  rw [evRSn]
  have q0 : ((w.getD 0 (⟨⟨[]⟩⟩ : ByteArray)).toList == (⟨⟨[35, 83, 79, 85, 78, 68]⟩⟩ : ByteArray).toList) = F.seq (F.wAt w 0) F.kSnd := rfl
  have q4 : ((w.getD 4 (⟨⟨[]⟩⟩ : ByteArray)).toList == (⟨⟨[68, 69, 70, 65, 85, 76, 84]⟩⟩ : ByteArray).toList) = F.seq (F.wAt w 4) F.kDef := rfl
  simp only [etaEnt, etaLst, etaSnd, etaStrm, etaMas, Option.bind_some, List.length_map, unStrs, unInts, unBools, unEnts, unItms, unTrns, cond_true, cond_false, Bool.and_true, Bool.true_and, q0, q4, bne]
  unfold F.sndR F.sndOf F.isSnd
  generalize F.seq (F.wAt w 0) F.kSnd = a
  generalize F.seq (F.wAt w 4) F.kDef = b
  by_cases l4 : w.length = 4
  · simp only [l4]
    cases a <;> cases b <;> rfl
  by_cases l5 : w.length = 5
  · simp only [l5]
    cases a <;> cases b <;> rfl
  have e4 : ((w.length : Int) == 4) = false := by simp; omega
  have e5 : ((w.length : Int) == 5) = false := by simp; omega
  simp only [e4, e5, decide_eq_false l4, decide_eq_false l5]
  cases a <;> cases b <;> rfl

def stRSt (w : List ByteArray) (ns : List Int) (k : Nat) : St := ⟨[(5, vI k), (4, .own 4), (2, .ptr 2 0 0), (0, .sl (w.map eStr))], [(4, ⟨false, 3, 1, ns.map eI⟩), (2, ⟨true, 0, 0, [[vS ⟨⟨[]⟩⟩, vS ⟨⟨[]⟩⟩, vI 0, vI 0, vI 0, vI 0, vS ⟨⟨[]⟩⟩]]⟩)]⟩

def stRSt1 (a : (List ByteArray) × (List Int) × Nat) : St := stRSt a.1 a.2.1 a.2.2

theorem stRSt_inj (a a' : (List ByteArray) × (List Int) × Nat) (h : stRSt1 a = stRSt1 a') : a = a' := by
  simp only [stRSt1, stRSt] at h
  try simp [strs_inj, ints_inj, ents_inj, eEnt_iff, eLst_iff, eSnds_inj, eStrms_inj] at h
  grind

theorem unstRSt (w : List ByteArray) (ns : List Int) (k : Nat) : unenc stRSt1 (St.mk [(5, (vI (↑k : Int))), (4, .own 4), (2, .ptr 2 0 0), (0, AV.sl (List.map eStr w))] [(4, Blk.mk false 3 1 (List.map eI ns)), (2, Blk.mk true 0 0 [[(vS (ByteArray.mk
  (Array.mk []))), (vS (ByteArray.mk (Array.mk []))), (vI (0 : Int)), (vI (0 : Int)), (vI (0 : Int)), (vI (0 : Int)), (vS (ByteArray.mk (Array.mk [])))]])]) = some (w, ns, k) := unenc_of stRSt_inj (w, ns, k) rfl

theorem unstRSt0 (w : List ByteArray)  : unenc stRSt1 (St.mk [(5, (vI (2 : Int))), (4, .own 4), (2, .ptr 2 0 0), (0, AV.sl (List.map eStr w))] [(4, Blk.mk false 3 1 []), (2, Blk.mk true 0 0 [[(vS (ByteArray.mk (Array.mk []))),
  (vS (ByteArray.mk (Array.mk []))), (vI (0 : Int)), (vI (0 : Int)), (vI (0 : Int)), (vI (0 : Int)), (vS (ByteArray.mk (Array.mk [])))]])]) = some (w, [], 2) := unenc_of stRSt_inj (w, [], 2) rfl

def outRSt (w : List ByteArray) (ns : List Int) (k : Nat) : T (Ex × St) := .ifB (F.nmA w k) (.ret (.exit 0, ⟨[(4, .own 4), (2, .ptr 2 0 0), (0, .sl (w.map eStr))], [(4, ⟨false, 3, 1, (ns ++ F.nmV w k).map eI⟩), (2, ⟨true, 0, 0, [[vS ⟨⟨[]⟩⟩, vS ⟨⟨[]⟩⟩, vI 0, vI 0, vI 0, vI 0, vS ⟨⟨[]⟩⟩]]⟩)]⟩))
      (.ret (.ret, ⟨[(3, vB false), (2, .ptr 2 0 0)], [(2, ⟨true, 0, 0, [[vS ⟨⟨[]⟩⟩, vS ⟨⟨[]⟩⟩, vI 0, vI 0, vI 0, vI 0, vS ⟨⟨[]⟩⟩]]⟩)]⟩))

noncomputable def prlRSt (w : List ByteArray) (ns : List Int) (k : Nat) : Bool := decide (w.length = 7) && decide (2 ≤ k) && decide (k ≤ 6) && decide (ns.length ≤ 10)

noncomputable def lpRSt : Nat × (St → T (Ex × St)) := (5, lpo [5, 4, 2, 0] [4, 2] stRSt1 (fun a => prlRSt a.1 a.2.1 a.2.2) fun a => outRSt a.1 a.2.1 a.2.2)

noncomputable def enRSt : Env := envH ty noG lks [oRNu] [] [] [lpRSt]

theorem enRSt_ok : EnvOK Tryz.prog enRSt := by
  refine envH_ok lks_ok ty_ok ?_ ?_
  · simp only [List.forall_mem_cons]
    exact ⟨okRNu, by simp⟩
  · simp

theorem evRStL (w : List ByteArray) (ns : List Int) (k : Nat) : ((exec enRSt (loopN Tryz.f17 0) (stRSt w ns k)).bind (lessX ([5, 4, 2, 0], [4, 2]) ([4, 2, 0], [4, 2]) ([3, 2], [2]))).val =
  bif decide ((↑k : Int) < (6 : Int)) then Option.bind (unenc (List.map eStr) (List.map eStr w)) fun (z : List ByteArray) => bif decide (k < List.length z) then Option.bind
  (unenc encRNu [(vS (List.getD z k (ByteArray.mk (Array.mk [])))), (vI (11 : Int))]) fun (z : ByteArray × Int) => bif decide (z.snd ≤ (18 : Int)) then bif !F.numOk z.fst
  z.snd then some (Ex.ret, St.mk [(3, (vB false)), (2, .ptr 2 0 0)] [(2, Blk.mk true 0 0 [[(vS (ByteArray.mk (Array.mk []))), (vS (ByteArray.mk (Array.mk []))), (vI (0 :
  Int)), (vI (0 : Int)), (vI (0 : Int)), (vI (0 : Int)), (vS (ByteArray.mk (Array.mk [])))]])]) else bif Nat.ble ((List.length (List.map eI ns) + (1 : Nat)) * (8 : Nat))
  (140737488355328 : Nat) && true then some (Ex.normal, St.mk [(5, (vI (IntKind.wrap IntKind.i64 ((↑k : Int) + (1 : Int))))), (4, .own 4), (2, .ptr 2 0 0), (0, AV.sl
  (List.map eStr w))] [(4, Blk.mk false 3 1 (List.map eI ns ++ [[(vI (F.numV z.fst z.snd))]])), (2, Blk.mk true 0 0 [[(vS (ByteArray.mk (Array.mk []))), (vS (ByteArray.mk
  (Array.mk []))), (vI (0 : Int)), (vI (0 : Int)), (vI (0 : Int)), (vI (0 : Int)), (vS (ByteArray.mk (Array.mk [])))]])]) else none else none else none else some (Ex.exit (0
  : Nat), St.mk [(4, .own 4), (2, .ptr 2 0 0), (0, AV.sl (List.map eStr w))] [(4, Blk.mk false 3 1 (List.map eI ns)), (2, Blk.mk true 0 0 [[(vS (ByteArray.mk (Array.mk
  []))), (vS (ByteArray.mk (Array.mk []))), (vI (0 : Int)), (vI (0 : Int)), (vI (0 : Int)), (vI (0 : Int)), (vS (ByteArray.mk (Array.mk [])))]])]) := (execR_bind _ _ _).symm.trans (by kernel_rfl)

theorem lpRSt_ok (w : List ByteArray) (ns : List Int) (k : Nat) (hp : prlRSt w ns k = true) : ∀ ex s', (outRSt w ns k).val = some (ex, s') → LoopOK enRSt (loopN Tryz.f17 0) (stRSt w ns k) ex s' := by
  simp only [prlRSt, Bool.and_eq_true, decide_eq_true_eq] at hp
  obtain ⟨⟨⟨h7, h1⟩, h2⟩, h3⟩ := hp
  refine loop_gen (st := fun p : List Int × Nat => stRSt w p.1 p.2) (out := fun p => outRSt w p.1 p.2) (I := fun p => 2 ≤ p.2 ∧ p.2 ≤ 6 ∧ p.1.length ≤ 10 + p.2) (n := ([5, 4, 2, 0], [4, 2])) (e := ([4, 2, 0], [4, 2])) (r := ([3, 2], [2])) (fun p => 6 - p.2) ?_ (ns, k) ⟨h1, h2, by simp only; omega⟩
  clear h1 h2 h3
  rintro ⟨ns, k⟩ ⟨h1, h2, h3⟩
  simp only at h1 h2 h3
  have d18 : decide ((11 : Int) ≤ 18) = true := rfl
  by_cases hlt : k < 6
  · have hkw : k < w.length := by omega
    have hy : w[k]? = some w[k] := List.getElem?_eq_getElem hkw
    have hyA : w[k] = F.wAt w k := by unfold F.wAt; simp [List.getD, hy]
    rw [hyA] at hy
    have hb : Nat.ble ((ns.length + 1) * 8) 140737488355328 = true := ble_t (by omega)
    have hs : F.nmA w k = (F.numOk (F.wAt w k) 11 && F.nmA w (k + 1)) ∧ F.nmV w k = F.numV (F.wAt w k) 11 :: F.nmV w (k + 1) := by
      obtain ⟨j, hj⟩ : ∃ j, 6 - k = j + 1 := ⟨6 - k - 1, by omega⟩
      unfold F.nmA F.nmV
      rw [hj, show 6 - (k + 1) = j by omega]
      exact ⟨rfl, rfl⟩
    cases hc : F.numOk (F.wAt w k) 11
    · left
      refine ⟨(.ret, ⟨[(3, vB false), (2, .ptr 2 0 0)], [(2, ⟨true, 0, 0, [[vS ⟨⟨[]⟩⟩, vS ⟨⟨[]⟩⟩, vI 0, vI 0, vI 0, vI 0, vS ⟨⟨[]⟩⟩]]⟩)]⟩), ?_, ?_, by simp, rfl⟩
      · rw [evRStL]
        simp only [unRNu, preRNu1, unstRSt, unstRSt0, prlRSt, outRSt, etaEnt, etaLst, etaSnd, etaStrm, etaMas, Option.bind_some, List.length_map, unStrs, unInts, unBools, unEnts, unItms, unTrns, cond_true, cond_false, Bool.and_true, Bool.true_and, decide_eq_true (by omega : (k : Int) < 6), decide_eq_true hkw, getD_at hy, d18, hc]
        rfl
      · simp only [outRSt, hs.1, hc]
        rfl
    · right
      refine ⟨(ns ++ [F.numV (F.wAt w k) 11], k + 1), ?_, rfl, ⟨by simp only; omega, by simp only; omega, by simp; omega⟩, by simp only; omega, ?_⟩
      · rw [evRStL]
        simp only [unRNu, preRNu1, unstRSt, unstRSt0, prlRSt, outRSt, etaEnt, etaLst, etaSnd, etaStrm, etaMas, Option.bind_some, List.length_map, unStrs, unInts, unBools, unEnts, unItms, unTrns, cond_true, cond_false, Bool.and_true, Bool.true_and, decide_eq_true (by omega : (k : Int) < 6), decide_eq_true hkw, getD_at hy, d18, hc, hb, next_at hkw (by omega : w.length ≤ 9223372036854775807), stRSt]
        rw [List.map_append]
        rfl
      · simp only [outRSt, hs.1, hs.2, hc, Bool.true_and, List.append_assoc, List.singleton_append]
  · have hk6 : k = 6 := by omega
    left
    refine ⟨(.exit 0, ⟨[(4, .own 4), (2, .ptr 2 0 0), (0, .sl (w.map eStr))], [(4, ⟨false, 3, 1, ns.map eI⟩), (2, ⟨true, 0, 0, [[vS ⟨⟨[]⟩⟩, vS ⟨⟨[]⟩⟩, vI 0, vI 0, vI 0, vI 0, vS ⟨⟨[]⟩⟩]]⟩)]⟩), ?_, ?_, by simp, rfl⟩
    · rw [evRStL]
      simp only [unRNu, preRNu1, unstRSt, unstRSt0, prlRSt, outRSt, etaEnt, etaLst, etaSnd, etaStrm, etaMas, Option.bind_some, List.length_map, unStrs, unInts, unBools, unEnts, unItms, unTrns, cond_true, cond_false, Bool.and_true, Bool.true_and, decide_eq_false (by omega : ¬ (k : Int) < 6)]
    · subst hk6
      simp only [outRSt, show F.nmA w 6 = true from rfl, show F.nmV w 6 = [] from rfl, List.append_nil]
      rfl

theorem evRSt (w : List ByteArray) : (runF enRSt false Tryz.f17 [.sl (w.map eStr)]).val =
  bif !(↑(List.length (List.map eStr w)) : Int) != (7 : Int) then Option.bind (unenc (List.map eStr) (List.map eStr w)) fun (z : List ByteArray) => bif decide ((0 : Nat) <
  List.length z) then bif !ByteArray.toList (List.getD z (0 : Nat) (ByteArray.mk (Array.mk []))) == ByteArray.toList (ByteArray.mk (Array.mk [(35 : UInt8), (83 : UInt8), (84
  : UInt8), (82 : UInt8), (69 : UInt8), (65 : UInt8), (77 : UInt8)])) then some (AV.tup [AV.agg [(vS (ByteArray.mk (Array.mk []))), (vS (ByteArray.mk (Array.mk []))), (vI (0
  : Int)), (vI (0 : Int)), (vI (0 : Int)), (vI (0 : Int)), (vS (ByteArray.mk (Array.mk [])))], (vB false)], []) else Option.bind (unenc stRSt1 (St.mk [(5, (vI (2 : Int))),
  (4, .own 4), (2, .ptr 2 0 0), (0, AV.sl (List.map eStr w))] [(4, Blk.mk false 3 1 []), (2, Blk.mk true 0 0 [[(vS (ByteArray.mk (Array.mk []))), (vS (ByteArray.mk (Array.mk
  []))), (vI (0 : Int)), (vI (0 : Int)), (vI (0 : Int)), (vI (0 : Int)), (vS (ByteArray.mk (Array.mk [])))]])])) fun (z : List ByteArray × List Int × Nat) => bif decide
  (List.length z.fst = (7 : Nat)) && decide ((2 : Nat) ≤ z.snd.snd) && decide (z.snd.snd ≤ (6 : Nat)) && decide (List.length z.snd.fst ≤ (10 : Nat)) && true then bif F.nmA
  z.fst z.snd.snd then Option.bind (unenc (List.map eStr) (List.map eStr z.fst)) fun (z_1 : List ByteArray) => bif decide ((1 : Nat) < List.length z_1) then bif decide ((0 :
  Nat) < List.length (Blk.mk false 3 1 (List.map eI (z.snd.fst ++ F.nmV z.fst z.snd.snd))).rows) then Option.bind (unenc (List.map eI) (List.map eI (z.snd.fst ++ F.nmV z.fst
  z.snd.snd))) fun (z_2 : List Int) => bif decide ((0 : Nat) < List.length z_2) then bif decide ((1 : Nat) < List.length (Blk.mk false 3 1 (List.map eI (z.snd.fst ++ F.nmV
  z.fst z.snd.snd))).rows) then Option.bind (unenc (List.map eI) (List.map eI (z.snd.fst ++ F.nmV z.fst z.snd.snd))) fun (z_3 : List Int) => bif decide ((1 : Nat) <
  List.length z_3) then bif decide ((2 : Nat) < List.length (Blk.mk false 3 1 (List.map eI (z.snd.fst ++ F.nmV z.fst z.snd.snd))).rows) then Option.bind (unenc (List.map eI)
  (List.map eI (z.snd.fst ++ F.nmV z.fst z.snd.snd))) fun (z_4 : List Int) => bif decide ((2 : Nat) < List.length z_4) then bif decide ((3 : Nat) < List.length (Blk.mk false
  3 1 (List.map eI (z.snd.fst ++ F.nmV z.fst z.snd.snd))).rows) then Option.bind (unenc (List.map eI) (List.map eI (z.snd.fst ++ F.nmV z.fst z.snd.snd))) fun (z_5 : List
  Int) => bif decide ((3 : Nat) < List.length z_5) then Option.bind (unenc (List.map eStr) (List.map eStr z.fst)) fun (z : List ByteArray) => bif decide ((6 : Nat) <
  List.length z) then bif ByteArray.toList (List.getD z (6 : Nat) (ByteArray.mk (Array.mk []))) == ByteArray.toList (ByteArray.mk (Array.mk [(45 : UInt8)])) then some
  (AV.tup [AV.agg [(vS (List.getD z_1 (1 : Nat) (ByteArray.mk (Array.mk [])))), (vS (ByteArray.mk (Array.mk []))), (vI (List.getD z_2 (0 : Nat) (0 : Int))), (vI (List.getD
  z_3 (1 : Nat) (0 : Int))), (vI (List.getD z_4 (2 : Nat) (0 : Int))), (vI (List.getD z_5 (3 : Nat) (0 : Int))), (vS (ByteArray.mk (Array.mk [])))], (vB true)], []) else
  some (AV.tup [AV.agg [(vS (List.getD z_1 (1 : Nat) (ByteArray.mk (Array.mk [])))), (vS (ByteArray.mk (Array.mk []))), (vI (List.getD z_2 (0 : Nat) (0 : Int))), (vI
  (List.getD z_3 (1 : Nat) (0 : Int))), (vI (List.getD z_4 (2 : Nat) (0 : Int))), (vI (List.getD z_5 (3 : Nat) (0 : Int))), (vS (List.getD z (6 : Nat) (ByteArray.mk
  (Array.mk []))))], (vB true)], []) else none else none else none else none else none else none else none else none else none else none else some (AV.tup [AV.agg [(vS
  (ByteArray.mk (Array.mk []))), (vS (ByteArray.mk (Array.mk []))), (vI (0 : Int)), (vI (0 : Int)), (vI (0 : Int)), (vI (0 : Int)), (vS (ByteArray.mk (Array.mk [])))], (vB
  false)], []) else none else none else some (AV.tup [AV.agg [(vS (ByteArray.mk (Array.mk []))), (vS (ByteArray.mk (Array.mk []))), (vI (0 : Int)), (vI (0 : Int)), (vI (0 :
  Int)), (vI (0 : Int)), (vS (ByteArray.mk (Array.mk [])))], (vB false)], []) := (runFR_val).symm.trans (by kernel_rfl)

def encRSt1 (w : List ByteArray) : List AV := [.sl (w.map eStr)]

def encRSt (a : (List ByteArray)) : List AV := encRSt1 a

theorem encRSt_inj (a a' : (List ByteArray)) (h : encRSt a = encRSt a') : a = a' := by
  simp only [encRSt, encRSt1] at h
  try simp [strs_inj, ints_inj, ents_inj, eEnt_iff, eLst_iff, eSnds_inj, eStrms_inj] at h
  grind

theorem unRSt (w : List ByteArray) : unenc encRSt ([AV.sl (List.map eStr w)]) = some (w) := unenc_of encRSt_inj (w) rfl

def resRSt1 (w : List ByteArray) : AV × Heap := (.tup [.agg (eStrm (F.strR w)), vB (F.isStr w && F.numsOk w)], [])

def preRSt1 (w : List ByteArray) : Bool := true

noncomputable def oRSt : Orc := orc 17 false encRSt (fun a => preRSt1 a) fun a => resRSt1 a

theorem okRSt : OrcOK Tryz.prog noG oRSt := by
  refine mk_ok Tryz.f17 (keep := false) (by kernel_rfl) (by kernel_rfl) enRSt_ok mixed (one_loop (x0 := loopN Tryz.f17 0) (by kernel_rfl) (lpo_ok ?_)) (by first | exact fun _ _ => ⟨rfl, rfl⟩ | (intro h; cases h)) ?_
  · rintro ⟨w, ns, k⟩ hp
    exact lpRSt_ok w ns k hp
  rintro w hpre hok
  show (runF enRSt false _ (encRSt1 _)).val = some (resRSt1 _)
  unfold encRSt1 resRSt1
  rw [evRSt]
  have q1 : ((w.getD 0 (⟨⟨[]⟩⟩ : ByteArray)).toList == (⟨⟨[35, 83, 84, 82, 69, 65, 77]⟩⟩ : ByteArray).toList) = F.seq (F.wAt w 0) F.kStr := rfl
  have q6 : ((w.getD 6 (⟨⟨[]⟩⟩ : ByteArray)).toList == (⟨⟨[45]⟩⟩ : ByteArray).toList) = F.seq (F.wAt w 6) ⟨⟨[45]⟩⟩ := rfl
  simp only [unRNu, preRNu1, unstRSt, unstRSt0, prlRSt, outRSt, etaEnt, etaLst, etaSnd, etaStrm, etaMas, Option.bind_some, List.length_map, unStrs, unInts, unBools, unEnts, unItms, unTrns, cond_true, cond_false, Bool.and_true, Bool.true_and, q1, q6, bne, F.nmA_2, F.nmV_2, List.nil_append]
  unfold F.strR F.strOf F.isStr F.undash
  generalize F.seq (F.wAt w 0) F.kStr = a
  generalize F.numsOk w = nm
  generalize hb : F.seq (F.wAt w 6) ⟨⟨[45]⟩⟩ = b
  by_cases l7 : w.length = 7
  · simp only [l7]
    cases a
    · rfl
    cases nm
    · rfl
    cases b <;> rfl
  · have e7 : ((w.length : Int) == 7) = false := by simp; omega
    simp only [e7, decide_eq_false l7]
    cases a <;> rfl

def stRWd (w : List ByteArray) (k : Nat) : St := ⟨[(5, vI k), (4, .sl (w.map eStr))], []⟩

def stRWd1 (a : (List ByteArray) × Nat) : St := stRWd a.1 a.2

theorem stRWd_inj (a a' : (List ByteArray) × Nat) (h : stRWd1 a = stRWd1 a') : a = a' := by
  simp only [stRWd1, stRWd] at h
  try simp [strs_inj, ints_inj, ents_inj, eEnt_iff, eLst_iff, eSnds_inj, eStrms_inj] at h
  grind

theorem unstRWd (w : List ByteArray) (k : Nat) : unenc stRWd1 (St.mk [(5, (vI (↑k : Int))), (4, AV.sl (List.map eStr w))] []) = some (w, k) := unenc_of stRWd_inj (w, k) rfl

theorem unstRWd0 (w : List ByteArray)  : unenc stRWd1 (St.mk [(5, (vI (0 : Int))), (4, AV.sl (List.map eStr w))] []) = some (w, 0) := unenc_of stRWd_inj (w, 0) rfl

def outRWd (w : List ByteArray) (k : Nat) : T (Ex × St) := .ifB ((w.drop k).all F.wdB) (.ret (.exit 0, ⟨[(4, .sl (w.map eStr))], []⟩)) (.ret (.ret, ⟨[(3, vB false), (2, .own 2)], [(2, ⟨false, 9, 1, []⟩)]⟩))

noncomputable def prlRWd (w : List ByteArray) (k : Nat) : Bool := decide (w.length ≤ 9223372036854775807) && decide (k ≤ w.length)

noncomputable def lpRWd : Nat × (St → T (Ex × St)) := (3, lpo [5, 4] [] stRWd1 (fun a => prlRWd a.1 a.2) fun a => outRWd a.1 a.2)

noncomputable def enRWd : Env := envH ty noG lks [oSpl, oPrn] [] [] [lpRWd]

theorem enRWd_ok : EnvOK Tryz.prog enRWd := by
  refine envH_ok lks_ok ty_ok ?_ ?_
  · simp only [List.forall_mem_cons]
    exact ⟨okSpl, okPrn, by simp⟩
  · simp

theorem evRWdL (w : List ByteArray) (k : Nat) : ((exec enRWd (loopN Tryz.f15 0) (stRWd w k)).bind (lessX ([5, 4], []) ([4], []) ([3, 2], [2]))).val =
  bif decide ((↑k : Int) < (↑(List.length (List.map eStr w)) : Int)) then Option.bind (unenc (List.map eStr) (List.map eStr w)) fun (z : List ByteArray) => bif decide (k <
  List.length z) then bif !ByteArray.toList (List.getD z k (ByteArray.mk (Array.mk []))) == ByteArray.toList (ByteArray.mk (Array.mk [])) then Option.bind (unenc (List.map
  eStr) (List.map eStr w)) fun (z : List ByteArray) => bif decide (k < List.length z) then Option.bind (unenc encPrn [(vS (List.getD z k (ByteArray.mk (Array.mk [])))), (vU
  (33 : Int))]) fun (z : ByteArray × Int) => bif !F.vis z.fst z.snd then some (Ex.ret, St.mk [(3, (vB false)), (2, .own 2)] [(2, Blk.mk false 9 1 [])]) else some (Ex.normal,
  St.mk [(5, (vI (IntKind.wrap IntKind.i64 ((↑k : Int) + (1 : Int))))), (4, AV.sl (List.map eStr w))] []) else none else some (Ex.ret, St.mk [(3, (vB false)), (2, .own 2)]
  [(2, Blk.mk false 9 1 [])]) else none else some (Ex.exit (0 : Nat), St.mk [(4, AV.sl (List.map eStr w))] []) := (execR_bind _ _ _).symm.trans (by kernel_rfl)

theorem lpRWd_ok (w : List ByteArray) (k : Nat) (hp : prlRWd w k = true) : ∀ ex s', (outRWd w k).val = some (ex, s') → LoopOK enRWd (loopN Tryz.f15 0) (stRWd w k) ex s' := by
  simp only [prlRWd, Bool.and_eq_true, decide_eq_true_eq] at hp
  refine loop_gen (st := stRWd w) (out := outRWd w) (I := fun k => k ≤ w.length) (n := ([5, 4], [])) (e := ([4], [])) (r := ([3, 2], [2])) (fun k => w.length - k) ?_ k hp.2
  intro k hk
  have h1 := hp.1
  by_cases hlt : k < w.length
  · have hy : w[k]? = some w[k] := List.getElem?_eq_getElem hlt
    generalize w[k] = y at hy
    have hd := drop_y hy
    cases hc : F.wdB y
    · left
      refine ⟨(.ret, ⟨[(3, vB false), (2, .own 2)], [(2, ⟨false, 9, 1, []⟩)]⟩), ?_, ?_, by simp, rfl⟩
      · rw [evRWdL]
        simp only [unSpl, unPrn, preSpl1, prePrn1, unstRWd, unstRWd0, prlRWd, outRWd, etaEnt, etaLst, etaSnd, etaStrm, etaMas, Option.bind_some, List.length_map, unStrs, unInts, unBools, unEnts, unItms, unTrns, cond_true, cond_false, Bool.and_true, Bool.true_and, cast_lt hlt, decide_eq_true hlt, getD_at hy, F.empty_eq]
        unfold F.wdB at hc
        cases h2 : decide (y.size ≠ 0) <;> cases h3 : F.vis y 33 <;> simp_all
      · simp only [outRWd, hd, List.all_cons, hc]
        rfl
    · right
      refine ⟨k + 1, ?_, rfl, hlt, by omega, ?_⟩
      · rw [evRWdL]
        simp only [unSpl, unPrn, preSpl1, prePrn1, unstRWd, unstRWd0, prlRWd, outRWd, etaEnt, etaLst, etaSnd, etaStrm, etaMas, Option.bind_some, List.length_map, unStrs, unInts, unBools, unEnts, unItms, unTrns, cond_true, cond_false, Bool.and_true, Bool.true_and, cast_lt hlt, decide_eq_true hlt, getD_at hy, next_at hlt h1, stRWd, F.empty_eq]
        unfold F.wdB at hc
        cases h2 : decide (y.size ≠ 0) <;> cases h3 : F.vis y 33 <;> simp_all
      · simp only [outRWd, hd, List.all_cons, hc, Bool.true_and]
  · have : k = w.length := by omega
    subst this
    left
    refine ⟨(.exit 0, ⟨[(4, .sl (w.map eStr))], []⟩), ?_, ?_, by simp, rfl⟩
    · rw [evRWdL]; simp
    · simp only [outRWd, List.drop_length]
      rfl

theorem evRWds (s : ByteArray) : (runF enRWd false Tryz.f15 [vS s]).val =
  Option.bind (unenc encSpl [(vS s), (vS (ByteArray.mk (Array.mk [(32 : UInt8)])))]) fun (z : ByteArray × ByteArray) => bif decide (ByteArray.size z.fst ≤ (4294967280 :
  Nat)) && decide ((1 : Nat) ≤ ByteArray.size z.snd) then Option.bind (unenc stRWd1 (St.mk [(5, (vI (0 : Int))), (4, AV.sl (List.map eStr (F.split z.fst z.snd)))] [])) fun
  (z : List ByteArray × Nat) => bif decide (List.length z.fst ≤ (9223372036854775807 : Nat)) && decide (z.snd ≤ List.length z.fst) && true then bif List.all (List.drop z.snd
  z.fst) F.wdB then some (AV.tup [AV.sl (List.map eStr z.fst), (vB true)], []) else some (AV.tup [AV.sl [], (vB false)], []) else none else none := (runFR_val).symm.trans (by kernel_rfl)

def encRWds1 (s : ByteArray) : List AV := [vS s]

def encRWds (a : ByteArray) : List AV := encRWds1 a

theorem encRWds_inj (a a' : ByteArray) (h : encRWds a = encRWds a') : a = a' := by
  simp only [encRWds, encRWds1] at h
  try simp [strs_inj, ints_inj, ents_inj, eEnt_iff, eLst_iff, eSnds_inj, eStrms_inj] at h
  grind

theorem unRWds (s : ByteArray) : unenc encRWds ([(vS s)]) = some (s) := unenc_of encRWds_inj (s) rfl

def resRWds1 (s : ByteArray) : AV × Heap := (.tup [.sl ((bif F.wOk (F.wds s) then F.wds s else []).map eStr), vB (F.wOk (F.wds s))], [])

def preRWds1 (s : ByteArray) : Bool := decide (s.size ≤ 500000)

noncomputable def oRWds : Orc := orc 15 false encRWds (fun a => preRWds1 a) fun a => resRWds1 a

theorem okRWds : OrcOK Tryz.prog noG oRWds := by
  refine mk_ok Tryz.f15 (keep := false) (by kernel_rfl) (by kernel_rfl) enRWd_ok mixed (one_loop (x0 := loopN Tryz.f15 0) (by kernel_rfl) (lpo_ok ?_)) (by first | exact fun _ _ => ⟨rfl, rfl⟩ | (intro h; cases h)) ?_
  · rintro ⟨w, k⟩ hp
    exact lpRWd_ok w k hp
  rintro s hpre hok
  show (runF enRWd false _ (encRWds1 _)).val = some (resRWds1 _)
  unfold encRWds1 resRWds1
  rw [evRWds]
  have hpre : s.size ≤ 500000 := of_decide_eq_true hpre
  have hl := F.split_len (s := s) (sep := F.sp) (by decide)
  have hc := Lib.countB_le F.sp (by decide) s.size s (Nat.le_refl _)
  have hsp : decide (1 ≤ F.sp.size) = true := rfl
  have hw : F.split s F.sp = F.wds s := rfl
  rw [hw] at hl
  simp only [unSpl, unPrn, preSpl1, prePrn1, unstRWd, unstRWd0, prlRWd, outRWd, etaEnt, etaLst, etaSnd, etaStrm, etaMas, Option.bind_some, List.length_map, unStrs, unInts, unBools, unEnts, unItms, unTrns, cond_true, cond_false, Bool.and_true, Bool.true_and, sp_eq, hsp, hw, decide_eq_true (by omega : s.size ≤ 4294967280), decide_eq_true (by omega : (F.wds s).length ≤ 9223372036854775807), Nat.zero_le, decide_true, List.drop_zero]
  unfold F.wOk
  cases (F.wds s).all F.wdB <;> rfl

end M
end Go.Proofs.YtipngpndgniagaaGreatDoor
