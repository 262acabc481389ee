/- What is proved here: what strconv.Atoi returns at digits, and headendref1.limbs (no statement of the seat). -/
import Derived.Test.YtlemjphdhapfpaaGreatDoorD97
import Derived.Test.YtlemjphdhapfpaaGreatDoorD98
import Derived.Lib.AtoiErrMem
namespace Go.Proofs.YtlemjphdhapfpaaGreatDoor
open Go Go.RowKit
set_option linter.unusedVariables false
set_option linter.unusedSimpArgs false

theorem F.isD_le {s : ByteArray} (h : F.isD s = true) : F.dv s ≤ 9223372036854775807 := by
  unfold F.isD at h
  simp only [Bool.and_eq_true, decide_eq_true_eq] at h
  exact h.2

namespace M

def encAto1 (s : ByteArray) : List AV := [vS s]

def encAto (a : ByteArray) : List AV := encAto1 a

theorem encAto_inj (a a' : ByteArray) (h : encAto a = encAto a') : a = a' := by
  simp only [encAto, encAto1] at h
  try simp [strs_inj, ints_inj, bools_inj, u8s_inj, eEnts_inj, eEnt_iff, eLsts_inj, eLst_iff, eSegs_inj, eSeg_iff, eRots_inj, eRot_iff, eBeats_inj, eBeat_iff, eSpans_inj, eSpan_iff, eHoles_inj, eHole_iff] at h
  grind

theorem unAto (s : ByteArray) : unenc encAto ([(vS s)]) = some (s) := unenc_of encAto_inj (s) rfl

def resAto1 (s : ByteArray) : AV × Heap := (.tup [vI (F.dv s : Nat), .v .nilIface], [])

def preAto1 (s : ByteArray) : Bool := F.isD s && decide (s.size ≤ 1000)

noncomputable def oAto : Orc := orc 74 true encAto (fun a => preAto1 a) fun a => resAto1 a

theorem okAto : OrcOK Tryz.prog noG oAto := by
  refine orc_ok ⟨Tryz.f74, by kernel_rfl, by kernel_rfl, by kernel_rfl⟩ (fun s hp _ => ?_) (fun _ _ => ⟨rfl, rfl⟩)
  simp only [preAto1, Bool.and_eq_true, decide_eq_true_eq] at hp
  have h1 := F.isD_ato hp.1
  have h2 := F.isD_le hp.1
  refine SpecP.below1 (rv := .tuple #[.int .i64 (F.dv s : Nat), .nilIface]) (fun w S => ⟨[_, _], rfl, R0.v (by simp only [okAtom, IntKind.min, IntKind.max, IntKind.signed, IntKind.bits]; simp; omega), R0.v trivial, trivial⟩) fun hk w S hG => ?_
  refine (Tryz.strconv_Atoi_ok s (by omega) (F.dv s : Nat) h1 w).mono ?_
  rintro e w' ⟨he, h | ⟨t, h⟩⟩
  · subst h; exact ⟨he, Below.refl _ _⟩
  · subst h; exact ⟨he, Lib.bytesWorld_below w _ _⟩

end M

theorem F.isD_ext {s : ByteArray} (h : (F.bs s).all F.dgB = true) (hs : s.size ≤ 1000) (h0 : s.size ≠ 0) : F.isD (s.extract (s.size - 4) s.size) = true := by
  have hz2 : (s.extract (s.size - 4) s.size).size = s.size - (s.size - 4) := by rw [ByteArray.size_extract]; omega
  have ha := F.all_ext h (s.size - 4) s.size
  have hlt := F.dvA_lt _ ha
  rw [F.bs_len, hz2] at hlt
  have h4 : 10 ^ (s.size - (s.size - 4)) ≤ 10 ^ 4 := Nat.pow_le_pow_right (by decide) (by clear hlt hz2; omega)
  have hlt2 : F.dv (s.extract (s.size - 4) s.size) < 10000 := Nat.lt_of_lt_of_le hlt h4
  unfold F.isD
  rw [ha, decide_eq_true (by clear hlt h4 hlt2; omega), decide_eq_true (by clear hlt h4; omega)]
  rfl

namespace M

def stLim (s : ByteArray) (acc : List Int) : St := ⟨[(3, .own 3), (0, vS s)], [(3, ⟨false, 3, 1, acc.map eI⟩)]⟩

def stLim1 (a : ByteArray × (List Int)) : St := stLim a.1 a.2

theorem stLim_inj (a a' : ByteArray × (List Int)) (h : stLim1 a = stLim1 a') : a = a' := by
  simp only [stLim1, stLim] at h
  try simp [strs_inj, ints_inj, bools_inj, u8s_inj, eEnts_inj, eEnt_iff, eLsts_inj, eLst_iff, eSegs_inj, eSeg_iff, eRots_inj, eRot_iff, eBeats_inj, eBeat_iff, eSpans_inj, eSpan_iff, eHoles_inj, eHole_iff] at h
  grind

theorem unstLim (s : ByteArray) (acc : List Int) : unenc stLim1 (St.mk [(3, .own 3), (0, (vS s))] [(3, Blk.mk false 3 1 (List.map eI acc))]) = some (s, acc) := unenc_of stLim_inj (s, acc) rfl

theorem unstLim0 (s : ByteArray)  : unenc stLim1 (St.mk [(3, .own 3), (0, (vS s))] [(3, Blk.mk false 3 1 [])]) = some (s, []) := unenc_of stLim_inj (s, []) rfl

def outLim (s : ByteArray) (acc : List Int) : T (Ex × St) := .ret (.exit 0, ⟨[(3, .own 3)], [(3, ⟨false, 3, 1, (acc ++ F.pcs s).map eI⟩)]⟩)

noncomputable def prlLim (s : ByteArray) (acc : List Int) : Bool := (F.bs s).all F.dgB && decide (s.size ≤ 1000) && decide (acc.length + s.size ≤ 1000)

noncomputable def lpLim : Nat × (St → T (Ex × St)) := (2, lpo [3, 0] [3] stLim1 (fun a => prlLim a.1 a.2) fun a => outLim a.1 a.2)

noncomputable def enLim : Env := envH ty noG lks [oTrm, oAto] [] [] [lpLim]

theorem enLim_ok : EnvOK Tryz.prog enLim := by
  refine envH_ok lks_ok ty_ok ?_ ?_
  · simp only [List.forall_mem_cons]
    exact ⟨okTrm, okAto, by simp⟩
  · simp

theorem evLimL (s : ByteArray) (acc : List Int) : ((exec enLim (loopN Tryz.f73 0) (stLim s acc)).bind (lessX ([3, 0], [3]) ([3], [3]) ([], []))).val =
  bif decide ((0 : Int) < (↑(ByteArray.size s) : Int)) then Option.bind (idx (max (0 : Int) (IntKind.wrap IntKind.i64 ((↑(ByteArray.size s) : Int) - (4 : Int))))) fun (z :
  Nat) => bif Nat.ble z (ByteArray.size s) && Nat.ble (ByteArray.size s) (ByteArray.size s) then Option.bind (unenc encAto [(vS (ByteArray.extract s z (ByteArray.size s)))])
  fun (z : ByteArray) => bif F.isD z && decide (ByteArray.size z ≤ (1000 : Nat)) then bif Nat.ble ((List.length (List.map eI acc) + (1 : Nat)) * (8 : Nat)) (140737488355328
  : Nat) && true then Option.bind (idx (max (0 : Int) (IntKind.wrap IntKind.i64 ((↑(ByteArray.size s) : Int) - (4 : Int))))) fun (z_1 : Nat) => bif Nat.ble (0 : Nat) z_1 &&
  Nat.ble z_1 (ByteArray.size s) then some (Ex.normal, St.mk [(3, .own 3), (0, (vS (ByteArray.extract s (0 : Nat) z_1)))] [(3, Blk.mk false 3 1 (List.map eI acc ++ [[(vI
  (↑(F.dv z) : Int))]]))]) else none else none else none else none else some (Ex.exit (0 : Nat), St.mk [(3, .own 3)] [(3, Blk.mk false 3 1 (List.map eI acc))]) := (execR_bind _ _ _).symm.trans (by kernel_rfl)

theorem lpLim_ok (s : ByteArray) (acc : List Int) (hp : prlLim s acc = true) : ∀ ex s', (outLim s acc).val = some (ex, s') → LoopOK enLim (loopN Tryz.f73 0) (stLim s acc) ex s' := by
  simp only [prlLim, Bool.and_eq_true, decide_eq_true_eq] at hp
  obtain ⟨⟨h1, h2⟩, h3⟩ := hp
  refine loop_gen (st := fun p : ByteArray × List Int => stLim p.1 p.2) (out := fun p => outLim p.1 p.2) (I := fun p => (F.bs p.1).all F.dgB = true ∧ p.1.size ≤ 1000 ∧ p.2.length + p.1.size ≤ 1000) (n := ([3, 0], [3])) (e := ([3], [3])) (r := ([], [])) (fun p => p.1.size) ?_ (s, acc) ⟨h1, h2, h3⟩
  clear h1 h2 h3
  rintro ⟨s, acc⟩ ⟨h1, h2, h3⟩
  simp only at h1 h2 h3
  by_cases h0 : s.size = 0
  · left
    refine ⟨(.exit 0, ⟨[(3, .own 3)], [(3, ⟨false, 3, 1, acc.map eI⟩)]⟩), ?_, ?_, by simp, rfl⟩
    · have c : ¬ (0 : Int) < (s.size : Int) := by omega
      rw [evLimL]
      simp only [unTrm, unAto, preTrm1, preAto1, unstLim, unstLim0, prlLim, outLim, etaEnt, etaLst, etaSeg, etaRot, etaBeat, etaSpan, etaHole, Option.bind_some, List.length_map, unStrs, unInts, unBools, unU8s, unEnts, unLsts, unSegs, unRots, unBeats, unSpans, unHoles, F.lt, F.le, cond_true, cond_false, Bool.and_true, Bool.true_and, decide_eq_false c]
    · rw [outLim, F.pcs, dif_pos h0, List.append_nil]
      rfl
  · right
    have c : (0 : Int) < (s.size : Int) := by omega
    have hm : max 0 (IntKind.i64.wrap ((s.size : Int) - 4)) = ((s.size - 4 : Nat) : Int) := by rw [wrap_id (by omega) (by omega)]; omega
    have hi : idx ((s.size - 4 : Nat) : Int) = some (s.size - 4) := idx_n (by omega)
    have hz : (s.extract 0 (s.size - 4)).size = s.size - 4 := by rw [ByteArray.size_extract]; omega
    have hz2 : (s.extract (s.size - 4) s.size).size ≤ 1000 := by rw [ByteArray.size_extract]; omega
    have b1 : Nat.ble (s.size - 4) s.size = true := ble_t (by omega)
    have b2 : Nat.ble s.size s.size = true := ble_t (Nat.le_refl _)
    have b3 : Nat.ble ((acc.length + 1) * 8) 140737488355328 = true := ble_t (by omega)
    refine ⟨(s.extract 0 (s.size - 4), acc ++ [((F.dv (s.extract (s.size - 4) s.size) : Nat) : Int)]), ?_, rfl, ⟨F.all_ext h1 _ _, by simp only; omega, by simp only [List.length_append, List.length_singleton]; omega⟩, by simp only; omega, ?_⟩
    · rw [evLimL]
      simp only [unTrm, unAto, preTrm1, preAto1, unstLim, unstLim0, prlLim, outLim, etaEnt, etaLst, etaSeg, etaRot, etaBeat, etaSpan, etaHole, Option.bind_some, List.length_map, unStrs, unInts, unBools, unU8s, unEnts, unLsts, unSegs, unRots, unBeats, unSpans, unHoles, F.lt, F.le, cond_true, cond_false, Bool.and_true, Bool.true_and, decide_eq_true c, hm, hi, b1, b2, b3, ble_t (Nat.zero_le _), F.isD_ext h1 h2 h0, decide_eq_true hz2, stLim]
      rw [List.map_append]
      rfl
    · have e : F.pcs s = ((F.dv (s.extract (s.size - 4) s.size) : Nat) : Int) :: F.pcs (s.extract 0 (s.size - 4)) := by rw [F.pcs, dif_neg h0]
      simp only [outLim]
      rw [e, List.append_assoc, List.singleton_append]

theorem evLim (s : ByteArray) : (runF enLim false Tryz.f73 [vS s]).val =
  Option.bind (unenc stLim1 (St.mk [(3, .own 3), (0, (vS s))] [(3, Blk.mk false 3 1 [])])) fun (z : ByteArray × List Int) => bif List.all (F.bs z.fst) F.dgB && decide
  (ByteArray.size z.fst ≤ (1000 : Nat)) && decide (List.length z.snd + ByteArray.size z.fst ≤ (1000 : Nat)) && true then Option.bind (unenc encTrm [AV.sl (List.map eI (z.snd
  ++ F.pcs z.fst))]) fun (z : List Int) => bif decide (List.length z ≤ (100000 : Nat)) then some (AV.sl (List.map eI (F.trimL z)), []) else none else none := (runFR_val).symm.trans (by kernel_rfl)

def encLim1 (s : ByteArray) : List AV := [vS s]

def encLim (a : ByteArray) : List AV := encLim1 a

theorem encLim_inj (a a' : ByteArray) (h : encLim a = encLim a') : a = a' := by
  simp only [encLim, encLim1] at h
  try simp [strs_inj, ints_inj, bools_inj, u8s_inj, eEnts_inj, eEnt_iff, eLsts_inj, eLst_iff, eSegs_inj, eSeg_iff, eRots_inj, eRot_iff, eBeats_inj, eBeat_iff, eSpans_inj, eSpan_iff, eHoles_inj, eHole_iff] at h
  grind

theorem unLim (s : ByteArray) : unenc encLim ([(vS s)]) = some (s) := unenc_of encLim_inj (s) rfl

def resLim1 (s : ByteArray) : AV × Heap := (.sl ((F.lb (F.dv s)).map eI), [])

def preLim1 (s : ByteArray) : Bool := (F.bs s).all F.dgB && decide (s.size ≤ 1000)

noncomputable def oLim : Orc := orc 73 false encLim (fun a => preLim1 a) fun a => resLim1 a

theorem okLim : OrcOK Tryz.prog noG oLim := by
  refine mk_ok Tryz.f73 (keep := false) (by kernel_rfl) (by kernel_rfl) enLim_ok mixed (one_loop (x0 := loopN Tryz.f73 0) (by kernel_rfl) (lpo_ok ?_)) (by first | exact fun _ _ => ⟨rfl, rfl⟩ | (intro h; cases h)) ?_
  · rintro ⟨s, acc⟩ hp
    exact lpLim_ok s acc hp
  rintro s hpre hok
  show (runF enLim false _ (encLim1 _)).val = some (resLim1 _)
  unfold encLim1 resLim1
  rw [evLim]
  have hpre : ((F.bs s).all F.dgB && decide (s.size ≤ 1000)) = true := hpre
  rw [Bool.and_eq_true, decide_eq_true_eq] at hpre
  have hl : ∀ (n : Nat) (s : ByteArray), s.size ≤ n → (F.pcs s).length ≤ n := by
    intro n
    induction n with
    | zero => intro s hs; rw [F.pcs, dif_pos (by omega)]; exact Nat.le_refl _
    | succ n ih =>
      intro s hs
      by_cases h0 : s.size = 0
      · rw [F.pcs, dif_pos h0]; exact Nat.zero_le _
      · rw [F.pcs, dif_neg h0, List.length_cons]
        have := ih (s.extract 0 (s.size - 4)) (by rw [ByteArray.size_extract]; omega)
        omega
  have hl := hl s.size s (Nat.le_refl _)
  simp only [unTrm, unAto, preTrm1, preAto1, unstLim, unstLim0, prlLim, outLim, etaEnt, etaLst, etaSeg, etaRot, etaBeat, etaSpan, etaHole, Option.bind_some, List.length_map, unStrs, unInts, unBools, unU8s, unEnts, unLsts, unSegs, unRots, unBeats, unSpans, unHoles, F.lt, F.le, cond_true, cond_false, Bool.and_true, Bool.true_and, hpre.1, decide_eq_true hpre.2, List.length_nil, Nat.zero_add, List.nil_append, decide_eq_true (by omega : (F.pcs s).length ≤ 100000), F.pcs_lb hpre.1]

end M

end Go.Proofs.YtlemjphdhapfpaaGreatDoor
