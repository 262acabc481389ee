/- What is proved here: limbs without noughts at the end, of the reference (no statement of the seat). -/
import Derived.Test.YtlemjphdhapfpaaGreatDoorD86
namespace Go.Proofs.YtlemjphdhapfpaaGreatDoor
open Go Go.RowKit
set_option linter.unusedVariables false
set_option linter.unusedSimpArgs false

/-- How many limbs stay. -/
def F.trimN (l : List Int) : Nat → Nat
  | 0 => 0
  | n + 1 => bif l.getD n 0 == 0 then F.trimN l n else n + 1

theorem F.trimN_le (l : List Int) : ∀ n, F.trimN l n ≤ n
  | 0 => Nat.le_refl _
  | n + 1 => by
    have := F.trimN_le l n
    rw [F.trimN]
    cases l.getD n 0 == 0
    · exact Nat.le_refl _
    · exact Nat.le_succ_of_le this

theorem F.trimL_z : ∀ l : List Int, F.trimL (l ++ [0]) = F.trimL l
  | [] => rfl
  | x :: l => by
    have ih := F.trimL_z l
    rw [List.cons_append, F.trimL, ih, F.trimL]

theorem F.trimL_x {x : Int} (h : x ≠ 0) : ∀ l : List Int, F.trimL (l ++ [x]) = l ++ [x]
  | [] => by rw [List.nil_append, F.trimL, F.trimL]; simp [h]
  | y :: l => by
    have ih := F.trimL_x h l
    rw [List.cons_append, F.trimL, ih]
    cases l <;> rfl

theorem F.trimN_eq (l : List Int) : ∀ n, n ≤ l.length → l.take (F.trimN l n) = F.trimL (l.take n)
  | 0, _ => by rw [F.trimN, List.take_zero]; rfl
  | n + 1, h => by
    have hlt : n < l.length := h
    have ih := F.trimN_eq l n (by omega)
    have hg : l.getD n 0 = l[n] := by simp [List.getD, List.getElem?_eq_getElem hlt]
    rw [F.trimN, hg, List.take_succ_eq_append_getElem hlt]
    cases hc : l[n] == 0
    · have hx : l[n] ≠ 0 := by simpa using hc
      rw [F.trimL_x hx, cond_false, List.take_succ_eq_append_getElem hlt]
    · have hx : l[n] = 0 := by simpa using hc
      rw [hx, F.trimL_z, cond_true, ih]

theorem F.trimL_len : ∀ l : List Int, (F.trimL l).length ≤ l.length
  | [] => Nat.le_refl _
  | x :: l => by
    have ih := F.trimL_len l
    rw [F.trimL]
    cases h : F.trimL l with
    | nil =>
      by_cases hx : x = 0
      · simp [hx]
      · simp [hx]
    | cons y r =>
      rw [h] at ih
      simp only [List.length_cons] at ih ⊢
      omega

namespace M

theorem idx_n {j : Nat} (h : j + 1 ≤ 9223372036854775807) : idx (j : Int) = some j := by
  have hw : IntKind.i64.wrap (((j + 1 : Nat) : Int) - 1) = (j : Int) := by rw [wrap_id (by omega) (by omega)]; omega
  have := idx_sub h
  rw [hw] at this
  exact this

def stTrm (l : List Int) (n : Nat) : St := ⟨[(3, vI n), (0, .sl (l.map eI))], []⟩

def stTrm1 (a : (List Int) × Nat) : St := stTrm a.1 a.2

theorem stTrm_inj (a a' : (List Int) × Nat) (h : stTrm1 a = stTrm1 a') : a = a' := by
  simp only [stTrm1, stTrm] at h
  try simp [strs_inj, ints_inj, bools_inj, u8s_inj, eEnts_inj, eEnt_iff, eLsts_inj, eLst_iff, eSegs_inj, eSeg_iff, eRots_inj, eRot_iff, eBeats_inj, eBeat_iff, eSpans_inj, eSpan_iff, eHoles_inj, eHole_iff] at h
  grind

theorem unstTrm (l : List Int) (n : Nat) : unenc stTrm1 (St.mk [(3, (vI (↑n : Int))), (0, AV.sl (List.map eI l))] []) = some (l, n) := unenc_of stTrm_inj (l, n) rfl

def outTrm (l : List Int) (n : Nat) : T (Ex × St) := .ret (.exit 0, ⟨[(3, vI (F.trimN l n)), (0, .sl (l.map eI))], []⟩)

noncomputable def prlTrm (l : List Int) (n : Nat) : Bool := decide (l.length ≤ 100000) && decide (n ≤ l.length)

noncomputable def lpTrm : Nat × (St → T (Ex × St)) := (2, lpo [3, 0] [] stTrm1 (fun a => prlTrm a.1 a.2) fun a => outTrm a.1 a.2)

noncomputable def enTrm : Env := envH ty noG lks [] [] [] [lpTrm]

theorem enTrm_ok : EnvOK Tryz.prog enTrm := by
  refine envH_ok lks_ok ty_ok ?_ ?_
  · simp
  · simp

theorem evTrmL (l : List Int) (n : Nat) : ((exec enTrm (loopN Tryz.f101 0) (stTrm l n)).bind (lessX ([3, 0], []) ([3, 0], []) ([], []))).val =
  bif decide ((0 : Int) < (↑n : Int)) then Option.bind (idx (IntKind.wrap IntKind.i64 ((↑n : Int) - (1 : Int)))) fun (z : Nat) => Option.bind (unenc (List.map eI) (List.map
  eI l)) fun (z_1 : List Int) => bif decide (z < List.length z_1) then bif List.getD z_1 z (0 : Int) == (0 : Int) then some (Ex.normal, St.mk [(3, (vI (IntKind.wrap
  IntKind.i64 ((↑n : Int) - (1 : Int))))), (0, AV.sl (List.map eI l))] []) else some (Ex.exit (0 : Nat), St.mk [(3, (vI (↑n : Int))), (0, AV.sl (List.map eI l))] []) else
  none else some (Ex.exit (0 : Nat), St.mk [(3, (vI (↑n : Int))), (0, AV.sl (List.map eI l))] []) := (execR_bind _ _ _).symm.trans (by kernel_rfl)

theorem lpTrm_ok (l : List Int) (n : Nat) (hp : prlTrm l n = true) : ∀ ex s', (outTrm l n).val = some (ex, s') → LoopOK enTrm (loopN Tryz.f101 0) (stTrm l n) ex s' := by
  simp only [prlTrm, Bool.and_eq_true, decide_eq_true_eq] at hp
  refine loop_gen (st := fun n => stTrm l n) (out := fun n => outTrm l n) (I := fun n => n ≤ l.length) (n := ([3, 0], [])) (e := ([3, 0], [])) (r := ([], [])) (fun n => n) ?_ n hp.2
  intro n hn
  have h1 := hp.1
  cases n with
  | zero =>
    left
    refine ⟨(.exit 0, ⟨[(3, vI 0), (0, .sl (l.map eI))], []⟩), ?_, rfl, by simp, rfl⟩
    rw [evTrmL]
    simp
  | succ j =>
    have hlt : j < l.length := hn
    have hy : l[j]? = some l[j] := List.getElem?_eq_getElem hlt
    have hg : l.getD j 0 = l[j] := by simp [hy]
    generalize l[j] = y at hy hg
    have hz : decide ((0 : Int) < ((j + 1 : Nat) : Int)) = true := decide_eq_true (by omega)
    have hw : IntKind.i64.wrap (((j + 1 : Nat) : Int) - 1) = (j : Int) := by rw [wrap_id (by omega) (by omega)]; omega
    have hi : idx ((j : Nat) : Int) = some j := by
      have := idx_sub (j := j) (by omega)
      rw [hw] at this
      exact this
    cases hc : (y == 0)
    · left
      refine ⟨(.exit 0, ⟨[(3, vI (j + 1 : Nat)), (0, .sl (l.map eI))], []⟩), ?_, ?_, by simp, rfl⟩
      · rw [evTrmL]
        simp only [unstTrm, prlTrm, outTrm, etaEnt, etaLst, etaSeg, etaRot, etaBeat, etaSpan, etaHole, Option.bind_some, List.length_map, unStrs, unInts, unBools, unU8s, unEnts, unLsts, unSegs, unRots, unBeats, unSpans, unHoles, F.lt, F.le, cond_true, cond_false, Bool.and_true, Bool.true_and, hz, idx_sub (by omega : j + 1 ≤ 9223372036854775807), decide_eq_true hlt, getD_at hy, hc]
      · simp only [outTrm, F.trimN, hg, hc]
        rfl
    · right
      refine ⟨j, ?_, rfl, by omega, by omega, ?_⟩
      · rw [evTrmL]
        simp only [unstTrm, prlTrm, outTrm, etaEnt, etaLst, etaSeg, etaRot, etaBeat, etaSpan, etaHole, Option.bind_some, List.length_map, unStrs, unInts, unBools, unU8s, unEnts, unLsts, unSegs, unRots, unBeats, unSpans, unHoles, F.lt, F.le, cond_true, cond_false, Bool.and_true, Bool.true_and, hz, hw, hi, decide_eq_true hlt, getD_at hy, hc, stTrm]
      · simp only [outTrm, F.trimN, hg, hc, cond_true]

theorem evTrm (l : List Int) : (runF enTrm false Tryz.f101 [.sl (l.map eI)]).val =
  Option.bind (unenc stTrm1 (St.mk [(3, (vI (↑(List.length (List.map eI l)) : Int))), (0, AV.sl (List.map eI l))] [])) fun (z : List Int × Nat) => bif decide (List.length
  z.fst ≤ (100000 : Nat)) && decide (z.snd ≤ List.length z.fst) && true then bif Nat.ble (0 : Nat) (F.trimN z.fst z.snd) && Nat.ble (F.trimN z.fst z.snd) (List.length
  (List.map eI z.fst)) && List.all (List.map eI z.fst) fun (r : Row) => Nat.beq (List.length r) (1 : Nat) then some (AV.sl (List.take (F.trimN z.fst z.snd) (List.map eI
  z.fst)), []) else none else none := (runFR_val).symm.trans (by kernel_rfl)

def encTrm1 (l : List Int) : List AV := [.sl (l.map eI)]

def encTrm (a : (List Int)) : List AV := encTrm1 a

theorem encTrm_inj (a a' : (List Int)) (h : encTrm a = encTrm a') : a = a' := by
  simp only [encTrm, encTrm1] at h
  try simp [strs_inj, ints_inj, bools_inj, u8s_inj, eEnts_inj, eEnt_iff, eLsts_inj, eLst_iff, eSegs_inj, eSeg_iff, eRots_inj, eRot_iff, eBeats_inj, eBeat_iff, eSpans_inj, eSpan_iff, eHoles_inj, eHole_iff] at h
  grind

theorem unTrm (l : List Int) : unenc encTrm ([AV.sl (List.map eI l)]) = some (l) := unenc_of encTrm_inj (l) rfl

def resTrm1 (l : List Int) : AV × Heap := (.sl ((F.trimL l).map eI), [])

def preTrm1 (l : List Int) : Bool := decide (l.length ≤ 100000)

noncomputable def oTrm : Orc := orc 101 false encTrm (fun a => preTrm1 a) fun a => resTrm1 a

theorem okTrm : OrcOK Tryz.prog noG oTrm := by
  refine mk_ok Tryz.f101 (keep := false) (by kernel_rfl) (by kernel_rfl) enTrm_ok mixed (one_loop (x0 := loopN Tryz.f101 0) (by kernel_rfl) (lpo_ok ?_)) (by first | exact fun _ _ => ⟨rfl, rfl⟩ | (intro h; cases h)) ?_
  · rintro ⟨l, n⟩ hp
    exact lpTrm_ok l n hp
  rintro l hpre hok
  show (runF enTrm false _ (encTrm1 _)).val = some (resTrm1 _)
  unfold encTrm1 resTrm1
  rw [evTrm]
  have hx : l.length ≤ 100000 := of_decide_eq_true hpre
  have ht := F.trimN_le l l.length
  have e := F.trimN_eq l l.length (Nat.le_refl _)
  rw [List.take_length] at e
  simp only [unstTrm, prlTrm, outTrm, etaEnt, etaLst, etaSeg, etaRot, etaBeat, etaSpan, etaHole, Option.bind_some, List.length_map, unStrs, unInts, unBools, unU8s, unEnts, unLsts, unSegs, unRots, unBeats, unSpans, unHoles, F.lt, F.le, cond_true, cond_false, Bool.and_true, Bool.true_and, hx, Nat.le_refl, decide_true]
  have h3 : ((l.map eI).all fun r => (List.length r).beq 1) = true := List.all_eq_true.2 fun r hr => by
    obtain ⟨x, _, rfl⟩ := List.mem_map.1 hr
    rfl
  rw [ble_t (Nat.zero_le _), ble_t ht, h3, ← List.map_take, e]
  rfl

end M
end Go.Proofs.YtlemjphdhapfpaaGreatDoor
