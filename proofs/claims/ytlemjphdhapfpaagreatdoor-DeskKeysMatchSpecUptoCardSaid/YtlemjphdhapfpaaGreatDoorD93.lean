/- What is proved here: what headendref1.divide returns on limbs (no statement of the seat). -/
import Derived.Test.YtlemjphdhapfpaaGreatDoorD92
namespace Go.Proofs.YtlemjphdhapfpaaGreatDoor
open Go Go.RowKit
set_option linter.unusedVariables false
set_option linter.unusedSimpArgs false

/-- What one limb more makes of a quotient. -/
theorem F.dqo_step {B : Nat} (hB : 0 < B) {x : Int} {l : List Int} (hx : 0 ≤ x ∧ x ≤ 9999) (hl : F.okL l) :
    F.trimL (x :: F.lb (F.dqo B l).2) = F.lb (x.toNat + 10000 * (F.dqo B l).2) ∧ (x.toNat + 10000 * (F.dqo B l).2) / B ≤ 9999 ∧ x.toNat + 10000 * (F.dqo B l).2 < 10000 * B ∧
    B * ((x.toNat + 10000 * (F.dqo B l).2) / B) ≤ x.toNat + 10000 * (F.dqo B l).2 ∧
    x.toNat + 10000 * (F.dqo B l).2 - B * ((x.toNat + 10000 * (F.dqo B l).2) / B) = (F.dqo B (x :: l)).2 := by
  have hr : (F.dqo B l).2 < B := by rw [(F.dqo_eq hB hl).2.2.1]; exact Nat.mod_lt _ hB
  have hlt : x.toNat + 10000 * (F.dqo B l).2 < 10000 * B := by omega
  have e := Nat.div_add_mod (x.toNat + 10000 * (F.dqo B l).2) B
  refine ⟨?_, ?_, hlt, ?_, ?_⟩
  · have := F.trimL_cons (x := x.toNat) (r := (F.dqo B l).2) (by omega)
    rwa [Int.toNat_of_nonneg hx.1] at this
  · have := (Nat.div_lt_iff_lt_mul (k := B) (x := x.toNat + 10000 * (F.dqo B l).2) (y := 10000) hB).2 hlt
    omega
  · omega
  · rw [F.dqo]; show _ = _ % B; omega

theorem F.set_rep (n : Nat) (v : Int) (D : List Int) : (List.replicate (n + 1) (0 : Int) ++ D).set n v = List.replicate n 0 ++ v :: D := by
  rw [List.replicate_succ', List.append_assoc, List.set_append_right _ _ (by simp), List.length_replicate, Nat.sub_self]
  rfl

namespace M

theorem unTrm_c (x : Int) (l : List Int) : unenc encTrm [.sl ([vI x] :: l.map eI)] = some (x :: l) := unTrm (x :: l)

def stDvS (a b out rs : List Int) (i : Int) : St := ⟨[(8, vI i), (7, .sl (rs.map eI)), (6, .own 15), (1, .sl (b.map eI)), (0, .sl (a.map eI))], [(15, ⟨false, 3, 1, out.map eI⟩)]⟩

theorem evDvS (a b out rs : List Int) (i : Int) : ((exec enDv (loopN Tryz.f100 0) (stDvS a b out rs i)).bind (lessX ([8, 7, 6, 1, 0], [15, 7]) ([7, 6], [15, 7]) ([], []))).val =
  bif decide ((0 : Int) ≤ i) then Option.bind (idx i) fun (z : Nat) => Option.bind (unenc (List.map eI) (List.map eI a)) fun (z_1 : List Int) => bif decide (z < List.length
  z_1) then bif Nat.ble (((1 : Nat) + List.length (List.map eI rs)) * (8 : Nat)) (140737488355328 : Nat) && List.all (List.map eI rs) fun (r : Row) => Nat.beq (List.length
  r) (TI.mk false (1 : Nat) [] [AV.e0] (3 : Nat) (1 : Nat) (8 : Nat) [(vI (0 : Int))] none (4 : Nat) []).esize then Option.bind (unenc encTrm [AV.sl ([(vI (List.getD z_1 z
  (0 : Int)))] :: List.map eI rs)]) fun (z : List Int) => bif decide (List.length z ≤ (100000 : Nat)) then Option.bind (unenc stDvi1 (St.mk [(11, (vI (9999 : Int))), (10,
  (vI (0 : Int))), (8, (vI i)), (7, AV.sl (List.map eI (F.trimL z))), (6, .own 15), (1, AV.sl (List.map eI b)), (0, AV.sl (List.map eI a))] [(15, Blk.mk false 3 1 (List.map
  eI out))])) fun (z : List Int × List Int × List Int × List Int × Int × Nat × Nat) => bif F.nk (200 : Nat) z.snd.fst && decide ((0 : Nat) < F.nv z.snd.fst) && F.nk (201 :
  Nat) z.snd.snd.snd.fst && decide (z.snd.snd.snd.snd.snd.fst ≤ F.nv z.snd.snd.snd.fst / F.nv z.snd.fst) && decide (F.nv z.snd.snd.snd.fst / F.nv z.snd.fst ≤
  z.snd.snd.snd.snd.snd.snd) && decide (z.snd.snd.snd.snd.snd.snd ≤ (9999 : Nat)) && true then Option.bind (idx z.snd.snd.snd.snd.fst) fun (z_2 : Nat) => bif decide (z_2 <
  List.length (Blk.mk false 3 1 (List.map eI z.snd.snd.fst)).rows) then Option.bind (unenc (List.map eI) (List.map eI z.snd.snd.fst)) fun (z_3 : List Int) => bif decide (z_2
  < List.length z_3) then Option.bind (unenc encSml [AV.sl (List.map eI z.snd.fst), (vI (↑(Nat.div (F.nv z.snd.snd.snd.fst) (F.nv z.snd.fst)) : Int))]) fun (z_4 : List Int ×
  Int) => bif F.nk (300 : Nat) z_4.fst && decide ((0 : Int) ≤ z_4.snd) && decide (z_4.snd ≤ (9999 : Int)) then Option.bind (unenc encLes [AV.sl (List.map eI
  z.snd.snd.snd.fst), AV.sl (List.map eI (F.lb (F.nv z_4.fst * Int.toNat z_4.snd)))]) fun (z_5 : List Int × List Int) => bif F.nk (1000 : Nat) z_5.fst && F.nk (1000 : Nat)
  z_5.snd && decide (F.nv z_5.snd ≤ F.nv z_5.fst) then some (Ex.normal, St.mk [(8, (vI (IntKind.wrap IntKind.i64 (z.snd.snd.snd.snd.fst - (1 : Int))))), (7, AV.sl (List.map
  eI (F.lb (F.nv z_5.fst - F.nv z_5.snd)))), (6, .own 15), (1, AV.sl (List.map eI z.snd.fst)), (0, AV.sl (List.map eI z.fst))] [(15, Blk.mk false 3 1 (List.set (List.map eI
  z.snd.snd.fst) z_2 [(vI (↑(Nat.div (F.nv z.snd.snd.snd.fst) (F.nv z.snd.fst)) : Int))]))]) else none else none else none else none else none else none else none else none
  else some (Ex.exit (0 : Nat), St.mk [(7, AV.sl (List.map eI rs)), (6, .own 15)] [(15, Blk.mk false 3 1 (List.map eI out))]) := (execR_bind _ _ _).symm.trans (by kernel_rfl)

theorem evDvN (a b out : List Int) (i : Int) : ((exec enDv (loopN Tryz.f100 0) (stDv a b out i)).bind (lessX ([8, 7, 6, 1, 0], [15, 7]) ([7, 6], [15, 7]) ([], []))).val =
  bif decide ((0 : Int) ≤ i) then Option.bind (idx i) fun (z : Nat) => Option.bind (unenc (List.map eI) (List.map eI a)) fun (z_1 : List Int) => bif decide (z < List.length
  z_1) then Option.bind (unenc encTrm [AV.sl [[(vI (List.getD z_1 z (0 : Int)))]]]) fun (z : List Int) => bif decide (List.length z ≤ (100000 : Nat)) then Option.bind (unenc
  stDvi1 (St.mk [(11, (vI (9999 : Int))), (10, (vI (0 : Int))), (8, (vI i)), (7, AV.sl (List.map eI (F.trimL z))), (6, .own 15), (1, AV.sl (List.map eI b)), (0, AV.sl
  (List.map eI a))] [(15, Blk.mk false 3 1 (List.map eI out))])) fun (z : List Int × List Int × List Int × List Int × Int × Nat × Nat) => bif F.nk (200 : Nat) z.snd.fst &&
  decide ((0 : Nat) < F.nv z.snd.fst) && F.nk (201 : Nat) z.snd.snd.snd.fst && decide (z.snd.snd.snd.snd.snd.fst ≤ F.nv z.snd.snd.snd.fst / F.nv z.snd.fst) && decide (F.nv
  z.snd.snd.snd.fst / F.nv z.snd.fst ≤ z.snd.snd.snd.snd.snd.snd) && decide (z.snd.snd.snd.snd.snd.snd ≤ (9999 : Nat)) && true then Option.bind (idx z.snd.snd.snd.snd.fst)
  fun (z_2 : Nat) => bif decide (z_2 < List.length (Blk.mk false 3 1 (List.map eI z.snd.snd.fst)).rows) then Option.bind (unenc (List.map eI) (List.map eI z.snd.snd.fst))
  fun (z_3 : List Int) => bif decide (z_2 < List.length z_3) then Option.bind (unenc encSml [AV.sl (List.map eI z.snd.fst), (vI (↑(Nat.div (F.nv z.snd.snd.snd.fst) (F.nv
  z.snd.fst)) : Int))]) fun (z_4 : List Int × Int) => bif F.nk (300 : Nat) z_4.fst && decide ((0 : Int) ≤ z_4.snd) && decide (z_4.snd ≤ (9999 : Int)) then Option.bind (unenc
  encLes [AV.sl (List.map eI z.snd.snd.snd.fst), AV.sl (List.map eI (F.lb (F.nv z_4.fst * Int.toNat z_4.snd)))]) fun (z_5 : List Int × List Int) => bif F.nk (1000 : Nat)
  z_5.fst && F.nk (1000 : Nat) z_5.snd && decide (F.nv z_5.snd ≤ F.nv z_5.fst) then some (Ex.normal, St.mk [(8, (vI (IntKind.wrap IntKind.i64 (z.snd.snd.snd.snd.fst - (1 :
  Int))))), (7, AV.sl (List.map eI (F.lb (F.nv z_5.fst - F.nv z_5.snd)))), (6, .own 15), (1, AV.sl (List.map eI z.snd.fst)), (0, AV.sl (List.map eI z.fst))] [(15, Blk.mk
  false 3 1 (List.set (List.map eI z.snd.snd.fst) z_2 [(vI (↑(Nat.div (F.nv z.snd.snd.snd.fst) (F.nv z.snd.fst)) : Int))]))]) else none else none else none else none else
  none else none else none else some (Ex.exit (0 : Nat), St.mk [(7, .own 7), (6, .own 15)] [(15, Blk.mk false 3 1 (List.map eI out)), (7, Blk.mk false 3 1 [])]) := (execR_bind _ _ _).symm.trans (by kernel_rfl)

def stDx (a b : List Int) : Option Nat → St
  | none => stDv a b (List.replicate a.length 0) ((a.length : Int) - 1)
  | some n => stDvS a b (List.replicate n 0 ++ (F.dqo (F.nv b) (a.drop n)).1) (F.lb (F.dqo (F.nv b) (a.drop n)).2) ((n : Int) - 1)

def outDx (a b : List Int) : Option Nat → T (Ex × St)
  | none => outDv a b (List.replicate a.length 0) ((a.length : Int) - 1)
  | some n => .ret (.exit 0, ⟨[(7, .sl ((F.lb (F.dqo (F.nv b) a).2).map eI)), (6, .own 15)], [(15, ⟨false, 3, 1, (F.dqo (F.nv b) a).1.map eI⟩)]⟩)

theorem dv_step {a b : List Int} (h1 : F.nk 200 a = true) (h2 : F.nk 200 b = true) (h3 : 0 < F.nv b) {n : Nat} (hlt : n < a.length) (rs : List Int) (hrs : rs = F.lb (F.dqo (F.nv b) (a.drop (n + 1))).2) (out : List Int) (ho : out = List.replicate (n + 1) 0 ++ (F.dqo (F.nv b) (a.drop (n + 1))).1) :
    ((exec enDv (loopN Tryz.f100 0) (stDvS a b out rs n)).bind (lessX ([8, 7, 6, 1, 0], [15, 7]) ([7, 6], [15, 7]) ([], []))).val = some (.normal, stDx a b (some n)) ∧
    (rs = [] → ((exec enDv (loopN Tryz.f100 0) (stDv a b out n)).bind (lessX ([8, 7, 6, 1, 0], [15, 7]) ([7, 6], [15, 7]) ([], []))).val = some (.normal, stDx a b (some n))) := by
  have l1 := F.nk_len h1
  have o1 := F.nk_ok h1
  have n2 := nk_up h2 (by decide : 200 ≤ 300)
  have hbv := nk_lt h2
  have hx : a[n]? = some a[n] := List.getElem?_eq_getElem hlt
  have hxo := o1 _ (List.getElem_mem hlt)
  generalize hxe : a[n] = x at hx hxo
  obtain ⟨q1, q2, q3, q4, q5⟩ := F.dqo_step h3 hxo (F.okL_drop (n + 1) o1)
  have hD : (F.dqo (F.nv b) (x :: a.drop (n + 1))).1 = (((x.toNat + 10000 * (F.dqo (F.nv b) (a.drop (n + 1))).2) / F.nv b : Nat) : Int) :: (F.dqo (F.nv b) (a.drop (n + 1))).1 := by rw [F.dqo]
  have hdl : (F.dqo (F.nv b) (a.drop (n + 1))).1.length + (n + 1) = a.length := by
    rw [(F.dqo_eq h3 (F.okL_drop (n + 1) o1)).2.2.2, List.length_drop]; omega
  have hset := F.set_rep n (((x.toNat + 10000 * (F.dqo (F.nv b) (a.drop (n + 1))).2) / F.nv b : Nat) : Int) (F.dqo (F.nv b) (a.drop (n + 1))).1
  rw [← ho, ← hD, ← drop_y hx] at hset
  rw [← hrs] at q1
  rw [← drop_y hx] at q5
  have hol : out.length = a.length := by rw [ho, List.length_append, List.length_replicate]; omega
  have hrl : rs.length ≤ 200 := by
    rw [hrs]
    refine F.lb_len ?_
    have : (F.dqo (F.nv b) (a.drop (n + 1))).2 < F.nv b := by rw [(F.dqo_eq h3 (F.okL_drop (n + 1) o1)).2.2.1]; exact Nat.mod_lt _ h3
    omega
  generalize hy : x.toNat + 10000 * (F.dqo (F.nv b) (a.drop (n + 1))).2 = y at q1 q2 q3 q4 q5 hset
  generalize hqe : y / F.nv b = q at q2 q4 q5 hset
  have hylt : y < 10000 ^ 1 * 10000 ^ 200 := by rw [Nat.pow_one]; exact Nat.lt_of_lt_of_le q3 (Nat.mul_le_mul_left _ (Nat.le_of_lt hbv))
  have k201 : F.nk 201 (F.lb y) = true := F.nk_lb (by rw [← Nat.pow_add] at hylt; exact F.lb_lt hylt (by decide))
  have k1000 := nk_up k201 (by decide : 201 ≤ 1000)
  have k1000b : F.nk 1000 (F.lb (F.nv b * q)) = true := nk_mul (k := 1) hbv (by omega) (by decide)
  have hi0 : decide ((0 : Int) ≤ (n : Int)) = true := decide_eq_true (by omega)
  have i2 : idx (n : Int) = some n := idx_n (by omega)
  have hbr : Nat.ble ((1 + rs.length) * 8) 140737488355328 = true := ble_t (by omega)
  have hall : ((rs.map eI).all fun r => (List.length r).beq 1) = true := List.all_eq_true.2 fun r hr => by
    obtain ⟨x, _, rfl⟩ := List.mem_map.1 hr
    rfl
  have hc1 : decide ((x :: rs).length ≤ 100000) = true := decide_eq_true (by simp only [List.length_cons]; omega)
  have hc2 : decide (([x] : List Int).length ≤ 100000) = true := decide_eq_true (by simp)
  have hdv : ∀ u v : Nat, Nat.div u v = u / v := fun _ _ => rfl
  have hq9 : decide (q ≤ 9999) = true := decide_eq_true q2
  have hz0 : decide ((0 : Int) ≤ (q : Int)) = true := decide_eq_true (by omega)
  have hz9 : decide ((q : Int) ≤ 9999) = true := decide_eq_true (by omega)
  have hno : decide (n < out.length) = true := decide_eq_true (by omega)
  have hle : decide (F.nv b * q ≤ y) = true := decide_eq_true q4
  have hw : IntKind.i64.wrap ((n : Int) - 1) = (n : Int) - 1 := wrap_id (by omega) (by omega)
  refine ⟨?_, fun he => ?_⟩
  · rw [evDvS]
    simp only [unTrm, unSml, unCpr, unLes, preTrm1, preSml1, preCpr1, preLes1, unstDv, unstDvi, unstDvi0, prlDv, prlDvi, outDv, outDvi, etaEnt, etaLst, etaSeg, etaRot, etaBeat, etaSpan, etaHole, Option.bind_some, List.length_map, unStrs, unInts, unBools, unU8s, unEnts, unLsts, unSegs, unRots, unBeats, unSpans, unHoles, F.lt, F.le, cond_true, cond_false, Bool.and_true, Bool.true_and, hi0, i2, decide_eq_true hlt, getD_at hx, hbr, hall, unTrm_c, hc1, q1, h2, n2, decide_eq_true h3, k201, k1000, k1000b, hdv, hqe, F.nv_lb, hq9, hz0, hz9, hno, hle, q5, decide_true, Nat.zero_le, Nat.le_refl, Int.toNat_natCast, hw]
    rw [stDx, ← hset, stDvS, List.map_set]
    rfl
  · subst he
    rw [evDvN]
    simp only [unTrm, unSml, unCpr, unLes, preTrm1, preSml1, preCpr1, preLes1, unstDv, unstDvi, unstDvi0, prlDv, prlDvi, outDv, outDvi, etaEnt, etaLst, etaSeg, etaRot, etaBeat, etaSpan, etaHole, Option.bind_some, List.length_map, unStrs, unInts, unBools, unU8s, unEnts, unLsts, unSegs, unRots, unBeats, unSpans, unHoles, F.lt, F.le, cond_true, cond_false, Bool.and_true, Bool.true_and, hi0, i2, decide_eq_true hlt, getD_at hx, hbr, hall, unTrm_1, hc2, q1, h2, n2, decide_eq_true h3, k201, k1000, k1000b, hdv, hqe, F.nv_lb, hq9, hz0, hz9, hno, hle, q5, decide_true, Nat.zero_le, Nat.le_refl, Int.toNat_natCast, hw]
    rw [stDx, ← hset, stDvS, List.map_set]
    rfl

end M
end Go.Proofs.YtlemjphdhapfpaaGreatDoor
