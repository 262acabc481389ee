/- What is proved here: what headendref1.times and small return on limbs (no statement of the seat). -/
import Derived.Test.YtlemjphdhapfpaaGreatDoorD90
namespace Go.Proofs.YtlemjphdhapfpaaGreatDoor
open Go Go.RowKit
set_option linter.unusedVariables false
set_option linter.unusedSimpArgs false

theorem F.mulR_cons (b : List Int) (x : Int) (a out : List Int) (h : out ≠ []) : F.mrow x 0 out b = (F.mrow x 0 out b).headD 0 :: (F.mrow x 0 out b).tail ∧
    F.mulR b (x :: a) out = (F.mrow x 0 out b).headD 0 :: F.mulR b a (F.mrow x 0 out b).tail := by
  cases out with
  | nil => exact absurd rfl h
  | cons o os =>
    cases b with
    | nil => exact ⟨rfl, by rw [F.mulR, F.mrow]; rfl⟩
    | cons y b => exact ⟨rfl, by rw [F.mulR, F.mrow]; rfl⟩

theorem F.set_app {p q : List Int} {n : Nat} (k : Nat) (v : Int) (h : p.length = n) : (p ++ q).set (n + k) v = p ++ q.set k v := by
  rw [List.set_append_right _ _ (by omega), h, Nat.add_sub_cancel_left]

theorem F.getD_app {p q : List Int} {n : Nat} (k : Nat) (h : p.length = n) : (p ++ q).getD (n + k) 0 = q.getD k 0 := by
  simp only [List.getD]
  rw [List.getElem?_append_right (by omega), h, Nat.add_sub_cancel_left]

namespace M

theorem evTmzL (a : List Int) (b : List Int) (out : List Int) (i : Nat) : ((exec enTmz (loopN Tryz.f76 0) (stTmz a b out i)).bind (lessX ([6, 5, 1, 0], [15]) ([5], [15]) ([], []))).val =
  bif decide ((↑i : Int) < (↑(List.length (List.map eI a)) : Int)) then Option.bind (unenc stTin1 (St.mk [(8, (vI (0 : Int))), (7, (vI (0 : Int))), (6, (vI (↑i : Int))), (5,
  .own 15), (1, AV.sl (List.map eI b)), (0, AV.sl (List.map eI a))] [(15, Blk.mk false 3 1 (List.map eI out))])) fun (z : List Int × List Int × Nat × List Int × Int × Nat)
  => bif F.nk (400 : Nat) z.fst && F.nk (400 : Nat) z.snd.fst && F.okB z.snd.snd.snd.fst && decide ((0 : Int) ≤ z.snd.snd.snd.snd.fst) && decide (z.snd.snd.snd.snd.fst ≤
  (9999 : Int)) && decide (z.snd.snd.snd.snd.snd ≤ List.length z.snd.fst) && decide (z.snd.snd.fst < List.length z.fst) && decide (List.length z.snd.snd.snd.fst =
  List.length z.fst + List.length z.snd.fst) && true then Option.bind (idx (IntKind.wrap IntKind.i64 ((↑z.snd.snd.fst : Int) + (↑(List.length (List.map eI z.snd.fst)) :
  Int)))) fun (z_1 : Nat) => bif decide (z_1 < List.length (Blk.mk false 3 1 (List.map eI (List.take (z.snd.snd.fst + z.snd.snd.snd.snd.snd) z.snd.snd.snd.fst ++ (F.rowD
  (List.getD z.fst z.snd.snd.fst (0 : Int)) z.snd.snd.snd.snd.fst (List.drop (z.snd.snd.fst + z.snd.snd.snd.snd.snd) z.snd.snd.snd.fst) (List.drop z.snd.snd.snd.snd.snd
  z.snd.fst)).fst))).rows) then Option.bind (unenc (List.map eI) (List.map eI (List.take (z.snd.snd.fst + z.snd.snd.snd.snd.snd) z.snd.snd.snd.fst ++ (F.rowD (List.getD
  z.fst z.snd.snd.fst (0 : Int)) z.snd.snd.snd.snd.fst (List.drop (z.snd.snd.fst + z.snd.snd.snd.snd.snd) z.snd.snd.snd.fst) (List.drop z.snd.snd.snd.snd.snd
  z.snd.fst)).fst))) fun (z_2 : List Int) => bif decide (z_1 < List.length z_2) then Option.bind (idx (IntKind.wrap IntKind.i64 ((↑z.snd.snd.fst : Int) + (↑(List.length
  (List.map eI z.snd.fst)) : Int)))) fun (z_3 : Nat) => bif decide (z_3 < List.length (Blk.mk false 3 1 (List.map eI (List.take (z.snd.snd.fst + z.snd.snd.snd.snd.snd)
  z.snd.snd.snd.fst ++ (F.rowD (List.getD z.fst z.snd.snd.fst (0 : Int)) z.snd.snd.snd.snd.fst (List.drop (z.snd.snd.fst + z.snd.snd.snd.snd.snd) z.snd.snd.snd.fst)
  (List.drop z.snd.snd.snd.snd.snd z.snd.fst)).fst))).rows) then Option.bind (unenc (List.map eI) (List.map eI (List.take (z.snd.snd.fst + z.snd.snd.snd.snd.snd)
  z.snd.snd.snd.fst ++ (F.rowD (List.getD z.fst z.snd.snd.fst (0 : Int)) z.snd.snd.snd.snd.fst (List.drop (z.snd.snd.fst + z.snd.snd.snd.snd.snd) z.snd.snd.snd.fst)
  (List.drop z.snd.snd.snd.snd.snd z.snd.fst)).fst))) fun (z_4 : List Int) => bif decide (z_3 < List.length z_4) then some (Ex.normal, St.mk [(6, (vI (IntKind.wrap
  IntKind.i64 ((↑z.snd.snd.fst : Int) + (1 : Int))))), (5, .own 15), (1, AV.sl (List.map eI z.snd.fst)), (0, AV.sl (List.map eI z.fst))] [(15, Blk.mk false 3 1 (List.set
  (List.map eI (List.take (z.snd.snd.fst + z.snd.snd.snd.snd.snd) z.snd.snd.snd.fst ++ (F.rowD (List.getD z.fst z.snd.snd.fst (0 : Int)) z.snd.snd.snd.snd.fst (List.drop
  (z.snd.snd.fst + z.snd.snd.snd.snd.snd) z.snd.snd.snd.fst) (List.drop z.snd.snd.snd.snd.snd z.snd.fst)).fst)) z_3 [(vI (IntKind.wrap IntKind.i64 (List.getD z_2 z_1 (0 :
  Int) + (F.rowD (List.getD z.fst z.snd.snd.fst (0 : Int)) z.snd.snd.snd.snd.fst (List.drop (z.snd.snd.fst + z.snd.snd.snd.snd.snd) z.snd.snd.snd.fst) (List.drop
  z.snd.snd.snd.snd.snd z.snd.fst)).snd)))]))]) else none else none else none else none else none else some (Ex.exit (0 : Nat), St.mk [(5, .own 15)] [(15, Blk.mk false 3 1
  (List.map eI out))]) := (execR_bind _ _ _).symm.trans (by kernel_rfl)

theorem lpTmz_ok (a : List Int) (b : List Int) (out : List Int) (i : Nat) (hp : prlTmz a b out i = true) : ∀ ex s', (outTmz a b out i).val = some (ex, s') → LoopOK enTmz (loopN Tryz.f76 0) (stTmz a b out i) ex s' := by
  simp only [prlTmz, Bool.and_eq_true, decide_eq_true_eq] at hp
  obtain ⟨⟨⟨⟨⟨h1, h2⟩, h3⟩, h4⟩, h5⟩, h6⟩ := hp
  have l1 := F.nk_len h1
  have l2 := F.nk_len h2
  have o1 := F.nk_ok h1
  have o2 := F.nk_ok h2
  have h3 := F.okB_iff.1 h3
  have h4 := F.zB_iff.1 h4
  refine loop_gen (st := fun p : List Int × Nat => stTmz a b p.1 p.2) (out := fun p => outTmz a b p.1 p.2) (I := fun p => F.okL p.1 ∧ F.zeroFrom (p.2 + b.length) p.1 ∧ p.2 ≤ a.length ∧ p.1.length = a.length + b.length) (n := ([6, 5, 1, 0], [15])) (e := ([5], [15])) (r := ([], [])) (fun p => a.length - p.2) ?_ (out, i) ⟨h3, h4, h5, h6⟩
  clear h3 h4 h5 h6
  rintro ⟨out, i⟩ ⟨g0, g1, g2, g3⟩
  simp only at g0 g1 g2 g3
  by_cases hlt : i < a.length
  · right
    have hx : a[i]? = some a[i] := List.getElem?_eq_getElem hlt
    have hxg : a.getD i 0 = a[i] := by simp [hx]
    have hxo := o1 _ (List.getElem_mem hlt)
    generalize a[i] = x at hx hxg hxo
    have hod := F.okL_drop i g0
    have hzd : F.zeroFrom b.length (out.drop i) := fun z hz => g1 z (by rw [List.drop_drop] at hz; exact hz)
    have hbl : b.length < (out.drop i).length := by rw [List.length_drop]; omega
    have hD := F.mrow_D x b (out.drop i) 0 hbl
    obtain ⟨k1, k2, k3⟩ := F.rowD_ok hxo b (out.drop i) 0 o2 hod (by decide)
    have kz := F.rowD_z (x := x) b (out.drop i) 0 hbl hzd
    have kl := F.rowD_len x b (out.drop i) 0
    obtain ⟨m1, m2⟩ := F.mrow_ok hxo b (out.drop i) 0 o2 hod hzd (by decide)
    have htl : (out.take i).length = i := by rw [List.length_take]; omega
    have hll : (out.take i ++ (F.rowD x 0 (out.drop i) b).1).length = a.length + b.length := by rw [List.length_append, kl, htl, List.length_drop]; omega
    have hml : (F.mrow x 0 (out.drop i) b).length = (out.drop i).length := by rw [hD, List.length_set, kl]
    have hgd := F.getD_app (p := out.take i) (q := (F.rowD x 0 (out.drop i) b).1) b.length htl
    have hst := F.set_app (p := out.take i) (q := (F.rowD x 0 (out.drop i) b).1) b.length ((F.rowD x 0 (out.drop i) b).1.getD b.length 0 + (F.rowD x 0 (out.drop i) b).2) htl
    rw [← hD] at hst
    rw [kz, Int.zero_add] at hst
    rw [kz] at hgd
    have w0 : IntKind.i64.wrap ((i : Int) + (b.length : Int)) = ((i + b.length : Nat) : Int) := by rw [wrap_id (by omega) (by omega)]; rfl
    have w1 : IntKind.i64.wrap (0 + (F.rowD x 0 (out.drop i) b).2) = (F.rowD x 0 (out.drop i) b).2 := by rw [Int.zero_add]; exact wrap_id (by omega) (by omega)
    have hw : IntKind.i64.wrap ((i : Int) + 1) = ((i + 1 : Nat) : Int) := by rw [wrap_id (by omega) (by omega)]; rfl
    have i3 : idx ((i + b.length : Nat) : Int) = some (i + b.length) := idx_n (by omega)
    have hle : decide (i + b.length < (out.take i ++ (F.rowD x 0 (out.drop i) b).1).length) = true := decide_eq_true (by omega)
    have hob := F.okB_iff.2 g0
    refine ⟨(out.take i ++ F.mrow x 0 (out.drop i) b, i + 1), ?_, rfl, ⟨F.okL_app (F.okL_take i g0) m1, ?_, by simp only; omega, by simp only [List.length_append, htl, hml, List.length_drop]; omega⟩, by simp only; omega, ?_⟩
    · rw [evTmzL]
      simp only [unTrm, preTrm1, unstTmz, unstTin, unstTmz0, unstTin0, prlTmz, prlTin, outTmz, outTin, etaEnt, etaLst, etaSeg, etaRot, etaBeat, etaSpan, etaHole, Option.bind_some, List.length_map, unStrs, unInts, unBools, unU8s, unEnts, unLsts, unSegs, unRots, unBeats, unSpans, unHoles, F.lt, F.le, cond_true, cond_false, Bool.and_true, Bool.true_and, cast_lt hlt, h1, h2, hob, decide_eq_true hlt, g3, decide_true, Int.le_refl, (by decide : decide ((0 : Int) ≤ 9999) = true), Nat.zero_le, Nat.add_zero, List.drop_zero, hxg, w0, i3, hle, hgd, w1, hst, hw, stTmz]
      rw [← hst, List.map_set]
      rfl
    · intro z hz
      simp only at hz
      rw [List.drop_append, List.drop_of_length_le (by omega), List.nil_append, htl, show i + 1 + b.length - i = b.length + 1 by omega] at hz
      exact m2 z hz
    · have hne : out.drop i ≠ [] := fun e => by rw [e] at hbl; simp at hbl
      obtain ⟨e1, e2⟩ := F.mulR_cons b x (a.drop (i + 1)) (out.drop i) hne
      have e3 : (out.take i ++ F.mrow x 0 (out.drop i) b).take (i + 1) = out.take i ++ [(F.mrow x 0 (out.drop i) b).headD 0] := by
        rw [List.take_append, List.take_of_length_le (by omega), htl, show i + 1 - i = 1 by omega]
        congr 1
        rw [e1]; rfl
      have e4 : (out.take i ++ F.mrow x 0 (out.drop i) b).drop (i + 1) = (F.mrow x 0 (out.drop i) b).tail := by
        rw [List.drop_append, List.drop_of_length_le (by omega), List.nil_append, htl, show i + 1 - i = 1 by omega, List.drop_one]
      simp only [outTmz, drop_y hx, e2, e3, e4, List.append_assoc, List.singleton_append]
  · have hk : i = a.length := by omega
    left
    refine ⟨(.exit 0, ⟨[(5, .own 15)], [(15, ⟨false, 3, 1, out.map eI⟩)]⟩), ?_, ?_, by simp, rfl⟩
    · have c2 : ¬ (i : Int) < (a.length : Int) := by omega
      rw [evTmzL]
      simp only [unTrm, preTrm1, unstTmz, unstTin, unstTmz0, unstTin0, prlTmz, prlTin, outTmz, outTin, etaEnt, etaLst, etaSeg, etaRot, etaBeat, etaSpan, etaHole, Option.bind_some, List.length_map, unStrs, unInts, unBools, unU8s, unEnts, unLsts, unSegs, unRots, unBeats, unSpans, unHoles, F.lt, F.le, cond_true, cond_false, Bool.and_true, Bool.true_and, decide_eq_false c2]
    · simp only [outTmz, hk, List.drop_length, F.mulR, List.take_append_drop]
      rfl

theorem evTmz (a : List Int) (b : List Int) : (runF enTmz false Tryz.f76 [.sl (a.map eI), .sl (b.map eI)]).val =
  Option.bind (idx (IntKind.wrap IntKind.i64 ((↑(List.length (List.map eI a)) : Int) + (↑(List.length (List.map eI b)) : Int)))) fun (z : Nat) => Option.bind (idx
  (IntKind.wrap IntKind.i64 ((↑(List.length (List.map eI a)) : Int) + (↑(List.length (List.map eI b)) : Int)))) fun (z_1 : Nat) => bif Nat.ble z z_1 && Nat.ble (z_1 * (8 :
  Nat)) (140737488355328 : Nat) then Option.bind (unenc stTmz1 (St.mk [(6, (vI (0 : Int))), (5, .own 15), (1, AV.sl (List.map eI b)), (0, AV.sl (List.map eI a))] [(15,
  Blk.mk false 3 1 (List.replicate z [(vI (0 : Int))]))])) fun (z : List Int × List Int × List Int × Nat) => bif F.nk (400 : Nat) z.fst && F.nk (400 : Nat) z.snd.fst &&
  F.okB z.snd.snd.fst && F.zB (z.snd.snd.snd + List.length z.snd.fst) z.snd.snd.fst && decide (z.snd.snd.snd ≤ List.length z.fst) && decide (List.length z.snd.snd.fst =
  List.length z.fst + List.length z.snd.fst) && true then Option.bind (unenc encTrm [AV.sl (List.map eI (List.take z.snd.snd.snd z.snd.snd.fst ++ F.mulR z.snd.fst (List.drop
  z.snd.snd.snd z.fst) (List.drop z.snd.snd.snd z.snd.snd.fst)))]) fun (z : List Int) => bif decide (List.length z ≤ (100000 : Nat)) then some (AV.sl (List.map eI (F.trimL
  z)), []) else none else none else none := (runFR_val).symm.trans (by kernel_rfl)

def encTmz1 (a : List Int) (b : List Int) : List AV := [.sl (a.map eI), .sl (b.map eI)]

def encTmz (a : (List Int) × (List Int)) : List AV := encTmz1 a.1 a.2

theorem encTmz_inj (a a' : (List Int) × (List Int)) (h : encTmz a = encTmz a') : a = a' := by
  simp only [encTmz, encTmz1] at h
  try simp [strs_inj, ints_inj, bools_inj, u8s_inj, eEnts_inj, eEnt_iff, eLsts_inj, eLst_iff, eSegs_inj, eSeg_iff, eRots_inj, eRot_iff, eBeats_inj, eBeat_iff, eSpans_inj, eSpan_iff, eHoles_inj, eHole_iff] at h
  grind

theorem unTmz (a : List Int) (b : List Int) : unenc encTmz ([AV.sl (List.map eI a), AV.sl (List.map eI b)]) = some (a, b) := unenc_of encTmz_inj (a, b) rfl

def resTmz1 (a : List Int) (b : List Int) : AV × Heap := (.sl ((F.lb (F.nv a * F.nv b)).map eI), [])

def preTmz1 (a : List Int) (b : List Int) : Bool := F.nk 400 a && F.nk 400 b

noncomputable def oTmz : Orc := orc 76 false encTmz (fun a => preTmz1 a.1 a.2) fun a => resTmz1 a.1 a.2

theorem okTmz : OrcOK Tryz.prog noG oTmz := by
  refine mk_ok Tryz.f76 (keep := false) (by kernel_rfl) (by kernel_rfl) enTmz_ok mixed (two_loops (x0 := loopN Tryz.f76 0) (x1 := loopN Tryz.f76 1) (by kernel_rfl) (lpo_ok ?_) (lpo_ok ?_)) (by first | exact fun _ _ => ⟨rfl, rfl⟩ | (intro h; cases h)) ?_
  · rintro ⟨a, b, out, i⟩ hp
    exact lpTmz_ok a b out i hp
  · rintro ⟨a, b, i, out, c, k⟩ hp
    exact lpTin_ok a b i out c k hp
  rintro ⟨a, b⟩ hpre hok
  show (runF enTmz false _ (encTmz1 _ _)).val = some (resTmz1 _ _)
  unfold encTmz1 resTmz1
  rw [evTmz]
  have hpre : (F.nk 400 a && F.nk 400 b) = true := hpre
  have hpre2 := hpre
  rw [Bool.and_eq_true] at hpre2
  obtain ⟨p1, p2⟩ := hpre2
  have l1 := F.nk_len p1
  have l2 := F.nk_len p2
  have hres : F.trimL (F.mulR b a (List.replicate (a.length + b.length) 0)) = F.lb (F.nv a * F.nv b) := by
    obtain ⟨m, hm1, hm⟩ := F.nk_of p1
    obtain ⟨n, hn1, hn⟩ := F.nk_of p2
    rw [hm1, hn1, F.nv_lb, F.nv_lb]
    exact F.mul_lb m n
  have hrep : ∀ n : Nat, List.replicate n [vI (0 : Int)] = (List.replicate n (0 : Int)).map eI := fun n => by rw [List.map_replicate]; rfl
  have w0 : IntKind.i64.wrap ((a.length : Int) + (b.length : Int)) = ((a.length + b.length : Nat) : Int) := by rw [wrap_id (by omega) (by omega)]; rfl
  have i0 : idx ((a.length + b.length : Nat) : Int) = some (a.length + b.length) := idx_n (by omega)
  have hb1 : Nat.ble (a.length + b.length) (a.length + b.length) = true := ble_t (Nat.le_refl _)
  have hb2 : Nat.ble ((a.length + b.length) * 8) 140737488355328 = true := ble_t (by omega)
  have hok : F.okB (List.replicate (a.length + b.length) 0) = true := F.okB_iff.2 fun x hx => by rw [(List.mem_replicate.1 hx).2]; decide
  have hz : F.zB (0 + b.length) (List.replicate (a.length + b.length) 0) = true := F.zB_iff.2 fun x hx => (List.mem_replicate.1 (List.mem_of_mem_drop hx)).2
  have hl : decide ((F.mulR b a (List.replicate (a.length + b.length) 0)).length ≤ 100000) = true := decide_eq_true (by
    have h := (F.mulR_eq (F.nk_ok p2) a (List.replicate (a.length + b.length) 0) (F.nk_ok p1) (F.okB_iff.1 hok) (fun x hx => (List.mem_replicate.1 (List.mem_of_mem_drop hx)).2) (by rw [List.length_replicate]; exact Nat.le_refl _)).2.2
    rw [h, List.length_replicate]; omega)
  simp only [unTrm, preTrm1, unstTmz, unstTin, unstTmz0, unstTin0, prlTmz, prlTin, outTmz, outTin, etaEnt, etaLst, etaSeg, etaRot, etaBeat, etaSpan, etaHole, Option.bind_some, List.length_map, unStrs, unInts, unBools, unU8s, unEnts, unLsts, unSegs, unRots, unBeats, unSpans, unHoles, F.lt, F.le, cond_true, cond_false, Bool.and_true, Bool.true_and, p1, p2, w0, i0, hb1, hb2, hrep, hok, hz, List.length_replicate, decide_true, Nat.zero_le, List.take_zero, List.nil_append, List.drop_zero, hl, hres]
  done

theorem unTrm_1 (n : Int) : unenc encTrm [.sl [[vI n]]] = some [n] := unTrm [n]

theorem trim_1 {n : Int} (h1 : 0 ≤ n) (h2 : n ≤ 9999) : F.trimL [n] = F.lb n.toNat := by
  rw [F.trimL_eq (F.okL_cons ⟨h1, h2⟩ F.okL_nil)]
  congr 1
  simp [F.vl]

theorem nk_up {j k : Nat} {l : List Int} (h : F.nk j l = true) (hjk : j ≤ k) : F.nk k l = true := by
  obtain ⟨m, rfl, hm⟩ := F.nk_of h
  exact F.nk_lb (F.lb_lt hm hjk)

theorem nk_1 {n : Int} (h2 : n ≤ 9999) {k : Nat} (hk : 1 ≤ k) : F.nk k (F.lb n.toNat) = true := F.nk_lb (F.lb_lt (m := 1) (by omega) hk)

noncomputable def enSml : Env := envH ty noG lks [oTrm, oTmz] [] [] []

theorem enSml_ok : EnvOK Tryz.prog enSml := by
  refine envH_ok lks_ok ty_ok ?_ ?_
  · simp only [List.forall_mem_cons]
    exact ⟨okTrm, okTmz, by simp⟩
  · simp

theorem evSml (a : List Int) (n : Int) : (runF enSml false Tryz.f115 [.sl (a.map eI), vI n]).val =
  Option.bind (unenc encTrm [AV.sl [[(vI n)]]]) fun (z : List Int) => bif decide (List.length z ≤ (100000 : Nat)) then Option.bind (unenc encTmz [AV.sl (List.map eI a),
  AV.sl (List.map eI (F.trimL z))]) fun (z : List Int × List Int) => bif F.nk (400 : Nat) z.fst && F.nk (400 : Nat) z.snd then some (AV.sl (List.map eI (F.lb (F.nv z.fst *
  F.nv z.snd))), []) else none else none := (runFR_val).symm.trans (by kernel_rfl)

def encSml1 (a : List Int) (n : Int) : List AV := [.sl (a.map eI), vI n]

def encSml (a : (List Int) × Int) : List AV := encSml1 a.1 a.2

theorem encSml_inj (a a' : (List Int) × Int) (h : encSml a = encSml a') : a = a' := by
  simp only [encSml, encSml1] at h
  try simp [strs_inj, ints_inj, bools_inj, u8s_inj, eEnts_inj, eEnt_iff, eLsts_inj, eLst_iff, eSegs_inj, eSeg_iff, eRots_inj, eRot_iff, eBeats_inj, eBeat_iff, eSpans_inj, eSpan_iff, eHoles_inj, eHole_iff] at h
  grind

theorem unSml (a : List Int) (n : Int) : unenc encSml ([AV.sl (List.map eI a), (vI n)]) = some (a, n) := unenc_of encSml_inj (a, n) rfl

def resSml1 (a : List Int) (n : Int) : AV × Heap := (.sl ((F.lb (F.nv a * n.toNat)).map eI), [])

def preSml1 (a : List Int) (n : Int) : Bool := F.nk 300 a && decide (0 ≤ n) && decide (n ≤ 9999)

noncomputable def oSml : Orc := orc 115 false encSml (fun a => preSml1 a.1 a.2) fun a => resSml1 a.1 a.2

theorem okSml : OrcOK Tryz.prog noG oSml := by
  refine mk_ok Tryz.f115 (keep := false) (by kernel_rfl) (by kernel_rfl) enSml_ok mixed (no_loops (by kernel_rfl)) (by first | exact fun _ _ => ⟨rfl, rfl⟩ | (intro h; cases h)) ?_
  rintro ⟨a, n⟩ hpre hok
  show (runF enSml false _ (encSml1 _ _)).val = some (resSml1 _ _)
  unfold encSml1 resSml1
  rw [evSml]
  have hpre : (F.nk 300 a && decide (0 ≤ n) && decide (n ≤ 9999)) = true := hpre
  have hpre2 := hpre
  rw [Bool.and_eq_true, Bool.and_eq_true, decide_eq_true_eq, decide_eq_true_eq] at hpre2
  simp only [unTrm, unTmz, preTrm1, preTmz1, etaEnt, etaLst, etaSeg, etaRot, etaBeat, etaSpan, etaHole, Option.bind_some, List.length_map, unStrs, unInts, unBools, unU8s, unEnts, unLsts, unSegs, unRots, unBeats, unSpans, unHoles, F.lt, F.le, cond_true, cond_false, Bool.and_true, Bool.true_and, nk_up hpre2.1.1 (by decide : 300 ≤ 400), unTrm_1, trim_1 hpre2.1.2 hpre2.2, nk_1 hpre2.2 (by decide : 1 ≤ 400), (by rfl : decide ([n].length ≤ 100000) = true), F.nv_lb]
  rfl

end M
end Go.Proofs.YtlemjphdhapfpaaGreatDoor
