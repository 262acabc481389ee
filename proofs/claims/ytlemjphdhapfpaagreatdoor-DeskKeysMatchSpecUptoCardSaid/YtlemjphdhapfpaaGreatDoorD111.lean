/- What is proved here: what headendref1.digits returns on limbs (no statement of the seat). -/
import Derived.Test.YtlemjphdhapfpaaGreatDoorD110
import Derived.Lib.Repeat
namespace Go.Proofs.YtlemjphdhapfpaaGreatDoor
open Go Go.RowKit
set_option linter.unusedVariables false
set_option linter.unusedSimpArgs false

def F.zrs (k : Nat) : ByteArray := ⟨(List.replicate k (48 : UInt8)).toArray⟩

theorem F.bsx {a b : ByteArray} (h : F.bs a = F.bs b) : a = b := by
  cases a; cases b
  unfold F.bs at h
  simp only at h
  rw [Array.toList_inj.1 h]

theorem F.bs_cat (a b : ByteArray) : F.bs (a ++ b) = F.bs a ++ F.bs b := by
  unfold F.bs
  rw [ByteArray.data_append, Array.toList_append]

theorem F.bs_zrs (k : Nat) : F.bs (F.zrs k) = List.replicate k 48 := rfl

theorem F.zrs_size (k : Nat) : (F.zrs k).size = k := by
  rw [← F.bs_len, F.bs_zrs, List.length_replicate]

theorem F.rep_zrs (k : Nat) : (⟨(Lib.repeatL [48] k).toArray⟩ : ByteArray) = F.zrs k := by
  refine F.bsx ?_
  show (Lib.repeatL [48] k).toArray.toList = _
  rw [F.bs_zrs]
  simp only
  induction k with
  | zero => rfl
  | succ k ih => simp only [Lib.repeatL, List.replicate_succ, ih]; rfl

theorem F.cat_assoc (a b c : ByteArray) : a ++ b ++ c = a ++ (b ++ c) := F.bsx (by simp only [F.bs_cat, List.append_assoc])

theorem F.cat_nil (a : ByteArray) : a ++ ⟨#[]⟩ = a := F.bsx (by rw [F.bs_cat]; exact List.append_nil _)

/-- Four digits of a limb. -/
def F.pdT (x : Int) : ByteArray := F.zrs (4 - (F.itoa x).size) ++ F.itoa x

/-- The first limbs written, the greatest one of them first. -/
def F.tlT (l : List Int) : Nat → ByteArray
  | 0 => ⟨#[]⟩
  | k + 1 => F.pdT (l.getD k 0) ++ F.tlT l k

def F.txL : List Int → ByteArray
  | [] => ⟨#[]⟩
  | [x] => F.itoa x
  | x :: y :: l => F.txL (y :: l) ++ F.pdT x

theorem F.tlT_cons (x : Int) (l : List Int) : ∀ k, F.tlT (x :: l) (k + 1) = F.tlT l k ++ F.pdT x
  | 0 => by
    show F.pdT x ++ ⟨#[]⟩ = _
    rw [F.cat_nil]
    exact F.bsx (by rw [F.bs_cat]; rfl)
  | k + 1 => by
    rw [F.tlT, F.tlT_cons x l k, F.tlT, ← F.cat_assoc]
    rfl

theorem F.txL_eq : ∀ (l : List Int) (h : l ≠ []), F.itoa (l.getLast h) ++ F.tlT l (l.length - 1) = F.txL l
  | [x], _ => by
    show F.itoa x ++ ⟨#[]⟩ = F.itoa x
    exact F.cat_nil _
  | x :: y :: l, h => by
    have ih := F.txL_eq (y :: l) (by simp)
    rw [F.txL, ← ih, List.getLast_cons (by simp), F.cat_assoc]
    congr 1
    exact F.tlT_cons x (y :: l) l.length

theorem F.txL_lb (n : Nat) (h : 0 < n) : F.txL (F.lb n) = F.itoa (n : Int) := by
  induction n using Nat.strongRecOn with
  | ind n ih =>
    rw [F.lb_pos (by omega)]
    by_cases hs : n < 10000
    · rw [show n / 10000 = 0 by omega, F.lb_zero, F.txL, show n % 10000 = n by omega]
    · have hp : 0 < n / 10000 := by omega
      have i := ih (n / 10000) (by omega) hp
      have hc : F.txL (((n % 10000 : Nat) : Int) :: F.lb (n / 10000)) = F.txL (F.lb (n / 10000)) ++ F.pdT ((n % 10000 : Nat) : Int) := by
        rw [F.lb_pos (by omega : n / 10000 ≠ 0)]
        rfl
      rw [hc, i]
      refine F.bsx ?_
      have hd := F.dd_app hp (Nat.mod_lt n (by decide : 0 < 10000))
      rw [show n / 10000 * 10000 + n % 10000 = n by omega] at hd
      unfold F.pdT
      rw [F.bs_cat, F.bs_cat, F.bs_zrs, F.itoa_n, F.itoa_n, F.itoa_n, hd]
      unfold F.pad4
      rw [← F.bs_len, F.itoa_n]

theorem F.itoa_0 : F.itoa ((0 : Nat) : Int) = ⟨#[48]⟩ := F.bsx (by rw [F.itoa_n, F.dd_lt (by decide)]; rfl)

theorem F.dd_len4 {n : Nat} (h : n ≤ 9999) : (F.itoa (n : Int)).size ≤ 4 := by
  have e := F.pad_dd (b := n) (by omega)
  have := congrArg List.length e
  unfold F.pad4 at this
  rw [List.length_append, List.length_replicate] at this
  rw [← F.bs_len, F.itoa_n]
  simp only [List.length_cons, List.length_nil] at this
  omega

theorem F.tlT_size {l : List Int} (ho : F.okL l) : ∀ k, k ≤ l.length → (F.tlT l k).size = 4 * k
  | 0, _ => rfl
  | k + 1, h => by
    have h1 := F.tlT_size ho k (by omega)
    have hk : k < l.length := h
    have hx := ho _ (List.getElem_mem hk)
    have hg : l.getD k 0 = l[k] := by simp [List.getD, List.getElem?_eq_getElem hk]
    rw [F.tlT, ByteArray.size_append, h1, hg]
    generalize l[k] = x at hx
    obtain ⟨n, rfl⟩ : ∃ n : Nat, x = n := ⟨x.toNat, by omega⟩
    have := F.dd_len4 (n := n) (by omega)
    unfold F.pdT
    rw [ByteArray.size_append, F.zrs_size]
    omega

namespace M

def encRpt1 (c : Nat) : List AV := [vS ⟨#[48]⟩, vI c]

def encRpt (a : Nat) : List AV := encRpt1 a

theorem encRpt_inj (a a' : Nat) (h : encRpt a = encRpt a') : a = a' := by
  simp only [encRpt, encRpt1] at h
  try simp [strs_inj, ints_inj, bools_inj, u8s_inj, eEnts_inj, eEnt_iff, eLsts_inj, eLst_iff, eSegs_inj, eSeg_iff, eRots_inj, eRot_iff, eBeats_inj, eBeat_iff, eSpans_inj, eSpan_iff, eHoles_inj, eHole_iff] at h
  grind

theorem unRpt (c : Nat) : unenc encRpt ([(vS (ByteArray.mk (Array.mk [(48 : UInt8)]))), (vI (↑c : Int))]) = some (c) := unenc_of encRpt_inj (c) rfl

def resRpt1 (c : Nat) : AV × Heap := (vS (F.zrs c), [])

def preRpt1 (c : Nat) : Bool := decide (c ≤ 1000)

noncomputable def oRpt : Orc := orc 104 true encRpt (fun a => preRpt1 a) fun a => resRpt1 a

theorem okRpt : OrcOK Tryz.prog noG oRpt := by
  refine orc_ok ⟨Tryz.f104, by kernel_rfl, by kernel_rfl, by kernel_rfl⟩ (fun c hp _ => ?_) (fun _ _ => ⟨rfl, rfl⟩)
  have hp : c ≤ 1000 := of_decide_eq_true hp
  refine SpecP.below2 (fun w S => rv_mk (by show (F.zrs c).size ≤ 9223372036854775807; rw [F.zrs_size]; omega)) fun _ _ w S hG => ?_
  refine (Tryz.strings_Repeat ⟨#[48]⟩ c w (by omega) (by show 1 * c ≤ _; omega)).mono ?_
  rintro e w' ⟨he, hb⟩
  exact ⟨by rw [he, ← F.rep_zrs], hb⟩

def stDig (l : List Int) (t : ByteArray) (i : Int) : St := ⟨[(4, vI i), (3, vS t), (0, .sl (l.map eI))], []⟩

def stDig1 (a : (List Int) × ByteArray × Int) : St := stDig a.1 a.2.1 a.2.2

theorem stDig_inj (a a' : (List Int) × ByteArray × Int) (h : stDig1 a = stDig1 a') : a = a' := by
  simp only [stDig1, stDig] at h
  try simp [strs_inj, ints_inj, bools_inj, u8s_inj, eEnts_inj, eEnt_iff, eLsts_inj, eLst_iff, eSegs_inj, eSeg_iff, eRots_inj, eRot_iff, eBeats_inj, eBeat_iff, eSpans_inj, eSpan_iff, eHoles_inj, eHole_iff] at h
  grind

theorem unstDig (l : List Int) (t : ByteArray) (i : Int) : unenc stDig1 (St.mk [(4, (vI i)), (3, (vS t)), (0, AV.sl (List.map eI l))] []) = some (l, t, i) := unenc_of stDig_inj (l, t, i) rfl

def outDig (l : List Int) (t : ByteArray) (i : Int) : T (Ex × St) := .ret (.exit 0, ⟨[(3, vS (t ++ F.tlT l (i + 1).toNat))], []⟩)

noncomputable def prlDig (l : List Int) (t : ByteArray) (i : Int) : Bool := F.nk 200 l && decide (-1 ≤ i) && decide (i < l.length) && decide (t.size + 4 * (i + 1).toNat ≤ 10000)

noncomputable def lpDig : Nat × (St → T (Ex × St)) := (5, lpo [4, 3, 0] [] stDig1 (fun a => prlDig a.1 a.2.1 a.2.2) fun a => outDig a.1 a.2.1 a.2.2)

noncomputable def enDig : Env := envH ty noG lks [oIta, oRpt] [] [] [lpDig]

theorem enDig_ok : EnvOK Tryz.prog enDig := by
  refine envH_ok lks_ok ty_ok ?_ ?_
  · simp only [List.forall_mem_cons]
    exact ⟨okIta, okRpt, by simp⟩
  · simp

theorem evDigL (l : List Int) (t : ByteArray) (i : Int) : ((exec enDig (loopN Tryz.f75 0) (stDig l t i)).bind (lessX ([4, 3, 0], []) ([3], []) ([], []))).val =
  bif decide ((0 : Int) ≤ i) then Option.bind (idx i) fun (z : Nat) => Option.bind (unenc (List.map eI) (List.map eI l)) fun (z_1 : List Int) => bif decide (z < List.length
  z_1) then Option.bind (unenc encIta [(vI (List.getD z_1 z (0 : Int)))]) fun (z : Int) => bif decide ((-9223372036854775808 : Int) ≤ z) && decide (z ≤ (9223372036854775807
  : Int)) then Option.bind (unenc encRpt [(vS (ByteArray.mk (Array.mk [(48 : UInt8)]))), (vI (IntKind.wrap IntKind.i64 ((4 : Int) - (↑(ByteArray.size (F.itoa z)) : Int))))])
  fun (z_2 : Nat) => bif decide (z_2 ≤ (1000 : Nat)) then bif Nat.ble (ByteArray.size (F.zrs z_2) + ByteArray.size (F.itoa z)) (9223372036854775807 : Nat) then bif Nat.ble
  (ByteArray.size t + ByteArray.size (F.zrs z_2 ++ F.itoa z)) (9223372036854775807 : Nat) then some (Ex.normal, St.mk [(4, (vI (IntKind.wrap IntKind.i64 (i - (1 : Int))))),
  (3, (vS (t ++ (F.zrs z_2 ++ F.itoa z)))), (0, AV.sl (List.map eI l))] []) else none else none else none else none else none else some (Ex.exit (0 : Nat), St.mk [(3, (vS
  t))] []) := (execR_bind _ _ _).symm.trans (by kernel_rfl)

theorem lpDig_ok (l : List Int) (t : ByteArray) (i : Int) (hp : prlDig l t i = true) : ∀ ex s', (outDig l t i).val = some (ex, s') → LoopOK enDig (loopN Tryz.f75 0) (stDig l t i) ex s' := by
  simp only [prlDig, Bool.and_eq_true, decide_eq_true_eq] at hp
  obtain ⟨⟨⟨h1, h2⟩, h3⟩, h4⟩ := hp
  have l1 := F.nk_len h1
  have o1 := F.nk_ok h1
  clear h1
  obtain ⟨n, rfl⟩ : ∃ n : Nat, i = (n : Int) - 1 := ⟨(i + 1).toNat, by omega⟩
  have hn : ((n : Int) - 1 + 1).toNat = n := by omega
  rw [hn] at h4
  refine loop_gen (st := fun p : ByteArray × Nat => stDig l p.1 ((p.2 : Int) - 1)) (out := fun p => outDig l p.1 ((p.2 : Int) - 1)) (I := fun p => p.2 ≤ l.length ∧ p.1.size + 4 * p.2 ≤ 10000) (n := ([4, 3, 0], [])) (e := ([3], [])) (r := ([], [])) (fun p => p.2) ?_ (t, n) ⟨by omega, h4⟩
  clear h2 h3 h4 hn
  rintro ⟨t, n⟩ ⟨g1, g2⟩
  simp only at g1 g2
  have e : ((n : Int) - 1 + 1).toNat = n := by omega
  cases n with
  | zero =>
    left
    refine ⟨(.exit 0, ⟨[(3, vS t)], []⟩), ?_, ?_, by simp, rfl⟩
    · rw [evDigL]; simp
    · simp only [outDig, e, F.tlT, F.cat_nil]; rfl
  | succ j =>
    right
    have hlt : j < l.length := g1
    have hy : l[j]? = some l[j] := List.getElem?_eq_getElem hlt
    have hg : l.getD j 0 = l[j] := by simp [hy]
    have hx := o1 _ (List.getElem_mem hlt)
    generalize l[j] = x at hy hg hx
    obtain ⟨m, rfl⟩ : ∃ m : Nat, x = m := ⟨x.toNat, by omega⟩
    have hm4 := F.dd_len4 (n := m) (by omega)
    have hj : (((j + 1 : Nat) : Int) - 1) = (j : Int) := by omega
    have hw : IntKind.i64.wrap ((j : Int) - 1) = (j : Int) - 1 := wrap_id (by omega) (by omega)
    have hw4 : IntKind.i64.wrap (4 - ((F.itoa (m : Int)).size : Int)) = ((4 - (F.itoa (m : Int)).size : Nat) : Int) := by rw [wrap_id (by omega) (by omega)]; omega
    have hi : idx ((j : Nat) : Int) = some j := idx_n (by omega)
    have h0 : decide ((0 : Int) ≤ (j : Int)) = true := decide_eq_true (by omega)
    have p1 : decide (-9223372036854775808 ≤ (m : Int)) = true := decide_eq_true (by omega)
    have p2 : decide ((m : Int) ≤ 9223372036854775807) = true := decide_eq_true (by omega)
    have p3 : decide (4 - (F.itoa (m : Int)).size ≤ 1000) = true := decide_eq_true (by omega)
    have b1 : Nat.ble ((F.zrs (4 - (F.itoa (m : Int)).size)).size + (F.itoa (m : Int)).size) 9223372036854775807 = true := ble_t (by rw [F.zrs_size]; omega)
    have hps : (F.pdT (m : Int)).size = 4 := by unfold F.pdT; rw [ByteArray.size_append, F.zrs_size]; omega
    have b2 : Nat.ble (t.size + (F.zrs (4 - (F.itoa (m : Int)).size) ++ F.itoa (m : Int)).size) 9223372036854775807 = true := ble_t (by
      show t.size + (F.pdT (m : Int)).size ≤ _
      omega)
    rw [hj] at e ⊢
    refine ⟨(t ++ F.pdT (m : Int), j), ?_, rfl, ⟨by simp only; omega, by simp only [ByteArray.size_append, hps]; omega⟩, by simp only; omega, ?_⟩
    · rw [evDigL]
      simp only [unIta, unRpt, preIta1, preRpt1, unstDig, prlDig, outDig, etaEnt, etaLst, etaSeg, etaRot, etaBeat, etaSpan, etaHole, Option.bind_some, List.length_map, unStrs, unInts, unBools, unU8s, unEnts, unLsts, unSegs, unRots, unBeats, unSpans, unHoles, F.lt, F.le, cond_true, cond_false, Bool.and_true, Bool.true_and, h0, hi, decide_eq_true hlt, getD_at hy, hw, hw4, p1, p2, p3, b1, b2, stDig]
      rfl
    · have e2 : ((j : Int) - 1 + 1).toNat = j := by omega
      simp only [outDig, e, e2, F.tlT, hg, F.cat_assoc]

theorem evDig (l : List Int) : (runF enDig false Tryz.f75 [.sl (l.map eI)]).val =
  bif (↑(List.length (List.map eI l)) : Int) == (0 : Int) then some ((vS (ByteArray.mk (Array.mk [(48 : UInt8)]))), []) else Option.bind (idx (IntKind.wrap IntKind.i64
  ((↑(List.length (List.map eI l)) : Int) - (1 : Int)))) fun (z : Nat) => Option.bind (unenc (List.map eI) (List.map eI l)) fun (z_1 : List Int) => bif decide (z <
  List.length z_1) then Option.bind (unenc encIta [(vI (List.getD z_1 z (0 : Int)))]) fun (z : Int) => bif decide ((-9223372036854775808 : Int) ≤ z) && decide (z ≤
  (9223372036854775807 : Int)) then Option.bind (unenc stDig1 (St.mk [(4, (vI (IntKind.wrap IntKind.i64 ((↑(List.length (List.map eI l)) : Int) - (2 : Int))))), (3, (vS
  (F.itoa z))), (0, AV.sl (List.map eI l))] [])) fun (z : List Int × ByteArray × Int) => bif F.nk (200 : Nat) z.fst && decide ((-1 : Int) ≤ z.snd.snd) && decide (z.snd.snd <
  (↑(List.length z.fst) : Int)) && decide (ByteArray.size z.snd.fst + (4 : Nat) * Int.toNat (z.snd.snd + (1 : Int)) ≤ (10000 : Nat)) && true then some ((vS (z.snd.fst ++
  F.tlT z.fst (Int.toNat (z.snd.snd + (1 : Int))))), []) else none else none else none := (runFR_val).symm.trans (by kernel_rfl)

def encDig1 (l : List Int) : List AV := [.sl (l.map eI)]

def encDig (a : (List Int)) : List AV := encDig1 a

theorem encDig_inj (a a' : (List Int)) (h : encDig a = encDig a') : a = a' := by
  simp only [encDig, encDig1] at h
  try simp [strs_inj, ints_inj, bools_inj, u8s_inj, eEnts_inj, eEnt_iff, eLsts_inj, eLst_iff, eSegs_inj, eSeg_iff, eRots_inj, eRot_iff, eBeats_inj, eBeat_iff, eSpans_inj, eSpan_iff, eHoles_inj, eHole_iff] at h
  grind

theorem unDig (l : List Int) : unenc encDig ([AV.sl (List.map eI l)]) = some (l) := unenc_of encDig_inj (l) rfl

def resDig1 (l : List Int) : AV × Heap := (vS (F.itoa (F.nv l : Nat)), [])

def preDig1 (l : List Int) : Bool := F.nk 200 l

noncomputable def oDig : Orc := orc 75 true encDig (fun a => preDig1 a) fun a => resDig1 a

theorem okDig : OrcOK Tryz.prog noG oDig := by
  refine mk_ok Tryz.f75 (keep := false) (by kernel_rfl) (by kernel_rfl) enDig_ok mixed (one_loop (x0 := loopN Tryz.f75 0) (by kernel_rfl) (lpo_ok ?_)) (by first | exact fun _ _ => ⟨rfl, rfl⟩ | (intro h; cases h)) ?_
  · rintro ⟨l, t, i⟩ hp
    exact lpDig_ok l t i hp
  rintro l hpre hok
  show (runF enDig false _ (encDig1 _)).val = some (resDig1 _)
  unfold encDig1 resDig1
  rw [evDig]
  have hpre : F.nk 200 l = true := hpre
  have l1 := F.nk_len hpre
  have o1 := F.nk_ok hpre
  have hln := len_nv hpre
  by_cases hz : F.nv l = 0
  · rw [decide_eq_true hz] at hln
    simp only [unIta, unRpt, preIta1, preRpt1, unstDig, prlDig, outDig, etaEnt, etaLst, etaSeg, etaRot, etaBeat, etaSpan, etaHole, Option.bind_some, List.length_map, unStrs, unInts, unBools, unU8s, unEnts, unLsts, unSegs, unRots, unBeats, unSpans, unHoles, F.lt, F.le, cond_true, cond_false, Bool.and_true, Bool.true_and, hln, hz]
    rw [F.itoa_0]
  · rw [decide_eq_false hz] at hln
    have hne : l ≠ [] := by rintro rfl; exact hz rfl
    have hpos : 0 < l.length := List.length_pos_iff.2 hne
    have hw1 : IntKind.i64.wrap ((l.length : Int) - 1) = ((l.length - 1 : Nat) : Int) := by rw [wrap_id (by omega) (by omega)]; omega
    have hw2 : IntKind.i64.wrap ((l.length : Int) - 2) = (l.length : Int) - 2 := wrap_id (by omega) (by omega)
    have hi : idx ((l.length - 1 : Nat) : Int) = some (l.length - 1) := idx_n (by omega)
    have hlt : l.length - 1 < l.length := by omega
    have hg : l.getD (l.length - 1) 0 = l.getLast hne := by simp [List.getD, List.getElem?_eq_getElem hlt, List.getLast_eq_getElem]
    have hx := o1 _ (List.getLast_mem hne)
    have htx := F.txL_eq l hne
    have hres : F.txL l = F.itoa (F.nv l : Nat) := by
      obtain ⟨m, hm, _⟩ := F.nk_of hpre
      have := F.txL_lb m (by rw [hm, F.nv_lb] at hz; omega)
      rw [hm, F.nv_lb]; exact this
    rw [hres] at htx
    generalize l.getLast hne = x at hg hx htx
    obtain ⟨m, rfl⟩ : ∃ m : Nat, x = m := ⟨x.toNat, by omega⟩
    have hm4 := F.dd_len4 (n := m) (by omega)
    have e : ((l.length : Int) - 2 + 1).toNat = l.length - 1 := by omega
    simp only [unIta, unRpt, preIta1, preRpt1, unstDig, prlDig, outDig, etaEnt, etaLst, etaSeg, etaRot, etaBeat, etaSpan, etaHole, Option.bind_some, List.length_map, unStrs, unInts, unBools, unU8s, unEnts, unLsts, unSegs, unRots, unBeats, unSpans, unHoles, F.lt, F.le, cond_true, cond_false, Bool.and_true, Bool.true_and, hln, hw1, hw2, hi, decide_eq_true hlt, hg, hpre, e, htx, decide_eq_true (by omega : (-9223372036854775808 : Int) ≤ (m : Int)), decide_eq_true (by omega : (m : Int) ≤ 9223372036854775807), decide_eq_true (by omega : (-1 : Int) ≤ (l.length : Int) - 2), decide_eq_true (by omega : (l.length : Int) - 2 < (l.length : Int)), decide_eq_true (by omega : (F.itoa (m : Int)).size + 4 * (l.length - 1) ≤ 10000)]

end M
end Go.Proofs.YtlemjphdhapfpaaGreatDoor
