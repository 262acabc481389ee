/- What is proved here: what the reference's checks of lists and its comparison of lists return (no statement of the seat). -/
import Derived.Test.YtlemjphdhapfpaaGreatDoorD70
namespace Go.Proofs.YtlemjphdhapfpaaGreatDoor
open Go Go.RowKit
set_option linter.unusedVariables false
set_option linter.unusedSimpArgs false

/-- A name, by the reference. -/
def F.rnm : Nat → List UInt8 → Bool
  | _, [] => true
  | k, b :: l => (F.letter b.toNat || (decide (k ≠ 0) && (F.digit b.toNat || decide ((b.toNat : Int) = 45)))) && F.rnm (k + 1) l

theorem F.rnm_succ (k : Nat) (hk : k ≠ 0) : ∀ l, F.rnm k l = F.nameL l
  | [] => rfl
  | b :: l => by
    simp only [F.rnm, F.nameL, List.all_cons, F.nameB]
    rw [F.rnm_succ (k + 1) (by omega) l]
    simp [hk, F.nameL, Bool.or_assoc]

theorem F.isName_eq (s : ByteArray) : F.isName s = (F.rnm 0 (F.bs s) && decide (s.size ≠ 0) && decide (s.size ≤ 40)) := by
  have h0 := F.bs_len s
  unfold F.isName F.b0
  cases hb : F.bs s with
  | nil => rw [hb] at h0; simp at h0; simp [← h0]
  | cons b l =>
    simp only [F.rnm, F.nameL, List.all_cons]
    rw [F.rnm_succ 1 (by omega)]
    simp only [F.nameL, List.getElem?_cons_zero, F.nameB]
    cases F.letter b.toNat <;> simp
    cases l.all F.nameB <;> simp

def F.sameEs (l : List (Ent × Ent)) : Bool := l.all fun p => F.sameE p.1 p.2

/-- Lists are alike. -/
def F.sameL (a b : Lst) : Bool := (a.target == b.target) && (a.first == b.first) && (a.breaks == b.breaks) && (a.ended == b.ended) && decide (a.entries.length = b.entries.length) && F.sameEs (a.entries.zip b.entries)

theorem F.sameL_refl (a : Lst) : F.sameL a a = true := by
  simp only [F.sameL, F.sameEs, F.zip_all F.sameE F.sameE_refl]
  simp

theorem F.len_eq2 (n m : Nat) : ((n : Int) == (m : Int)) = decide (n = m) := by by_cases h : n = m <;> simp [h]; omega

namespace M

def encWithin1 (n l h : Int) : List AV := [vI n, vI l, vI h]

def encWithin (a : Int × Int × Int) : List AV := encWithin1 a.1 a.2.1 a.2.2

theorem encWithin_inj (a a' : Int × Int × Int) (h : encWithin a = encWithin a') : a = a' := by
  simp only [encWithin, encWithin1] at h
  try simp [strs_inj, ints_inj, bools_inj, u8s_inj, eEnts_inj, eEnt_iff, eLsts_inj, eLst_iff, eSegs_inj, eSeg_iff, eRots_inj, eRot_iff, eBeats_inj, eBeat_iff, eSpans_inj, eSpan_iff, eHoles_inj, eHole_iff] at h
  grind

theorem unWithin (n l h : Int) : unenc encWithin ([(vI n), (vI l), (vI h)]) = some (n, l, h) := unenc_of encWithin_inj (n, l, h) rfl

def resWithin1 (n l h : Int) : AV × Heap := (vB (F.within n l h), [])

def preWithin1 (n l h : Int) : Bool := true

noncomputable def oWithin : Orc := orc 36 true encWithin (fun a => preWithin1 a.1 a.2.1 a.2.2) fun a => resWithin1 a.1 a.2.1 a.2.2

theorem evWithin (n l h : Int) : (runF en0 false Tryz.f36 [vI n, vI l, vI h]).val =
  some ((vB (bif decide (l ≤ n) then decide (n ≤ h) else false)), []) := by kernel_rfl

theorem okWithin : OrcOK Tryz.prog noG oWithin := by
  refine mk_ok Tryz.f36 (keep := false) (by kernel_rfl) (by kernel_rfl) en0_ok mixed (no_loops (by kernel_rfl)) (by first | exact fun _ _ => ⟨rfl, rfl⟩ | (intro h; cases h)) ?_
  rintro ⟨n, l, h⟩ _ hok
  show (runF en0 false _ (encWithin1 _ _ _)).val = some (resWithin1 _ _ _)
  unfold encWithin1 resWithin1
  rw [evWithin]
  unfold F.within
  cases decide (l ≤ n) <;> rfl

def stPrn (s : ByteArray) (lo : Int) (k : Nat) : St := ⟨[(5, vI k), (1, vU lo), (0, vS s)], []⟩

def stPrn1 (a : ByteArray × Int × Nat) : St := stPrn a.1 a.2.1 a.2.2

theorem stPrn_inj (a a' : ByteArray × Int × Nat) (h : stPrn1 a = stPrn1 a') : a = a' := by
  simp only [stPrn1, stPrn] at h
  try simp [strs_inj, ints_inj, bools_inj, u8s_inj, eEnts_inj, eEnt_iff, eLsts_inj, eLst_iff, eSegs_inj, eSeg_iff, eRots_inj, eRot_iff, eBeats_inj, eBeat_iff, eSpans_inj, eSpan_iff, eHoles_inj, eHole_iff] at h
  grind

theorem unstPrn (s : ByteArray) (lo : Int) (k : Nat) : unenc stPrn1 (St.mk [(5, (vI (↑k : Int))), (1, (vU lo)), (0, (vS s))] []) = some (s, lo, k) := unenc_of stPrn_inj (s, lo, k) rfl

theorem unstPrn0 (s : ByteArray) (lo : Int)  : unenc stPrn1 (St.mk [(5, (vI (0 : Int))), (1, (vU lo)), (0, (vS s))] []) = some (s, lo, 0) := unenc_of stPrn_inj (s, lo, 0) rfl

def outPrn (s : ByteArray) (lo : Int) (k : Nat) : T (Ex × St) := .ifB (((F.bs s).drop k).all (F.visB lo)) (.ret (.exit 0, ⟨[], []⟩)) (.ret (.ret, ⟨[(4, vB false)], []⟩))

noncomputable def prlPrn (s : ByteArray) (lo : Int) (k : Nat) : Bool := decide (s.size ≤ 9223372036854775807) && decide (k ≤ s.size)

noncomputable def lpPrn : Nat × (St → T (Ex × St)) := (2, lpo [5, 1, 0] [] stPrn1 (fun a => prlPrn a.1 a.2.1 a.2.2) fun a => outPrn a.1 a.2.1 a.2.2)

noncomputable def enPrn : Env := envH ty noG lks [] [] [] [lpPrn]

theorem enPrn_ok : EnvOK Tryz.prog enPrn := by
  refine envH_ok lks_ok ty_ok ?_ ?_
  · simp
  · simp

theorem evPrnL (s : ByteArray) (lo : Int) (k : Nat) : ((exec enPrn (loopN Tryz.f70 0) (stPrn s lo k)).bind (lessX ([5, 1, 0], []) ([], []) ([4], []))).val =
  bif decide ((↑k : Int) < (↑(ByteArray.size s) : Int)) then Option.bind s[k]? fun (z : UInt8) => bif !decide ((↑(UInt8.toNat z) : Int) < lo) then Option.bind s[k]? fun (z_1
  : UInt8) => bif bif decide ((↑(UInt8.toNat z) : Int) < lo) then true else decide ((126 : Int) < (↑(UInt8.toNat z_1) : Int)) then some (Ex.ret, St.mk [(4, (vB false))] [])
  else some (Ex.normal, St.mk [(5, (vI (IntKind.wrap IntKind.i64 ((↑k : Int) + (1 : Int))))), (1, (vU lo)), (0, (vS s))] []) else bif !decide ((↑(UInt8.toNat z) : Int) < lo)
  then none else some (Ex.ret, St.mk [(4, (vB false))] []) else some (Ex.exit (0 : Nat), St.mk [] []) := by kernel_rfl

theorem evPrn (s : ByteArray) (lo : Int) : (runF enPrn false Tryz.f70 [vS s, vU lo]).val =
  Option.bind (unenc stPrn1 (St.mk [(5, (vI (0 : Int))), (1, (vU lo)), (0, (vS s))] [])) fun (z : ByteArray × Int × Nat) => bif decide (ByteArray.size z.fst ≤
  (9223372036854775807 : Nat)) && decide (z.snd.snd ≤ ByteArray.size z.fst) && true then bif List.all (List.drop z.snd.snd (F.bs z.fst)) (F.visB z.snd.fst) then some ((vB
  true), []) else some ((vB false), []) else none := by kernel_rfl

theorem lpPrn_ok (s : ByteArray) (lo : Int) (hs : s.size ≤ 9223372036854775807) (k : Nat) (hk : k ≤ s.size) : ∀ e s', (outPrn s lo k).val = some (e, s') → LoopOK enPrn (loopN Tryz.f70 0) (stPrn s lo k) e s' := by
  refine loop_all (xs := F.bs s) (st := stPrn s lo) (n := ([5, 1, 0], [])) (e := ([], [])) (r := ([4], [])) ?_ ⟨by simp, rfl⟩ ⟨by simp, rfl⟩ (fun _ => rfl) ?_ k (by rw [F.bs_len]; exact hk)
  · rw [evPrnL, F.bs_len]; simp
  · intro k y hy
    have hk : k < s.size := by rw [← F.bs_len]; exact (List.getElem?_eq_some_iff.1 hy).1
    have hkz : ((k : Int) < (s.size : Int)) := by omega
    have hw : IntKind.i64.wrap ((k : Int) + 1) = ((k + 1 : Nat) : Int) := by rw [wrap_id (by omega) (by omega)]; rfl
    rw [evPrnL, F.bs_get, hy]
    simp only [hkz, decide_true, Option.bind_some, hw, F.visB]
    cases h1 : decide ((y.toNat : Int) < lo) <;> cases h2 : decide ((126 : Int) < (y.toNat : Int)) <;> simp_all [stPrn]

def encPrn1 (s : ByteArray) (lo : Int) : List AV := [vS s, vU lo]

def encPrn (a : ByteArray × Int) : List AV := encPrn1 a.1 a.2

theorem encPrn_inj (a a' : ByteArray × Int) (h : encPrn a = encPrn a') : a = a' := by
  simp only [encPrn, encPrn1] at h
  try simp [strs_inj, ints_inj, bools_inj, u8s_inj, eEnts_inj, eEnt_iff, eLsts_inj, eLst_iff, eSegs_inj, eSeg_iff, eRots_inj, eRot_iff, eBeats_inj, eBeat_iff, eSpans_inj, eSpan_iff, eHoles_inj, eHole_iff] at h
  grind

theorem unPrn (s : ByteArray) (lo : Int) : unenc encPrn ([(vS s), (vU lo)]) = some (s, lo) := unenc_of encPrn_inj (s, lo) rfl

def resPrn1 (s : ByteArray) (lo : Int) : AV × Heap := (vB (F.vis s lo), [])

def prePrn1 (s : ByteArray) (lo : Int) : Bool := true

noncomputable def oPrn : Orc := orc 70 true encPrn (fun a => prePrn1 a.1 a.2) fun a => resPrn1 a.1 a.2

theorem okPrn : OrcOK Tryz.prog noG oPrn := by
  refine mk_ok Tryz.f70 (keep := false) (by kernel_rfl) (by kernel_rfl) enPrn_ok mixed (one_loop (x0 := loopN Tryz.f70 0) (by kernel_rfl) (lpo_ok ?_)) (by first | exact fun _ _ => ⟨rfl, rfl⟩ | (intro h; cases h)) ?_
  · rintro ⟨s, lo, k⟩ hp
    simp only [prlPrn, Bool.and_eq_true, decide_eq_true_eq] at hp
    exact lpPrn_ok s lo hp.1 k hp.2
  · rintro ⟨s, lo⟩ _ hok
    have hs := okA_str (hok _ (List.mem_cons_self ..))
    show (runF enPrn false _ (encPrn1 _ _)).val = some (resPrn1 _ _)
    unfold encPrn1 resPrn1
    rw [evPrn, unstPrn0]
    simp only [hs, F.vis, F.visL, Option.bind_some, List.drop_zero, decide_true, Bool.and_true, Nat.zero_le]
    cases (F.bs s).all (F.visB lo) <;> rfl

def stRNm (s : ByteArray) (k : Nat) : St := ⟨[(3, vI k), (0, vS s)], []⟩

def stRNm1 (a : ByteArray × Nat) : St := stRNm a.1 a.2

theorem stRNm_inj (a a' : ByteArray × Nat) (h : stRNm1 a = stRNm1 a') : a = a' := by
  simp only [stRNm1, stRNm] at h
  try simp [strs_inj, ints_inj, bools_inj, u8s_inj, eEnts_inj, eEnt_iff, eLsts_inj, eLst_iff, eSegs_inj, eSeg_iff, eRots_inj, eRot_iff, eBeats_inj, eBeat_iff, eSpans_inj, eSpan_iff, eHoles_inj, eHole_iff] at h
  grind

theorem unstRNm (s : ByteArray) (k : Nat) : unenc stRNm1 (St.mk [(3, (vI (↑k : Int))), (0, (vS s))] []) = some (s, k) := unenc_of stRNm_inj (s, k) rfl

theorem unstRNm0 (s : ByteArray)  : unenc stRNm1 (St.mk [(3, (vI (0 : Int))), (0, (vS s))] []) = some (s, 0) := unenc_of stRNm_inj (s, 0) rfl

def outRNm (s : ByteArray) (k : Nat) : T (Ex × St) := .ifB (F.rnm k ((F.bs s).drop k)) (.ret (.exit 0, ⟨[(0, vS s)], []⟩)) (.ret (.ret, ⟨[(2, vB false)], []⟩))

noncomputable def prlRNm (s : ByteArray) (k : Nat) : Bool := decide (s.size ≤ 9223372036854775807) && decide (k ≤ s.size)

noncomputable def lpRNm : Nat × (St → T (Ex × St)) := (2, lpo [3, 0] [] stRNm1 (fun a => prlRNm a.1 a.2) fun a => outRNm a.1 a.2)

noncomputable def enRNm : Env := envH ty noG lks [] [] [] [lpRNm]

theorem enRNm_ok : EnvOK Tryz.prog enRNm := by
  refine envH_ok lks_ok ty_ok ?_ ?_
  · simp
  · simp

theorem evRNmL (s : ByteArray) (k : Nat) : ((exec enRNm (loopN Tryz.f69 0) (stRNm s k)).bind (lessX ([3, 0], []) ([0], []) ([2], []))).val =
  bif decide ((↑k : Int) < (↑(ByteArray.size s) : Int)) then Option.bind s[k]? fun (z : UInt8) => bif bif !bif decide ((97 : Int) ≤ (↑(UInt8.toNat z) : Int)) then decide
  ((↑(UInt8.toNat z) : Int) ≤ (122 : Int)) else false then bif (↑k : Int) == (0 : Int) then true else bif (↑(UInt8.toNat z) : Int) != (45 : Int) then !bif decide ((48 : Int)
  ≤ (↑(UInt8.toNat z) : Int)) then decide ((↑(UInt8.toNat z) : Int) ≤ (57 : Int)) else false else false else false then some (Ex.ret, St.mk [(2, (vB false))] []) else some
  (Ex.normal, St.mk [(3, (vI (IntKind.wrap IntKind.i64 ((↑k : Int) + (1 : Int))))), (0, (vS s))] []) else some (Ex.exit (0 : Nat), St.mk [(0, (vS s))] []) := by kernel_rfl

theorem lpRNm_ok (s : ByteArray) (k : Nat) (hp : prlRNm s k = true) : ∀ ex s', (outRNm s k).val = some (ex, s') → LoopOK enRNm (loopN Tryz.f69 0) (stRNm s k) ex s' := by
  simp only [prlRNm, Bool.and_eq_true, decide_eq_true_eq] at hp
  refine loop_gen (st := stRNm s) (out := outRNm s) (I := fun k => k ≤ s.size) (n := ([3, 0], [])) (e := ([0], [])) (r := ([2], [])) (fun k => s.size - k) ?_ k hp.2
  intro k hk
  have h0 := F.bs_len s
  by_cases hlt : k < s.size
  · have hy : (F.bs s)[k]? = some ((F.bs s)[k]'(by omega)) := List.getElem?_eq_getElem (by omega)
    generalize (F.bs s)[k]'(by omega) = y at hy
    have hd : (F.bs s).drop k = y :: (F.bs s).drop (k + 1) := by
      rw [List.drop_eq_getElem_cons (by omega)]
      congr 1
      exact (List.getElem?_eq_some_iff.1 hy).2
    rw [evRNmL]
    simp only [cast_lt hlt, F.bs_get, hy, Option.bind_some, next_at hlt hp.1, outRNm, hd, F.rnm, F.letter, F.digit, stRNm, cond_true]
    have hk0 : ((k : Int) == 0) = !decide (k ≠ 0) := by by_cases h : k = 0 <;> simp [h]
    simp only [hk0]
    cases hb : (F.letter y.toNat || (decide (k ≠ 0) && (F.digit y.toNat || decide ((y.toNat : Int) = 45))))
    · left
      refine ⟨(.ret, ⟨[(2, vB false)], []⟩), ?_, ?_, by simp, rfl⟩
      · simp only [F.letter, F.digit] at hb
        grind
      · simp only [F.letter, F.digit] at hb
        rw [hb]; rfl
    · right
      refine ⟨k + 1, ?_, rfl, by omega, by omega, ?_⟩
      · simp only [F.letter, F.digit] at hb
        grind
      · simp only [F.letter, F.digit] at hb
        rw [hb]; rfl
  · have : k = s.size := by omega
    subst this
    left
    refine ⟨(.exit 0, ⟨[(0, vS s)], []⟩), ?_, ?_, by simp, rfl⟩
    · rw [evRNmL]; simp
    · simp [outRNm, ← h0, F.rnm, T.val]

theorem evRNm (s : ByteArray) : (runF enRNm false Tryz.f69 [vS s]).val =
  Option.bind (unenc stRNm1 (St.mk [(3, (vI (0 : Int))), (0, (vS s))] [])) fun (z : ByteArray × Nat) => bif decide (ByteArray.size z.fst ≤ (9223372036854775807 : Nat)) &&
  decide (z.snd ≤ ByteArray.size z.fst) && true then bif F.rnm z.snd (List.drop z.snd (F.bs z.fst)) then some ((vB (bif !ByteArray.toList z.fst == ByteArray.toList
  (ByteArray.mk (Array.mk [])) then decide ((↑(ByteArray.size z.fst) : Int) ≤ (40 : Int)) else false)), []) else some ((vB false), []) else none := by kernel_rfl

def encRNm1 (s : ByteArray) : List AV := [vS s]

def encRNm (a : ByteArray) : List AV := encRNm1 a

theorem encRNm_inj (a a' : ByteArray) (h : encRNm a = encRNm a') : a = a' := by
  simp only [encRNm, encRNm1] at h
  try simp [strs_inj, ints_inj, bools_inj, u8s_inj, eEnts_inj, eEnt_iff, eLsts_inj, eLst_iff, eSegs_inj, eSeg_iff, eRots_inj, eRot_iff, eBeats_inj, eBeat_iff, eSpans_inj, eSpan_iff, eHoles_inj, eHole_iff] at h
  grind

theorem unRNm (s : ByteArray) : unenc encRNm ([(vS s)]) = some (s) := unenc_of encRNm_inj (s) rfl

def resRNm1 (s : ByteArray) : AV × Heap := (vB (F.isName s), [])

def preRNm1 (s : ByteArray) : Bool := true

noncomputable def oRNm : Orc := orc 69 true encRNm (fun a => preRNm1 a) fun a => resRNm1 a

theorem okRNm : OrcOK Tryz.prog noG oRNm := by
  refine mk_ok Tryz.f69 (keep := false) (by kernel_rfl) (by kernel_rfl) enRNm_ok mixed (one_loop (x0 := loopN Tryz.f69 0) (by kernel_rfl) (lpo_ok ?_)) (by first | exact fun _ _ => ⟨rfl, rfl⟩ | (intro h; cases h)) ?_
  · rintro ⟨s, k⟩ hp
    exact lpRNm_ok s k hp
  rintro s hpre hok
  show (runF enRNm false _ (encRNm1 _)).val = some (resRNm1 _)
  unfold encRNm1 resRNm1
  rw [evRNm]
  have hs := okA_str (hok _ (List.mem_cons_self ..))
  simp only [unstRNm, unstRNm0, prlRNm, outRNm, etaEnt, etaLst, etaSeg, etaRot, etaBeat, etaSpan, etaHole, Option.bind_some, List.length_map, unStrs, unInts, unBools, unU8s, unEnts, unLsts, unSegs, unRots, unBeats, unSpans, unHoles, F.lt, F.le, cond_true, cond_false, Bool.and_true, Bool.true_and, hs, F.isName_eq, List.drop_zero, Nat.zero_le, decide_true]
  have e1 : (s.toList == ByteArray.toList (ByteArray.mk (Array.mk []))) = !decide (s.size ≠ 0) := by
    have : s.toList.length = s.size := by simp [ByteArray.toList_eq]
    have e0 : ByteArray.toList (ByteArray.mk (Array.mk [])) = [] := by simp [ByteArray.toList_eq]
    rw [e0]
    by_cases h : s.size = 0
    · have : s.toList = [] := List.eq_nil_of_length_eq_zero (by omega)
      simp [h, this]
    · have : s.toList ≠ [] := fun hh => h (by rw [← this, hh]; rfl)
      simp [h, this]
  have e2 : decide ((s.size : Int) ≤ 40) = decide (s.size ≤ 40) := by by_cases h : s.size ≤ 40 <;> simp [h] <;> omega
  simp only [e1, e2]
  cases F.rnm 0 (F.bs s) <;> cases decide (s.size ≠ 0) <;> cases decide (s.size ≤ 40) <;> rfl

noncomputable def enIsUri : Env := envH ty noG lks [oPrn] [] [] []

theorem enIsUri_ok : EnvOK Tryz.prog enIsUri := by
  refine envH_ok lks_ok ty_ok ?_ ?_
  · simp only [List.forall_mem_cons]
    exact ⟨okPrn, by simp⟩
  · simp

theorem evIsUri (s : ByteArray) : (runF enIsUri false Tryz.f68 [vS s]).val =
  bif bif !ByteArray.toList s == ByteArray.toList (ByteArray.mk (Array.mk [])) then decide ((↑(ByteArray.size s) : Int) ≤ (200 : Int)) else false then Option.bind (unenc
  encPrn [(vS s), (vU (33 : Int))]) fun (z : ByteArray × Int) => bif bif bif !ByteArray.toList s == ByteArray.toList (ByteArray.mk (Array.mk [])) then decide
  ((↑(ByteArray.size s) : Int) ≤ (200 : Int)) else false then F.vis z.fst z.snd else false then Option.bind s[(0 : Nat)]? fun (z_1 : UInt8) => some ((vB (bif bif bif
  !ByteArray.toList s == ByteArray.toList (ByteArray.mk (Array.mk [])) then decide ((↑(ByteArray.size s) : Int) ≤ (200 : Int)) else false then F.vis z.fst z.snd else false
  then (↑(UInt8.toNat z_1) : Int) != (35 : Int) else false)), []) else bif bif bif !ByteArray.toList s == ByteArray.toList (ByteArray.mk (Array.mk [])) then decide
  ((↑(ByteArray.size s) : Int) ≤ (200 : Int)) else false then F.vis z.fst z.snd else false then none else some ((vB false), []) else some ((vB false), []) := by kernel_rfl

def encIsUri1 (s : ByteArray) : List AV := [vS s]

def encIsUri (a : ByteArray) : List AV := encIsUri1 a

theorem encIsUri_inj (a a' : ByteArray) (h : encIsUri a = encIsUri a') : a = a' := by
  simp only [encIsUri, encIsUri1] at h
  try simp [strs_inj, ints_inj, bools_inj, u8s_inj, eEnts_inj, eEnt_iff, eLsts_inj, eLst_iff, eSegs_inj, eSeg_iff, eRots_inj, eRot_iff, eBeats_inj, eBeat_iff, eSpans_inj, eSpan_iff, eHoles_inj, eHole_iff] at h
  grind

theorem unIsUri (s : ByteArray) : unenc encIsUri ([(vS s)]) = some (s) := unenc_of encIsUri_inj (s) rfl

def resIsUri1 (s : ByteArray) : AV × Heap := (vB (decide (F.uriFault s = 0)), [])

def preIsUri1 (s : ByteArray) : Bool := true

noncomputable def oIsUri : Orc := orc 68 true encIsUri (fun a => preIsUri1 a) fun a => resIsUri1 a

theorem okIsUri : OrcOK Tryz.prog noG oIsUri := by
  refine mk_ok Tryz.f68 (keep := false) (by kernel_rfl) (by kernel_rfl) enIsUri_ok mixed (no_loops (by kernel_rfl)) (by first | exact fun _ _ => ⟨rfl, rfl⟩ | (intro h; cases h)) ?_
  rintro s hpre hok
  show (runF enIsUri false _ (encIsUri1 _)).val = some (resIsUri1 _)
  unfold encIsUri1 resIsUri1
  rw [evIsUri]
  have hs := okA_str (hok _ (List.mem_cons_self ..))
  simp only [unPrn, prePrn1, etaEnt, etaLst, etaSeg, etaRot, etaBeat, etaSpan, etaHole, Option.bind_some, List.length_map, unStrs, unInts, unBools, unU8s, unEnts, unLsts, unSegs, unRots, unBeats, unSpans, unHoles, F.lt, F.le, cond_true, cond_false, Bool.and_true, Bool.true_and, F.empty_eq, F.bs_get]
  have h0 := F.bs_len s
  unfold F.uriFault F.b0 F.out
  cases hb : F.bs s with
  | nil =>
    rw [hb] at h0; simp at h0
    simp [← h0]
  | cons b l =>
    rw [hb] at h0; simp at h0
    have a1 : decide ((s.size : Int) < 1) = false := decide_eq_false (by omega)
    have a2 : decide (s.size ≠ 0) = true := decide_eq_true (by omega)
    have a3 : decide ((s.size : Int) ≤ 200) = !decide ((200 : Int) < s.size) := by by_cases h : (200 : Int) < s.size <;> simp [h] <;> omega
    simp only [a1, a2, a3, Bool.cond_eq_ite, List.getElem?_cons_zero, Option.bind_some]
    cases h1 : decide ((200 : Int) < s.size) <;> cases h2 : F.vis s 33 <;> by_cases h3 : (b.toNat : Int) = 35 <;> simp_all

def stRchE (e : Ent) (k : Nat) : St := ⟨[(5, vI k), (2, .ptr 2 0 0)], [(2, ⟨true, 0, 0, [eEnt e]⟩)]⟩

def stRchE1 (a : Ent × Nat) : St := stRchE a.1 a.2

theorem stRchE_inj (a a' : Ent × Nat) (h : stRchE1 a = stRchE1 a') : a = a' := by
  simp only [stRchE1, stRchE] at h
  try simp [strs_inj, ints_inj, bools_inj, u8s_inj, eEnts_inj, eEnt_iff, eLsts_inj, eLst_iff, eSegs_inj, eSeg_iff, eRots_inj, eRot_iff, eBeats_inj, eBeat_iff, eSpans_inj, eSpan_iff, eHoles_inj, eHole_iff] at h
  grind

theorem unstRchE (e : Ent) (k : Nat) : unenc stRchE1 (St.mk [(5, (vI (↑k : Int))), (2, .ptr 2 0 0)] [(2, Blk.mk true 0 0 [[(vS e.uri), (vI e.milli), (vB e.brk), (vI e.date), (vS e.key), (vB e.gap), AV.sl (List.map eStr
  e.extra)]])]) = some (e, k) := unenc_of stRchE_inj (e, k) rfl

theorem unstRchE0 (e : Ent)  : unenc stRchE1 (St.mk [(5, (vI (0 : Int))), (2, .ptr 2 0 0)] [(2, Blk.mk true 0 0 [[(vS e.uri), (vI e.milli), (vB e.brk), (vI e.date), (vS e.key), (vB e.gap), AV.sl (List.map eStr
  e.extra)]])]) = some (e, 0) := unenc_of stRchE_inj (e, 0) rfl

def outRchE (e : Ent) (k : Nat) : T (Ex × St) := .ifB (decide (F.extrasFault (e.extra.drop k) = 0)) (.ret (.exit 0, ⟨[], []⟩)) (.ret (.ret, ⟨[(4, vI (F.extrasFault (e.extra.drop k)))], []⟩))

noncomputable def prlRchE (e : Ent) (k : Nat) : Bool := decide (e.extra.length ≤ 9223372036854775807) && decide (k ≤ e.extra.length)

noncomputable def lpRchE : Nat × (St → T (Ex × St)) := (14, lpo [5, 2] [2] stRchE1 (fun a => prlRchE a.1 a.2) fun a => outRchE a.1 a.2)

noncomputable def enRchE : Env := envH ty noG lks [oIsUri, oWithin, oRNm, oHasPre, oPrn] [] [] [lpRchE]

theorem enRchE_ok : EnvOK Tryz.prog enRchE := by
  refine envH_ok lks_ok ty_ok ?_ ?_
  · simp only [List.forall_mem_cons]
    exact ⟨okIsUri, okWithin, okRNm, okHasPre, okPrn, by simp⟩
  · simp

theorem evRchEL (e : Ent) (k : Nat) : ((exec enRchE (loopN Tryz.f37 0) (stRchE e k)).bind (lessX ([5, 2], [2]) ([], []) ([4], []))).val =
  bif decide ((↑k : Int) < (↑(List.length (List.map eStr e.extra)) : Int)) then Option.bind (unenc (List.map eStr) (List.map eStr e.extra)) fun (z : List ByteArray) => bif
  decide (k < List.length z) then Option.bind (unenc encHasPre [(vS (List.getD z k (ByteArray.mk (Array.mk [])))), (vS (ByteArray.mk (Array.mk [(35 : UInt8), (88 :
  UInt8)])))]) fun (z : ByteArray × ByteArray) => bif !!F.hasPrefix z.fst z.snd then Option.bind (unenc (List.map eStr) (List.map eStr e.extra)) fun (z_1 : List ByteArray)
  => bif decide (k < List.length z_1) then bif !!F.hasPrefix z.fst z.snd then Option.bind (unenc encPrn [(vS (List.getD z_1 k (ByteArray.mk (Array.mk [])))), (vU (32 :
  Int))]) fun (z_2 : ByteArray × Int) => bif bif !F.hasPrefix z.fst z.snd then true else !F.vis z_2.fst z_2.snd then some (Ex.ret, St.mk [(4, (vI (3 : Int)))] []) else
  Option.bind (unenc (List.map eStr) (List.map eStr e.extra)) fun (z : List ByteArray) => bif decide (k < List.length z) then bif decide ((300 : Int) < (↑(ByteArray.size
  (List.getD z k (ByteArray.mk (Array.mk [])))) : Int)) then some (Ex.ret, St.mk [(4, (vI (2 : Int)))] []) else some (Ex.normal, St.mk [(5, (vI (IntKind.wrap IntKind.i64
  ((↑k : Int) + (1 : Int))))), (2, .ptr 2 0 0)] [(2, Blk.mk true 0 0 [[(vS e.uri), (vI e.milli), (vB e.brk), (vI e.date), (vS e.key), (vB e.gap), AV.sl (List.map eStr
  e.extra)]])]) else none else bif !!F.hasPrefix z.fst z.snd then none else some (Ex.ret, St.mk [(4, (vI (3 : Int)))] []) else none else bif !!F.hasPrefix z.fst z.snd then
  none else bif !!F.hasPrefix z.fst z.snd then Option.bind (unenc encPrn [AV.unk, (vU (32 : Int))]) fun (z_1 : ByteArray × Int) => bif bif !F.hasPrefix z.fst z.snd then true
  else !F.vis z_1.fst z_1.snd then some (Ex.ret, St.mk [(4, (vI (3 : Int)))] []) else Option.bind (unenc (List.map eStr) (List.map eStr e.extra)) fun (z : List ByteArray) =>
  bif decide (k < List.length z) then bif decide ((300 : Int) < (↑(ByteArray.size (List.getD z k (ByteArray.mk (Array.mk [])))) : Int)) then some (Ex.ret, St.mk [(4, (vI (2
  : Int)))] []) else some (Ex.normal, St.mk [(5, (vI (IntKind.wrap IntKind.i64 ((↑k : Int) + (1 : Int))))), (2, .ptr 2 0 0)] [(2, Blk.mk true 0 0 [[(vS e.uri), (vI e.milli),
  (vB e.brk), (vI e.date), (vS e.key), (vB e.gap), AV.sl (List.map eStr e.extra)]])]) else none else bif !!F.hasPrefix z.fst z.snd then none else some (Ex.ret, St.mk [(4,
  (vI (3 : Int)))] []) else none else some (Ex.exit (0 : Nat), St.mk [] []) := by kernel_rfl

theorem lpRchE_ok (e : Ent) (k : Nat) (hp : prlRchE e k = true) : ∀ ex s', (outRchE e k).val = some (ex, s') → LoopOK enRchE (loopN Tryz.f37 0) (stRchE e k) ex s' := by
  simp only [prlRchE, Bool.and_eq_true, decide_eq_true_eq] at hp
  refine loop_code (xs := e.extra) (st := stRchE e) (g := F.extraFault) (o := fun c => (.ret, ⟨[(4, vI c)], []⟩)) (n := ([5, 2], [2])) (e := ([], [])) (r := ([4], [])) ?_ ⟨by simp, rfl⟩ (fun _ => ⟨by simp, rfl⟩) (fun _ => rfl) ?_ k hp.2
  · rw [evRchEL]; simp
  · intro k y hy
    have hlt := lt_at hy
    rw [evRchEL]
    simp only [unIsUri, unWithin, unRNm, unHasPre, unPrn, preIsUri1, preWithin1, preRNm1, preHasPre1, prePrn1, unstRchE, unstRchE0, prlRchE, outRchE, etaEnt, etaLst, etaSeg, etaRot, etaBeat, etaSpan, etaHole, Option.bind_some, List.length_map, unStrs, unInts, unBools, unU8s, unEnts, unLsts, unSegs, unRots, unBeats, unSpans, unHoles, F.lt, F.le, cond_true, cond_false, Bool.and_true, Bool.true_and, cast_lt hlt, decide_eq_true hlt, next_at hlt hp.1, getD_at hy, F.extraFault, stRchE, eEnt]
    grind

theorem evRchE (e : Ent) (t : Int) : (runF enRchE false Tryz.f37 [.agg (eEnt e), vI t]).val =
  Option.bind (unenc encIsUri [(vS e.uri)]) fun (z : ByteArray) => bif !decide (F.uriFault z = (0 : Int)) then some ((vI (3 : Int)), []) else Option.bind (unenc encWithin
  [(vI e.milli), (vI (1 : Int)), (vI (3600000 : Int))]) fun (z : Int × Int × Int) => bif !F.within z.fst z.snd.fst z.snd.snd then some ((vI (1 : Int)), []) else bif decide
  (t < IntKind.wrap IntKind.i64 (Int.tdiv (IntKind.wrap IntKind.i64 (e.milli + (500 : Int))) (1000 : Int))) then some ((vI (2 : Int)), []) else Option.bind (unenc encWithin
  [(vI e.date), (vI (-1 : Int)), (vI (253402300799999 : Int))]) fun (z : Int × Int × Int) => bif !F.within z.fst z.snd.fst z.snd.snd then some ((vI (1 : Int)), []) else bif
  !ByteArray.toList e.key == ByteArray.toList (ByteArray.mk (Array.mk [])) then Option.bind (unenc encRNm [(vS e.key)]) fun (z : ByteArray) => bif bif !ByteArray.toList
  e.key == ByteArray.toList (ByteArray.mk (Array.mk [])) then !F.isName z else false then some ((vI (5 : Int)), []) else bif decide ((20 : Int) < (↑(List.length (List.map
  eStr e.extra)) : Int)) then some ((vI (2 : Int)), []) else Option.bind (unenc stRchE1 (St.mk [(5, (vI (0 : Int))), (2, .ptr 2 0 0)] [(2, Blk.mk true 0 0 [[(vS e.uri), (vI
  e.milli), (vB e.brk), (vI e.date), (vS e.key), (vB e.gap), AV.sl (List.map eStr e.extra)]])])) fun (z : Ent × Nat) => bif decide (List.length z.fst.extra ≤
  (9223372036854775807 : Nat)) && decide (z.snd ≤ List.length z.fst.extra) && true then bif decide (F.extrasFault (List.drop z.snd z.fst.extra) = (0 : Int)) then some ((vI
  (0 : Int)), []) else some ((vI (F.extrasFault (List.drop z.snd z.fst.extra))), []) else none else bif !ByteArray.toList e.key == ByteArray.toList (ByteArray.mk (Array.mk
  [])) then none else bif decide ((20 : Int) < (↑(List.length (List.map eStr e.extra)) : Int)) then some ((vI (2 : Int)), []) else Option.bind (unenc stRchE1 (St.mk [(5, (vI
  (0 : Int))), (2, .ptr 2 0 0)] [(2, Blk.mk true 0 0 [[(vS e.uri), (vI e.milli), (vB e.brk), (vI e.date), (vS e.key), (vB e.gap), AV.sl (List.map eStr e.extra)]])])) fun (z
  : Ent × Nat) => bif decide (List.length z.fst.extra ≤ (9223372036854775807 : Nat)) && decide (z.snd ≤ List.length z.fst.extra) && true then bif decide (F.extrasFault
  (List.drop z.snd z.fst.extra) = (0 : Int)) then some ((vI (0 : Int)), []) else some ((vI (F.extrasFault (List.drop z.snd z.fst.extra))), []) else none := by kernel_rfl

def encRchE1 (e : Ent) (t : Int) : List AV := [.agg (eEnt e), vI t]

def encRchE (a : Ent × Int) : List AV := encRchE1 a.1 a.2

theorem encRchE_inj (a a' : Ent × Int) (h : encRchE a = encRchE a') : a = a' := by
  simp only [encRchE, encRchE1] at h
  try simp [strs_inj, ints_inj, bools_inj, u8s_inj, eEnts_inj, eEnt_iff, eLsts_inj, eLst_iff, eSegs_inj, eSeg_iff, eRots_inj, eRot_iff, eBeats_inj, eBeat_iff, eSpans_inj, eSpan_iff, eHoles_inj, eHole_iff] at h
  grind

theorem unRchE (e : Ent) (t : Int) : unenc encRchE ([AV.agg [(vS e.uri), (vI e.milli), (vB e.brk), (vI e.date), (vS e.key), (vB e.gap), AV.sl (List.map eStr e.extra)], (vI t)]) = some (e, t) := unenc_of encRchE_inj (e, t) rfl

theorem unRchEw (e_uri : ByteArray) (e_milli : Int) (e_brk : Bool) (e_date : Int) (e_key : ByteArray) (e_gap : Bool) (e_extra : List ByteArray) (t : Int) : unenc encRchE ([AV.agg [(vS e_uri), (vI e_milli), (vB e_brk), (vI e_date), (vS e_key), (vB e_gap), AV.sl (List.map eStr e_extra)], (vI t)]) = some ((Ent.mk e_uri e_milli e_brk e_date e_key e_gap e_extra), t) := unenc_of encRchE_inj ((Ent.mk e_uri e_milli e_brk e_date e_key e_gap e_extra), t) rfl

def resRchE1 (e : Ent) (t : Int) : AV × Heap := (vI (F.entryFault e t), [])

def preRchE1 (e : Ent) (t : Int) : Bool := true

noncomputable def oRchE : Orc := orc 37 true encRchE (fun a => preRchE1 a.1 a.2) fun a => resRchE1 a.1 a.2

theorem okRchE : OrcOK Tryz.prog noG oRchE := by
  refine mk_ok Tryz.f37 (keep := false) (by kernel_rfl) (by kernel_rfl) enRchE_ok mixed (one_loop (x0 := loopN Tryz.f37 0) (by kernel_rfl) (lpo_ok ?_)) (by first | exact fun _ _ => ⟨rfl, rfl⟩ | (intro h; cases h)) ?_
  · rintro ⟨e, k⟩ hp
    exact lpRchE_ok e k hp
  rintro ⟨e, t⟩ hpre hok
  show (runF enRchE false _ (encRchE1 _ _)).val = some (resRchE1 _ _)
  unfold encRchE1 resRchE1
  rw [evRchE]
  obtain ⟨hm, hx, _⟩ := ent_bounds (hok _ (List.mem_cons_self ..))
  have hu : F.uriFault e.uri = 0 ∨ F.uriFault e.uri = 3 := by unfold F.uriFault; split <;> simp
  simp only [unIsUri, unWithin, unRNm, unHasPre, unPrn, preIsUri1, preWithin1, preRNm1, preHasPre1, prePrn1, unstRchE, unstRchE0, prlRchE, outRchE, etaEnt, etaLst, etaSeg, etaRot, etaBeat, etaSpan, etaHole, Option.bind_some, List.length_map, unStrs, unInts, unBools, unU8s, unEnts, unLsts, unSegs, unRots, unBeats, unSpans, unHoles, F.lt, F.le, cond_true, cond_false, Bool.and_true, Bool.true_and, F.entryFault, F.seq, hx, F.within_eq, List.drop_zero, Nat.zero_le, decide_true]
  cases h1 : F.out e.milli 1 3600000
  · have : IntKind.i64.wrap (Int.tdiv (IntKind.i64.wrap (e.milli + 500)) 1000) = (e.milli + 500) / 1000 := by
      simp [F.out] at h1
      rw [wrap_id (n := e.milli + 500) (by omega) (by omega), tdiv_nn (by omega), wrap_id (by omega) (by omega)]
    rw [this]
    simp only [Bool.cond_eq_ite]
    grind
  · simp only [Bool.cond_eq_ite]
    grind

def stRChk (l : Lst) (k : Nat) : St := ⟨[(3, vI k), (1, .ptr 1 0 0)], [(1, ⟨true, 0, 0, [eLst l]⟩)]⟩

def stRChk1 (a : Lst × Nat) : St := stRChk a.1 a.2

theorem stRChk_inj (a a' : Lst × Nat) (h : stRChk1 a = stRChk1 a') : a = a' := by
  simp only [stRChk1, stRChk] at h
  try simp [strs_inj, ints_inj, bools_inj, u8s_inj, eEnts_inj, eEnt_iff, eLsts_inj, eLst_iff, eSegs_inj, eSeg_iff, eRots_inj, eRot_iff, eBeats_inj, eBeat_iff, eSpans_inj, eSpan_iff, eHoles_inj, eHole_iff] at h
  grind

theorem unstRChk (l : Lst) (k : Nat) : unenc stRChk1 (St.mk [(3, (vI (↑k : Int))), (1, .ptr 1 0 0)] [(1, Blk.mk true 0 0 [[(vI l.target), (vI l.first), (vI l.breaks), AV.sl (List.map eEnt l.entries), (vB l.ended)]])]) = some (l, k) := unenc_of stRChk_inj (l, k) rfl

theorem unstRChk0 (l : Lst)  : unenc stRChk1 (St.mk [(3, (vI (0 : Int))), (1, .ptr 1 0 0)] [(1, Blk.mk true 0 0 [[(vI l.target), (vI l.first), (vI l.breaks), AV.sl (List.map eEnt l.entries), (vB l.ended)]])]) = some (l, 0) := unenc_of stRChk_inj (l, 0) rfl

def outRChk (l : Lst) (k : Nat) : T (Ex × St) := .ifB (decide (F.entsFault l.target (l.entries.drop k) = 0)) (.ret (.exit 0, ⟨[], []⟩)) (.ret (.ret, ⟨[(2, vI (F.entsFault l.target (l.entries.drop k)))], []⟩))

noncomputable def prlRChk (l : Lst) (k : Nat) : Bool := decide (l.entries.length ≤ 9223372036854775807) && decide (k ≤ l.entries.length)

noncomputable def lpRChk : Nat × (St → T (Ex × St)) := (6, lpo [3, 1] [1] stRChk1 (fun a => prlRChk a.1 a.2) fun a => outRChk a.1 a.2)

noncomputable def enRChk : Env := envH ty noG lks [oWithin, oRchE] [] [] [lpRChk]

theorem enRChk_ok : EnvOK Tryz.prog enRChk := by
  refine envH_ok lks_ok ty_ok ?_ ?_
  · simp only [List.forall_mem_cons]
    exact ⟨okWithin, okRchE, by simp⟩
  · simp

theorem evRChkL (l : Lst) (k : Nat) : ((exec enRChk (loopN Tryz.f18 0) (stRChk l k)).bind (lessX ([3, 1], [1]) ([], []) ([2], []))).val =
  bif decide ((↑k : Int) < (↑(List.length (List.map eEnt l.entries)) : Int)) then Option.bind (unenc (List.map eEnt) (List.map eEnt l.entries)) fun (z : List Ent) => bif
  decide (k < List.length z) then Option.bind (unenc encRchE [AV.agg [(vS (List.getD z k (Ent.mk (ByteArray.mk (Array.mk [])) (0 : Int) false (0 : Int) (ByteArray.mk
  (Array.mk [])) false [])).uri), (vI (List.getD z k (Ent.mk (ByteArray.mk (Array.mk [])) (0 : Int) false (0 : Int) (ByteArray.mk (Array.mk [])) false [])).milli), (vB
  (List.getD z k (Ent.mk (ByteArray.mk (Array.mk [])) (0 : Int) false (0 : Int) (ByteArray.mk (Array.mk [])) false [])).brk), (vI (List.getD z k (Ent.mk (ByteArray.mk
  (Array.mk [])) (0 : Int) false (0 : Int) (ByteArray.mk (Array.mk [])) false [])).date), (vS (List.getD z k (Ent.mk (ByteArray.mk (Array.mk [])) (0 : Int) false (0 : Int)
  (ByteArray.mk (Array.mk [])) false [])).key), (vB (List.getD z k (Ent.mk (ByteArray.mk (Array.mk [])) (0 : Int) false (0 : Int) (ByteArray.mk (Array.mk [])) false
  [])).gap), AV.sl (List.map eStr (List.getD z k (Ent.mk (ByteArray.mk (Array.mk [])) (0 : Int) false (0 : Int) (ByteArray.mk (Array.mk [])) false [])).extra)], (vI
  l.target)]) fun (z : Ent × Int) => bif F.entryFault z.fst z.snd != (0 : Int) then some (Ex.ret, St.mk [(2, (vI (F.entryFault z.fst z.snd)))] []) else some (Ex.normal,
  St.mk [(3, (vI (IntKind.wrap IntKind.i64 ((↑k : Int) + (1 : Int))))), (1, .ptr 1 0 0)] [(1, Blk.mk true 0 0 [[(vI l.target), (vI l.first), (vI l.breaks), AV.sl (List.map
  eEnt l.entries), (vB l.ended)]])]) else none else some (Ex.exit (0 : Nat), St.mk [] []) := by kernel_rfl

theorem lpRChk_ok (l : Lst) (k : Nat) (hp : prlRChk l k = true) : ∀ ex s', (outRChk l k).val = some (ex, s') → LoopOK enRChk (loopN Tryz.f18 0) (stRChk l k) ex s' := by
  simp only [prlRChk, Bool.and_eq_true, decide_eq_true_eq] at hp
  refine loop_code (xs := l.entries) (st := stRChk l) (g := fun e => F.entryFault e l.target) (o := fun c => (.ret, ⟨[(2, vI c)], []⟩)) (n := ([3, 1], [1])) (e := ([], [])) (r := ([2], [])) ?_ ⟨by simp, rfl⟩ (fun _ => ⟨by simp, rfl⟩) (fun _ => rfl) ?_ k hp.2
  · rw [evRChkL]; simp
  · intro k y hy
    have hlt := lt_at hy
    rw [evRChkL]
    simp only [unWithin, unRchE, unRchEw, preWithin1, preRchE1, unstRChk, unstRChk0, prlRChk, outRChk, etaEnt, etaLst, etaSeg, etaRot, etaBeat, etaSpan, etaHole, Option.bind_some, List.length_map, unStrs, unInts, unBools, unU8s, unEnts, unLsts, unSegs, unRots, unBeats, unSpans, unHoles, F.lt, F.le, cond_true, cond_false, Bool.and_true, Bool.true_and, cast_lt hlt, decide_eq_true hlt, next_at hlt hp.1, getD_at hy, stRChk, eEnt, eLst]
    grind

theorem evRChk (l : Lst) : (runF enRChk false Tryz.f18 [.agg (eLst l)]).val =
  Option.bind (unenc encWithin [(vI l.target), (vI (1 : Int)), (vI (3600 : Int))]) fun (z : Int × Int × Int) => bif !!F.within z.fst z.snd.fst z.snd.snd then Option.bind
  (unenc encWithin [(vI l.first), (vI (0 : Int)), (vI (999999999999000 : Int))]) fun (z_1 : Int × Int × Int) => bif !bif !F.within z.fst z.snd.fst z.snd.snd then true else
  !F.within z_1.fst z_1.snd.fst z_1.snd.snd then Option.bind (unenc encWithin [(vI l.breaks), (vI (0 : Int)), (vI (1000000000000000 : Int))]) fun (z_2 : Int × Int × Int) =>
  bif bif bif !F.within z.fst z.snd.fst z.snd.snd then true else !F.within z_1.fst z_1.snd.fst z_1.snd.snd then true else !F.within z_2.fst z_2.snd.fst z_2.snd.snd then some
  ((vI (1 : Int)), []) else bif decide ((1000 : Int) < (↑(List.length (List.map eEnt l.entries)) : Int)) then some ((vI (2 : Int)), []) else Option.bind (unenc stRChk1
  (St.mk [(3, (vI (0 : Int))), (1, .ptr 1 0 0)] [(1, Blk.mk true 0 0 [[(vI l.target), (vI l.first), (vI l.breaks), AV.sl (List.map eEnt l.entries), (vB l.ended)]])])) fun (z
  : Lst × Nat) => bif decide (List.length z.fst.entries ≤ (9223372036854775807 : Nat)) && decide (z.snd ≤ List.length z.fst.entries) && true then bif decide (F.entsFault
  z.fst.target (List.drop z.snd z.fst.entries) = (0 : Int)) then some ((vI (0 : Int)), []) else some ((vI (F.entsFault z.fst.target (List.drop z.snd z.fst.entries))), [])
  else none else bif !bif !F.within z.fst z.snd.fst z.snd.snd then true else !F.within z_1.fst z_1.snd.fst z_1.snd.snd then none else some ((vI (1 : Int)), []) else bif
  !!F.within z.fst z.snd.fst z.snd.snd then none else some ((vI (1 : Int)), []) := by kernel_rfl

def encRChk1 (l : Lst) : List AV := [.agg (eLst l)]

def encRChk (a : Lst) : List AV := encRChk1 a

theorem encRChk_inj (a a' : Lst) (h : encRChk a = encRChk a') : a = a' := by
  simp only [encRChk, encRChk1] at h
  try simp [strs_inj, ints_inj, bools_inj, u8s_inj, eEnts_inj, eEnt_iff, eLsts_inj, eLst_iff, eSegs_inj, eSeg_iff, eRots_inj, eRot_iff, eBeats_inj, eBeat_iff, eSpans_inj, eSpan_iff, eHoles_inj, eHole_iff] at h
  grind

theorem unRChk (l : Lst) : unenc encRChk ([AV.agg [(vI l.target), (vI l.first), (vI l.breaks), AV.sl (List.map eEnt l.entries), (vB l.ended)]]) = some (l) := unenc_of encRChk_inj (l) rfl

theorem unRChkw (l_target : Int) (l_first : Int) (l_breaks : Int) (l_entries : List Ent) (l_ended : Bool) : unenc encRChk ([AV.agg [(vI l_target), (vI l_first), (vI l_breaks), AV.sl (List.map eEnt l_entries), (vB l_ended)]]) = some ((Lst.mk l_target l_first l_breaks l_entries l_ended)) := unenc_of encRChk_inj ((Lst.mk l_target l_first l_breaks l_entries l_ended)) rfl

def resRChk1 (l : Lst) : AV × Heap := (vI (F.check l), [])

def preRChk1 (l : Lst) : Bool := true

noncomputable def oRChk : Orc := orc 18 true encRChk (fun a => preRChk1 a) fun a => resRChk1 a

theorem okRChk : OrcOK Tryz.prog noG oRChk := by
  refine mk_ok Tryz.f18 (keep := false) (by kernel_rfl) (by kernel_rfl) enRChk_ok mixed (one_loop (x0 := loopN Tryz.f18 0) (by kernel_rfl) (lpo_ok ?_)) (by first | exact fun _ _ => ⟨rfl, rfl⟩ | (intro h; cases h)) ?_
  · rintro ⟨l, k⟩ hp
    exact lpRChk_ok l k hp
  rintro l hpre hok
  show (runF enRChk false _ (encRChk1 _)).val = some (resRChk1 _)
  unfold encRChk1 resRChk1
  rw [evRChk]
  have hx : l.entries.length ≤ 9223372036854775807 := by
    have h := okA_agg (hok _ (List.mem_cons_self ..))
    simp only [eLst, List.forall_mem_cons] at h
    simpa using (okA_sl h.2.2.2.1).1
  simp only [unWithin, unRchE, unRchEw, preWithin1, preRchE1, unstRChk, unstRChk0, prlRChk, outRChk, etaEnt, etaLst, etaSeg, etaRot, etaBeat, etaSpan, etaHole, Option.bind_some, List.length_map, unStrs, unInts, unBools, unU8s, unEnts, unLsts, unSegs, unRots, unBeats, unSpans, unHoles, F.lt, F.le, cond_true, cond_false, Bool.and_true, Bool.true_and, F.check, hx, List.drop_zero, Nat.zero_le, decide_true, F.within_eq]
  simp only [Bool.cond_eq_ite]
  grind

def stSmL (a : Lst) (b : Lst) (k : Nat) : St := ⟨[(5, vI k), (3, .ptr 3 0 0), (2, .ptr 2 0 0)], [(3, ⟨true, 0, 0, [eLst b]⟩), (2, ⟨true, 0, 0, [eLst a]⟩)]⟩

def stSmL1 (a : Lst × Lst × Nat) : St := stSmL a.1 a.2.1 a.2.2

theorem stSmL_inj (a a' : Lst × Lst × Nat) (h : stSmL1 a = stSmL1 a') : a = a' := by
  simp only [stSmL1, stSmL] at h
  try simp [strs_inj, ints_inj, bools_inj, u8s_inj, eEnts_inj, eEnt_iff, eLsts_inj, eLst_iff, eSegs_inj, eSeg_iff, eRots_inj, eRot_iff, eBeats_inj, eBeat_iff, eSpans_inj, eSpan_iff, eHoles_inj, eHole_iff] at h
  grind

theorem unstSmL (a : Lst) (b : Lst) (k : Nat) : unenc stSmL1 (St.mk [(5, (vI (↑k : Int))), (3, .ptr 3 0 0), (2, .ptr 2 0 0)] [(3, Blk.mk true 0 0 [[(vI b.target), (vI b.first), (vI b.breaks), AV.sl (List.map eEnt b.entries), (vB
  b.ended)]]), (2, Blk.mk true 0 0 [[(vI a.target), (vI a.first), (vI a.breaks), AV.sl (List.map eEnt a.entries), (vB a.ended)]])]) = some (a, b, k) := unenc_of stSmL_inj (a, b, k) rfl

theorem unstSmL0 (a : Lst) (b : Lst)  : unenc stSmL1 (St.mk [(5, (vI (0 : Int))), (3, .ptr 3 0 0), (2, .ptr 2 0 0)] [(3, Blk.mk true 0 0 [[(vI b.target), (vI b.first), (vI b.breaks), AV.sl (List.map eEnt b.entries), (vB
  b.ended)]]), (2, Blk.mk true 0 0 [[(vI a.target), (vI a.first), (vI a.breaks), AV.sl (List.map eEnt a.entries), (vB a.ended)]])]) = some (a, b, 0) := unenc_of stSmL_inj (a, b, 0) rfl

def outSmL (a : Lst) (b : Lst) (k : Nat) : T (Ex × St) := .ifB (F.sameEs ((a.entries.zip b.entries).drop k)) (.ret (.exit 0, ⟨[], []⟩)) (.ret (.ret, ⟨[(4, vB false)], []⟩))

noncomputable def prlSmL (a : Lst) (b : Lst) (k : Nat) : Bool := decide (a.entries.length ≤ 9223372036854775807) && decide (k ≤ a.entries.length) && decide (a.entries.length = b.entries.length)

noncomputable def lpSmL : Nat × (St → T (Ex × St)) := (4, lpo [5, 3, 2] [3, 2] stSmL1 (fun a => prlSmL a.1 a.2.1 a.2.2) fun a => outSmL a.1 a.2.1 a.2.2)

noncomputable def enSmL : Env := envH ty noG lks [oSmE] [] [] [lpSmL]

theorem enSmL_ok : EnvOK Tryz.prog enSmL := by
  refine envH_ok lks_ok ty_ok ?_ ?_
  · simp only [List.forall_mem_cons]
    exact ⟨okSmE, by simp⟩
  · simp

theorem evSmLL (a : Lst) (b : Lst) (k : Nat) : ((exec enSmL (loopN Tryz.f6 0) (stSmL a b k)).bind (lessX ([5, 3, 2], [3, 2]) ([], []) ([4], []))).val =
  bif decide ((↑k : Int) < (↑(List.length (List.map eEnt a.entries)) : Int)) then Option.bind (unenc (List.map eEnt) (List.map eEnt a.entries)) fun (z : List Ent) => bif
  decide (k < List.length z) then Option.bind (unenc (List.map eEnt) (List.map eEnt b.entries)) fun (z_1 : List Ent) => bif decide (k < List.length z_1) then Option.bind
  (unenc encSmE [AV.agg [(vS (List.getD z k (Ent.mk (ByteArray.mk (Array.mk [])) (0 : Int) false (0 : Int) (ByteArray.mk (Array.mk [])) false [])).uri), (vI (List.getD z k
  (Ent.mk (ByteArray.mk (Array.mk [])) (0 : Int) false (0 : Int) (ByteArray.mk (Array.mk [])) false [])).milli), (vB (List.getD z k (Ent.mk (ByteArray.mk (Array.mk [])) (0 :
  Int) false (0 : Int) (ByteArray.mk (Array.mk [])) false [])).brk), (vI (List.getD z k (Ent.mk (ByteArray.mk (Array.mk [])) (0 : Int) false (0 : Int) (ByteArray.mk
  (Array.mk [])) false [])).date), (vS (List.getD z k (Ent.mk (ByteArray.mk (Array.mk [])) (0 : Int) false (0 : Int) (ByteArray.mk (Array.mk [])) false [])).key), (vB
  (List.getD z k (Ent.mk (ByteArray.mk (Array.mk [])) (0 : Int) false (0 : Int) (ByteArray.mk (Array.mk [])) false [])).gap), AV.sl (List.map eStr (List.getD z k (Ent.mk
  (ByteArray.mk (Array.mk [])) (0 : Int) false (0 : Int) (ByteArray.mk (Array.mk [])) false [])).extra)], AV.agg [(vS (List.getD z_1 k (Ent.mk (ByteArray.mk (Array.mk []))
  (0 : Int) false (0 : Int) (ByteArray.mk (Array.mk [])) false [])).uri), (vI (List.getD z_1 k (Ent.mk (ByteArray.mk (Array.mk [])) (0 : Int) false (0 : Int) (ByteArray.mk
  (Array.mk [])) false [])).milli), (vB (List.getD z_1 k (Ent.mk (ByteArray.mk (Array.mk [])) (0 : Int) false (0 : Int) (ByteArray.mk (Array.mk [])) false [])).brk), (vI
  (List.getD z_1 k (Ent.mk (ByteArray.mk (Array.mk [])) (0 : Int) false (0 : Int) (ByteArray.mk (Array.mk [])) false [])).date), (vS (List.getD z_1 k (Ent.mk (ByteArray.mk
  (Array.mk [])) (0 : Int) false (0 : Int) (ByteArray.mk (Array.mk [])) false [])).key), (vB (List.getD z_1 k (Ent.mk (ByteArray.mk (Array.mk [])) (0 : Int) false (0 : Int)
  (ByteArray.mk (Array.mk [])) false [])).gap), AV.sl (List.map eStr (List.getD z_1 k (Ent.mk (ByteArray.mk (Array.mk [])) (0 : Int) false (0 : Int) (ByteArray.mk (Array.mk
  [])) false [])).extra)]]) fun (z : Ent × Ent) => bif !F.sameE z.fst z.snd then some (Ex.ret, St.mk [(4, (vB false))] []) else some (Ex.normal, St.mk [(5, (vI (IntKind.wrap
  IntKind.i64 ((↑k : Int) + (1 : Int))))), (3, .ptr 3 0 0), (2, .ptr 2 0 0)] [(3, Blk.mk true 0 0 [[(vI b.target), (vI b.first), (vI b.breaks), AV.sl (List.map eEnt
  b.entries), (vB b.ended)]]), (2, Blk.mk true 0 0 [[(vI a.target), (vI a.first), (vI a.breaks), AV.sl (List.map eEnt a.entries), (vB a.ended)]])]) else none else none else
  some (Ex.exit (0 : Nat), St.mk [] []) := by kernel_rfl

theorem lpSmL_ok (a : Lst) (b : Lst) (k : Nat) (hp : prlSmL a b k = true) : ∀ ex s', (outSmL a b k).val = some (ex, s') → LoopOK enSmL (loopN Tryz.f6 0) (stSmL a b k) ex s' := by
  simp only [prlSmL, Bool.and_eq_true, decide_eq_true_eq] at hp
  obtain ⟨⟨h1, h2⟩, h3⟩ := hp
  have hz : (a.entries.zip b.entries).length = a.entries.length := by rw [List.length_zip]; omega
  refine loop_all (xs := a.entries.zip b.entries) (st := stSmL a b) (p := fun p => F.sameE p.1 p.2) (n := ([5, 3, 2], [3, 2])) (e := ([], [])) (r := ([4], [])) ?_ ⟨by simp, rfl⟩ ⟨by simp, rfl⟩ (fun _ => rfl) ?_ k (by omega)
  · rw [hz]; rw [evSmLL]; simp
  · intro k y hy
    obtain ⟨ha, hb⟩ := F.zip_at hy
    have hlt := lt_at ha
    have hlt' := lt_at hb
    rw [evSmLL]
    simp only [unSmE, unSmEw, preSmE1, unstSmL, unstSmL0, prlSmL, outSmL, etaEnt, etaLst, etaSeg, etaRot, etaBeat, etaSpan, etaHole, Option.bind_some, List.length_map, unStrs, unInts, unBools, unU8s, unEnts, unLsts, unSegs, unRots, unBeats, unSpans, unHoles, F.lt, F.le, cond_true, cond_false, Bool.and_true, Bool.true_and, cast_lt hlt, decide_eq_true hlt, decide_eq_true hlt', next_at hlt h1, getD_at ha, getD_at hb, stSmL, eEnt, eLst]
    simp only [Bool.cond_eq_ite]
    grind

theorem evSmL (a : Lst) (b : Lst) : (runF enSmL false Tryz.f6 [.agg (eLst a), .agg (eLst b)]).val =
  bif bif bif bif bif a.target != b.target then true else a.first != b.first then true else a.breaks != b.breaks then true else !a.ended == b.ended then true else
  (↑(List.length (List.map eEnt a.entries)) : Int) != (↑(List.length (List.map eEnt b.entries)) : Int) then some ((vB false), []) else Option.bind (unenc stSmL1 (St.mk [(5,
  (vI (0 : Int))), (3, .ptr 3 0 0), (2, .ptr 2 0 0)] [(3, Blk.mk true 0 0 [[(vI b.target), (vI b.first), (vI b.breaks), AV.sl (List.map eEnt b.entries), (vB b.ended)]]), (2,
  Blk.mk true 0 0 [[(vI a.target), (vI a.first), (vI a.breaks), AV.sl (List.map eEnt a.entries), (vB a.ended)]])])) fun (z : Lst × Lst × Nat) => bif decide (List.length
  z.fst.entries ≤ (9223372036854775807 : Nat)) && decide (z.snd.snd ≤ List.length z.fst.entries) && decide (List.length z.fst.entries = List.length z.snd.fst.entries) &&
  true then bif F.sameEs (List.drop z.snd.snd (List.zip z.fst.entries z.snd.fst.entries)) then some ((vB true), []) else some ((vB false), []) else none := by kernel_rfl

def encSmL1 (a : Lst) (b : Lst) : List AV := [.agg (eLst a), .agg (eLst b)]

def encSmL (a : Lst × Lst) : List AV := encSmL1 a.1 a.2

theorem encSmL_inj (a a' : Lst × Lst) (h : encSmL a = encSmL a') : a = a' := by
  simp only [encSmL, encSmL1] at h
  try simp [strs_inj, ints_inj, bools_inj, u8s_inj, eEnts_inj, eEnt_iff, eLsts_inj, eLst_iff, eSegs_inj, eSeg_iff, eRots_inj, eRot_iff, eBeats_inj, eBeat_iff, eSpans_inj, eSpan_iff, eHoles_inj, eHole_iff] at h
  grind

theorem unSmL (a : Lst) (b : Lst) : unenc encSmL ([AV.agg [(vI a.target), (vI a.first), (vI a.breaks), AV.sl (List.map eEnt a.entries), (vB a.ended)], AV.agg [(vI b.target), (vI b.first), (vI b.breaks), AV.sl (List.map
  eEnt b.entries), (vB b.ended)]]) = some (a, b) := unenc_of encSmL_inj (a, b) rfl

theorem unSmLw (a_target : Int) (a_first : Int) (a_breaks : Int) (a_entries : List Ent) (a_ended : Bool) (b_target : Int) (b_first : Int) (b_breaks : Int) (b_entries : List Ent) (b_ended : Bool) : unenc encSmL ([AV.agg [(vI a_target), (vI a_first), (vI a_breaks), AV.sl (List.map eEnt a_entries), (vB a_ended)], AV.agg [(vI b_target), (vI b_first), (vI b_breaks), AV.sl (List.map
  eEnt b_entries), (vB b_ended)]]) = some ((Lst.mk a_target a_first a_breaks a_entries a_ended), (Lst.mk b_target b_first b_breaks b_entries b_ended)) := unenc_of encSmL_inj ((Lst.mk a_target a_first a_breaks a_entries a_ended), (Lst.mk b_target b_first b_breaks b_entries b_ended)) rfl

def resSmL1 (a : Lst) (b : Lst) : AV × Heap := (vB (F.sameL a b), [])

def preSmL1 (a : Lst) (b : Lst) : Bool := true

noncomputable def oSmL : Orc := orc 6 true encSmL (fun a => preSmL1 a.1 a.2) fun a => resSmL1 a.1 a.2

theorem okSmL : OrcOK Tryz.prog noG oSmL := by
  refine mk_ok Tryz.f6 (keep := false) (by kernel_rfl) (by kernel_rfl) enSmL_ok mixed (one_loop (x0 := loopN Tryz.f6 0) (by kernel_rfl) (lpo_ok ?_)) (by first | exact fun _ _ => ⟨rfl, rfl⟩ | (intro h; cases h)) ?_
  · rintro ⟨a, b, k⟩ hp
    exact lpSmL_ok a b k hp
  rintro ⟨a, b⟩ hpre hok
  show (runF enSmL false _ (encSmL1 _ _)).val = some (resSmL1 _ _)
  unfold encSmL1 resSmL1
  rw [evSmL]
  have hx : a.entries.length ≤ 9223372036854775807 := by
    have h := okA_agg (hok _ (List.mem_cons_self ..))
    simp only [eLst, List.forall_mem_cons] at h
    simpa using (okA_sl h.2.2.2.1).1
  simp only [unSmE, unSmEw, preSmE1, unstSmL, unstSmL0, prlSmL, outSmL, etaEnt, etaLst, etaSeg, etaRot, etaBeat, etaSpan, etaHole, Option.bind_some, List.length_map, unStrs, unInts, unBools, unU8s, unEnts, unLsts, unSegs, unRots, unBeats, unSpans, unHoles, F.lt, F.le, cond_true, cond_false, Bool.and_true, Bool.true_and, F.sameL, hx, List.drop_zero, Nat.zero_le, decide_true, F.cond_tl, F.len_eq2, bne]
  cases a.target == b.target <;> cases a.first == b.first <;> cases a.breaks == b.breaks <;> cases a.ended == b.ended <;> try simp
  cases h : decide (a.entries.length = b.entries.length) <;> cases F.sameEs (a.entries.zip b.entries) <;> simp_all

end M
end Go.Proofs.YtlemjphdhapfpaaGreatDoor
