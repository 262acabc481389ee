/- What is proved here: what the checks of entries and lists return on plain data, of the reference, and of whole lists (no statement of the seat). -/
import Derived.Test.YtllagmepnmdeoaaDoorE4
namespace Go.Proofs.YtllagmepnmdeoaaDoor
open Go Go.RowKit
set_option linter.unusedVariables false
set_option linter.unusedSimpArgs false

/-- A name, by the reference. -/
def F.rnm : Nat → List UInt8 → Bool
  | _, [] => true
  | k, b :: l => (F.letter b.toNat || (decide (k ≠ 0) && (F.digit b.toNat || decide ((b.toNat : Int) = 45)))) && F.rnm (k + 1) l

theorem F.rnm_succ (k : Nat) (hk : k ≠ 0) : ∀ l, F.rnm k l = F.nameL l
  | [] => rfl
  | b :: l => by
    simp only [F.rnm, F.nameL, List.all_cons, F.nameB]
    rw [F.rnm_succ (k + 1) (by omega) l]
    simp [hk, F.nameL, Bool.or_assoc]

theorem F.isName_eq (s : ByteArray) : F.isName s = (F.rnm 0 (F.bs s) && decide (s.size ≠ 0) && decide (s.size ≤ 40)) := by
  have h0 := F.bs_len s
  unfold F.isName F.b0
  cases hb : F.bs s with
  | nil => rw [hb] at h0; simp at h0; simp [← h0]
  | cons b l =>
    simp only [F.rnm, F.nameL, List.all_cons]
    rw [F.rnm_succ 1 (by omega)]
    simp only [F.nameL, List.getElem?_cons_zero, F.nameB]
    cases F.letter b.toNat <;> simp
    cases l.all F.nameB <;> simp

namespace M


theorem u8_lt (b : UInt8) : (b.toNat : Int) < 256 := by have := b.toNat_lt; omega

def stRNm (s : ByteArray) (k : Nat) : St := ⟨[(3, vI k), (0, vS s)], []⟩

def stRNm1 (a : ByteArray × Nat) : St := stRNm a.1 a.2

theorem stRNm_inj (a a' : ByteArray × Nat) (h : stRNm1 a = stRNm1 a') : a = a' := by
  simp only [stRNm1, stRNm] at h
  try simp [strs_inj, ents_inj, eEnt_iff, eLst_iff] at h
  grind

theorem unstRNm (s : ByteArray) (k : Nat) : unenc stRNm1 (St.mk [(3, (vI (↑k : Int))), (0, (vS s))] []) = some (s, k) := unenc_of stRNm_inj (s, k) rfl

theorem unstRNm0 (s : ByteArray)  : unenc stRNm1 (St.mk [(3, (vI (0 : Int))), (0, (vS s))] []) = some (s, 0) := unenc_of stRNm_inj (s, 0) rfl

def outRNm (s : ByteArray) (k : Nat) : T (Ex × St) := .ifB (F.rnm k ((F.bs s).drop k)) (.ret (.exit 0, ⟨[(0, vS s)], []⟩)) (.ret (.ret, ⟨[(2, vB false)], []⟩))

noncomputable def prlRNm (s : ByteArray) (k : Nat) : Bool := decide (s.size ≤ 9223372036854775807) && decide (k ≤ s.size)

noncomputable def lpRNm : Nat × (St → T (Ex × St)) := (2, lpo [3, 0] [] stRNm1 (fun a => prlRNm a.1 a.2) fun a => outRNm a.1 a.2)

noncomputable def enRNm : Env := envH ty noG lks [] [] [] [lpRNm]

theorem enRNm_ok : EnvOK Tryd.prog enRNm := by
  refine envH_ok lks_ok ty_ok ?_ ?_
  · simp
  · simp

theorem evRNmL (s : ByteArray) (k : Nat) : ((exec enRNm (loopN Tryd.f60 0) (stRNm s k)).bind (lessX ([3, 0], []) ([0], []) ([2], []))).val =
  bif decide ((↑k : Int) < (↑(ByteArray.size s) : Int)) then Option.bind s[k]? fun (z : UInt8) => bif bif !bif decide ((97 : Int) ≤ (↑(UInt8.toNat z) : Int)) then decide
  ((↑(UInt8.toNat z) : Int) ≤ (122 : Int)) else false then bif (↑k : Int) == (0 : Int) then true else bif (↑(UInt8.toNat z) : Int) != (45 : Int) then !bif decide ((48 : Int)
  ≤ (↑(UInt8.toNat z) : Int)) then decide ((↑(UInt8.toNat z) : Int) ≤ (57 : Int)) else false else false else false then some (Ex.ret, St.mk [(2, (vB false))] []) else some
  (Ex.normal, St.mk [(3, (vI (IntKind.wrap IntKind.i64 ((↑k : Int) + (1 : Int))))), (0, (vS s))] []) else some (Ex.exit (0 : Nat), St.mk [(0, (vS s))] []) := by kernel_rfl

theorem lpRNm_ok (s : ByteArray) (k : Nat) (hp : prlRNm s k = true) : ∀ ex s', (outRNm s k).val = some (ex, s') → LoopOK enRNm (loopN Tryd.f60 0) (stRNm s k) ex s' := by
  simp only [prlRNm, Bool.and_eq_true, decide_eq_true_eq] at hp
  refine loop_gen (st := stRNm s) (out := outRNm s) (I := fun k => k ≤ s.size) (n := ([3, 0], [])) (e := ([0], [])) (r := ([2], [])) (fun k => s.size - k) ?_ k hp.2
  intro k hk
  have h0 := F.bs_len s
  by_cases hlt : k < s.size
  · have hy : (F.bs s)[k]? = some ((F.bs s)[k]'(by omega)) := List.getElem?_eq_getElem (by omega)
    generalize (F.bs s)[k]'(by omega) = y at hy
    have hd : (F.bs s).drop k = y :: (F.bs s).drop (k + 1) := by
      rw [List.drop_eq_getElem_cons (by omega)]
      congr 1
      exact (List.getElem?_eq_some_iff.1 hy).2
    rw [evRNmL]
    simp only [cast_lt hlt, F.bs_get, hy, Option.bind_some, next_at hlt hp.1, outRNm, hd, F.rnm, F.letter, F.digit, stRNm, cond_true]
    have hk0 : ((k : Int) == 0) = !decide (k ≠ 0) := by by_cases h : k = 0 <;> simp [h]
    simp only [hk0]
    cases hb : (F.letter y.toNat || (decide (k ≠ 0) && (F.digit y.toNat || decide ((y.toNat : Int) = 45))))
    · left
      refine ⟨(.ret, ⟨[(2, vB false)], []⟩), ?_, ?_, by simp, rfl⟩
      · simp only [F.letter, F.digit] at hb
        grind
      · simp only [F.letter, F.digit] at hb
        rw [hb]; rfl
    · right
      refine ⟨k + 1, ?_, rfl, by omega, by omega, ?_⟩
      · simp only [F.letter, F.digit] at hb
        grind
      · simp only [F.letter, F.digit] at hb
        rw [hb]; rfl
  · have : k = s.size := by omega
    subst this
    left
    refine ⟨(.exit 0, ⟨[(0, vS s)], []⟩), ?_, ?_, by simp, rfl⟩
    · rw [evRNmL]; simp
    · simp [outRNm, ← h0, F.rnm, T.val]

theorem evRNm (s : ByteArray) : (runF enRNm false Tryd.f60 [vS s]).val =
  Option.bind (unenc stRNm1 (St.mk [(3, (vI (0 : Int))), (0, (vS s))] [])) fun (z : ByteArray × Nat) => bif decide (ByteArray.size z.fst ≤ (9223372036854775807 : Nat)) &&
  decide (z.snd ≤ ByteArray.size z.fst) && true then bif F.rnm z.snd (List.drop z.snd (F.bs z.fst)) then some ((vB (bif !ByteArray.toList z.fst == ByteArray.toList
  (ByteArray.mk (Array.mk [])) then decide ((↑(ByteArray.size z.fst) : Int) ≤ (40 : Int)) else false)), []) else some ((vB false), []) else none := by kernel_rfl

def encRNm1 (s : ByteArray) : List AV := [vS s]

def encRNm (a : ByteArray) : List AV := encRNm1 a

theorem encRNm_inj (a a' : ByteArray) (h : encRNm a = encRNm a') : a = a' := by
  simp only [encRNm, encRNm1] at h
  try simp [strs_inj, ents_inj, eEnt_iff, eLst_iff] at h
  grind

theorem unRNm (s : ByteArray) : unenc encRNm ([(vS s)]) = some (s) := unenc_of encRNm_inj (s) rfl

def resRNm1 (s : ByteArray) : AV × Heap := (vB (F.isName s), [])

def preRNm1 (s : ByteArray) : Bool := true

noncomputable def oRNm : Orc := orc 60 true encRNm (fun a => preRNm1 a) fun a => resRNm1 a

theorem okRNm : OrcOK Tryd.prog noG oRNm := by
  refine mk_ok Tryd.f60 (keep := false) (by kernel_rfl) (by kernel_rfl) enRNm_ok mixed (one_loop (x0 := loopN Tryd.f60 0) (by kernel_rfl) (lpo_ok ?_)) (by first | exact fun _ _ => ⟨rfl, rfl⟩ | (intro h; cases h)) ?_
  · rintro ⟨s, k⟩ hp
    exact lpRNm_ok s k hp
  rintro s hpre hok
  show (runF enRNm false _ (encRNm1 _)).val = some (resRNm1 _)
  unfold encRNm1 resRNm1
  rw [evRNm]
  have hs := okA_str (hok _ (List.mem_cons_self ..))
  simp only [unstRNm, unstRNm0, prlRNm, outRNm, etaEnt, etaLst, Option.bind_some, List.length_map, unStrs, unInts, unBools, unEnts, unItms, unTrns, cond_true, cond_false, Bool.and_true, Bool.true_and, hs, F.isName_eq, List.drop_zero, Nat.zero_le, decide_true]
  have e1 : (s.toList == ByteArray.toList (ByteArray.mk (Array.mk []))) = !decide (s.size ≠ 0) := by
    have : s.toList.length = s.size := by simp [ByteArray.toList_eq]
    have e0 : ByteArray.toList (ByteArray.mk (Array.mk [])) = [] := by simp [ByteArray.toList_eq]
    rw [e0]
    by_cases h : s.size = 0
    · have : s.toList = [] := List.eq_nil_of_length_eq_zero (by omega)
      simp [h, this]
    · have : s.toList ≠ [] := fun hh => h (by rw [← this, hh]; rfl)
      simp [h, this]
  have e2 : decide ((s.size : Int) ≤ 40) = decide (s.size ≤ 40) := by by_cases h : s.size ≤ 40 <;> simp [h] <;> omega
  simp only [e1, e2]
  cases F.rnm 0 (F.bs s) <;> cases decide (s.size ≠ 0) <;> cases decide (s.size ≤ 40) <;> rfl

end M
end Go.Proofs.YtllagmepnmdeoaaDoor
