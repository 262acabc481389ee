/- What is proved here: numbers of dates, and the loops of ReadDate, of the program (no statement of the seat). -/
import Derived.Test.YtgkjfochkhiojaaDoorE73
namespace Go.Proofs.YtgkjfochkhiojaaDoor
open Go Go.RowKit
set_option linter.unusedVariables false
set_option linter.unusedSimpArgs false

theorem F.dgB_at {s : ByteArray} (h : (F.bs s).all F.dgB = true) {k : Nat} {y : UInt8} (hy : (F.bs s)[k]? = some y) : F.dgB y = true :=
  List.all_eq_true.1 h y (List.mem_of_getElem? hy)

namespace M


def stTnu (s : ByteArray) (acc : Nat) (k : Nat) : St := ⟨[(7, vI k), (6, vI s.size), (3, vI acc), (0, vS s)], []⟩

def stTnu1 (a : ByteArray × Nat × Nat) : St := stTnu a.1 a.2.1 a.2.2

theorem stTnu_inj (a a' : ByteArray × Nat × Nat) (h : stTnu1 a = stTnu1 a') : a = a' := by
  simp only [stTnu1, stTnu] at h
  try simp [strs_inj, ints_inj, ents_inj, eEnt_iff, eLst_iff, eSnds_inj, eStrms_inj] at h
  grind

theorem unstTnu (s : ByteArray) (acc : Nat) (k : Nat) : unenc stTnu1 (St.mk [(7, (vI (↑k : Int))), (6, (vI (↑(ByteArray.size s) : Int))), (3, (vI (↑acc : Int))), (0, (vS s))] []) = some (s, acc, k) := unenc_of stTnu_inj (s, acc, k) rfl

theorem unstTnu0 (s : ByteArray)  : unenc stTnu1 (St.mk [(7, (vI (0 : Int))), (6, (vI (↑(ByteArray.size s) : Int))), (3, (vI (0 : Int))), (0, (vS s))] []) = some (s, 0, 0) := unenc_of stTnu_inj (s, 0, 0) rfl

def outTnu (s : ByteArray) (acc : Nat) (k : Nat) : T (Ex × St) := .ret (.exit 0, ⟨[(3, vI (F.dvA acc ((F.bs s).drop k) : Nat))], []⟩)

noncomputable def prlTnu (s : ByteArray) (acc : Nat) (k : Nat) : Bool := decide (s.size ≤ 18) && decide (k ≤ s.size) && decide (acc < 10 ^ k) && (F.bs s).all F.dgB

noncomputable def lpTnu : Nat × (St → T (Ex × St)) := (3, lpo [7, 6, 3, 0] [] stTnu1 (fun a => prlTnu a.1 a.2.1 a.2.2) fun a => outTnu a.1 a.2.1 a.2.2)

noncomputable def enTnu : Env := envH ty noG lks [] [] [] [lpTnu]

theorem enTnu_ok : EnvOK Tryd.prog enTnu := by
  refine envH_ok lks_ok ty_ok ?_ ?_
  · simp
  · simp

theorem evTnuL (s : ByteArray) (acc : Nat) (k : Nat) : ((exec enTnu (loopN Tryd.f68 0) (stTnu s acc k)).bind (lessX ([7, 6, 3, 0], []) ([3], []) ([], []))).val =
  bif decide ((↑k : Int) < (↑(ByteArray.size s) : Int)) then Option.bind s[k]? fun (z : UInt8) => some (Ex.normal, St.mk [(7, (vI (IntKind.wrap IntKind.i64 ((↑k : Int) + (1
  : Int))))), (6, (vI (↑(ByteArray.size s) : Int))), (3, (vI (IntKind.wrap IntKind.i64 (IntKind.wrap IntKind.i64 ((10 : Int) * (↑acc : Int)) + IntKind.wrap IntKind.i64
  (IntKind.wrap IntKind.u8 ((↑(UInt8.toNat z) : Int) - (48 : Int))))))), (0, (vS s))] []) else some (Ex.exit (0 : Nat), St.mk [(3, (vI (↑acc : Int)))] []) := (execR_bind _ _ _).symm.trans (by kernel_rfl)

theorem lpTnu_ok (s : ByteArray) (acc : Nat) (k : Nat) (hp : prlTnu s acc k = true) : ∀ ex s', (outTnu s acc k).val = some (ex, s') → LoopOK enTnu (loopN Tryd.f68 0) (stTnu s acc k) ex s' := by
  simp only [prlTnu, Bool.and_eq_true, decide_eq_true_eq] at hp
  obtain ⟨⟨⟨h1, h2⟩, h3⟩, h4⟩ := hp
  refine loop_gen (st := fun p : Nat × Nat => stTnu s p.1 p.2) (out := fun p => outTnu s p.1 p.2) (I := fun p => p.2 ≤ s.size ∧ p.1 < 10 ^ p.2) (n := ([7, 6, 3, 0], [])) (e := ([3], [])) (r := ([], [])) (fun p => s.size - p.2) ?_ (acc, k) ⟨h2, h3⟩
  clear h2 h3
  rintro ⟨acc, k⟩ ⟨g1, g2⟩
  simp only at g1 g2
  have hl := F.bs_len s
  by_cases hlt : k < s.size
  · have hy : (F.bs s)[k]? = some ((F.bs s)[k]'(by omega)) := List.getElem?_eq_getElem (by omega)
    generalize (F.bs s)[k]'(by omega) = y at hy
    have hd := drop_y hy
    have hc2 := F.dgB_at h4 hy
    unfold F.dgB at hc2
    simp only [Bool.and_eq_true, decide_eq_true_eq] at hc2
    right
    have hp18 : 10 ^ (k + 1) ≤ 10 ^ 18 := Nat.pow_le_pow_right (by decide) (by omega)
    have hn : acc * 10 + (y.toNat - 48) < 10 ^ (k + 1) := by rw [Nat.pow_succ]; omega
    have w1 : IntKind.i64.wrap (10 * (acc : Int)) = 10 * (acc : Int) := wrap_id (by omega) (by omega)
    have w2 : IntKind.u8.wrap ((y.toNat : Int) - 48) = (y.toNat : Int) - 48 := by
      simp only [IntKind.wrap, IntKind.signed, IntKind.bits]
      simp
      omega
    have w3 : IntKind.i64.wrap ((y.toNat : Int) - 48) = (y.toNat : Int) - 48 := wrap_id (by omega) (by omega)
    have w4 : IntKind.i64.wrap (10 * (acc : Int) + ((y.toNat : Int) - 48)) = ((acc * 10 + (y.toNat - 48) : Nat) : Int) := by rw [wrap_id (by omega) (by omega)]; omega
    refine ⟨(acc * 10 + (y.toNat - 48), k + 1), ?_, rfl, ⟨by simp only; omega, hn⟩, by simp only; omega, ?_⟩
    · rw [evTnuL]
      simp only [unstTnu, unstTnu0, prlTnu, outTnu, etaEnt, etaLst, etaSnd, etaStrm, etaMas, Option.bind_some, List.length_map, unStrs, unInts, unBools, unEnts, unItms, unTrns, cond_true, cond_false, Bool.and_true, Bool.true_and, cast_lt hlt, F.bs_get, hy, w1, w2, w3, w4, next_at hlt (by omega : s.size ≤ 9223372036854775807), stTnu]
      try rfl
    · simp only [outTnu, hd, F.dvA_cons]
  · have : k = s.size := by omega
    subst this
    have hd : (F.bs s).drop s.size = [] := List.drop_eq_nil_of_le (by omega)
    left
    refine ⟨(.exit 0, ⟨[(3, vI acc)], []⟩), ?_, ?_, by simp, rfl⟩
    · rw [evTnuL]; simp
    · simp only [outTnu, hd, F.dvA_nil]
      rfl

theorem evTnu (s : ByteArray) : (runF enTnu false Tryd.f68 [vS s]).val =
  Option.bind (unenc stTnu1 (St.mk [(7, (vI (0 : Int))), (6, (vI (↑(ByteArray.size s) : Int))), (3, (vI (0 : Int))), (0, (vS s))] [])) fun (z : ByteArray × Nat × Nat) => bif
  decide (ByteArray.size z.fst ≤ (18 : Nat)) && decide (z.snd.snd ≤ ByteArray.size z.fst) && decide (z.snd.fst < (10 : Nat) ^ z.snd.snd) && List.all (F.bs z.fst) F.dgB &&
  true then some ((vI (↑(F.dvA z.snd.fst (List.drop z.snd.snd (F.bs z.fst))) : Int)), []) else none := (runFR_val).symm.trans (by kernel_rfl)

def encTnu1 (s : ByteArray) : List AV := [vS s]

def encTnu (a : ByteArray) : List AV := encTnu1 a

theorem encTnu_inj (a a' : ByteArray) (h : encTnu a = encTnu a') : a = a' := by
  simp only [encTnu, encTnu1] at h
  try simp [strs_inj, ints_inj, ents_inj, eEnt_iff, eLst_iff, eSnds_inj, eStrms_inj] at h
  grind

theorem unTnu (s : ByteArray) : unenc encTnu ([(vS s)]) = some (s) := unenc_of encTnu_inj (s) rfl

def resTnu1 (s : ByteArray) : AV × Heap := (vI (F.dv s : Nat), [])

def preTnu1 (s : ByteArray) : Bool := decide (s.size ≤ 18) && (F.bs s).all F.dgB

noncomputable def oTnu : Orc := orc 68 true encTnu (fun a => preTnu1 a) fun a => resTnu1 a

theorem okTnu : OrcOK Tryd.prog noG oTnu := by
  refine mk_ok Tryd.f68 (keep := false) (by kernel_rfl) (by kernel_rfl) enTnu_ok mixed (one_loop (x0 := loopN Tryd.f68 0) (by kernel_rfl) (lpo_ok ?_)) (by first | exact fun _ _ => ⟨rfl, rfl⟩ | (intro h; cases h)) ?_
  · rintro ⟨s, acc, k⟩ hp
    exact lpTnu_ok s acc k hp
  rintro s hpre hok
  show (runF enTnu false _ (encTnu1 _)).val = some (resTnu1 _)
  unfold encTnu1 resTnu1
  rw [evTnu]
  have hpre : (decide (s.size ≤ 18) && (F.bs s).all F.dgB) = true := hpre
  rw [Bool.and_eq_true] at hpre
  simp only [unstTnu, unstTnu0, prlTnu, outTnu, etaEnt, etaLst, etaSnd, etaStrm, etaMas, Option.bind_some, List.length_map, unStrs, unInts, unBools, unEnts, unItms, unTrns, cond_true, cond_false, Bool.and_true, Bool.true_and, hpre.1, hpre.2, List.drop_zero, Nat.zero_le, decide_true, (by decide : decide (0 < 10 ^ 0) = true)]
  rfl

end M
end Go.Proofs.YtgkjfochkhiojaaDoor
