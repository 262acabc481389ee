/- What is proved here: what the checks of sounds, streams and lists of all renditions return on plain data, of the reference (no statement of the seat). -/
import Derived.Test.YtipngpndgniagaaGreatDoorE33
namespace Go.Proofs.YtipngpndgniagaaGreatDoor
open Go Go.RowKit
set_option linter.unusedVariables false
set_option linter.unusedSimpArgs false

theorem F.take_at {α : Type} {l : List α} {i k : Nat} (hi : i ≤ l.length) (hk : k < i) : ∃ y, l[k]? = some y ∧ (l.take i).drop k = y :: (l.take i).drop (k + 1) := by
  have hlt : k < l.length := by omega
  have hlt' : k < (l.take i).length := by rw [List.length_take]; omega
  refine ⟨l[k], List.getElem?_eq_getElem hlt, ?_⟩
  rw [List.drop_eq_getElem_cons hlt']
  simp

theorem F.any_r {α : Type} (p : α → Bool) (b : Bool) : ∀ l : List α, (l.any fun o => p o && b) = (b && l.any p)
  | [] => by simp
  | y :: l => by simp only [List.any_cons, F.any_r p b l]; cases b <;> simp

theorem F.uri2 (s : ByteArray) : (bif !decide (F.uriFault s = 0) then (3 : Int) else 0) = F.uriFault s := by
  rw [← F.uri01 s]
  cases decide (F.uriFault s = 0) <;> rfl

namespace M


theorem dec_bne (a b : Int) : decide (a = b) = !(a != b) := by by_cases h : a = b <;> simp [h]

def stRS1 (l : List Snd) (x : Snd) (clash : Bool) (i : Nat) (k : Nat) : St := ⟨[(7, vI k), (6, vB clash), (5, .ptr 5 0 0), (1, vI i), (0, .sl (l.map eSnd))], [(5, ⟨true, 0, 0, [eSnd x]⟩)]⟩

def stRS11 (a : (List Snd) × Snd × Bool × Nat × Nat) : St := stRS1 a.1 a.2.1 a.2.2.1 a.2.2.2.1 a.2.2.2.2

theorem stRS1_inj (a a' : (List Snd) × Snd × Bool × Nat × Nat) (h : stRS11 a = stRS11 a') : a = a' := by
  simp only [stRS11, stRS1] at h
  try simp [strs_inj, ents_inj, eEnt_iff, eLst_iff, eSnds_inj, eSnd_iff, eStrms_inj, eStrm_iff, eMas_iff] at h
  grind

theorem unstRS1 (l : List Snd) (x : Snd) (clash : Bool) (i : Nat) (k : Nat) : unenc stRS11 (St.mk [(7, (vI (↑k : Int))), (6, (vB clash)), (5, .ptr 5 0 0), (1, (vI (↑i : Int))), (0, AV.sl (List.map eSnd l))] [(5, Blk.mk true 0 0 [[(vS x.group), (vS x.name), (vS
  x.lang), (vB x.dflt), (vS x.uri)]])]) = some (l, x, clash, i, k) := unenc_of stRS1_inj (l, x, clash, i, k) rfl

theorem unstRS10 (l : List Snd) (x : Snd) (i : Nat)  : unenc stRS11 (St.mk [(7, (vI (0 : Int))), (6, (vB false)), (5, .ptr 5 0 0), (1, (vI (↑i : Int))), (0, AV.sl (List.map eSnd l))] [(5, Blk.mk true 0 0 [[(vS x.group), (vS x.name), (vS
  x.lang), (vB x.dflt), (vS x.uri)]])]) = some (l, x, false, i, 0) := unenc_of stRS1_inj (l, x, false, i, 0) rfl

def outRS1 (l : List Snd) (x : Snd) (clash : Bool) (i : Nat) (k : Nat) : T (Ex × St) := .ifB (((l.take i).drop k).any (F.sndTw x)) (.ret (.ret, ⟨[(4, vI 7)], []⟩)) (.ret (.exit 0, ⟨[(6, vB (clash || ((l.take i).drop k).any (fun o => F.sndDf x o && x.dflt))), (5, .ptr 5 0 0)], [(5, ⟨true, 0, 0, [eSnd x]⟩)]⟩))

noncomputable def prlRS1 (l : List Snd) (x : Snd) (clash : Bool) (i : Nat) (k : Nat) : Bool := decide (l.length ≤ 9223372036854775807) && decide (i ≤ l.length) && decide (k ≤ i)

noncomputable def lpRS1 : Nat × (St → T (Ex × St)) := (6, lpo [7, 6, 5, 1, 0] [5] stRS11 (fun a => prlRS1 a.1 a.2.1 a.2.2.1 a.2.2.2.1 a.2.2.2.2) fun a => outRS1 a.1 a.2.1 a.2.2.1 a.2.2.2.1 a.2.2.2.2)

def stRS2 (x : Snd) (clash : Bool) (k : Nat) : St := ⟨[(8, vI k), (6, vB clash), (5, .ptr 5 0 0)], [(5, ⟨true, 0, 0, [eSnd x]⟩)]⟩

def stRS21 (a : Snd × Bool × Nat) : St := stRS2 a.1 a.2.1 a.2.2

theorem stRS2_inj (a a' : Snd × Bool × Nat) (h : stRS21 a = stRS21 a') : a = a' := by
  simp only [stRS21, stRS2] at h
  try simp [strs_inj, ents_inj, eEnt_iff, eLst_iff, eSnds_inj, eSnd_iff, eStrms_inj, eStrm_iff, eMas_iff] at h
  grind

theorem unstRS2 (x : Snd) (clash : Bool) (k : Nat) : unenc stRS21 (St.mk [(8, (vI (↑k : Int))), (6, (vB clash)), (5, .ptr 5 0 0)] [(5, Blk.mk true 0 0 [[(vS x.group), (vS x.name), (vS x.lang), (vB x.dflt), (vS x.uri)]])]) = some (x, clash, k) := unenc_of stRS2_inj (x, clash, k) rfl

theorem unstRS20 (x : Snd) (clash : Bool)  : unenc stRS21 (St.mk [(8, (vI (0 : Int))), (6, (vB clash)), (5, .ptr 5 0 0)] [(5, Blk.mk true 0 0 [[(vS x.group), (vS x.name), (vS x.lang), (vB x.dflt), (vS x.uri)]])]) = some (x, clash, 0) := unenc_of stRS2_inj (x, clash, 0) rfl

def outRS2 (x : Snd) (clash : Bool) (k : Nat) : T (Ex × St) := .ifB (F.langL ((F.bs x.lang).drop k)) (.ret (.exit 2, ⟨[(6, vB clash), (5, .ptr 5 0 0)], [(5, ⟨true, 0, 0, [eSnd x]⟩)]⟩)) (.ret (.ret, ⟨[(4, vI 3)], []⟩))

noncomputable def prlRS2 (x : Snd) (clash : Bool) (k : Nat) : Bool := decide (x.lang.size ≤ 9223372036854775807) && decide (k ≤ x.lang.size)

noncomputable def lpRS2 : Nat × (St → T (Ex × St)) := (14, lpo [8, 6, 5] [5] stRS21 (fun a => prlRS2 a.1 a.2.1 a.2.2) fun a => outRS2 a.1 a.2.1 a.2.2)

noncomputable def enRS : Env := envH ty noG lksS [oRNm, oWithin, oIsUri] [] [] [lpRS1, lpRS2]

theorem enRS_ok : EnvOK Tryz.prog enRS := by
  refine envH_ok lksS_ok ty_ok ?_ ?_
  · simp only [List.forall_mem_cons]
    exact ⟨okRNm, okWithin, okIsUri, by simp⟩
  · simp

theorem evRS1L (l : List Snd) (x : Snd) (clash : Bool) (i : Nat) (k : Nat) : ((exec enRS (loopN Tryz.f51 0) (stRS1 l x clash i k)).bind (lessX ([7, 6, 5, 1, 0], [5]) ([6, 5], [5]) ([4], []))).val =
  bif decide ((↑k : Int) < (↑i : Int)) then Option.bind (unenc (List.map eSnd) (List.map eSnd l)) fun (z : List Snd) => bif decide (k < List.length z) then bif
  ByteArray.toList (List.getD z k (Snd.mk (ByteArray.mk (Array.mk [])) (ByteArray.mk (Array.mk [])) (ByteArray.mk (Array.mk [])) false (ByteArray.mk (Array.mk [])))).group
  == ByteArray.toList x.group then Option.bind (unenc (List.map eSnd) (List.map eSnd l)) fun (z_1 : List Snd) => bif decide (k < List.length z_1) then bif bif
  ByteArray.toList (List.getD z k (Snd.mk (ByteArray.mk (Array.mk [])) (ByteArray.mk (Array.mk [])) (ByteArray.mk (Array.mk [])) false (ByteArray.mk (Array.mk [])))).group
  == ByteArray.toList x.group then ByteArray.toList (List.getD z_1 k (Snd.mk (ByteArray.mk (Array.mk [])) (ByteArray.mk (Array.mk [])) (ByteArray.mk (Array.mk [])) false
  (ByteArray.mk (Array.mk [])))).name == ByteArray.toList x.name else false then some (Ex.ret, St.mk [(4, (vI (7 : Int)))] []) else bif !clash then Option.bind (unenc
  (List.map eSnd) (List.map eSnd l)) fun (z : List Snd) => bif decide (k < List.length z) then bif !clash && ByteArray.toList (List.getD z k (Snd.mk (ByteArray.mk (Array.mk
  [])) (ByteArray.mk (Array.mk [])) (ByteArray.mk (Array.mk [])) false (ByteArray.mk (Array.mk [])))).group == ByteArray.toList x.group then Option.bind (unenc (List.map
  eSnd) (List.map eSnd l)) fun (z_2 : List Snd) => bif decide (k < List.length z_2) then some (Ex.normal, St.mk [(7, (vI (IntKind.wrap IntKind.i64 ((↑k : Int) + (1 :
  Int))))), (6, (vB (bif clash then true else bif bif ByteArray.toList (List.getD z k (Snd.mk (ByteArray.mk (Array.mk [])) (ByteArray.mk (Array.mk [])) (ByteArray.mk
  (Array.mk [])) false (ByteArray.mk (Array.mk [])))).group == ByteArray.toList x.group then (List.getD z_2 k (Snd.mk (ByteArray.mk (Array.mk [])) (ByteArray.mk (Array.mk
  [])) (ByteArray.mk (Array.mk [])) false (ByteArray.mk (Array.mk [])))).dflt else false then x.dflt else false))), (5, .ptr 5 0 0), (1, (vI (↑i : Int))), (0, AV.sl
  (List.map eSnd l))] [(5, Blk.mk true 0 0 [[(vS x.group), (vS x.name), (vS x.lang), (vB x.dflt), (vS x.uri)]])]) else none else bif !clash && ByteArray.toList (List.getD z
  k (Snd.mk (ByteArray.mk (Array.mk [])) (ByteArray.mk (Array.mk [])) (ByteArray.mk (Array.mk [])) false (ByteArray.mk (Array.mk [])))).group == ByteArray.toList x.group
  then none else bif !clash && ByteArray.toList (List.getD z k (Snd.mk (ByteArray.mk (Array.mk [])) (ByteArray.mk (Array.mk [])) (ByteArray.mk (Array.mk [])) false
  (ByteArray.mk (Array.mk [])))).group == ByteArray.toList x.group then none else some (Ex.normal, St.mk [(7, (vI (IntKind.wrap IntKind.i64 ((↑k : Int) + (1 : Int))))), (6,
  (vB (bif clash then true else false))), (5, .ptr 5 0 0), (1, (vI (↑i : Int))), (0, AV.sl (List.map eSnd l))] [(5, Blk.mk true 0 0 [[(vS x.group), (vS x.name), (vS x.lang),
  (vB x.dflt), (vS x.uri)]])]) else none else bif !clash then none else bif !clash then none else bif !clash then none else bif !clash then none else bif !clash then none
  else bif !clash then none else bif !clash then none else bif !clash then none else bif !clash then none else bif !clash then none else bif !clash then none else bif !clash
  then none else some (Ex.normal, St.mk [(7, (vI (IntKind.wrap IntKind.i64 ((↑k : Int) + (1 : Int))))), (6, (vB true)), (5, .ptr 5 0 0), (1, (vI (↑i : Int))), (0, AV.sl
  (List.map eSnd l))] [(5, Blk.mk true 0 0 [[(vS x.group), (vS x.name), (vS x.lang), (vB x.dflt), (vS x.uri)]])]) else none else bif ByteArray.toList (List.getD z k (Snd.mk
  (ByteArray.mk (Array.mk [])) (ByteArray.mk (Array.mk [])) (ByteArray.mk (Array.mk [])) false (ByteArray.mk (Array.mk [])))).group == ByteArray.toList x.group then none
  else bif ByteArray.toList (List.getD z k (Snd.mk (ByteArray.mk (Array.mk [])) (ByteArray.mk (Array.mk [])) (ByteArray.mk (Array.mk [])) false (ByteArray.mk (Array.mk
  [])))).group == ByteArray.toList x.group then none else bif ByteArray.toList (List.getD z k (Snd.mk (ByteArray.mk (Array.mk [])) (ByteArray.mk (Array.mk [])) (ByteArray.mk
  (Array.mk [])) false (ByteArray.mk (Array.mk [])))).group == ByteArray.toList x.group then none else bif !clash then Option.bind (unenc (List.map eSnd) (List.map eSnd l))
  fun (z : List Snd) => bif decide (k < List.length z) then bif !clash && ByteArray.toList (List.getD z k (Snd.mk (ByteArray.mk (Array.mk [])) (ByteArray.mk (Array.mk []))
  (ByteArray.mk (Array.mk [])) false (ByteArray.mk (Array.mk [])))).group == ByteArray.toList x.group then Option.bind (unenc (List.map eSnd) (List.map eSnd l)) fun (z_1 :
  List Snd) => bif decide (k < List.length z_1) then some (Ex.normal, St.mk [(7, (vI (IntKind.wrap IntKind.i64 ((↑k : Int) + (1 : Int))))), (6, (vB (bif clash then true else
  bif bif ByteArray.toList (List.getD z k (Snd.mk (ByteArray.mk (Array.mk [])) (ByteArray.mk (Array.mk [])) (ByteArray.mk (Array.mk [])) false (ByteArray.mk (Array.mk
  [])))).group == ByteArray.toList x.group then (List.getD z_1 k (Snd.mk (ByteArray.mk (Array.mk [])) (ByteArray.mk (Array.mk [])) (ByteArray.mk (Array.mk [])) false
  (ByteArray.mk (Array.mk [])))).dflt else false then x.dflt else false))), (5, .ptr 5 0 0), (1, (vI (↑i : Int))), (0, AV.sl (List.map eSnd l))] [(5, Blk.mk true 0 0 [[(vS
  x.group), (vS x.name), (vS x.lang), (vB x.dflt), (vS x.uri)]])]) else none else bif !clash && ByteArray.toList (List.getD z k (Snd.mk (ByteArray.mk (Array.mk []))
  (ByteArray.mk (Array.mk [])) (ByteArray.mk (Array.mk [])) false (ByteArray.mk (Array.mk [])))).group == ByteArray.toList x.group then none else bif !clash &&
  ByteArray.toList (List.getD z k (Snd.mk (ByteArray.mk (Array.mk [])) (ByteArray.mk (Array.mk [])) (ByteArray.mk (Array.mk [])) false (ByteArray.mk (Array.mk [])))).group
  == ByteArray.toList x.group then none else some (Ex.normal, St.mk [(7, (vI (IntKind.wrap IntKind.i64 ((↑k : Int) + (1 : Int))))), (6, (vB (bif clash then true else
  false))), (5, .ptr 5 0 0), (1, (vI (↑i : Int))), (0, AV.sl (List.map eSnd l))] [(5, Blk.mk true 0 0 [[(vS x.group), (vS x.name), (vS x.lang), (vB x.dflt), (vS x.uri)]])])
  else none else bif !clash then none else bif !clash then none else bif !clash then none else bif !clash then none else bif !clash then none else bif !clash then none else
  bif !clash then none else bif !clash then none else bif !clash then none else bif !clash then none else bif !clash then none else bif !clash then none else some
  (Ex.normal, St.mk [(7, (vI (IntKind.wrap IntKind.i64 ((↑k : Int) + (1 : Int))))), (6, (vB true)), (5, .ptr 5 0 0), (1, (vI (↑i : Int))), (0, AV.sl (List.map eSnd l))] [(5,
  Blk.mk true 0 0 [[(vS x.group), (vS x.name), (vS x.lang), (vB x.dflt), (vS x.uri)]])]) else none else some (Ex.exit (0 : Nat), St.mk [(6, (vB clash)), (5, .ptr 5 0 0)]
  [(5, Blk.mk true 0 0 [[(vS x.group), (vS x.name), (vS x.lang), (vB x.dflt), (vS x.uri)]])]) := by kernel_rfl

theorem lpRS1_ok (l : List Snd) (x : Snd) (clash : Bool) (i : Nat) (k : Nat) (hp : prlRS1 l x clash i k = true) : ∀ ex s', (outRS1 l x clash i k).val = some (ex, s') → LoopOK enRS (loopN Tryz.f51 0) (stRS1 l x clash i k) ex s' := by
  simp only [prlRS1, Bool.and_eq_true, decide_eq_true_eq] at hp
  obtain ⟨⟨h1, h2⟩, h3⟩ := hp
  refine loop_gen (st := fun a : Bool × Nat => stRS1 l x a.1 i a.2) (out := fun a => outRS1 l x a.1 i a.2) (I := fun a => a.2 ≤ i) (n := ([7, 6, 5, 1, 0], [5])) (e := ([6, 5], [5])) (r := ([4], [])) (fun a => i - a.2) ?_ (clash, k) h3
  rintro ⟨clash, k⟩ hk
  simp only at hk
  by_cases hlt : k < i
  · obtain ⟨y, hy, hd⟩ := F.take_at h2 hlt
    have hly := lt_at hy
    have hki : decide ((k : Int) < (i : Int)) = true := decide_eq_true (by omega)
    cases ht : F.sndTw x y
    · right
      refine ⟨(clash || (F.sndDf x y && x.dflt), k + 1), ?_, rfl, by simp only; omega, by simp only; omega, ?_⟩
      · rw [evRS1L]
        simp only [unRNm, unWithin, unIsUri, preRNm1, preWithin1, preIsUri1, unstRS1, unstRS2, unstRS10, unstRS20, prlRS1, prlRS2, outRS1, outRS2, etaEnt, etaLst, etaSnd, etaStrm, etaMas, Option.bind_some, List.length_map, unStrs, unInts, unBools, unEnts, unItms, unTrns, cond_true, cond_false, Bool.and_true, Bool.true_and, unSnds, unStrms, hki, decide_eq_true hly, next_at hly h1, getD_at hy, stRS1]
        simp only [F.sndTw, F.sndDf, F.seq] at ht ⊢
        cases hg : (y.group.toList == x.group.toList)
        · cases clash <;> rfl
        · rw [hg] at ht
          simp only [Bool.true_and] at ht
          simp only [ht, cond_true, cond_false, Bool.true_and]
          cases clash <;> cases y.dflt <;> rfl
      · simp only [outRS1, hd, List.any_cons, ht, Bool.false_or, Bool.or_assoc]
    · left
      refine ⟨(.ret, ⟨[(4, vI 7)], []⟩), ?_, ?_, by simp, rfl⟩
      · rw [evRS1L]
        simp only [unRNm, unWithin, unIsUri, preRNm1, preWithin1, preIsUri1, unstRS1, unstRS2, unstRS10, unstRS20, prlRS1, prlRS2, outRS1, outRS2, etaEnt, etaLst, etaSnd, etaStrm, etaMas, Option.bind_some, List.length_map, unStrs, unInts, unBools, unEnts, unItms, unTrns, cond_true, cond_false, Bool.and_true, Bool.true_and, unSnds, unStrms, hki, decide_eq_true hly, next_at hly h1, getD_at hy, stRS1]
        simp only [F.sndTw, F.seq, Bool.and_eq_true] at ht
        simp only [ht.1, ht.2, cond_true]
      · simp only [outRS1, hd, List.any_cons, ht, Bool.true_or]
        rfl
  · have : k = i := by omega
    subst this
    left
    refine ⟨(.exit 0, ⟨[(6, vB clash), (5, .ptr 5 0 0)], [(5, ⟨true, 0, 0, [eSnd x]⟩)]⟩), ?_, ?_, by simp, rfl⟩
    · rw [evRS1L]; simp
      try rfl
    · have : (l.take k).drop k = [] := List.drop_eq_nil_of_le (by simp; omega)
      simp [outRS1, this, T.val]

theorem evRS2L (x : Snd) (clash : Bool) (k : Nat) : ((exec enRS (loopN Tryz.f51 1) (stRS2 x clash k)).bind (lessX ([8, 6, 5], [5]) ([6, 5], [5]) ([4], []))).val =
  bif decide ((↑k : Int) < (↑(ByteArray.size x.lang) : Int)) then Option.bind x.lang[k]? fun (z : UInt8) => bif bif !bif decide ((97 : Int) ≤ (↑(UInt8.toNat z) : Int)) then
  decide ((↑(UInt8.toNat z) : Int) ≤ (122 : Int)) else false then (↑(UInt8.toNat z) : Int) != (45 : Int) else false then some (Ex.ret, St.mk [(4, (vI (3 : Int)))] []) else
  some (Ex.normal, St.mk [(8, (vI (IntKind.wrap IntKind.i64 ((↑k : Int) + (1 : Int))))), (6, (vB clash)), (5, .ptr 5 0 0)] [(5, Blk.mk true 0 0 [[(vS x.group), (vS x.name),
  (vS x.lang), (vB x.dflt), (vS x.uri)]])]) else some (Ex.exit (2 : Nat), St.mk [(6, (vB clash)), (5, .ptr 5 0 0)] [(5, Blk.mk true 0 0 [[(vS x.group), (vS x.name), (vS
  x.lang), (vB x.dflt), (vS x.uri)]])]) := by kernel_rfl

theorem lpRS2_ok (x : Snd) (clash : Bool) (k : Nat) (hp : prlRS2 x clash k = true) : ∀ ex s', (outRS2 x clash k).val = some (ex, s') → LoopOK enRS (loopN Tryz.f51 1) (stRS2 x clash k) ex s' := by
  simp only [prlRS2, Bool.and_eq_true, decide_eq_true_eq] at hp
  refine loop_all (xs := F.bs x.lang) (st := stRS2 x clash) (p := F.langB) (n := ([8, 6, 5], [5])) (e := ([6, 5], [5])) (r := ([4], [])) ?_ ⟨by simp, rfl⟩ ⟨by simp, rfl⟩ (fun _ => rfl) ?_ k (by rw [F.bs_len]; exact hp.2)
  · rw [evRS2L]; rw [F.bs_len]; simp
    try rfl
  · intro k y hy
    have hk : k < x.lang.size := by rw [← F.bs_len]; exact lt_at hy
    rw [evRS2L]
    rw [F.bs_get, hy]
    simp only [unRNm, unWithin, unIsUri, preRNm1, preWithin1, preIsUri1, unstRS1, unstRS2, unstRS10, unstRS20, prlRS1, prlRS2, outRS1, outRS2, etaEnt, etaLst, etaSnd, etaStrm, etaMas, Option.bind_some, List.length_map, unStrs, unInts, unBools, unEnts, unItms, unTrns, cond_true, cond_false, Bool.and_true, Bool.true_and, unSnds, unStrms, cast_lt hk, next_at hk hp.1, F.langB, F.letter, stRS2, eSnd]
    rw [dec_bne]
    cases decide ((97 : Int) ≤ (y.toNat : Int)) <;> cases decide ((y.toNat : Int) ≤ 122) <;> cases ((y.toNat : Int) != 45) <;> rfl

theorem F.bnd {s : Snd} (h : F.lang s.lang = true) : s.lang.size ≤ 8 := by
  simp only [F.lang, F.out, Bool.and_eq_true] at h
  have := h.2
  simp at this
  omega

theorem evRS (l : List Snd) (i : Nat) : (runF enRS false Tryz.f51 [.sl (l.map eSnd), vI i]).val =
  Option.bind (unenc (List.map eSnd) (List.map eSnd l)) fun (z : List Snd) => bif decide (i < List.length z) then Option.bind (unenc encRNm [(vS (List.getD z i (Snd.mk
  (ByteArray.mk (Array.mk [])) (ByteArray.mk (Array.mk [])) (ByteArray.mk (Array.mk [])) false (ByteArray.mk (Array.mk [])))).group)]) fun (z_1 : ByteArray) => bif
  !!F.isName z_1 then Option.bind (unenc encRNm [(vS (List.getD z i (Snd.mk (ByteArray.mk (Array.mk [])) (ByteArray.mk (Array.mk [])) (ByteArray.mk (Array.mk [])) false
  (ByteArray.mk (Array.mk [])))).name)]) fun (z_2 : ByteArray) => bif bif !F.isName z_1 then true else !F.isName z_2 then some ((vI (5 : Int)), []) else Option.bind (unenc
  stRS11 (St.mk [(7, (vI (0 : Int))), (6, (vB false)), (5, .ptr 5 0 0), (1, (vI (↑i : Int))), (0, AV.sl (List.map eSnd l))] [(5, Blk.mk true 0 0 [[(vS (List.getD z i (Snd.mk
  (ByteArray.mk (Array.mk [])) (ByteArray.mk (Array.mk [])) (ByteArray.mk (Array.mk [])) false (ByteArray.mk (Array.mk [])))).group), (vS (List.getD z i (Snd.mk
  (ByteArray.mk (Array.mk [])) (ByteArray.mk (Array.mk [])) (ByteArray.mk (Array.mk [])) false (ByteArray.mk (Array.mk [])))).name), (vS (List.getD z i (Snd.mk (ByteArray.mk
  (Array.mk [])) (ByteArray.mk (Array.mk [])) (ByteArray.mk (Array.mk [])) false (ByteArray.mk (Array.mk [])))).lang), (vB (List.getD z i (Snd.mk (ByteArray.mk (Array.mk
  [])) (ByteArray.mk (Array.mk [])) (ByteArray.mk (Array.mk [])) false (ByteArray.mk (Array.mk [])))).dflt), (vS (List.getD z i (Snd.mk (ByteArray.mk (Array.mk []))
  (ByteArray.mk (Array.mk [])) (ByteArray.mk (Array.mk [])) false (ByteArray.mk (Array.mk [])))).uri)]])])) fun (z : List Snd × Snd × Bool × Nat × Nat) => bif decide
  (List.length z.fst ≤ (9223372036854775807 : Nat)) && decide (z.snd.snd.snd.fst ≤ List.length z.fst) && decide (z.snd.snd.snd.snd ≤ z.snd.snd.snd.fst) && true then bif
  List.any (List.drop z.snd.snd.snd.snd (List.take z.snd.snd.snd.fst z.fst)) (F.sndTw z.snd.fst) then some ((vI (7 : Int)), []) else Option.bind (unenc encWithin [(vI
  (↑(ByteArray.size z.snd.fst.lang) : Int)), (vI (2 : Int)), (vI (8 : Int))]) fun (z_3 : Int × Int × Int) => bif !F.within z_3.fst z_3.snd.fst z_3.snd.snd then some ((vI (3
  : Int)), []) else Option.bind (unenc stRS21 (St.mk [(8, (vI (0 : Int))), (6, (vB (z.snd.snd.fst || List.any (List.drop z.snd.snd.snd.snd (List.take z.snd.snd.snd.fst
  z.fst)) fun (o : Snd) => F.sndDf z.snd.fst o && z.snd.fst.dflt))), (5, .ptr 5 0 0)] [(5, Blk.mk true 0 0 [[(vS z.snd.fst.group), (vS z.snd.fst.name), (vS z.snd.fst.lang),
  (vB z.snd.fst.dflt), (vS z.snd.fst.uri)]])])) fun (z : Snd × Bool × Nat) => bif decide (ByteArray.size z.fst.lang ≤ (9223372036854775807 : Nat)) && decide (z.snd.snd ≤
  ByteArray.size z.fst.lang) && true then bif F.langL (List.drop z.snd.snd (F.bs z.fst.lang)) then bif z.snd.fst then some ((vI (12 : Int)), []) else Option.bind (unenc
  encIsUri [(vS z.fst.uri)]) fun (z : ByteArray) => bif !decide (F.uriFault z = (0 : Int)) then some ((vI (3 : Int)), []) else some ((vI (0 : Int)), []) else some ((vI (3 :
  Int)), []) else none else none else bif !!F.isName z_1 then none else some ((vI (5 : Int)), []) else none := by kernel_rfl

def encRS1 (l : List Snd) (i : Nat) : List AV := [.sl (l.map eSnd), vI i]

def encRS (a : (List Snd) × Nat) : List AV := encRS1 a.1 a.2

theorem encRS_inj (a a' : (List Snd) × Nat) (h : encRS a = encRS a') : a = a' := by
  simp only [encRS, encRS1] at h
  try simp [strs_inj, ents_inj, eEnt_iff, eLst_iff, eSnds_inj, eSnd_iff, eStrms_inj, eStrm_iff, eMas_iff] at h
  grind

theorem unRS (l : List Snd) (i : Nat) : unenc encRS ([AV.sl (List.map eSnd l), (vI (↑i : Int))]) = some (l, i) := unenc_of encRS_inj (l, i) rfl

def resRS1 (l : List Snd) (i : Nat) : AV × Heap := (vI (F.sndF (l.getD i default) (l.take i)), [])

def preRS1 (l : List Snd) (i : Nat) : Bool := decide (i < l.length)

noncomputable def oRS : Orc := orc 51 true encRS (fun a => preRS1 a.1 a.2) fun a => resRS1 a.1 a.2

theorem okRS : OrcOK Tryz.prog noG oRS := by
  refine mk_ok Tryz.f51 (keep := false) (by kernel_rfl) (by kernel_rfl) enRS_ok mixed (two_loops (x0 := loopN Tryz.f51 0) (x1 := loopN Tryz.f51 1) (by kernel_rfl) (lpo_ok ?_) (lpo_ok ?_)) (by first | exact fun _ _ => ⟨rfl, rfl⟩ | (intro h; cases h)) ?_
  · rintro ⟨l, x, clash, i, k⟩ hp
    exact lpRS1_ok l x clash i k hp
  · rintro ⟨x, clash, k⟩ hp
    exact lpRS2_ok x clash k hp
  rintro ⟨l, i⟩ hpre hok
  show (runF enRS false _ (encRS1 _ _)).val = some (resRS1 _ _)
  unfold encRS1 resRS1
  rw [evRS]
  simp only [preRS1, decide_eq_true_eq] at hpre
  have h1 : l.length ≤ 9223372036854775807 := by simpa using (okA_sl (hok _ (List.mem_cons_self ..))).1
  have hy : l[i]? = some (l.getD i default) := by simp [List.getD, List.getElem?_eq_getElem hpre]
  have hsz : (l.getD i default).lang.size ≤ 9223372036854775807 := by
    have h2 := (okA_sl (hok _ (List.mem_cons_self ..))).2 (eSnd (l.getD i default)) (List.mem_map.2 ⟨_, List.mem_of_getElem? hy, rfl⟩)
    simp only [eSnd, List.forall_mem_cons] at h2
    exact okA_str h2.2.2.1
  generalize l.getD i default = x at hy hsz
  have e1 : decide (i ≤ l.length) = true := decide_eq_true (Nat.le_of_lt hpre)
  have e2 : decide (i < l.length) = true := decide_eq_true hpre
  simp only [unRNm, unWithin, unIsUri, preRNm1, preWithin1, preIsUri1, unstRS1, unstRS2, unstRS10, unstRS20, prlRS1, prlRS2, outRS1, outRS2, etaEnt, etaLst, etaSnd, etaStrm, etaMas, Option.bind_some, List.length_map, unStrs, unInts, unBools, unEnts, unItms, unTrns, cond_true, cond_false, Bool.and_true, Bool.true_and, unSnds, unStrms, h1, e1, e2, hsz, List.drop_zero, Nat.zero_le, decide_true, getD_at hy, F.within_eq, Bool.false_or, Bool.and_true, Bool.not_not]
  rw [F.any_r, ← F.uri2 x.uri]
  unfold F.sndF F.lang
  rw [← F.uri2 x.uri]
  cases F.isName x.group
  · rfl
  cases F.isName x.name
  · rfl
  simp only [cond_true, cond_false, Bool.not_true, Bool.or_self]
  cases (l.take i).any (F.sndTw x)
  · cases F.out x.lang.size 2 8
    · cases F.langL (F.bs x.lang)
      · rfl
      · simp only [cond_true, cond_false, Bool.not_true, Bool.not_false, Bool.and_self]
        cases (x.dflt && (l.take i).any (F.sndDf x))
        · cases !decide (F.uriFault x.uri = 0) <;> rfl
        · rfl
    · cases F.langL (F.bs x.lang) <;> rfl
  · rfl

def stRT1 (m : Mas) (x : Strm) (i : Nat) (k : Nat) : St := ⟨[(6, vI k), (5, .ptr 5 0 0), (2, .ptr 2 0 0), (1, vI i)], [(5, ⟨true, 0, 0, [eStrm x]⟩), (2, ⟨true, 0, 0, [eMas m]⟩)]⟩

def stRT11 (a : Mas × Strm × Nat × Nat) : St := stRT1 a.1 a.2.1 a.2.2.1 a.2.2.2

theorem stRT1_inj (a a' : Mas × Strm × Nat × Nat) (h : stRT11 a = stRT11 a') : a = a' := by
  simp only [stRT11, stRT1] at h
  try simp [strs_inj, ents_inj, eEnt_iff, eLst_iff, eSnds_inj, eSnd_iff, eStrms_inj, eStrm_iff, eMas_iff] at h
  grind

theorem unstRT1 (m : Mas) (x : Strm) (i : Nat) (k : Nat) : unenc stRT11 (St.mk [(6, (vI (↑k : Int))), (5, .ptr 5 0 0), (2, .ptr 2 0 0), (1, (vI (↑i : Int)))] [(5, Blk.mk true 0 0 [[(vS x.name), (vS x.uri), (vI x.mean), (vI x.peak), (vI
  x.width), (vI x.height), (vS x.sound)]]), (2, Blk.mk true 0 0 [[AV.sl (List.map eStrm m.streams), AV.sl (List.map eSnd m.sounds)]])]) = some (m, x, i, k) := unenc_of stRT1_inj (m, x, i, k) rfl

theorem unstRT10 (m : Mas) (x : Strm) (i : Nat)  : unenc stRT11 (St.mk [(6, (vI (0 : Int))), (5, .ptr 5 0 0), (2, .ptr 2 0 0), (1, (vI (↑i : Int)))] [(5, Blk.mk true 0 0 [[(vS x.name), (vS x.uri), (vI x.mean), (vI x.peak), (vI x.width),
  (vI x.height), (vS x.sound)]]), (2, Blk.mk true 0 0 [[AV.sl (List.map eStrm m.streams), AV.sl (List.map eSnd m.sounds)]])]) = some (m, x, i, 0) := unenc_of stRT1_inj (m, x, i, 0) rfl

def outRT1 (m : Mas) (x : Strm) (i : Nat) (k : Nat) : T (Ex × St) := .ifB (((m.streams.take i).drop k).any (fun o => F.seq o.name x.name)) (.ret (.ret, ⟨[(4, vI 7)], []⟩)) (.ret (.exit 0, ⟨[(5, .ptr 5 0 0), (2, .ptr 2 0 0)], [(5, ⟨true, 0, 0, [eStrm x]⟩), (2, ⟨true, 0, 0, [eMas m]⟩)]⟩))

noncomputable def prlRT1 (m : Mas) (x : Strm) (i : Nat) (k : Nat) : Bool := decide (m.streams.length ≤ 9223372036854775807) && decide (i ≤ m.streams.length) && decide (k ≤ i)

noncomputable def lpRT1 : Nat × (St → T (Ex × St)) := (5, lpo [6, 5, 2, 1] [5, 2] stRT11 (fun a => prlRT1 a.1 a.2.1 a.2.2.1 a.2.2.2) fun a => outRT1 a.1 a.2.1 a.2.2.1 a.2.2.2)

def stRT2 (m : Mas) (x : Strm) (found : Bool) (k : Nat) : St := ⟨[(8, vI k), (7, vB found), (5, .ptr 5 0 0), (2, .ptr 2 0 0)], [(5, ⟨true, 0, 0, [eStrm x]⟩), (2, ⟨true, 0, 0, [eMas m]⟩)]⟩

def stRT21 (a : Mas × Strm × Bool × Nat) : St := stRT2 a.1 a.2.1 a.2.2.1 a.2.2.2

theorem stRT2_inj (a a' : Mas × Strm × Bool × Nat) (h : stRT21 a = stRT21 a') : a = a' := by
  simp only [stRT21, stRT2] at h
  try simp [strs_inj, ents_inj, eEnt_iff, eLst_iff, eSnds_inj, eSnd_iff, eStrms_inj, eStrm_iff, eMas_iff] at h
  grind

theorem unstRT2 (m : Mas) (x : Strm) (found : Bool) (k : Nat) : unenc stRT21 (St.mk [(8, (vI (↑k : Int))), (7, (vB found)), (5, .ptr 5 0 0), (2, .ptr 2 0 0)] [(5, Blk.mk true 0 0 [[(vS x.name), (vS x.uri), (vI x.mean), (vI x.peak), (vI x.width), (vI
  x.height), (vS x.sound)]]), (2, Blk.mk true 0 0 [[AV.sl (List.map eStrm m.streams), AV.sl (List.map eSnd m.sounds)]])]) = some (m, x, found, k) := unenc_of stRT2_inj (m, x, found, k) rfl

theorem unstRT20 (m : Mas) (x : Strm) (found : Bool)  : unenc stRT21 (St.mk [(8, (vI (0 : Int))), (7, (vB found)), (5, .ptr 5 0 0), (2, .ptr 2 0 0)] [(5, Blk.mk true 0 0 [[(vS x.name), (vS x.uri), (vI x.mean), (vI x.peak), (vI x.width), (vI
  x.height), (vS x.sound)]]), (2, Blk.mk true 0 0 [[AV.sl (List.map eStrm m.streams), AV.sl (List.map eSnd m.sounds)]])]) = some (m, x, found, 0) := unenc_of stRT2_inj (m, x, found, 0) rfl

def outRT2 (m : Mas) (x : Strm) (found : Bool) (k : Nat) : T (Ex × St) := .ret (.exit 2, ⟨[(7, vB (found || (m.sounds.drop k).any (fun o => F.seq o.group x.sound)))], []⟩)

noncomputable def prlRT2 (m : Mas) (x : Strm) (found : Bool) (k : Nat) : Bool := decide (m.sounds.length ≤ 9223372036854775807) && decide (k ≤ m.sounds.length)

noncomputable def lpRT2 : Nat × (St → T (Ex × St)) := (15, lpo [8, 7, 5, 2] [5, 2] stRT21 (fun a => prlRT2 a.1 a.2.1 a.2.2.1 a.2.2.2) fun a => outRT2 a.1 a.2.1 a.2.2.1 a.2.2.2)

noncomputable def enRT : Env := envH ty noG lksS [oRNm, oWithin, oIsUri] [] [] [lpRT1, lpRT2]

theorem enRT_ok : EnvOK Tryz.prog enRT := by
  refine envH_ok lksS_ok ty_ok ?_ ?_
  · simp only [List.forall_mem_cons]
    exact ⟨okRNm, okWithin, okIsUri, by simp⟩
  · simp

theorem evRT1L (m : Mas) (x : Strm) (i : Nat) (k : Nat) : ((exec enRT (loopN Tryz.f52 0) (stRT1 m x i k)).bind (lessX ([6, 5, 2, 1], [5, 2]) ([5, 2], [5, 2]) ([4], []))).val =
  bif decide ((↑k : Int) < (↑i : Int)) then Option.bind (unenc (List.map eStrm) (List.map eStrm m.streams)) fun (z : List Strm) => bif decide (k < List.length z) then bif
  ByteArray.toList (List.getD z k (Strm.mk (ByteArray.mk (Array.mk [])) (ByteArray.mk (Array.mk [])) (0 : Int) (0 : Int) (0 : Int) (0 : Int) (ByteArray.mk (Array.mk
  [])))).name == ByteArray.toList x.name then some (Ex.ret, St.mk [(4, (vI (7 : Int)))] []) else some (Ex.normal, St.mk [(6, (vI (IntKind.wrap IntKind.i64 ((↑k : Int) + (1 :
  Int))))), (5, .ptr 5 0 0), (2, .ptr 2 0 0), (1, (vI (↑i : Int)))] [(5, Blk.mk true 0 0 [[(vS x.name), (vS x.uri), (vI x.mean), (vI x.peak), (vI x.width), (vI x.height),
  (vS x.sound)]]), (2, Blk.mk true 0 0 [[AV.sl (List.map eStrm m.streams), AV.sl (List.map eSnd m.sounds)]])]) else none else some (Ex.exit (0 : Nat), St.mk [(5, .ptr 5 0
  0), (2, .ptr 2 0 0)] [(5, Blk.mk true 0 0 [[(vS x.name), (vS x.uri), (vI x.mean), (vI x.peak), (vI x.width), (vI x.height), (vS x.sound)]]), (2, Blk.mk true 0 0 [[AV.sl
  (List.map eStrm m.streams), AV.sl (List.map eSnd m.sounds)]])]) := by kernel_rfl

theorem lpRT1_ok (m : Mas) (x : Strm) (i : Nat) (k : Nat) (hp : prlRT1 m x i k = true) : ∀ ex s', (outRT1 m x i k).val = some (ex, s') → LoopOK enRT (loopN Tryz.f52 0) (stRT1 m x i k) ex s' := by
  simp only [prlRT1, Bool.and_eq_true, decide_eq_true_eq] at hp
  obtain ⟨⟨h1, h2⟩, h3⟩ := hp
  refine loop_gen (st := fun k => stRT1 m x i k) (out := fun k => outRT1 m x i k) (I := fun k => k ≤ i) (n := ([6, 5, 2, 1], [5, 2])) (e := ([5, 2], [5, 2])) (r := ([4], [])) (fun k => i - k) ?_ k h3
  intro k hk
  by_cases hlt : k < i
  · obtain ⟨y, hy, hd⟩ := F.take_at h2 hlt
    have hly := lt_at hy
    have hki : decide ((k : Int) < (i : Int)) = true := decide_eq_true (by omega)
    cases ht : F.seq y.name x.name
    · right
      refine ⟨k + 1, ?_, rfl, by omega, by omega, ?_⟩
      · simp only [F.seq] at ht
        rw [evRT1L]
        simp only [unRNm, unWithin, unIsUri, preRNm1, preWithin1, preIsUri1, unstRT1, unstRT2, unstRT10, unstRT20, prlRT1, prlRT2, outRT1, outRT2, etaEnt, etaLst, etaSnd, etaStrm, etaMas, Option.bind_some, List.length_map, unStrs, unInts, unBools, unEnts, unItms, unTrns, cond_true, cond_false, Bool.and_true, Bool.true_and, unSnds, unStrms, hki, decide_eq_true hly, next_at hly h1, getD_at hy, stRT1, ht]
        rfl
      · simp only [outRT1, hd, List.any_cons, ht, Bool.false_or]
    · left
      refine ⟨(.ret, ⟨[(4, vI 7)], []⟩), ?_, ?_, by simp, rfl⟩
      · simp only [F.seq] at ht
        rw [evRT1L]
        simp only [unRNm, unWithin, unIsUri, preRNm1, preWithin1, preIsUri1, unstRT1, unstRT2, unstRT10, unstRT20, prlRT1, prlRT2, outRT1, outRT2, etaEnt, etaLst, etaSnd, etaStrm, etaMas, Option.bind_some, List.length_map, unStrs, unInts, unBools, unEnts, unItms, unTrns, cond_true, cond_false, Bool.and_true, Bool.true_and, unSnds, unStrms, hki, decide_eq_true hly, next_at hly h1, getD_at hy, stRT1, ht]
      · simp only [outRT1, hd, List.any_cons, ht, Bool.true_or]
        rfl
  · have : k = i := by omega
    subst this
    left
    refine ⟨(.exit 0, ⟨[(5, .ptr 5 0 0), (2, .ptr 2 0 0)], [(5, ⟨true, 0, 0, [eStrm x]⟩), (2, ⟨true, 0, 0, [eMas m]⟩)]⟩), ?_, ?_, by simp, rfl⟩
    · rw [evRT1L]; simp
      exact ⟨rfl, rfl⟩
    · have : (m.streams.take k).drop k = [] := List.drop_eq_nil_of_le (by simp; omega)
      simp [outRT1, this, T.val]

theorem evRT2L (m : Mas) (x : Strm) (found : Bool) (k : Nat) : ((exec enRT (loopN Tryz.f52 1) (stRT2 m x found k)).bind (lessX ([8, 7, 5, 2], [5, 2]) ([7], []) ([], []))).val =
  bif decide ((↑k : Int) < (↑(List.length (List.map eSnd m.sounds)) : Int)) then bif !found then Option.bind (unenc (List.map eSnd) (List.map eSnd m.sounds)) fun (z : List
  Snd) => bif decide (k < List.length z) then some (Ex.normal, St.mk [(8, (vI (IntKind.wrap IntKind.i64 ((↑k : Int) + (1 : Int))))), (7, (vB (bif found then true else
  ByteArray.toList (List.getD z k (Snd.mk (ByteArray.mk (Array.mk [])) (ByteArray.mk (Array.mk [])) (ByteArray.mk (Array.mk [])) false (ByteArray.mk (Array.mk [])))).group
  == ByteArray.toList x.sound))), (5, .ptr 5 0 0), (2, .ptr 2 0 0)] [(5, Blk.mk true 0 0 [[(vS x.name), (vS x.uri), (vI x.mean), (vI x.peak), (vI x.width), (vI x.height),
  (vS x.sound)]]), (2, Blk.mk true 0 0 [[AV.sl (List.map eStrm m.streams), AV.sl (List.map eSnd m.sounds)]])]) else none else bif !found then none else bif !found then none
  else bif !found then none else some (Ex.normal, St.mk [(8, (vI (IntKind.wrap IntKind.i64 ((↑k : Int) + (1 : Int))))), (7, (vB true)), (5, .ptr 5 0 0), (2, .ptr 2 0 0)]
  [(5, Blk.mk true 0 0 [[(vS x.name), (vS x.uri), (vI x.mean), (vI x.peak), (vI x.width), (vI x.height), (vS x.sound)]]), (2, Blk.mk true 0 0 [[AV.sl (List.map eStrm
  m.streams), AV.sl (List.map eSnd m.sounds)]])]) else some (Ex.exit (2 : Nat), St.mk [(7, (vB found))] []) := by kernel_rfl

theorem lpRT2_ok (m : Mas) (x : Strm) (found : Bool) (k : Nat) (hp : prlRT2 m x found k = true) : ∀ ex s', (outRT2 m x found k).val = some (ex, s') → LoopOK enRT (loopN Tryz.f52 1) (stRT2 m x found k) ex s' := by
  simp only [prlRT2, Bool.and_eq_true, decide_eq_true_eq] at hp
  intro ex s' hh
  have hf : ∀ (l : List Snd) (b : Bool), l.foldl (fun a o => a || F.seq o.group x.sound) b = (b || l.any (fun o => F.seq o.group x.sound)) := by
    intro l
    induction l with
    | nil => simp
    | cons y l ih => intro b; rw [List.foldl_cons, ih, List.any_cons, Bool.or_assoc]
  refine loop_fold (xs := m.sounds) (st := fun a k => stRT2 m x a k) (f := fun a o => a || F.seq o.group x.sound) (fin := fun a => (.exit 2, ⟨[(7, vB a)], []⟩)) (I := fun _ _ => True) (n := ([8, 7, 5, 2], [5, 2])) (e := ([7], [])) (r := ([], [])) ?_ (fun _ => ⟨by simp, rfl⟩) (fun _ _ => rfl) ?_ found k hp.2 trivial ex s' (by rw [hf]; exact hh)
  · intro a _
    rw [evRT2L]; simp
  · intro a k y hy _
    have hlt := lt_at hy
    refine ⟨?_, trivial⟩
    rw [evRT2L]
    simp only [unRNm, unWithin, unIsUri, preRNm1, preWithin1, preIsUri1, unstRT1, unstRT2, unstRT10, unstRT20, prlRT1, prlRT2, outRT1, outRT2, etaEnt, etaLst, etaSnd, etaStrm, etaMas, Option.bind_some, List.length_map, unStrs, unInts, unBools, unEnts, unItms, unTrns, cond_true, cond_false, Bool.and_true, Bool.true_and, unSnds, unStrms, cast_lt hlt, decide_eq_true hlt, next_at hlt hp.1, getD_at hy, stRT2, F.seq]
    cases a <;> rfl

theorem evRT (m : Mas) (i : Nat) : (runF enRT false Tryz.f52 [.agg (eMas m), vI i]).val =
  Option.bind (unenc (List.map eStrm) (List.map eStrm m.streams)) fun (z : List Strm) => bif decide (i < List.length z) then Option.bind (unenc encRNm [(vS (List.getD z i
  (Strm.mk (ByteArray.mk (Array.mk [])) (ByteArray.mk (Array.mk [])) (0 : Int) (0 : Int) (0 : Int) (0 : Int) (ByteArray.mk (Array.mk [])))).name)]) fun (z_1 : ByteArray) =>
  bif !F.isName z_1 then some ((vI (5 : Int)), []) else Option.bind (unenc stRT11 (St.mk [(6, (vI (0 : Int))), (5, .ptr 5 0 0), (2, .ptr 2 0 0), (1, (vI (↑i : Int)))] [(5,
  Blk.mk true 0 0 [[(vS (List.getD z i (Strm.mk (ByteArray.mk (Array.mk [])) (ByteArray.mk (Array.mk [])) (0 : Int) (0 : Int) (0 : Int) (0 : Int) (ByteArray.mk (Array.mk
  [])))).name), (vS (List.getD z i (Strm.mk (ByteArray.mk (Array.mk [])) (ByteArray.mk (Array.mk [])) (0 : Int) (0 : Int) (0 : Int) (0 : Int) (ByteArray.mk (Array.mk
  [])))).uri), (vI (List.getD z i (Strm.mk (ByteArray.mk (Array.mk [])) (ByteArray.mk (Array.mk [])) (0 : Int) (0 : Int) (0 : Int) (0 : Int) (ByteArray.mk (Array.mk
  [])))).mean), (vI (List.getD z i (Strm.mk (ByteArray.mk (Array.mk [])) (ByteArray.mk (Array.mk [])) (0 : Int) (0 : Int) (0 : Int) (0 : Int) (ByteArray.mk (Array.mk
  [])))).peak), (vI (List.getD z i (Strm.mk (ByteArray.mk (Array.mk [])) (ByteArray.mk (Array.mk [])) (0 : Int) (0 : Int) (0 : Int) (0 : Int) (ByteArray.mk (Array.mk
  [])))).width), (vI (List.getD z i (Strm.mk (ByteArray.mk (Array.mk [])) (ByteArray.mk (Array.mk [])) (0 : Int) (0 : Int) (0 : Int) (0 : Int) (ByteArray.mk (Array.mk
  [])))).height), (vS (List.getD z i (Strm.mk (ByteArray.mk (Array.mk [])) (ByteArray.mk (Array.mk [])) (0 : Int) (0 : Int) (0 : Int) (0 : Int) (ByteArray.mk (Array.mk
  [])))).sound)]]), (2, Blk.mk true 0 0 [[AV.sl (List.map eStrm m.streams), AV.sl (List.map eSnd m.sounds)]])])) fun (z : Mas × Strm × Nat × Nat) => bif decide (List.length
  z.fst.streams ≤ (9223372036854775807 : Nat)) && decide (z.snd.snd.fst ≤ List.length z.fst.streams) && decide (z.snd.snd.snd ≤ z.snd.snd.fst) && true then bif List.any
  (List.drop z.snd.snd.snd (List.take z.snd.snd.fst z.fst.streams)) fun (o : Strm) => F.seq o.name z.snd.fst.name then some ((vI (7 : Int)), []) else Option.bind (unenc
  encIsUri [(vS z.snd.fst.uri)]) fun (z_2 : ByteArray) => bif !decide (F.uriFault z_2 = (0 : Int)) then some ((vI (3 : Int)), []) else Option.bind (unenc encWithin [(vI
  z.snd.fst.mean), (vI (1 : Int)), (vI (10000000000 : Int))]) fun (z_3 : Int × Int × Int) => bif !!F.within z_3.fst z_3.snd.fst z_3.snd.snd then Option.bind (unenc encWithin
  [(vI z.snd.fst.peak), (vI z.snd.fst.mean), (vI (10000000000 : Int))]) fun (z_4 : Int × Int × Int) => bif !bif !F.within z_3.fst z_3.snd.fst z_3.snd.snd then true else
  !F.within z_4.fst z_4.snd.fst z_4.snd.snd then Option.bind (unenc encWithin [(vI z.snd.fst.width), (vI (0 : Int)), (vI (20000 : Int))]) fun (z_5 : Int × Int × Int) => bif
  !bif bif !F.within z_3.fst z_3.snd.fst z_3.snd.snd then true else !F.within z_4.fst z_4.snd.fst z_4.snd.snd then true else !F.within z_5.fst z_5.snd.fst z_5.snd.snd then
  Option.bind (unenc encWithin [(vI z.snd.fst.height), (vI (0 : Int)), (vI (20000 : Int))]) fun (z_6 : Int × Int × Int) => bif bif bif bif bif !F.within z_3.fst z_3.snd.fst
  z_3.snd.snd then true else !F.within z_4.fst z_4.snd.fst z_4.snd.snd then true else !F.within z_5.fst z_5.snd.fst z_5.snd.snd then true else !F.within z_6.fst z_6.snd.fst
  z_6.snd.snd then true else !(z.snd.fst.width == (0 : Int)) == (z.snd.fst.height == (0 : Int)) then some ((vI (1 : Int)), []) else Option.bind (unenc stRT21 (St.mk [(8, (vI
  (0 : Int))), (7, (vB (ByteArray.toList z.snd.fst.sound == ByteArray.toList (ByteArray.mk (Array.mk []))))), (5, .ptr 5 0 0), (2, .ptr 2 0 0)] [(5, Blk.mk true 0 0 [[(vS
  z.snd.fst.name), (vS z.snd.fst.uri), (vI z.snd.fst.mean), (vI z.snd.fst.peak), (vI z.snd.fst.width), (vI z.snd.fst.height), (vS z.snd.fst.sound)]]), (2, Blk.mk true 0 0
  [[AV.sl (List.map eStrm z.fst.streams), AV.sl (List.map eSnd z.fst.sounds)]])])) fun (z : Mas × Strm × Bool × Nat) => bif decide (List.length z.fst.sounds ≤
  (9223372036854775807 : Nat)) && decide (z.snd.snd.snd ≤ List.length z.fst.sounds) && true then bif !(z.snd.snd.fst || List.any (List.drop z.snd.snd.snd z.fst.sounds) fun
  (o : Snd) => F.seq o.group z.snd.fst.sound) then some ((vI (5 : Int)), []) else some ((vI (0 : Int)), []) else none else bif !bif bif !F.within z_3.fst z_3.snd.fst
  z_3.snd.snd then true else !F.within z_4.fst z_4.snd.fst z_4.snd.snd then true else !F.within z_5.fst z_5.snd.fst z_5.snd.snd then none else some ((vI (1 : Int)), []) else
  bif !bif !F.within z_3.fst z_3.snd.fst z_3.snd.snd then true else !F.within z_4.fst z_4.snd.fst z_4.snd.snd then none else some ((vI (1 : Int)), []) else bif !!F.within
  z_3.fst z_3.snd.fst z_3.snd.snd then none else some ((vI (1 : Int)), []) else none else none := by kernel_rfl

def encRT1 (m : Mas) (i : Nat) : List AV := [.agg (eMas m), vI i]

def encRT (a : Mas × Nat) : List AV := encRT1 a.1 a.2

theorem encRT_inj (a a' : Mas × Nat) (h : encRT a = encRT a') : a = a' := by
  simp only [encRT, encRT1] at h
  try simp [strs_inj, ents_inj, eEnt_iff, eLst_iff, eSnds_inj, eSnd_iff, eStrms_inj, eStrm_iff, eMas_iff] at h
  grind

theorem unRT (m : Mas) (i : Nat) : unenc encRT ([AV.agg [AV.sl (List.map eStrm m.streams), AV.sl (List.map eSnd m.sounds)], (vI (↑i : Int))]) = some (m, i) := unenc_of encRT_inj (m, i) rfl

theorem unRTw (m_streams : List Strm) (m_sounds : List Snd) (i : Nat) : unenc encRT ([AV.agg [AV.sl (List.map eStrm m_streams), AV.sl (List.map eSnd m_sounds)], (vI (↑i : Int))]) = some ((Mas.mk m_streams m_sounds), i) := unenc_of encRT_inj ((Mas.mk m_streams m_sounds), i) rfl

def resRT1 (m : Mas) (i : Nat) : AV × Heap := (vI (F.strmF (m.streams.getD i default) (m.streams.take i) m.sounds), [])

def preRT1 (m : Mas) (i : Nat) : Bool := decide (i < m.streams.length)

noncomputable def oRT : Orc := orc 52 true encRT (fun a => preRT1 a.1 a.2) fun a => resRT1 a.1 a.2

theorem okRT : OrcOK Tryz.prog noG oRT := by
  refine mk_ok Tryz.f52 (keep := false) (by kernel_rfl) (by kernel_rfl) enRT_ok mixed (two_loops (x0 := loopN Tryz.f52 0) (x1 := loopN Tryz.f52 1) (by kernel_rfl) (lpo_ok ?_) (lpo_ok ?_)) (by first | exact fun _ _ => ⟨rfl, rfl⟩ | (intro h; cases h)) ?_
  · rintro ⟨m, x, i, k⟩ hp
    exact lpRT1_ok m x i k hp
  · rintro ⟨m, x, found, k⟩ hp
    exact lpRT2_ok m x found k hp
  rintro ⟨m, i⟩ hpre hok
  show (runF enRT false _ (encRT1 _ _)).val = some (resRT1 _ _)
  unfold encRT1 resRT1
  rw [evRT]
  simp only [preRT1, decide_eq_true_eq] at hpre
  obtain ⟨h1, h2⟩ := mas_len (hok _ (List.mem_cons_self ..))
  have hy : m.streams[i]? = some (m.streams.getD i default) := by simp [List.getD, List.getElem?_eq_getElem hpre]
  generalize m.streams.getD i default = x at hy
  have e1 : decide (i ≤ m.streams.length) = true := decide_eq_true (Nat.le_of_lt hpre)
  have e2 : decide (i < m.streams.length) = true := decide_eq_true hpre
  simp only [unRNm, unWithin, unIsUri, preRNm1, preWithin1, preIsUri1, unstRT1, unstRT2, unstRT10, unstRT20, prlRT1, prlRT2, outRT1, outRT2, etaEnt, etaLst, etaSnd, etaStrm, etaMas, Option.bind_some, List.length_map, unStrs, unInts, unBools, unEnts, unItms, unTrns, cond_true, cond_false, Bool.and_true, Bool.true_and, unSnds, unStrms, h1, h2, e1, e2, List.drop_zero, Nat.zero_le, decide_true, getD_at hy, F.within_eq, Bool.false_or, Bool.and_true, Bool.not_not]
  have e : (F.uriFault x.uri != 0) = !decide (F.uriFault x.uri = 0) := by by_cases h : F.uriFault x.uri = 0 <;> simp [h]
  unfold F.strmF F.nonE
  rw [e, show F.seq x.sound ⟨#[]⟩ = (x.sound.toList == ByteArray.toList ⟨#[]⟩) from rfl]
  cases F.isName x.name
  · rfl
  cases ((m.streams.take i).any fun o => F.seq o.name x.name)
  · cases decide (F.uriFault x.uri = 0)
    · rfl
    · cases F.out x.mean 1 10000000000
      · cases F.out x.peak x.mean 10000000000
        · cases F.out x.width 0 20000
          · cases F.out x.height 0 20000
            · cases (x.width == 0) <;> cases (x.height == 0) <;> first | rfl | (cases (x.sound.toList == ByteArray.toList ⟨#[]⟩) <;> cases (m.sounds.any fun o => F.seq o.group x.sound) <;> rfl)
            · cases (x.width == 0) <;> cases (x.height == 0) <;> rfl
          · rfl
        · rfl
      · rfl
  · rfl

def stRM1 (m : Mas) (k : Nat) : St := ⟨[(3, vI k), (1, .ptr 1 0 0)], [(1, ⟨true, 0, 0, [eMas m]⟩)]⟩

def stRM11 (a : Mas × Nat) : St := stRM1 a.1 a.2

theorem stRM1_inj (a a' : Mas × Nat) (h : stRM11 a = stRM11 a') : a = a' := by
  simp only [stRM11, stRM1] at h
  try simp [strs_inj, ents_inj, eEnt_iff, eLst_iff, eSnds_inj, eSnd_iff, eStrms_inj, eStrm_iff, eMas_iff] at h
  grind

theorem unstRM1 (m : Mas) (k : Nat) : unenc stRM11 (St.mk [(3, (vI (↑k : Int))), (1, .ptr 1 0 0)] [(1, Blk.mk true 0 0 [[AV.sl (List.map eStrm m.streams), AV.sl (List.map eSnd m.sounds)]])]) = some (m, k) := unenc_of stRM1_inj (m, k) rfl

theorem unstRM10 (m : Mas)  : unenc stRM11 (St.mk [(3, (vI (0 : Int))), (1, .ptr 1 0 0)] [(1, Blk.mk true 0 0 [[AV.sl (List.map eStrm m.streams), AV.sl (List.map eSnd m.sounds)]])]) = some (m, 0) := unenc_of stRM1_inj (m, 0) rfl

def outRM1 (m : Mas) (k : Nat) : T (Ex × St) := .ifB (decide (M.ffI (fun p : Snd × Nat => F.sndF p.1 (m.sounds.take p.2)) (m.sounds.zipIdx.drop k) = 0)) (.ret (.exit 0, ⟨[(1, .ptr 1 0 0)], [(1, ⟨true, 0, 0, [eMas m]⟩)]⟩)) (.ret (.ret, ⟨[(2, vI (M.ffI (fun p : Snd × Nat => F.sndF p.1 (m.sounds.take p.2)) (m.sounds.zipIdx.drop k)))], []⟩))

noncomputable def prlRM1 (m : Mas) (k : Nat) : Bool := decide (m.sounds.length ≤ 9223372036854775807) && decide (k ≤ m.sounds.length)

noncomputable def lpRM1 : Nat × (St → T (Ex × St)) := (4, lpo [3, 1] [1] stRM11 (fun a => prlRM1 a.1 a.2) fun a => outRM1 a.1 a.2)

def stRM2 (m : Mas) (k : Nat) : St := ⟨[(5, vI k), (1, .ptr 1 0 0)], [(1, ⟨true, 0, 0, [eMas m]⟩)]⟩

def stRM21 (a : Mas × Nat) : St := stRM2 a.1 a.2

theorem stRM2_inj (a a' : Mas × Nat) (h : stRM21 a = stRM21 a') : a = a' := by
  simp only [stRM21, stRM2] at h
  try simp [strs_inj, ents_inj, eEnt_iff, eLst_iff, eSnds_inj, eSnd_iff, eStrms_inj, eStrm_iff, eMas_iff] at h
  grind

theorem unstRM2 (m : Mas) (k : Nat) : unenc stRM21 (St.mk [(5, (vI (↑k : Int))), (1, .ptr 1 0 0)] [(1, Blk.mk true 0 0 [[AV.sl (List.map eStrm m.streams), AV.sl (List.map eSnd m.sounds)]])]) = some (m, k) := unenc_of stRM2_inj (m, k) rfl

theorem unstRM20 (m : Mas)  : unenc stRM21 (St.mk [(5, (vI (0 : Int))), (1, .ptr 1 0 0)] [(1, Blk.mk true 0 0 [[AV.sl (List.map eStrm m.streams), AV.sl (List.map eSnd m.sounds)]])]) = some (m, 0) := unenc_of stRM2_inj (m, 0) rfl

def outRM2 (m : Mas) (k : Nat) : T (Ex × St) := .ifB (decide (M.ffI (fun p : Strm × Nat => F.strmF p.1 (m.streams.take p.2) m.sounds) (m.streams.zipIdx.drop k) = 0)) (.ret (.exit 2, ⟨[], []⟩)) (.ret (.ret, ⟨[(2, vI (M.ffI (fun p : Strm × Nat => F.strmF p.1 (m.streams.take p.2) m.sounds) (m.streams.zipIdx.drop k)))], []⟩))

noncomputable def prlRM2 (m : Mas) (k : Nat) : Bool := decide (m.streams.length ≤ 9223372036854775807) && decide (k ≤ m.streams.length)

noncomputable def lpRM2 : Nat × (St → T (Ex × St)) := (10, lpo [5, 1] [1] stRM21 (fun a => prlRM2 a.1 a.2) fun a => outRM2 a.1 a.2)

noncomputable def enRM : Env := envH ty noG lksS [oRS, oRT] [] [] [lpRM1, lpRM2]

theorem enRM_ok : EnvOK Tryz.prog enRM := by
  refine envH_ok lksS_ok ty_ok ?_ ?_
  · simp only [List.forall_mem_cons]
    exact ⟨okRS, okRT, by simp⟩
  · simp

theorem evRM1L (m : Mas) (k : Nat) : ((exec enRM (loopN Tryz.f33 0) (stRM1 m k)).bind (lessX ([3, 1], [1]) ([1], [1]) ([2], []))).val =
  bif decide ((↑k : Int) < (↑(List.length (List.map eSnd m.sounds)) : Int)) then Option.bind (unenc encRS [AV.sl (List.map eSnd m.sounds), (vI (↑k : Int))]) fun (z : List
  Snd × Nat) => bif decide (z.snd < List.length z.fst) then bif F.sndF (List.getD z.fst z.snd (Snd.mk (ByteArray.mk (Array.mk [])) (ByteArray.mk (Array.mk [])) (ByteArray.mk
  (Array.mk [])) false (ByteArray.mk (Array.mk [])))) (List.take z.snd z.fst) != (0 : Int) then some (Ex.ret, St.mk [(2, (vI (F.sndF (List.getD z.fst z.snd (Snd.mk
  (ByteArray.mk (Array.mk [])) (ByteArray.mk (Array.mk [])) (ByteArray.mk (Array.mk [])) false (ByteArray.mk (Array.mk [])))) (List.take z.snd z.fst))))] []) else some
  (Ex.normal, St.mk [(3, (vI (IntKind.wrap IntKind.i64 ((↑k : Int) + (1 : Int))))), (1, .ptr 1 0 0)] [(1, Blk.mk true 0 0 [[AV.sl (List.map eStrm m.streams), AV.sl (List.map
  eSnd m.sounds)]])]) else none else some (Ex.exit (0 : Nat), St.mk [(1, .ptr 1 0 0)] [(1, Blk.mk true 0 0 [[AV.sl (List.map eStrm m.streams), AV.sl (List.map eSnd
  m.sounds)]])]) := by kernel_rfl

theorem lpRM1_ok (m : Mas) (k : Nat) (hp : prlRM1 m k = true) : ∀ ex s', (outRM1 m k).val = some (ex, s') → LoopOK enRM (loopN Tryz.f33 0) (stRM1 m k) ex s' := by
  simp only [prlRM1, Bool.and_eq_true, decide_eq_true_eq] at hp
  refine loop_code (xs := m.sounds.zipIdx) (st := stRM1 m) (g := fun p : Snd × Nat => F.sndF p.1 (m.sounds.take p.2)) (o := fun c => (.ret, ⟨[(2, vI c)], []⟩)) (n := ([3, 1], [1])) (e := ([1], [1])) (r := ([2], [])) ?_ ⟨by simp, rfl⟩ (fun _ => ⟨by simp, rfl⟩) (fun _ => rfl) ?_ k (by simp; exact hp.2)
  · rw [evRM1L]; simp [eMas]
  · intro k y hy
    obtain ⟨ha, hk⟩ := F.zipIdx_at hy
    have hlt := lt_at ha
    rw [evRM1L]
    simp only [unRS, unRT, unRTw, preRS1, preRT1, unstRM1, unstRM2, unstRM10, unstRM20, prlRM1, prlRM2, outRM1, outRM2, etaEnt, etaLst, etaSnd, etaStrm, etaMas, Option.bind_some, List.length_map, unStrs, unInts, unBools, unEnts, unItms, unTrns, cond_true, cond_false, Bool.and_true, Bool.true_and, unSnds, unStrms, cast_lt hlt, decide_eq_true hlt, next_at hlt hp.1, getD_at ha, stRM1, hk, eMas]
    by_cases h : F.sndF y.1 (m.sounds.take k) = 0
    · rw [h]; rfl
    · have hb : (F.sndF y.1 (m.sounds.take k) != 0) = true := by simp [h]
      simp only [hb, cond_true, h, if_false]

theorem evRM2L (m : Mas) (k : Nat) : ((exec enRM (loopN Tryz.f33 1) (stRM2 m k)).bind (lessX ([5, 1], [1]) ([], []) ([2], []))).val =
  bif decide ((↑k : Int) < (↑(List.length (List.map eStrm m.streams)) : Int)) then Option.bind (unenc encRT [AV.agg [AV.sl (List.map eStrm m.streams), AV.sl (List.map eSnd
  m.sounds)], (vI (↑k : Int))]) fun (z : Mas × Nat) => bif decide (z.snd < List.length z.fst.streams) then bif F.strmF (List.getD z.fst.streams z.snd (Strm.mk (ByteArray.mk
  (Array.mk [])) (ByteArray.mk (Array.mk [])) (0 : Int) (0 : Int) (0 : Int) (0 : Int) (ByteArray.mk (Array.mk [])))) (List.take z.snd z.fst.streams) z.fst.sounds != (0 :
  Int) then some (Ex.ret, St.mk [(2, (vI (F.strmF (List.getD z.fst.streams z.snd (Strm.mk (ByteArray.mk (Array.mk [])) (ByteArray.mk (Array.mk [])) (0 : Int) (0 : Int) (0 :
  Int) (0 : Int) (ByteArray.mk (Array.mk [])))) (List.take z.snd z.fst.streams) z.fst.sounds)))] []) else some (Ex.normal, St.mk [(5, (vI (IntKind.wrap IntKind.i64 ((↑k :
  Int) + (1 : Int))))), (1, .ptr 1 0 0)] [(1, Blk.mk true 0 0 [[AV.sl (List.map eStrm m.streams), AV.sl (List.map eSnd m.sounds)]])]) else none else some (Ex.exit (2 : Nat),
  St.mk [] []) := by kernel_rfl

theorem lpRM2_ok (m : Mas) (k : Nat) (hp : prlRM2 m k = true) : ∀ ex s', (outRM2 m k).val = some (ex, s') → LoopOK enRM (loopN Tryz.f33 1) (stRM2 m k) ex s' := by
  simp only [prlRM2, Bool.and_eq_true, decide_eq_true_eq] at hp
  refine loop_code (xs := m.streams.zipIdx) (st := stRM2 m) (g := fun p : Strm × Nat => F.strmF p.1 (m.streams.take p.2) m.sounds) (o := fun c => (.ret, ⟨[(2, vI c)], []⟩)) (n := ([5, 1], [1])) (e := ([], [])) (r := ([2], [])) ?_ ⟨by simp, rfl⟩ (fun _ => ⟨by simp, rfl⟩) (fun _ => rfl) ?_ k (by simp; exact hp.2)
  · rw [evRM2L]; simp
  · intro k y hy
    obtain ⟨ha, hk⟩ := F.zipIdx_at hy
    have hlt := lt_at ha
    rw [evRM2L]
    simp only [unRS, unRT, unRTw, preRS1, preRT1, unstRM1, unstRM2, unstRM10, unstRM20, prlRM1, prlRM2, outRM1, outRM2, etaEnt, etaLst, etaSnd, etaStrm, etaMas, Option.bind_some, List.length_map, unStrs, unInts, unBools, unEnts, unItms, unTrns, cond_true, cond_false, Bool.and_true, Bool.true_and, unSnds, unStrms, cast_lt hlt, decide_eq_true hlt, next_at hlt hp.1, getD_at ha, stRM2, hk, eMas]
    by_cases h : F.strmF y.1 (m.streams.take k) m.sounds = 0
    · rw [h]; rfl
    · have hb : (F.strmF y.1 (m.streams.take k) m.sounds != 0) = true := by simp [h]
      simp only [hb, cond_true, h, if_false]

theorem evRM (m : Mas) : (runF enRM false Tryz.f33 [.agg (eMas m)]).val =
  bif bif decide ((50 : Int) < (↑(List.length (List.map eStrm m.streams)) : Int)) then true else decide ((50 : Int) < (↑(List.length (List.map eSnd m.sounds)) : Int)) then
  some ((vI (2 : Int)), []) else Option.bind (unenc stRM11 (St.mk [(3, (vI (0 : Int))), (1, .ptr 1 0 0)] [(1, Blk.mk true 0 0 [[AV.sl (List.map eStrm m.streams), AV.sl
  (List.map eSnd m.sounds)]])])) fun (z : Mas × Nat) => bif decide (List.length z.fst.sounds ≤ (9223372036854775807 : Nat)) && decide (z.snd ≤ List.length z.fst.sounds) &&
  true then bif decide (ffI (fun (p : Snd × Nat) => F.sndF p.fst (List.take p.snd z.fst.sounds)) (List.drop z.snd (List.zipIdx z.fst.sounds)) = (0 : Int)) then Option.bind
  (unenc stRM21 (St.mk [(5, (vI (0 : Int))), (1, .ptr 1 0 0)] [(1, Blk.mk true 0 0 [[AV.sl (List.map eStrm z.fst.streams), AV.sl (List.map eSnd z.fst.sounds)]])])) fun (z :
  Mas × Nat) => bif decide (List.length z.fst.streams ≤ (9223372036854775807 : Nat)) && decide (z.snd ≤ List.length z.fst.streams) && true then bif decide (ffI (fun (p :
  Strm × Nat) => F.strmF p.fst (List.take p.snd z.fst.streams) z.fst.sounds) (List.drop z.snd (List.zipIdx z.fst.streams)) = (0 : Int)) then some ((vI (0 : Int)), []) else
  some ((vI (ffI (fun (p : Strm × Nat) => F.strmF p.fst (List.take p.snd z.fst.streams) z.fst.sounds) (List.drop z.snd (List.zipIdx z.fst.streams)))), []) else none else
  some ((vI (ffI (fun (p : Snd × Nat) => F.sndF p.fst (List.take p.snd z.fst.sounds)) (List.drop z.snd (List.zipIdx z.fst.sounds)))), []) else none := by kernel_rfl

def encRM1 (m : Mas) : List AV := [.agg (eMas m)]

def encRM (a : Mas) : List AV := encRM1 a

theorem encRM_inj (a a' : Mas) (h : encRM a = encRM a') : a = a' := by
  simp only [encRM, encRM1] at h
  try simp [strs_inj, ents_inj, eEnt_iff, eLst_iff, eSnds_inj, eSnd_iff, eStrms_inj, eStrm_iff, eMas_iff] at h
  grind

theorem unRM (m : Mas) : unenc encRM ([AV.agg [AV.sl (List.map eStrm m.streams), AV.sl (List.map eSnd m.sounds)]]) = some (m) := unenc_of encRM_inj (m) rfl

theorem unRMw (m_streams : List Strm) (m_sounds : List Snd) : unenc encRM ([AV.agg [AV.sl (List.map eStrm m_streams), AV.sl (List.map eSnd m_sounds)]]) = some ((Mas.mk m_streams m_sounds)) := unenc_of encRM_inj ((Mas.mk m_streams m_sounds)) rfl

def resRM1 (m : Mas) : AV × Heap := (vI (F.chkM m), [])

def preRM1 (m : Mas) : Bool := true

noncomputable def oRM : Orc := orc 33 true encRM (fun a => preRM1 a) fun a => resRM1 a

theorem okRM : OrcOK Tryz.prog noG oRM := by
  refine mk_ok Tryz.f33 (keep := false) (by kernel_rfl) (by kernel_rfl) enRM_ok mixed (two_loops (x0 := loopN Tryz.f33 0) (x1 := loopN Tryz.f33 1) (by kernel_rfl) (lpo_ok ?_) (lpo_ok ?_)) (by first | exact fun _ _ => ⟨rfl, rfl⟩ | (intro h; cases h)) ?_
  · rintro ⟨m, k⟩ hp
    exact lpRM1_ok m k hp
  · rintro ⟨m, k⟩ hp
    exact lpRM2_ok m k hp
  rintro m hpre hok
  show (runF enRM false _ (encRM1 _)).val = some (resRM1 _)
  unfold encRM1 resRM1
  rw [evRM]
  obtain ⟨h1, h2⟩ := mas_len (hok _ (List.mem_cons_self ..))
  simp only [unRS, unRT, unRTw, preRS1, preRT1, unstRM1, unstRM2, unstRM10, unstRM20, prlRM1, prlRM2, outRM1, outRM2, etaEnt, etaLst, etaSnd, etaStrm, etaMas, Option.bind_some, List.length_map, unStrs, unInts, unBools, unEnts, unItms, unTrns, cond_true, cond_false, Bool.and_true, Bool.true_and, unSnds, unStrms, h1, h2, List.drop_zero, Nat.zero_le, decide_true, F.chkM, F.sndsF, F.strmsF, cast_gt]
  cases decide (50 < m.streams.length)
  · cases decide (50 < m.sounds.length)
    · generalize M.ffI _ m.sounds.zipIdx = a
      generalize M.ffI _ m.streams.zipIdx = b
      by_cases ha : a = 0
      · simp only [ha, decide_true, cond_true, cond_false, bne_self_eq_false, Bool.or_self]
        by_cases hb : b = 0
        · simp only [hb, decide_true, cond_true]
        · simp only [hb, decide_false, cond_false]
      · have hb : (a != 0) = true := by simp [ha]
        simp only [ha, hb, decide_false, cond_true, cond_false, Bool.or_self]
    · rfl
  · rfl

end M
end Go.Proofs.YtipngpndgniagaaGreatDoor
