/- What is proved here: what tick.Convert, key.Needed and functions of slices of numbers return on plain data (no statement of the seat). -/
import Derived.Test.YtlemjphdhapfpaaDoorD73
namespace Go.Proofs.YtlemjphdhapfpaaDoor
open Go Go.RowKit
set_option linter.unusedVariables false
set_option linter.unusedSimpArgs false

def F.findI (p : Int → Bool) : Nat → List Int → Option Nat
  | _, [] => none
  | k, y :: l => bif p y then some k else F.findI p (k + 1) l

def F.hasI (v : Int) (l : List Int) : Bool := l.any fun y => v == y

theorem F.idxI_has (v : Int) : ∀ (l : List Int) (k : Nat), decide ((0 : Int) ≤ F.idxI (F.findI (fun y => v == y) k l)) = F.hasI v l
  | [], k => rfl
  | y :: l, k => by
    have ih := F.idxI_has v l (k + 1)
    unfold F.hasI at ih ⊢
    rw [F.findI, List.any_cons]
    cases v == y
    · exact ih
    · simp [F.idxI, F.found, F.got]

def F.noTime (n : Int) : Bool := F.out n (-1000000000000000) 1000000000000000

/-- A time in other ticks. -/
def F.conv (n : Int) (by_ : Int) (to : Int) (way : Int) : Int × Int :=
  bif F.noTime n || F.noScale by_ || F.noScale to then (0, 1) else bif F.out way 1 3 then (0, 4) else
  bif F.noTime (F.scl n to by_ way) then (0, 1) else (F.scl n to by_ way, 0)

def F.minF (a : Int) (l : List Int) : Int := l.foldl (fun a b => min a b) a

def F.maxF (a : Int) (l : List Int) : Int := l.foldl (fun a b => max a b) a

def F.minL (l : List Int) : Int := F.minF (l.headD 0) l.tail

def F.maxL (l : List Int) : Int := F.maxF (l.headD 0) l.tail

/-- Numbers from one to another. -/
def F.rng (i last : Int) : List Int := (List.range (last - i + 1).toNat).map fun (j : Nat) => i + (j : Int)

theorem F.rng_nil {i last : Int} (h : last < i) : F.rng i last = [] := by
  unfold F.rng
  rw [show (last - i + 1).toNat = 0 by omega]; rfl

theorem F.rng_cons {i last : Int} (h : i ≤ last) : F.rng i last = i :: F.rng (i + 1) last := by
  unfold F.rng
  rw [show (last - i + 1).toNat = (last - (i + 1) + 1).toNat + 1 by omega, List.range_succ_eq_map, List.map_cons, List.map_map]
  congr 1
  · omega
  · refine List.map_congr_left fun j _ => ?_
    simp only [Function.comp_apply]
    omega

theorem F.rng_mem {i last p : Int} (h1 : i ≤ p) (h2 : p ≤ last) : p ∈ F.rng i last := by
  unfold F.rng
  exact List.mem_map.2 ⟨(p - i).toNat, List.mem_range.2 (by omega), by omega⟩

def F.ndA (r : Rot) (sp : Span) : Int := max 0 (sp.fr - r.begin) / r.every

def F.ndB (r : Rot) (sp : Span) : Int := (sp.to + r.lead - 1 - r.begin) / r.every

def F.needed (r : Rot) (sp : Span) : List Int × Int :=
  bif F.chkR r != 0 then ([], F.chkR r) else bif F.out sp.fr 0 1000000000000000 || F.out sp.to 0 1000000000000000 then ([], 1) else
  bif F.le sp.to sp.fr then ([], 8) else bif F.le (sp.to + r.lead) r.begin then ([], 0) else
  bif F.le 1000 (F.ndB r sp - F.ndA r sp) || F.lt 1000000000 (F.ndB r sp) then ([], 2) else (F.rng (F.ndA r sp) (F.ndB r sp), 0)

theorem F.chkR_ok {r : Rot} (h : F.chkR r = 0) : (0 ≤ r.begin ∧ r.begin ≤ 1000000000000000) ∧ (1 ≤ r.every ∧ r.every ≤ 1000000000000000) ∧ (0 ≤ r.lead ∧ r.lead ≤ 1000000000000000) := by
  unfold F.chkR at h
  cases hc : F.out r.begin 0 1000000000000000 || F.out r.every 1 1000000000000000 || F.out r.lead 0 1000000000000000 with
  | true => rw [hc] at h; simp at h
  | false => simp [F.out] at hc; omega

namespace M

def stIx (l : List Int) (v : Int) (k : Nat) : St := ⟨[(8, vI k), (7, vI l.length), (1, vI v), (0, .sl (l.map eI))], []⟩

def stIx1 (a : (List Int) × Int × Nat) : St := stIx a.1 a.2.1 a.2.2

theorem stIx_inj (a a' : (List Int) × Int × Nat) (h : stIx1 a = stIx1 a') : a = a' := by
  simp only [stIx1, stIx] at h
  try simp [strs_inj, ints_inj, bools_inj, u8s_inj, eEnts_inj, eEnt_iff, eLsts_inj, eLst_iff, eSegs_inj, eSeg_iff, eRots_inj, eRot_iff, eBeats_inj, eBeat_iff, eSpans_inj, eSpan_iff, eHoles_inj, eHole_iff] at h
  grind

theorem unstIx (l : List Int) (v : Int) (k : Nat) : unenc stIx1 (St.mk [(8, (vI (↑k : Int))), (7, (vI (↑(List.length l) : Int))), (1, (vI v)), (0, AV.sl (List.map eI l))] []) = some (l, v, k) := unenc_of stIx_inj (l, v, k) rfl

theorem unstIx0 (l : List Int) (v : Int)  : unenc stIx1 (St.mk [(8, (vI (0 : Int))), (7, (vI (↑(List.length l) : Int))), (1, (vI v)), (0, AV.sl (List.map eI l))] []) = some (l, v, 0) := unenc_of stIx_inj (l, v, 0) rfl

def outIx (l : List Int) (v : Int) (k : Nat) : T (Ex × St) := .ifB (F.found (F.findI (fun y => v == y) k (l.drop k))) (.ret (.ret, ⟨[(4, vI ((F.got (F.findI (fun y => v == y) k (l.drop k)) 0 : Nat) : Int))], []⟩)) (.ret (.exit 0, ⟨[], []⟩))

noncomputable def prlIx (l : List Int) (v : Int) (k : Nat) : Bool := decide (l.length ≤ 9223372036854775807) && decide (k ≤ l.length)

noncomputable def lpIx : Nat × (St → T (Ex × St)) := (2, lpo [8, 7, 1, 0] [] stIx1 (fun a => prlIx a.1 a.2.1 a.2.2) fun a => outIx a.1 a.2.1 a.2.2)

noncomputable def enIx : Env := envH ty noG lks [] [] [] [lpIx]

theorem enIx_ok : EnvOK Tryd.prog enIx := by
  refine envH_ok lks_ok ty_ok ?_ ?_
  · simp
  · simp

theorem evIxL (l : List Int) (v : Int) (k : Nat) : ((exec enIx (loopN Tryd.f29 0) (stIx l v k)).bind (lessX ([8, 7, 1, 0], []) ([], []) ([4], []))).val =
  bif decide ((↑k : Int) < (↑(List.length l) : Int)) then Option.bind (unenc (List.map eI) (List.map eI l)) fun (z : List Int) => bif decide (k < List.length z) then bif v
  == List.getD z k (0 : Int) then some (Ex.ret, St.mk [(4, (vI (↑k : Int)))] []) else some (Ex.normal, St.mk [(8, (vI (IntKind.wrap IntKind.i64 ((↑k : Int) + (1 : Int))))),
  (7, (vI (↑(List.length l) : Int))), (1, (vI v)), (0, AV.sl (List.map eI l))] []) else none else some (Ex.exit (0 : Nat), St.mk [] []) := (execR_bind _ _ _).symm.trans (by kernel_rfl)

theorem lpIx_ok (l : List Int) (v : Int) (k : Nat) (hp : prlIx l v k = true) : ∀ ex s', (outIx l v k).val = some (ex, s') → LoopOK enIx (loopN Tryd.f29 0) (stIx l v k) ex s' := by
  simp only [prlIx, Bool.and_eq_true, decide_eq_true_eq] at hp
  refine loop_gen (st := stIx l v) (out := outIx l v) (I := fun k => k ≤ l.length) (n := ([8, 7, 1, 0], [])) (e := ([], [])) (r := ([4], [])) (fun k => l.length - k) ?_ k hp.2
  intro k hk
  by_cases hlt : k < l.length
  · have hy : l[k]? = some l[k] := List.getElem?_eq_getElem hlt
    generalize l[k] = y at hy
    have hd := drop_at hy
    cases hc : (v == y)
    · right
      refine ⟨k + 1, ?_, rfl, hlt, by omega, ?_⟩
      · rw [evIxL]
        simp only [unstIx, unstIx0, prlIx, outIx, etaEnt, etaLst, etaSeg, etaRot, etaBeat, etaSpan, etaHole, Option.bind_some, List.length_map, unStrs, unInts, unBools, unU8s, unEnts, unLsts, unSegs, unRots, unBeats, unSpans, unHoles, F.lt, F.le, cond_true, cond_false, Bool.and_true, Bool.true_and, cast_lt hlt, decide_eq_true hlt, next_at hlt hp.1, getD_at hy, hc, stIx]
        try rfl
      · simp only [outIx, hd, F.findI, hc, cond_false]
    · left
      refine ⟨(.ret, ⟨[(4, vI k)], []⟩), ?_, ?_, by simp, rfl⟩
      · rw [evIxL]
        simp only [unstIx, unstIx0, prlIx, outIx, etaEnt, etaLst, etaSeg, etaRot, etaBeat, etaSpan, etaHole, Option.bind_some, List.length_map, unStrs, unInts, unBools, unU8s, unEnts, unLsts, unSegs, unRots, unBeats, unSpans, unHoles, F.lt, F.le, cond_true, cond_false, Bool.and_true, Bool.true_and, cast_lt hlt, decide_eq_true hlt, next_at hlt hp.1, getD_at hy, hc, stIx]
      · simp only [outIx, hd, F.findI, hc, cond_true, F.found, F.got]
        rfl
  · have : k = l.length := by omega
    subst this
    left
    refine ⟨(.exit 0, ⟨[], []⟩), ?_, ?_, by simp, rfl⟩
    · rw [evIxL]; simp
    · simp [outIx, F.findI, F.found, T.val]

theorem evIx (l : List Int) (v : Int) : (runF enIx false Tryd.f29 [.sl (l.map eI), vI v]).val =
  Option.bind (unenc stIx1 (St.mk [(8, (vI (0 : Int))), (7, (vI (↑(List.length (List.map eI l)) : Int))), (1, (vI v)), (0, AV.sl (List.map eI l))] [])) fun (z : List Int ×
  Int × Nat) => bif decide (List.length z.fst ≤ (9223372036854775807 : Nat)) && decide (z.snd.snd ≤ List.length z.fst) && true then bif F.found (F.findI (fun (y : Int) =>
  z.snd.fst == y) z.snd.snd (List.drop z.snd.snd z.fst)) then some ((vI (↑(F.got (F.findI (fun (y : Int) => z.snd.fst == y) z.snd.snd (List.drop z.snd.snd z.fst)) (0 : Nat))
  : Int)), []) else some ((vI (-1 : Int)), []) else none := (runFR_val).symm.trans (by kernel_rfl)

def encIx1 (l : List Int) (v : Int) : List AV := [.sl (l.map eI), vI v]

def encIx (a : (List Int) × Int) : List AV := encIx1 a.1 a.2

theorem encIx_inj (a a' : (List Int) × Int) (h : encIx a = encIx a') : a = a' := by
  simp only [encIx, encIx1] at h
  try simp [strs_inj, ints_inj, bools_inj, u8s_inj, eEnts_inj, eEnt_iff, eLsts_inj, eLst_iff, eSegs_inj, eSeg_iff, eRots_inj, eRot_iff, eBeats_inj, eBeat_iff, eSpans_inj, eSpan_iff, eHoles_inj, eHole_iff] at h
  grind

theorem unIx (l : List Int) (v : Int) : unenc encIx ([AV.sl (List.map eI l), (vI v)]) = some (l, v) := unenc_of encIx_inj (l, v) rfl

def resIx1 (l : List Int) (v : Int) : AV × Heap := (vI (F.idxI (F.findI (fun y => v == y) 0 l)), [])

def preIx1 (l : List Int) (v : Int) : Bool := true

noncomputable def oIx : Orc := orc 29 true encIx (fun a => preIx1 a.1 a.2) fun a => resIx1 a.1 a.2

theorem okIx : OrcOK Tryd.prog noG oIx := by
  refine mk_ok Tryd.f29 (keep := false) (by kernel_rfl) (by kernel_rfl) enIx_ok mixed (one_loop (x0 := loopN Tryd.f29 0) (by kernel_rfl) (lpo_ok ?_)) (by first | exact fun _ _ => ⟨rfl, rfl⟩ | (intro h; cases h)) ?_
  · rintro ⟨l, v, k⟩ hp
    exact lpIx_ok l v k hp
  rintro ⟨l, v⟩ hpre hok
  show (runF enIx false _ (encIx1 _ _)).val = some (resIx1 _ _)
  unfold encIx1 resIx1
  rw [evIx]
  have hx : l.length ≤ 9223372036854775807 := by simpa using (okA_sl (hok _ (List.mem_cons_self ..))).1
  simp only [unstIx, unstIx0, prlIx, outIx, etaEnt, etaLst, etaSeg, etaRot, etaBeat, etaSpan, etaHole, Option.bind_some, List.length_map, unStrs, unInts, unBools, unU8s, unEnts, unLsts, unSegs, unRots, unBeats, unSpans, unHoles, F.lt, F.le, cond_true, cond_false, Bool.and_true, Bool.true_and, hx, List.drop_zero, Nat.zero_le, decide_true, F.idxI]
  cases F.found (F.findI (fun y => v == y) 0 l) <;> rfl

noncomputable def enHas : Env := envH ty noG lks [oIx] [] [] []

theorem enHas_ok : EnvOK Tryd.prog enHas := by
  refine envH_ok lks_ok ty_ok ?_ ?_
  · simp only [List.forall_mem_cons]
    exact ⟨okIx, by simp⟩
  · simp

theorem evHas (l : List Int) (v : Int) : (runF enHas false Tryd.f11 [.sl (l.map eI), vI v]).val =
  Option.bind (unenc encIx [AV.sl (List.map eI l), (vI v)]) fun (z : List Int × Int) => some ((vB (decide ((0 : Int) ≤ F.idxI (F.findI (fun (y : Int) => z.snd == y) (0 :
  Nat) z.fst)))), []) := (runFR_val).symm.trans (by kernel_rfl)

def encHas1 (l : List Int) (v : Int) : List AV := [.sl (l.map eI), vI v]

def encHas (a : (List Int) × Int) : List AV := encHas1 a.1 a.2

theorem encHas_inj (a a' : (List Int) × Int) (h : encHas a = encHas a') : a = a' := by
  simp only [encHas, encHas1] at h
  try simp [strs_inj, ints_inj, bools_inj, u8s_inj, eEnts_inj, eEnt_iff, eLsts_inj, eLst_iff, eSegs_inj, eSeg_iff, eRots_inj, eRot_iff, eBeats_inj, eBeat_iff, eSpans_inj, eSpan_iff, eHoles_inj, eHole_iff] at h
  grind

theorem unHas (l : List Int) (v : Int) : unenc encHas ([AV.sl (List.map eI l), (vI v)]) = some (l, v) := unenc_of encHas_inj (l, v) rfl

def resHas1 (l : List Int) (v : Int) : AV × Heap := (vB (F.hasI v l), [])

def preHas1 (l : List Int) (v : Int) : Bool := true

noncomputable def oHas : Orc := orc 11 true encHas (fun a => preHas1 a.1 a.2) fun a => resHas1 a.1 a.2

theorem okHas : OrcOK Tryd.prog noG oHas := by
  refine mk_ok Tryd.f11 (keep := false) (by kernel_rfl) (by kernel_rfl) enHas_ok mixed (no_loops (by kernel_rfl)) (by first | exact fun _ _ => ⟨rfl, rfl⟩ | (intro h; cases h)) ?_
  rintro ⟨l, v⟩ hpre hok
  show (runF enHas false _ (encHas1 _ _)).val = some (resHas1 _ _)
  unfold encHas1 resHas1
  rw [evHas]
  simp only [unIx, preIx1, etaEnt, etaLst, etaSeg, etaRot, etaBeat, etaSpan, etaHole, Option.bind_some, List.length_map, unStrs, unInts, unBools, unU8s, unEnts, unLsts, unSegs, unRots, unBeats, unSpans, unHoles, F.lt, F.le, cond_true, cond_false, Bool.and_true, Bool.true_and, F.idxI_has, F.hasI]

def stMn (l : List Int) (a : Int) (k : Nat) : St := ⟨[(4, vI k), (3, vI a), (0, .sl (l.map eI))], []⟩

def stMn1 (a : (List Int) × Int × Nat) : St := stMn a.1 a.2.1 a.2.2

theorem stMn_inj (a a' : (List Int) × Int × Nat) (h : stMn1 a = stMn1 a') : a = a' := by
  simp only [stMn1, stMn] at h
  try simp [strs_inj, ints_inj, bools_inj, u8s_inj, eEnts_inj, eEnt_iff, eLsts_inj, eLst_iff, eSegs_inj, eSeg_iff, eRots_inj, eRot_iff, eBeats_inj, eBeat_iff, eSpans_inj, eSpan_iff, eHoles_inj, eHole_iff] at h
  grind

theorem unstMn (l : List Int) (a : Int) (k : Nat) : unenc stMn1 (St.mk [(4, (vI (↑k : Int))), (3, (vI a)), (0, AV.sl (List.map eI l))] []) = some (l, a, k) := unenc_of stMn_inj (l, a, k) rfl

theorem unstMn0 (l : List Int) (a : Int)  : unenc stMn1 (St.mk [(4, (vI (1 : Int))), (3, (vI a)), (0, AV.sl (List.map eI l))] []) = some (l, a, 1) := unenc_of stMn_inj (l, a, 1) rfl

def outMn (l : List Int) (a : Int) (k : Nat) : T (Ex × St) := .ret (.exit 0, ⟨[(3, vI (F.minF a (l.drop k)))], []⟩)

noncomputable def prlMn (l : List Int) (a : Int) (k : Nat) : Bool := decide (l.length ≤ 1000) && decide (k ≤ l.length)

noncomputable def lpMn : Nat × (St → T (Ex × St)) := (5, lpo [4, 3, 0] [] stMn1 (fun a => prlMn a.1 a.2.1 a.2.2) fun a => outMn a.1 a.2.1 a.2.2)

noncomputable def enMn : Env := envH ty noG lks [] [] [] [lpMn]

theorem enMn_ok : EnvOK Tryd.prog enMn := by
  refine envH_ok lks_ok ty_ok ?_ ?_
  · simp
  · simp

theorem evMnL (l : List Int) (a : Int) (k : Nat) : ((exec enMn (loopN Tryd.f9 0) (stMn l a k)).bind (lessX ([4, 3, 0], []) ([3], []) ([], []))).val =
  bif decide ((↑k : Int) < (↑(List.length (List.map eI l)) : Int)) then Option.bind (unenc (List.map eI) (List.map eI l)) fun (z : List Int) => bif decide (k < List.length
  z) then some (Ex.normal, St.mk [(4, (vI (IntKind.wrap IntKind.i64 ((↑k : Int) + (1 : Int))))), (3, (vI (min a (List.getD z k (0 : Int))))), (0, AV.sl (List.map eI l))] [])
  else none else some (Ex.exit (0 : Nat), St.mk [(3, (vI a))] []) := (execR_bind _ _ _).symm.trans (by kernel_rfl)

theorem lpMn_ok (l : List Int) (a : Int) (k : Nat) (hp : prlMn l a k = true) : ∀ ex s', (outMn l a k).val = some (ex, s') → LoopOK enMn (loopN Tryd.f9 0) (stMn l a k) ex s' := by
  simp only [prlMn, Bool.and_eq_true, decide_eq_true_eq] at hp
  refine loop_fold (xs := l) (st := stMn l) (f := fun a b => min a b) (fin := fun a => (.exit 0, ⟨[(3, vI a)], []⟩)) (I := fun _ _ => True) (n := ([4, 3, 0], [])) (e := ([3], [])) (r := ([], [])) ?_ (fun _ => ⟨by simp, rfl⟩) (fun _ _ => rfl) ?_ a k hp.2 trivial
  · intro a _
    rw [evMnL]; simp
  · intro a k y hy _
    have hlt := lt_at hy
    have h1 := hp.1
    rw [evMnL]
    simp only [unstMn, unstMn0, prlMn, outMn, etaEnt, etaLst, etaSeg, etaRot, etaBeat, etaSpan, etaHole, Option.bind_some, List.length_map, unStrs, unInts, unBools, unU8s, unEnts, unLsts, unSegs, unRots, unBeats, unSpans, unHoles, F.lt, F.le, cond_true, cond_false, Bool.and_true, Bool.true_and, cast_lt hlt, decide_eq_true hlt, next_at hlt (by omega : l.length ≤ 9223372036854775807), getD_at hy, stMn]
    simp

theorem evMn (l : List Int) : (runF enMn false Tryd.f9 [.sl (l.map eI)]).val =
  bif decide ((↑(List.length (List.map eI l)) : Int) < (1 : Int)) then none else Option.bind (unenc (List.map eI) (List.map eI l)) fun (z : List Int) => bif decide ((0 :
  Nat) < List.length z) then Option.bind (unenc stMn1 (St.mk [(4, (vI (1 : Int))), (3, (vI (List.getD z (0 : Nat) (0 : Int)))), (0, AV.sl (List.map eI l))] [])) fun (z :
  List Int × Int × Nat) => bif decide (List.length z.fst ≤ (1000 : Nat)) && decide (z.snd.snd ≤ List.length z.fst) && true then some ((vI (F.minF z.snd.fst (List.drop
  z.snd.snd z.fst))), []) else none else none := (runFR_val).symm.trans (by kernel_rfl)

def encMn1 (l : List Int) : List AV := [.sl (l.map eI)]

def encMn (a : (List Int)) : List AV := encMn1 a

theorem encMn_inj (a a' : (List Int)) (h : encMn a = encMn a') : a = a' := by
  simp only [encMn, encMn1] at h
  try simp [strs_inj, ints_inj, bools_inj, u8s_inj, eEnts_inj, eEnt_iff, eLsts_inj, eLst_iff, eSegs_inj, eSeg_iff, eRots_inj, eRot_iff, eBeats_inj, eBeat_iff, eSpans_inj, eSpan_iff, eHoles_inj, eHole_iff] at h
  grind

theorem unMn (l : List Int) : unenc encMn ([AV.sl (List.map eI l)]) = some (l) := unenc_of encMn_inj (l) rfl

def resMn1 (l : List Int) : AV × Heap := (vI (F.minL l), [])

def preMn1 (l : List Int) : Bool := decide (l.length ≤ 1000) && decide (1 ≤ l.length)

noncomputable def oMn : Orc := orc 9 true encMn (fun a => preMn1 a) fun a => resMn1 a

theorem okMn : OrcOK Tryd.prog noG oMn := by
  refine mk_ok Tryd.f9 (keep := false) (by kernel_rfl) (by kernel_rfl) enMn_ok mixed (one_loop (x0 := loopN Tryd.f9 0) (by kernel_rfl) (lpo_ok ?_)) (by first | exact fun _ _ => ⟨rfl, rfl⟩ | (intro h; cases h)) ?_
  · rintro ⟨l, a, k⟩ hp
    exact lpMn_ok l a k hp
  rintro l hpre hok
  show (runF enMn false _ (encMn1 _)).val = some (resMn1 _)
  unfold encMn1 resMn1
  rw [evMn]
  simp only [preMn1, Bool.and_eq_true, decide_eq_true_eq] at hpre
  obtain ⟨h1, h2⟩ := hpre
  cases l with
  | nil => simp at h2
  | cons x l =>
    have h3 : ¬ (((x :: l).length : Int) < 1) := by simp; omega
    have h4 : 0 < (x :: l).length := by simp
    simp only [unstMn, unstMn0, prlMn, outMn, etaEnt, etaLst, etaSeg, etaRot, etaBeat, etaSpan, etaHole, Option.bind_some, List.length_map, unStrs, unInts, unBools, unU8s, unEnts, unLsts, unSegs, unRots, unBeats, unSpans, unHoles, F.lt, F.le, cond_true, cond_false, Bool.and_true, Bool.true_and, F.minL, decide_eq_false h3, decide_eq_true h1, decide_eq_true h2, decide_eq_true h4]
    rfl

def stMx (l : List Int) (a : Int) (k : Nat) : St := ⟨[(4, vI k), (3, vI a), (0, .sl (l.map eI))], []⟩

def stMx1 (a : (List Int) × Int × Nat) : St := stMx a.1 a.2.1 a.2.2

theorem stMx_inj (a a' : (List Int) × Int × Nat) (h : stMx1 a = stMx1 a') : a = a' := by
  simp only [stMx1, stMx] at h
  try simp [strs_inj, ints_inj, bools_inj, u8s_inj, eEnts_inj, eEnt_iff, eLsts_inj, eLst_iff, eSegs_inj, eSeg_iff, eRots_inj, eRot_iff, eBeats_inj, eBeat_iff, eSpans_inj, eSpan_iff, eHoles_inj, eHole_iff] at h
  grind

theorem unstMx (l : List Int) (a : Int) (k : Nat) : unenc stMx1 (St.mk [(4, (vI (↑k : Int))), (3, (vI a)), (0, AV.sl (List.map eI l))] []) = some (l, a, k) := unenc_of stMx_inj (l, a, k) rfl

theorem unstMx0 (l : List Int) (a : Int)  : unenc stMx1 (St.mk [(4, (vI (1 : Int))), (3, (vI a)), (0, AV.sl (List.map eI l))] []) = some (l, a, 1) := unenc_of stMx_inj (l, a, 1) rfl

def outMx (l : List Int) (a : Int) (k : Nat) : T (Ex × St) := .ret (.exit 0, ⟨[(3, vI (F.maxF a (l.drop k)))], []⟩)

noncomputable def prlMx (l : List Int) (a : Int) (k : Nat) : Bool := decide (l.length ≤ 1000) && decide (k ≤ l.length)

noncomputable def lpMx : Nat × (St → T (Ex × St)) := (5, lpo [4, 3, 0] [] stMx1 (fun a => prlMx a.1 a.2.1 a.2.2) fun a => outMx a.1 a.2.1 a.2.2)

noncomputable def enMx : Env := envH ty noG lks [] [] [] [lpMx]

theorem enMx_ok : EnvOK Tryd.prog enMx := by
  refine envH_ok lks_ok ty_ok ?_ ?_
  · simp
  · simp

theorem evMxL (l : List Int) (a : Int) (k : Nat) : ((exec enMx (loopN Tryd.f10 0) (stMx l a k)).bind (lessX ([4, 3, 0], []) ([3], []) ([], []))).val =
  bif decide ((↑k : Int) < (↑(List.length (List.map eI l)) : Int)) then Option.bind (unenc (List.map eI) (List.map eI l)) fun (z : List Int) => bif decide (k < List.length
  z) then some (Ex.normal, St.mk [(4, (vI (IntKind.wrap IntKind.i64 ((↑k : Int) + (1 : Int))))), (3, (vI (max a (List.getD z k (0 : Int))))), (0, AV.sl (List.map eI l))] [])
  else none else some (Ex.exit (0 : Nat), St.mk [(3, (vI a))] []) := (execR_bind _ _ _).symm.trans (by kernel_rfl)

theorem lpMx_ok (l : List Int) (a : Int) (k : Nat) (hp : prlMx l a k = true) : ∀ ex s', (outMx l a k).val = some (ex, s') → LoopOK enMx (loopN Tryd.f10 0) (stMx l a k) ex s' := by
  simp only [prlMx, Bool.and_eq_true, decide_eq_true_eq] at hp
  refine loop_fold (xs := l) (st := stMx l) (f := fun a b => max a b) (fin := fun a => (.exit 0, ⟨[(3, vI a)], []⟩)) (I := fun _ _ => True) (n := ([4, 3, 0], [])) (e := ([3], [])) (r := ([], [])) ?_ (fun _ => ⟨by simp, rfl⟩) (fun _ _ => rfl) ?_ a k hp.2 trivial
  · intro a _
    rw [evMxL]; simp
  · intro a k y hy _
    have hlt := lt_at hy
    have h1 := hp.1
    rw [evMxL]
    simp only [unstMx, unstMx0, prlMx, outMx, etaEnt, etaLst, etaSeg, etaRot, etaBeat, etaSpan, etaHole, Option.bind_some, List.length_map, unStrs, unInts, unBools, unU8s, unEnts, unLsts, unSegs, unRots, unBeats, unSpans, unHoles, F.lt, F.le, cond_true, cond_false, Bool.and_true, Bool.true_and, cast_lt hlt, decide_eq_true hlt, next_at hlt (by omega : l.length ≤ 9223372036854775807), getD_at hy, stMx]
    simp

theorem evMx (l : List Int) : (runF enMx false Tryd.f10 [.sl (l.map eI)]).val =
  bif decide ((↑(List.length (List.map eI l)) : Int) < (1 : Int)) then none else Option.bind (unenc (List.map eI) (List.map eI l)) fun (z : List Int) => bif decide ((0 :
  Nat) < List.length z) then Option.bind (unenc stMx1 (St.mk [(4, (vI (1 : Int))), (3, (vI (List.getD z (0 : Nat) (0 : Int)))), (0, AV.sl (List.map eI l))] [])) fun (z :
  List Int × Int × Nat) => bif decide (List.length z.fst ≤ (1000 : Nat)) && decide (z.snd.snd ≤ List.length z.fst) && true then some ((vI (F.maxF z.snd.fst (List.drop
  z.snd.snd z.fst))), []) else none else none := (runFR_val).symm.trans (by kernel_rfl)

def encMx1 (l : List Int) : List AV := [.sl (l.map eI)]

def encMx (a : (List Int)) : List AV := encMx1 a

theorem encMx_inj (a a' : (List Int)) (h : encMx a = encMx a') : a = a' := by
  simp only [encMx, encMx1] at h
  try simp [strs_inj, ints_inj, bools_inj, u8s_inj, eEnts_inj, eEnt_iff, eLsts_inj, eLst_iff, eSegs_inj, eSeg_iff, eRots_inj, eRot_iff, eBeats_inj, eBeat_iff, eSpans_inj, eSpan_iff, eHoles_inj, eHole_iff] at h
  grind

theorem unMx (l : List Int) : unenc encMx ([AV.sl (List.map eI l)]) = some (l) := unenc_of encMx_inj (l) rfl

def resMx1 (l : List Int) : AV × Heap := (vI (F.maxL l), [])

def preMx1 (l : List Int) : Bool := decide (l.length ≤ 1000) && decide (1 ≤ l.length)

noncomputable def oMx : Orc := orc 10 true encMx (fun a => preMx1 a) fun a => resMx1 a

theorem okMx : OrcOK Tryd.prog noG oMx := by
  refine mk_ok Tryd.f10 (keep := false) (by kernel_rfl) (by kernel_rfl) enMx_ok mixed (one_loop (x0 := loopN Tryd.f10 0) (by kernel_rfl) (lpo_ok ?_)) (by first | exact fun _ _ => ⟨rfl, rfl⟩ | (intro h; cases h)) ?_
  · rintro ⟨l, a, k⟩ hp
    exact lpMx_ok l a k hp
  rintro l hpre hok
  show (runF enMx false _ (encMx1 _)).val = some (resMx1 _)
  unfold encMx1 resMx1
  rw [evMx]
  simp only [preMx1, Bool.and_eq_true, decide_eq_true_eq] at hpre
  obtain ⟨h1, h2⟩ := hpre
  cases l with
  | nil => simp at h2
  | cons x l =>
    have h3 : ¬ (((x :: l).length : Int) < 1) := by simp; omega
    have h4 : 0 < (x :: l).length := by simp
    simp only [unstMx, unstMx0, prlMx, outMx, etaEnt, etaLst, etaSeg, etaRot, etaBeat, etaSpan, etaHole, Option.bind_some, List.length_map, unStrs, unInts, unBools, unU8s, unEnts, unLsts, unSegs, unRots, unBeats, unSpans, unHoles, F.lt, F.le, cond_true, cond_false, Bool.and_true, Bool.true_and, F.maxL, decide_eq_false h3, decide_eq_true h1, decide_eq_true h2, decide_eq_true h4]
    rfl

noncomputable def enNoT : Env := envH ty noG lks [oOut] [] [] []

theorem enNoT_ok : EnvOK Tryd.prog enNoT := by
  refine envH_ok lks_ok ty_ok ?_ ?_
  · simp only [List.forall_mem_cons]
    exact ⟨okOut, by simp⟩
  · simp

theorem evNoT (n : Int) : (runF enNoT false Tryd.f25 [vI n]).val =
  Option.bind (unenc encOut [(vI n), (vI (-1000000000000000 : Int)), (vI (1000000000000000 : Int))]) fun (z : Int × Int × Int) => some ((vB (F.out z.fst z.snd.fst
  z.snd.snd)), []) := (runFR_val).symm.trans (by kernel_rfl)

def encNoT1 (n : Int) : List AV := [vI n]

def encNoT (a : Int) : List AV := encNoT1 a

theorem encNoT_inj (a a' : Int) (h : encNoT a = encNoT a') : a = a' := by
  simp only [encNoT, encNoT1] at h
  try simp [strs_inj, ints_inj, bools_inj, u8s_inj, eEnts_inj, eEnt_iff, eLsts_inj, eLst_iff, eSegs_inj, eSeg_iff, eRots_inj, eRot_iff, eBeats_inj, eBeat_iff, eSpans_inj, eSpan_iff, eHoles_inj, eHole_iff] at h
  grind

theorem unNoT (n : Int) : unenc encNoT ([(vI n)]) = some (n) := unenc_of encNoT_inj (n) rfl

def resNoT1 (n : Int) : AV × Heap := (vB (F.noTime n), [])

def preNoT1 (n : Int) : Bool := true

noncomputable def oNoT : Orc := orc 25 true encNoT (fun a => preNoT1 a) fun a => resNoT1 a

theorem okNoT : OrcOK Tryd.prog noG oNoT := by
  refine mk_ok Tryd.f25 (keep := false) (by kernel_rfl) (by kernel_rfl) enNoT_ok mixed (no_loops (by kernel_rfl)) (by first | exact fun _ _ => ⟨rfl, rfl⟩ | (intro h; cases h)) ?_
  rintro n hpre hok
  show (runF enNoT false _ (encNoT1 _)).val = some (resNoT1 _)
  unfold encNoT1 resNoT1
  rw [evNoT]
  simp only [unOut, preOut1, etaEnt, etaLst, etaSeg, etaRot, etaBeat, etaSpan, etaHole, Option.bind_some, List.length_map, unStrs, unInts, unBools, unU8s, unEnts, unLsts, unSegs, unRots, unBeats, unSpans, unHoles, F.lt, F.le, cond_true, cond_false, Bool.and_true, Bool.true_and, F.noTime]
  done

theorem evNoW (n : Int) : (runF enNoT false Tryd.f26 [vI n]).val =
  Option.bind (unenc encOut [(vI n), (vI (1 : Int)), (vI (3 : Int))]) fun (z : Int × Int × Int) => some ((vB (F.out z.fst z.snd.fst z.snd.snd)), []) := (runFR_val).symm.trans (by kernel_rfl)

def encNoW1 (n : Int) : List AV := [vI n]

def encNoW (a : Int) : List AV := encNoW1 a

theorem encNoW_inj (a a' : Int) (h : encNoW a = encNoW a') : a = a' := by
  simp only [encNoW, encNoW1] at h
  try simp [strs_inj, ints_inj, bools_inj, u8s_inj, eEnts_inj, eEnt_iff, eLsts_inj, eLst_iff, eSegs_inj, eSeg_iff, eRots_inj, eRot_iff, eBeats_inj, eBeat_iff, eSpans_inj, eSpan_iff, eHoles_inj, eHole_iff] at h
  grind

theorem unNoW (n : Int) : unenc encNoW ([(vI n)]) = some (n) := unenc_of encNoW_inj (n) rfl

def resNoW1 (n : Int) : AV × Heap := (vB (F.out n 1 3), [])

def preNoW1 (n : Int) : Bool := true

noncomputable def oNoW : Orc := orc 26 true encNoW (fun a => preNoW1 a) fun a => resNoW1 a

theorem okNoW : OrcOK Tryd.prog noG oNoW := by
  refine mk_ok Tryd.f26 (keep := false) (by kernel_rfl) (by kernel_rfl) enNoT_ok mixed (no_loops (by kernel_rfl)) (by first | exact fun _ _ => ⟨rfl, rfl⟩ | (intro h; cases h)) ?_
  rintro n hpre hok
  show (runF enNoT false _ (encNoW1 _)).val = some (resNoW1 _)
  unfold encNoW1 resNoW1
  rw [evNoW]
  simp only [unOut, preOut1, etaEnt, etaLst, etaSeg, etaRot, etaBeat, etaSpan, etaHole, Option.bind_some, List.length_map, unStrs, unInts, unBools, unU8s, unEnts, unLsts, unSegs, unRots, unBeats, unSpans, unHoles, F.lt, F.le, cond_true, cond_false, Bool.and_true, Bool.true_and, F.noTime]
  done

noncomputable def enCnv : Env := envH ty noG lks [oNoT, oNoS, oNoW, oScl] [] [] []

theorem enCnv_ok : EnvOK Tryd.prog enCnv := by
  refine envH_ok lks_ok ty_ok ?_ ?_
  · simp only [List.forall_mem_cons]
    exact ⟨okNoT, okNoS, okNoW, okScl, by simp⟩
  · simp

theorem evCnv (n : Int) (by_ : Int) (to : Int) (way : Int) : (runF enCnv false Tryd.f7 [vI n, vI by_, vI to, vI way]).val =
  Option.bind (unenc encNoT [(vI n)]) fun (z : Int) => bif !F.noTime z then Option.bind (unenc encNoS [(vI by_)]) fun (z : Int) => bif !F.noScale z then Option.bind (unenc
  encNoS [(vI to)]) fun (z : Int) => bif F.noScale z then some (AV.tup [(vI (0 : Int)), (vI (1 : Int))], []) else Option.bind (unenc encNoW [(vI way)]) fun (z : Int) => bif
  F.out z (1 : Int) (3 : Int) then some (AV.tup [(vI (0 : Int)), (vI (4 : Int))], []) else Option.bind (unenc encScl [(vI n), (vI to), (vI by_), (vI way)]) fun (z : Int ×
  Int × Int × Int) => bif F.i64B z.fst && decide ((0 : Int) ≤ z.snd.fst) && decide (z.snd.fst ≤ (1000000 : Int)) && decide ((1 : Int) ≤ z.snd.snd.fst) && decide
  (z.snd.snd.fst ≤ (9223372036854775807 : Int)) && decide (Int.natAbs z.fst * Int.natAbs z.snd.fst < (9223372036854775808 : Nat)) then Option.bind (unenc encNoT [(vI (F.scl
  z.fst z.snd.fst z.snd.snd.fst z.snd.snd.snd))]) fun (z_1 : Int) => bif F.noTime z_1 then some (AV.tup [(vI (0 : Int)), (vI (1 : Int))], []) else some (AV.tup [(vI (F.scl
  z.fst z.snd.fst z.snd.snd.fst z.snd.snd.snd)), (vI (0 : Int))], []) else none else some (AV.tup [(vI (0 : Int)), (vI (1 : Int))], []) else some (AV.tup [(vI (0 : Int)),
  (vI (1 : Int))], []) := (runFR_val).symm.trans (by kernel_rfl)

def encCnv1 (n : Int) (by_ : Int) (to : Int) (way : Int) : List AV := [vI n, vI by_, vI to, vI way]

def encCnv (a : Int × Int × Int × Int) : List AV := encCnv1 a.1 a.2.1 a.2.2.1 a.2.2.2

theorem encCnv_inj (a a' : Int × Int × Int × Int) (h : encCnv a = encCnv a') : a = a' := by
  simp only [encCnv, encCnv1] at h
  try simp [strs_inj, ints_inj, bools_inj, u8s_inj, eEnts_inj, eEnt_iff, eLsts_inj, eLst_iff, eSegs_inj, eSeg_iff, eRots_inj, eRot_iff, eBeats_inj, eBeat_iff, eSpans_inj, eSpan_iff, eHoles_inj, eHole_iff] at h
  grind

theorem unCnv (n : Int) (by_ : Int) (to : Int) (way : Int) : unenc encCnv ([(vI n), (vI by_), (vI to), (vI way)]) = some (n, by_, to, way) := unenc_of encCnv_inj (n, by_, to, way) rfl

def resCnv1 (n : Int) (by_ : Int) (to : Int) (way : Int) : AV × Heap := (.tup [vI (F.conv n by_ to way).1, vI (F.conv n by_ to way).2], [])

def preCnv1 (n : Int) (by_ : Int) (to : Int) (way : Int) : Bool := F.le to 1000

noncomputable def oCnv : Orc := orc 7 true encCnv (fun a => preCnv1 a.1 a.2.1 a.2.2.1 a.2.2.2) fun a => resCnv1 a.1 a.2.1 a.2.2.1 a.2.2.2

theorem okCnv : OrcOK Tryd.prog noG oCnv := by
  refine mk_ok Tryd.f7 (keep := false) (by kernel_rfl) (by kernel_rfl) enCnv_ok mixed (no_loops (by kernel_rfl)) (by first | exact fun _ _ => ⟨rfl, rfl⟩ | (intro h; cases h)) ?_
  rintro ⟨n, by_, to, way⟩ hpre hok
  show (runF enCnv false _ (encCnv1 _ _ _ _)).val = some (resCnv1 _ _ _ _)
  unfold encCnv1 resCnv1
  rw [evCnv]
  simp only [preCnv1, F.le, decide_eq_true_eq] at hpre
  simp only [unNoT, unNoS, unNoW, unScl, preNoT1, preNoS1, preNoW1, preScl1, etaEnt, etaLst, etaSeg, etaRot, etaBeat, etaSpan, etaHole, Option.bind_some, List.length_map, unStrs, unInts, unBools, unU8s, unEnts, unLsts, unSegs, unRots, unBeats, unSpans, unHoles, F.lt, F.le, cond_true, cond_false, Bool.and_true, Bool.true_and, F.conv]
  cases h1 : F.noTime n
  · cases h2 : F.noScale by_
    · cases h3 : F.noScale to
      · simp only [F.noTime, F.noScale, F.out, Bool.or_eq_false_iff, decide_eq_false_iff_not] at h1 h2 h3
        have a1 : F.i64B n = true := by simp only [F.i64B, Bool.and_eq_true, decide_eq_true_eq]; omega
        have a2 : n.natAbs * to.natAbs < 9223372036854775808 := by
          have : n.natAbs * to.natAbs ≤ 1000000000000000 * 1000 := Nat.mul_le_mul (by omega) (by omega)
          omega
        have a3 : (1 : Int) ≤ by_ := by omega
        have a4 : by_ ≤ (9223372036854775807 : Int) := by omega
        have a5 : (0 : Int) ≤ to := by omega
        have a6 : to ≤ (1000000 : Int) := by omega
        cases F.out way 1 3
        · simp only [a1, decide_eq_true a2, decide_eq_true a3, decide_eq_true a4, decide_eq_true a5, decide_eq_true a6, Bool.and_self, Bool.or_false, cond_true, cond_false]
          cases F.noTime (F.scl n to by_ way) <;> rfl
        · rfl
      · rfl
    · rfl
  · rfl

noncomputable def enAlv : Env := envH ty noG lks [oCnv] [] [] []

theorem enAlv_ok : EnvOK Tryd.prog enAlv := by
  refine envH_ok lks_ok ty_ok ?_ ?_
  · simp only [List.forall_mem_cons]
    exact ⟨okCnv, by simp⟩
  · simp

theorem conv_al : F.conv 1 3 2 3 = (1, 0) := by kernel_rfl

theorem evAlv  : (runF enAlv false Tryd.f6 []).val =
  Option.bind (unenc encCnv [(vI (1 : Int)), (vI (3 : Int)), (vI (2 : Int)), (vI (3 : Int))]) fun (z : Int × Int × Int × Int) => bif F.le z.snd.snd.fst (1000 : Int) then
  some ((vB (bif (F.conv z.fst z.snd.fst z.snd.snd.fst z.snd.snd.snd).snd == (0 : Int) then (F.conv z.fst z.snd.fst z.snd.snd.fst z.snd.snd.snd).fst == (1 : Int) else
  false)), []) else none := (runFR_val).symm.trans (by kernel_rfl)

def encAlv1  : List AV := []

def encAlv (a : Unit) : List AV := encAlv1

theorem encAlv_inj (a a' : Unit) (h : encAlv a = encAlv a') : a = a' := rfl

theorem unAlv  : unenc encAlv ([]) = some () := unenc_of encAlv_inj () rfl

def resAlv1  : AV × Heap := (vB true, [])

def preAlv1  : Bool := true

noncomputable def oAlv : Orc := orc 6 true encAlv (fun a => preAlv1) fun a => resAlv1

theorem okAlv : OrcOK Tryd.prog noG oAlv := by
  refine mk_ok Tryd.f6 (keep := false) (by kernel_rfl) (by kernel_rfl) enAlv_ok mixed (no_loops (by kernel_rfl)) (by first | exact fun _ _ => ⟨rfl, rfl⟩ | (intro h; cases h)) ?_
  rintro ⟨⟩ hpre hok
  show (runF enAlv false _ (encAlv1 )).val = some (resAlv1 )
  unfold encAlv1 resAlv1
  rw [evAlv]
  have e : F.le 2 1000 = true := rfl
  simp only [unCnv, preCnv1, etaEnt, etaLst, etaSeg, etaRot, etaBeat, etaSpan, etaHole, Option.bind_some, List.length_map, unStrs, unInts, unBools, unU8s, unEnts, unLsts, unSegs, unRots, unBeats, unSpans, unHoles, F.lt, F.le, cond_true, cond_false, Bool.and_true, Bool.true_and, conv_al, e]
  try rfl

end M
end Go.Proofs.YtlemjphdhapfpaaDoor
