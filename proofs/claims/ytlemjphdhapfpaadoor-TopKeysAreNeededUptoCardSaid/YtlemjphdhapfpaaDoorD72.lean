/- What is proved here: strings among strings, and the loops of the law DeskKeysAreNeeded (no statement of the seat). -/
import Derived.Test.YtlemjphdhapfpaaDoorD71
namespace Go.Proofs.YtlemjphdhapfpaaDoor
open Go Go.RowKit
set_option linter.unusedVariables false
set_option linter.unusedSimpArgs false

/-- The first place of a string. -/
def F.findS (v : ByteArray) : Nat → List ByteArray → Option Nat
  | _, [] => none
  | k, y :: l => bif F.seq v y then some k else F.findS v (k + 1) l

def F.idxI (o : Option Nat) : Int := bif F.found o then ((F.got o 0 : Nat) : Int) else -1

theorem F.idx_has (v : ByteArray) : ∀ (l : List ByteArray) (k : Nat), decide ((0 : Int) ≤ F.idxI (F.findS v k l)) = F.hasS v l
  | [], k => rfl
  | y :: l, k => by
    have ih := F.idx_has v l (k + 1)
    unfold F.hasS at ih ⊢
    rw [F.findS, List.any_cons]
    cases F.seq v y
    · exact ih
    · simp [F.idxI, F.found, F.got]

/-- Entries are alike but for their keys, which start with k. -/
def F.eqvE (es fs : List Ent) : Bool := decide (fs.length = es.length) && (fs.zip es).all fun p => F.hasPrefix p.1.key ⟨⟨[107]⟩⟩ && F.sameE { p.1 with key := p.2.key } p.2

def F.incr (ps : List Int) : Bool := (ps.zip ps.tail).all fun p => F.lt p.1 p.2

theorem F.incr_at {ps : List Int} (h : F.incr ps = true) {j : Nat} {a b : Int} (ha : ps[j]? = some a) (hb : ps[j + 1]? = some b) : a < b := by
  have hz : (ps.zip ps.tail)[j]? = some (a, b) := by
    rw [List.getElem?_zip_eq_some]
    exact ⟨ha, by rw [List.getElem?_tail]; exact hb⟩
  have := List.all_eq_true.1 h _ (List.mem_of_getElem? hz)
  exact of_decide_eq_true this

theorem F.incr_pw {ps : List Int} (h : ps.Pairwise (· < ·)) : F.incr ps = true := by
  refine List.all_eq_true.2 fun p hp => ?_
  obtain ⟨i, hi⟩ := List.getElem?_of_mem hp
  have h1 := List.getElem?_zip_eq_some.1 hi
  have ha := List.getElem?_eq_some_iff.1 h1.1
  have hb := h1.2
  rw [List.getElem?_tail] at hb
  have hb := List.getElem?_eq_some_iff.1 hb
  obtain ⟨a1, a2⟩ := ha
  obtain ⟨b1, b2⟩ := hb
  have := List.pairwise_iff_getElem.1 h i (i + 1) a1 b1 (by omega)
  rw [a2, b2] at this
  exact decide_eq_true this

namespace M

def stIxs (l : List ByteArray) (v : ByteArray) (k : Nat) : St := ⟨[(8, vI k), (7, vI l.length), (1, vS v), (0, .sl (l.map eStr))], []⟩

def stIxs1 (a : (List ByteArray) × ByteArray × Nat) : St := stIxs a.1 a.2.1 a.2.2

theorem stIxs_inj (a a' : (List ByteArray) × ByteArray × Nat) (h : stIxs1 a = stIxs1 a') : a = a' := by
  simp only [stIxs1, stIxs] at h
  try simp [strs_inj, ints_inj, bools_inj, u8s_inj, eEnts_inj, eEnt_iff, eLsts_inj, eLst_iff, eSegs_inj, eSeg_iff, eRots_inj, eRot_iff, eBeats_inj, eBeat_iff, eSpans_inj, eSpan_iff, eHoles_inj, eHole_iff] at h
  grind

theorem unstIxs (l : List ByteArray) (v : ByteArray) (k : Nat) : unenc stIxs1 (St.mk [(8, (vI (↑k : Int))), (7, (vI (↑(List.length l) : Int))), (1, (vS v)), (0, AV.sl (List.map eStr l))] []) = some (l, v, k) := unenc_of stIxs_inj (l, v, k) rfl

theorem unstIxs0 (l : List ByteArray) (v : ByteArray)  : unenc stIxs1 (St.mk [(8, (vI (0 : Int))), (7, (vI (↑(List.length l) : Int))), (1, (vS v)), (0, AV.sl (List.map eStr l))] []) = some (l, v, 0) := unenc_of stIxs_inj (l, v, 0) rfl

def outIxs (l : List ByteArray) (v : ByteArray) (k : Nat) : T (Ex × St) := .ifB (F.found (F.findS v k (l.drop k))) (.ret (.ret, ⟨[(4, vI ((F.got (F.findS v k (l.drop k)) 0 : Nat) : Int))], []⟩)) (.ret (.exit 0, ⟨[], []⟩))

noncomputable def prlIxs (l : List ByteArray) (v : ByteArray) (k : Nat) : Bool := decide (l.length ≤ 9223372036854775807) && decide (k ≤ l.length)

noncomputable def lpIxs : Nat × (St → T (Ex × St)) := (2, lpo [8, 7, 1, 0] [] stIxs1 (fun a => prlIxs a.1 a.2.1 a.2.2) fun a => outIxs a.1 a.2.1 a.2.2)

noncomputable def enIxs : Env := envH ty noG lks [] [] [] [lpIxs]

theorem enIxs_ok : EnvOK Tryd.prog enIxs := by
  refine envH_ok lks_ok ty_ok ?_ ?_
  · simp
  · simp

theorem evIxsL (l : List ByteArray) (v : ByteArray) (k : Nat) : ((exec enIxs (loopN Tryd.f33 0) (stIxs l v k)).bind (lessX ([8, 7, 1, 0], []) ([], []) ([4], []))).val =
  bif decide ((↑k : Int) < (↑(List.length l) : Int)) then Option.bind (unenc (List.map eStr) (List.map eStr l)) fun (z : List ByteArray) => bif decide (k < List.length z)
  then bif ByteArray.toList v == ByteArray.toList (List.getD z k (ByteArray.mk (Array.mk []))) then some (Ex.ret, St.mk [(4, (vI (↑k : Int)))] []) else some (Ex.normal,
  St.mk [(8, (vI (IntKind.wrap IntKind.i64 ((↑k : Int) + (1 : Int))))), (7, (vI (↑(List.length l) : Int))), (1, (vS v)), (0, AV.sl (List.map eStr l))] []) else none else
  some (Ex.exit (0 : Nat), St.mk [] []) := (execR_bind _ _ _).symm.trans (by kernel_rfl)

theorem lpIxs_ok (l : List ByteArray) (v : ByteArray) (k : Nat) (hp : prlIxs l v k = true) : ∀ ex s', (outIxs l v k).val = some (ex, s') → LoopOK enIxs (loopN Tryd.f33 0) (stIxs l v k) ex s' := by
  simp only [prlIxs, Bool.and_eq_true, decide_eq_true_eq] at hp
  refine loop_gen (st := stIxs l v) (out := outIxs l v) (I := fun k => k ≤ l.length) (n := ([8, 7, 1, 0], [])) (e := ([], [])) (r := ([4], [])) (fun k => l.length - k) ?_ k hp.2
  intro k hk
  by_cases hlt : k < l.length
  · have hy : l[k]? = some l[k] := List.getElem?_eq_getElem hlt
    generalize l[k] = y at hy
    have hd := drop_at hy
    cases hc : F.seq v y
    · have hc2 : (v.toList == y.toList) = false := hc
      right
      refine ⟨k + 1, ?_, rfl, hlt, by omega, ?_⟩
      · rw [evIxsL]
        simp only [unstIxs, unstIxs0, prlIxs, outIxs, etaEnt, etaLst, etaSeg, etaRot, etaBeat, etaSpan, etaHole, Option.bind_some, List.length_map, unStrs, unInts, unBools, unU8s, unEnts, unLsts, unSegs, unRots, unBeats, unSpans, unHoles, F.lt, F.le, cond_true, cond_false, Bool.and_true, Bool.true_and, cast_lt hlt, decide_eq_true hlt, next_at hlt hp.1, getD_at hy, hc2, stIxs]
        try rfl
      · simp only [outIxs, hd, F.findS, hc, cond_false]
    · have hc2 : (v.toList == y.toList) = true := hc
      left
      refine ⟨(.ret, ⟨[(4, vI k)], []⟩), ?_, ?_, by simp, rfl⟩
      · rw [evIxsL]
        simp only [unstIxs, unstIxs0, prlIxs, outIxs, etaEnt, etaLst, etaSeg, etaRot, etaBeat, etaSpan, etaHole, Option.bind_some, List.length_map, unStrs, unInts, unBools, unU8s, unEnts, unLsts, unSegs, unRots, unBeats, unSpans, unHoles, F.lt, F.le, cond_true, cond_false, Bool.and_true, Bool.true_and, cast_lt hlt, decide_eq_true hlt, next_at hlt hp.1, getD_at hy, hc2, stIxs]
      · simp only [outIxs, hd, F.findS, hc, cond_true, F.found, F.got]
        rfl
  · have : k = l.length := by omega
    subst this
    left
    refine ⟨(.exit 0, ⟨[], []⟩), ?_, ?_, by simp, rfl⟩
    · rw [evIxsL]; simp
    · simp [outIxs, F.findS, F.found, T.val]

theorem evIxs (l : List ByteArray) (v : ByteArray) : (runF enIxs false Tryd.f33 [.sl (l.map eStr), vS v]).val =
  Option.bind (unenc stIxs1 (St.mk [(8, (vI (0 : Int))), (7, (vI (↑(List.length (List.map eStr l)) : Int))), (1, (vS v)), (0, AV.sl (List.map eStr l))] [])) fun (z : List
  ByteArray × ByteArray × Nat) => bif decide (List.length z.fst ≤ (9223372036854775807 : Nat)) && decide (z.snd.snd ≤ List.length z.fst) && true then bif F.found (F.findS
  z.snd.fst z.snd.snd (List.drop z.snd.snd z.fst)) then some ((vI (↑(F.got (F.findS z.snd.fst z.snd.snd (List.drop z.snd.snd z.fst)) (0 : Nat)) : Int)), []) else some ((vI
  (-1 : Int)), []) else none := (runFR_val).symm.trans (by kernel_rfl)

def encIxs1 (l : List ByteArray) (v : ByteArray) : List AV := [.sl (l.map eStr), vS v]

def encIxs (a : (List ByteArray) × ByteArray) : List AV := encIxs1 a.1 a.2

theorem encIxs_inj (a a' : (List ByteArray) × ByteArray) (h : encIxs a = encIxs a') : a = a' := by
  simp only [encIxs, encIxs1] at h
  try simp [strs_inj, ints_inj, bools_inj, u8s_inj, eEnts_inj, eEnt_iff, eLsts_inj, eLst_iff, eSegs_inj, eSeg_iff, eRots_inj, eRot_iff, eBeats_inj, eBeat_iff, eSpans_inj, eSpan_iff, eHoles_inj, eHole_iff] at h
  grind

theorem unIxs (l : List ByteArray) (v : ByteArray) : unenc encIxs ([AV.sl (List.map eStr l), (vS v)]) = some (l, v) := unenc_of encIxs_inj (l, v) rfl

def resIxs1 (l : List ByteArray) (v : ByteArray) : AV × Heap := (vI (F.idxI (F.findS v 0 l)), [])

def preIxs1 (l : List ByteArray) (v : ByteArray) : Bool := true

noncomputable def oIxs : Orc := orc 33 true encIxs (fun a => preIxs1 a.1 a.2) fun a => resIxs1 a.1 a.2

theorem okIxs : OrcOK Tryd.prog noG oIxs := by
  refine mk_ok Tryd.f33 (keep := false) (by kernel_rfl) (by kernel_rfl) enIxs_ok mixed (one_loop (x0 := loopN Tryd.f33 0) (by kernel_rfl) (lpo_ok ?_)) (by first | exact fun _ _ => ⟨rfl, rfl⟩ | (intro h; cases h)) ?_
  · rintro ⟨l, v, k⟩ hp
    exact lpIxs_ok l v k hp
  rintro ⟨l, v⟩ hpre hok
  show (runF enIxs false _ (encIxs1 _ _)).val = some (resIxs1 _ _)
  unfold encIxs1 resIxs1
  rw [evIxs]
  have hx : l.length ≤ 9223372036854775807 := by simpa using (okA_sl (hok _ (List.mem_cons_self ..))).1
  simp only [unstIxs, unstIxs0, prlIxs, outIxs, etaEnt, etaLst, etaSeg, etaRot, etaBeat, etaSpan, etaHole, Option.bind_some, List.length_map, unStrs, unInts, unBools, unU8s, unEnts, unLsts, unSegs, unRots, unBeats, unSpans, unHoles, F.lt, F.le, cond_true, cond_false, Bool.and_true, Bool.true_and, hx, List.drop_zero, Nat.zero_le, decide_true, F.idxI]
  cases F.found (F.findS v 0 l) <;> rfl

noncomputable def enHss : Env := envH ty noG lks [oIxs] [] [] []

theorem enHss_ok : EnvOK Tryd.prog enHss := by
  refine envH_ok lks_ok ty_ok ?_ ?_
  · simp only [List.forall_mem_cons]
    exact ⟨okIxs, by simp⟩
  · simp

theorem evHss (l : List ByteArray) (v : ByteArray) : (runF enHss false Tryd.f14 [.sl (l.map eStr), vS v]).val =
  Option.bind (unenc encIxs [AV.sl (List.map eStr l), (vS v)]) fun (z : List ByteArray × ByteArray) => some ((vB (decide ((0 : Int) ≤ F.idxI (F.findS z.snd (0 : Nat)
  z.fst)))), []) := (runFR_val).symm.trans (by kernel_rfl)

def encHss1 (l : List ByteArray) (v : ByteArray) : List AV := [.sl (l.map eStr), vS v]

def encHss (a : (List ByteArray) × ByteArray) : List AV := encHss1 a.1 a.2

theorem encHss_inj (a a' : (List ByteArray) × ByteArray) (h : encHss a = encHss a') : a = a' := by
  simp only [encHss, encHss1] at h
  try simp [strs_inj, ints_inj, bools_inj, u8s_inj, eEnts_inj, eEnt_iff, eLsts_inj, eLst_iff, eSegs_inj, eSeg_iff, eRots_inj, eRot_iff, eBeats_inj, eBeat_iff, eSpans_inj, eSpan_iff, eHoles_inj, eHole_iff] at h
  grind

theorem unHss (l : List ByteArray) (v : ByteArray) : unenc encHss ([AV.sl (List.map eStr l), (vS v)]) = some (l, v) := unenc_of encHss_inj (l, v) rfl

def resHss1 (l : List ByteArray) (v : ByteArray) : AV × Heap := (vB (F.hasS v l), [])

def preHss1 (l : List ByteArray) (v : ByteArray) : Bool := true

noncomputable def oHss : Orc := orc 14 true encHss (fun a => preHss1 a.1 a.2) fun a => resHss1 a.1 a.2

theorem okHss : OrcOK Tryd.prog noG oHss := by
  refine mk_ok Tryd.f14 (keep := false) (by kernel_rfl) (by kernel_rfl) enHss_ok mixed (no_loops (by kernel_rfl)) (by first | exact fun _ _ => ⟨rfl, rfl⟩ | (intro h; cases h)) ?_
  rintro ⟨l, v⟩ hpre hok
  show (runF enHss false _ (encHss1 _ _)).val = some (resHss1 _ _)
  unfold encHss1 resHss1
  rw [evHss]
  simp only [unIxs, preIxs1, etaEnt, etaLst, etaSeg, etaRot, etaBeat, etaSpan, etaHole, Option.bind_some, List.length_map, unStrs, unInts, unBools, unU8s, unEnts, unLsts, unSegs, unRots, unBeats, unSpans, unHoles, F.lt, F.le, cond_true, cond_false, Bool.and_true, Bool.true_and, F.idx_has]
  done

def stLw (l : Lst) (L2 : Lst) (ps : List Int) (seen : List ByteArray) (k : Nat) : St := ⟨[(13, vI k), (12, .own 12), (10, .sl (ps.map eI)), (9, .ptr 9 0 0), (4, .ptr 4 0 0)], [(12, ⟨false, 9, 1, seen.map eStr⟩), (9, ⟨true, 0, 0, [eLst L2]⟩), (4, ⟨true, 0, 0, [eLst l]⟩)]⟩

def stLw1 (a : Lst × Lst × (List Int) × (List ByteArray) × Nat) : St := stLw a.1 a.2.1 a.2.2.1 a.2.2.2.1 a.2.2.2.2

theorem stLw_inj (a a' : Lst × Lst × (List Int) × (List ByteArray) × Nat) (h : stLw1 a = stLw1 a') : a = a' := by
  simp only [stLw1, stLw] at h
  try simp [strs_inj, ints_inj, bools_inj, u8s_inj, eEnts_inj, eEnt_iff, eLsts_inj, eLst_iff, eSegs_inj, eSeg_iff, eRots_inj, eRot_iff, eBeats_inj, eBeat_iff, eSpans_inj, eSpan_iff, eHoles_inj, eHole_iff] at h
  grind

theorem unstLw (l : Lst) (L2 : Lst) (ps : List Int) (seen : List ByteArray) (k : Nat) : unenc stLw1 (St.mk [(13, (vI (↑k : Int))), (12, .own 12), (10, AV.sl (List.map eI ps)), (9, .ptr 9 0 0), (4, .ptr 4 0 0)] [(12, Blk.mk false 9 1 (List.map eStr seen)), (9, Blk.mk true
  0 0 [[(vI L2.target), (vI L2.first), (vI L2.breaks), AV.sl (List.map eEnt L2.entries), (vB L2.ended)]]), (4, Blk.mk true 0 0 [[(vI l.target), (vI l.first), (vI l.breaks),
  AV.sl (List.map eEnt l.entries), (vB l.ended)]])]) = some (l, L2, ps, seen, k) := unenc_of stLw_inj (l, L2, ps, seen, k) rfl

theorem unstLw0 (l : Lst) (L2 : Lst) (ps : List Int)  : unenc stLw1 (St.mk [(13, (vI (0 : Int))), (12, .own 12), (10, AV.sl (List.map eI ps)), (9, .ptr 9 0 0), (4, .ptr 4 0 0)] [(12, Blk.mk false 9 1 []), (9, Blk.mk true 0 0 [[(vI
  L2.target), (vI L2.first), (vI L2.breaks), AV.sl (List.map eEnt L2.entries), (vB L2.ended)]]), (4, Blk.mk true 0 0 [[(vI l.target), (vI l.first), (vI l.breaks), AV.sl
  (List.map eEnt l.entries), (vB l.ended)]])]) = some (l, L2, ps, [], 0) := unenc_of stLw_inj (l, L2, ps, [], 0) rfl

def outLw (l : Lst) (L2 : Lst) (ps : List Int) (seen : List ByteArray) (k : Nat) : T (Ex × St) := .ret (.exit 0, ⟨[(12, .own 12), (10, .sl (ps.map eI)), (9, .ptr 9 0 0), (4, .ptr 4 0 0)], [(12, ⟨false, 9, 1, (F.seenF seen (L2.entries.drop k)).map eStr⟩), (9, ⟨true, 0, 0, [eLst L2]⟩), (4, ⟨true, 0, 0, [eLst l]⟩)]⟩)

noncomputable def prlLw (l : Lst) (L2 : Lst) (ps : List Int) (seen : List ByteArray) (k : Nat) : Bool := decide (L2.entries.length ≤ 1000) && decide (k ≤ L2.entries.length) && decide (seen.length ≤ k) && F.eqvE l.entries L2.entries

noncomputable def lpLw : Nat × (St → T (Ex × St)) := (6, lpo [13, 12, 10, 9, 4] [12, 9, 4] stLw1 (fun a => prlLw a.1 a.2.1 a.2.2.1 a.2.2.2.1 a.2.2.2.2) fun a => outLw a.1 a.2.1 a.2.2.1 a.2.2.2.1 a.2.2.2.2)

def stLi (l : Lst) (L2 : Lst) (ps : List Int) (seen : List ByteArray) (k : Nat) : St := ⟨[(15, vI k), (12, .own 12), (10, .sl (ps.map eI)), (9, .ptr 9 0 0), (4, .ptr 4 0 0)], [(12, ⟨false, 9, 1, seen.map eStr⟩), (9, ⟨true, 0, 0, [eLst L2]⟩), (4, ⟨true, 0, 0, [eLst l]⟩)]⟩

def stLi1 (a : Lst × Lst × (List Int) × (List ByteArray) × Nat) : St := stLi a.1 a.2.1 a.2.2.1 a.2.2.2.1 a.2.2.2.2

theorem stLi_inj (a a' : Lst × Lst × (List Int) × (List ByteArray) × Nat) (h : stLi1 a = stLi1 a') : a = a' := by
  simp only [stLi1, stLi] at h
  try simp [strs_inj, ints_inj, bools_inj, u8s_inj, eEnts_inj, eEnt_iff, eLsts_inj, eLst_iff, eSegs_inj, eSeg_iff, eRots_inj, eRot_iff, eBeats_inj, eBeat_iff, eSpans_inj, eSpan_iff, eHoles_inj, eHole_iff] at h
  grind

theorem unstLi (l : Lst) (L2 : Lst) (ps : List Int) (seen : List ByteArray) (k : Nat) : unenc stLi1 (St.mk [(15, (vI (↑k : Int))), (12, .own 12), (10, AV.sl (List.map eI ps)), (9, .ptr 9 0 0), (4, .ptr 4 0 0)] [(12, Blk.mk false 9 1 (List.map eStr seen)), (9, Blk.mk true
  0 0 [[(vI L2.target), (vI L2.first), (vI L2.breaks), AV.sl (List.map eEnt L2.entries), (vB L2.ended)]]), (4, Blk.mk true 0 0 [[(vI l.target), (vI l.first), (vI l.breaks),
  AV.sl (List.map eEnt l.entries), (vB l.ended)]])]) = some (l, L2, ps, seen, k) := unenc_of stLi_inj (l, L2, ps, seen, k) rfl

theorem unstLi0 (l : Lst) (L2 : Lst) (ps : List Int) (seen : List ByteArray)  : unenc stLi1 (St.mk [(15, (vI (1 : Int))), (12, .own 12), (10, AV.sl (List.map eI ps)), (9, .ptr 9 0 0), (4, .ptr 4 0 0)] [(12, Blk.mk false 9 1 (List.map eStr seen)), (9, Blk.mk true 0
  0 [[(vI L2.target), (vI L2.first), (vI L2.breaks), AV.sl (List.map eEnt L2.entries), (vB L2.ended)]]), (4, Blk.mk true 0 0 [[(vI l.target), (vI l.first), (vI l.breaks),
  AV.sl (List.map eEnt l.entries), (vB l.ended)]])]) = some (l, L2, ps, seen, 1) := unenc_of stLi_inj (l, L2, ps, seen, 1) rfl

def outLi (l : Lst) (L2 : Lst) (ps : List Int) (seen : List ByteArray) (k : Nat) : T (Ex × St) := .ret (.exit 2, ⟨[(12, .own 12), (10, .sl (ps.map eI)), (9, .ptr 9 0 0), (4, .ptr 4 0 0)], [(12, ⟨false, 9, 1, seen.map eStr⟩), (9, ⟨true, 0, 0, [eLst L2]⟩), (4, ⟨true, 0, 0, [eLst l]⟩)]⟩)

noncomputable def prlLi (l : Lst) (L2 : Lst) (ps : List Int) (seen : List ByteArray) (k : Nat) : Bool := decide (ps.length ≤ 1000) && decide (1 ≤ k) && F.incr ps

noncomputable def lpLi : Nat × (St → T (Ex × St)) := (17, lpo [15, 12, 10, 9, 4] [12, 9, 4] stLi1 (fun a => prlLi a.1 a.2.1 a.2.2.1 a.2.2.2.1 a.2.2.2.2) fun a => outLi a.1 a.2.1 a.2.2.1 a.2.2.2.1 a.2.2.2.2)

noncomputable def enLaw : Env := envH ty noG lks [oKey, oWrk, oHasPre, oHss, oSmE] [] [] [lpLw, lpLi]

theorem enLaw_ok : EnvOK Tryd.prog enLaw := by
  refine envH_ok lks_ok ty_ok ?_ ?_
  · simp only [List.forall_mem_cons]
    exact ⟨okKey, okWrk, okHasPre, okHss, okSmE, by simp⟩
  · simp

theorem evLwL (l : Lst) (L2 : Lst) (ps : List Int) (seen : List ByteArray) (k : Nat) : ((exec enLaw (loopN Tryd.f4 0) (stLw l L2 ps seen k)).bind (lessX ([13, 12, 10, 9, 4], [12, 9, 4]) ([12, 10, 9, 4], [12, 9, 4]) ([], []))).val =
  bif decide ((↑k : Int) < (↑(List.length (List.map eEnt L2.entries)) : Int)) then Option.bind (unenc (List.map eEnt) (List.map eEnt L2.entries)) fun (z : List Ent) => bif
  decide (k < List.length z) then Option.bind (unenc encHasPre [(vS (List.getD z k (Ent.mk (ByteArray.mk (Array.mk [])) (0 : Int) false (0 : Int) (ByteArray.mk (Array.mk
  [])) false [])).key), (vS (ByteArray.mk (Array.mk [(107 : UInt8)])))]) fun (z_1 : ByteArray × ByteArray) => bif !F.hasPrefix z_1.fst z_1.snd then some (Ex.ret, St.mk []
  []) else Option.bind (unenc encHss [AV.sl (List.map eStr seen), (vS (List.getD z k (Ent.mk (ByteArray.mk (Array.mk [])) (0 : Int) false (0 : Int) (ByteArray.mk (Array.mk
  [])) false [])).key)]) fun (z_2 : List ByteArray × ByteArray) => bif !F.hasS z_2.snd z_2.fst then bif Nat.ble ((List.length (List.map eStr seen) + (1 : Nat)) * (16 : Nat))
  (140737488355328 : Nat) && true then Option.bind (unenc (List.map eEnt) (List.map eEnt l.entries)) fun (z_3 : List Ent) => bif decide (k < List.length z_3) then
  Option.bind (unenc (List.map eEnt) (List.map eEnt l.entries)) fun (z_4 : List Ent) => bif decide (k < List.length z_4) then Option.bind (unenc encSmE [AV.agg [(vS
  (List.getD z k (Ent.mk (ByteArray.mk (Array.mk [])) (0 : Int) false (0 : Int) (ByteArray.mk (Array.mk [])) false [])).uri), (vI (List.getD z k (Ent.mk (ByteArray.mk
  (Array.mk [])) (0 : Int) false (0 : Int) (ByteArray.mk (Array.mk [])) false [])).milli), (vB (List.getD z k (Ent.mk (ByteArray.mk (Array.mk [])) (0 : Int) false (0 : Int)
  (ByteArray.mk (Array.mk [])) false [])).brk), (vI (List.getD z k (Ent.mk (ByteArray.mk (Array.mk [])) (0 : Int) false (0 : Int) (ByteArray.mk (Array.mk [])) false
  [])).date), (vS (List.getD z_3 k (Ent.mk (ByteArray.mk (Array.mk [])) (0 : Int) false (0 : Int) (ByteArray.mk (Array.mk [])) false [])).key), (vB (List.getD z k (Ent.mk
  (ByteArray.mk (Array.mk [])) (0 : Int) false (0 : Int) (ByteArray.mk (Array.mk [])) false [])).gap), AV.sl (List.map eStr (List.getD z k (Ent.mk (ByteArray.mk (Array.mk
  [])) (0 : Int) false (0 : Int) (ByteArray.mk (Array.mk [])) false [])).extra)], AV.agg [(vS (List.getD z_4 k (Ent.mk (ByteArray.mk (Array.mk [])) (0 : Int) false (0 : Int)
  (ByteArray.mk (Array.mk [])) false [])).uri), (vI (List.getD z_4 k (Ent.mk (ByteArray.mk (Array.mk [])) (0 : Int) false (0 : Int) (ByteArray.mk (Array.mk [])) false
  [])).milli), (vB (List.getD z_4 k (Ent.mk (ByteArray.mk (Array.mk [])) (0 : Int) false (0 : Int) (ByteArray.mk (Array.mk [])) false [])).brk), (vI (List.getD z_4 k (Ent.mk
  (ByteArray.mk (Array.mk [])) (0 : Int) false (0 : Int) (ByteArray.mk (Array.mk [])) false [])).date), (vS (List.getD z_4 k (Ent.mk (ByteArray.mk (Array.mk [])) (0 : Int)
  false (0 : Int) (ByteArray.mk (Array.mk [])) false [])).key), (vB (List.getD z_4 k (Ent.mk (ByteArray.mk (Array.mk [])) (0 : Int) false (0 : Int) (ByteArray.mk (Array.mk
  [])) false [])).gap), AV.sl (List.map eStr (List.getD z_4 k (Ent.mk (ByteArray.mk (Array.mk [])) (0 : Int) false (0 : Int) (ByteArray.mk (Array.mk [])) false
  [])).extra)]]) fun (z_5 : Ent × Ent) => bif !F.sameE z_5.fst z_5.snd then some (Ex.ret, St.mk [] []) else some (Ex.normal, St.mk [(13, (vI (IntKind.wrap IntKind.i64 ((↑k :
  Int) + (1 : Int))))), (12, .own 12), (10, AV.sl (List.map eI ps)), (9, .ptr 9 0 0), (4, .ptr 4 0 0)] [(12, Blk.mk false 9 1 (List.map eStr seen ++ [[(vS (List.getD z k
  (Ent.mk (ByteArray.mk (Array.mk [])) (0 : Int) false (0 : Int) (ByteArray.mk (Array.mk [])) false [])).key)]])), (9, Blk.mk true 0 0 [[(vI L2.target), (vI L2.first), (vI
  L2.breaks), AV.sl (List.map eEnt L2.entries), (vB L2.ended)]]), (4, Blk.mk true 0 0 [[(vI l.target), (vI l.first), (vI l.breaks), AV.sl (List.map eEnt l.entries), (vB
  l.ended)]])]) else none else none else none else Option.bind (unenc (List.map eEnt) (List.map eEnt l.entries)) fun (z_3 : List Ent) => bif decide (k < List.length z_3)
  then Option.bind (unenc (List.map eEnt) (List.map eEnt l.entries)) fun (z_4 : List Ent) => bif decide (k < List.length z_4) then Option.bind (unenc encSmE [AV.agg [(vS
  (List.getD z k (Ent.mk (ByteArray.mk (Array.mk [])) (0 : Int) false (0 : Int) (ByteArray.mk (Array.mk [])) false [])).uri), (vI (List.getD z k (Ent.mk (ByteArray.mk
  (Array.mk [])) (0 : Int) false (0 : Int) (ByteArray.mk (Array.mk [])) false [])).milli), (vB (List.getD z k (Ent.mk (ByteArray.mk (Array.mk [])) (0 : Int) false (0 : Int)
  (ByteArray.mk (Array.mk [])) false [])).brk), (vI (List.getD z k (Ent.mk (ByteArray.mk (Array.mk [])) (0 : Int) false (0 : Int) (ByteArray.mk (Array.mk [])) false
  [])).date), (vS (List.getD z_3 k (Ent.mk (ByteArray.mk (Array.mk [])) (0 : Int) false (0 : Int) (ByteArray.mk (Array.mk [])) false [])).key), (vB (List.getD z k (Ent.mk
  (ByteArray.mk (Array.mk [])) (0 : Int) false (0 : Int) (ByteArray.mk (Array.mk [])) false [])).gap), AV.sl (List.map eStr (List.getD z k (Ent.mk (ByteArray.mk (Array.mk
  [])) (0 : Int) false (0 : Int) (ByteArray.mk (Array.mk [])) false [])).extra)], AV.agg [(vS (List.getD z_4 k (Ent.mk (ByteArray.mk (Array.mk [])) (0 : Int) false (0 : Int)
  (ByteArray.mk (Array.mk [])) false [])).uri), (vI (List.getD z_4 k (Ent.mk (ByteArray.mk (Array.mk [])) (0 : Int) false (0 : Int) (ByteArray.mk (Array.mk [])) false
  [])).milli), (vB (List.getD z_4 k (Ent.mk (ByteArray.mk (Array.mk [])) (0 : Int) false (0 : Int) (ByteArray.mk (Array.mk [])) false [])).brk), (vI (List.getD z_4 k (Ent.mk
  (ByteArray.mk (Array.mk [])) (0 : Int) false (0 : Int) (ByteArray.mk (Array.mk [])) false [])).date), (vS (List.getD z_4 k (Ent.mk (ByteArray.mk (Array.mk [])) (0 : Int)
  false (0 : Int) (ByteArray.mk (Array.mk [])) false [])).key), (vB (List.getD z_4 k (Ent.mk (ByteArray.mk (Array.mk [])) (0 : Int) false (0 : Int) (ByteArray.mk (Array.mk
  [])) false [])).gap), AV.sl (List.map eStr (List.getD z_4 k (Ent.mk (ByteArray.mk (Array.mk [])) (0 : Int) false (0 : Int) (ByteArray.mk (Array.mk [])) false
  [])).extra)]]) fun (z : Ent × Ent) => bif !F.sameE z.fst z.snd then some (Ex.ret, St.mk [] []) else some (Ex.normal, St.mk [(13, (vI (IntKind.wrap IntKind.i64 ((↑k : Int)
  + (1 : Int))))), (12, .own 12), (10, AV.sl (List.map eI ps)), (9, .ptr 9 0 0), (4, .ptr 4 0 0)] [(12, Blk.mk false 9 1 (List.map eStr seen)), (9, Blk.mk true 0 0 [[(vI
  L2.target), (vI L2.first), (vI L2.breaks), AV.sl (List.map eEnt L2.entries), (vB L2.ended)]]), (4, Blk.mk true 0 0 [[(vI l.target), (vI l.first), (vI l.breaks), AV.sl
  (List.map eEnt l.entries), (vB l.ended)]])]) else none else none else none else some (Ex.exit (0 : Nat), St.mk [(12, .own 12), (10, AV.sl (List.map eI ps)), (9, .ptr 9 0
  0), (4, .ptr 4 0 0)] [(12, Blk.mk false 9 1 (List.map eStr seen)), (9, Blk.mk true 0 0 [[(vI L2.target), (vI L2.first), (vI L2.breaks), AV.sl (List.map eEnt L2.entries),
  (vB L2.ended)]]), (4, Blk.mk true 0 0 [[(vI l.target), (vI l.first), (vI l.breaks), AV.sl (List.map eEnt l.entries), (vB l.ended)]])]) := (execR_bind _ _ _).symm.trans (by kernel_rfl)

theorem lpLw_ok (l : Lst) (L2 : Lst) (ps : List Int) (seen : List ByteArray) (k : Nat) (hp : prlLw l L2 ps seen k = true) : ∀ ex s', (outLw l L2 ps seen k).val = some (ex, s') → LoopOK enLaw (loopN Tryd.f4 0) (stLw l L2 ps seen k) ex s' := by
  simp only [prlLw, Bool.and_eq_true, decide_eq_true_eq] at hp
  obtain ⟨⟨⟨h1, h2⟩, h3⟩, h4⟩ := hp
  have h4 : L2.entries.length = l.entries.length ∧ ∀ p ∈ L2.entries.zip l.entries, F.hasPrefix p.1.key ⟨⟨[107]⟩⟩ = true ∧ F.sameE { p.1 with key := p.2.key } p.2 = true := by
    unfold F.eqvE at h4
    rw [Bool.and_eq_true, decide_eq_true_eq, List.all_eq_true] at h4
    exact ⟨h4.1, fun p hp => Bool.and_eq_true _ _ ▸ h4.2 p hp⟩
  refine loop_gen (st := fun a : List ByteArray × Nat => stLw l L2 ps a.1 a.2) (out := fun a => outLw l L2 ps a.1 a.2) (I := fun a => a.2 ≤ L2.entries.length ∧ a.1.length ≤ a.2) (n := ([13, 12, 10, 9, 4], [12, 9, 4])) (e := ([12, 10, 9, 4], [12, 9, 4])) (r := ([], [])) (fun a => L2.entries.length - a.2) ?_ (seen, k) ⟨h2, h3⟩
  rintro ⟨seen, k⟩ ⟨hk, hs⟩
  simp only at hk hs
  by_cases hlt : k < L2.entries.length
  · right
    have hy : L2.entries[k]? = some L2.entries[k] := List.getElem?_eq_getElem hlt
    have hlt' : k < l.entries.length := by omega
    have hz : l.entries[k]? = some l.entries[k] := List.getElem?_eq_getElem hlt'
    generalize L2.entries[k] = y at hy
    generalize l.entries[k] = z at hz
    obtain ⟨q1, q2⟩ := h4.2 (y, z) (List.mem_of_getElem? (List.getElem?_zip_eq_some.2 ⟨hy, hz⟩))
    have hb : Nat.ble ((seen.length + 1) * 16) 140737488355328 = true := ble_t (by omega)
    have ha := F.addS_len seen y
    refine ⟨(F.addS seen y, k + 1), ?_, rfl, ⟨by simp only; omega, by simp only; omega⟩, by simp only; omega, ?_⟩
    · rw [evLwL]
      simp only [unKey, unWrk, unHasPre, unHss, unSmE, unKeyw, unSmEw, preKey1, preWrk1, preHasPre1, preHss1, preSmE1, unstLw, unstLi, unstLw0, unstLi0, prlLw, prlLi, outLw, outLi, etaEnt, etaLst, etaSeg, etaRot, etaBeat, etaSpan, etaHole, Option.bind_some, List.length_map, unStrs, unInts, unBools, unU8s, unEnts, unLsts, unSegs, unRots, unBeats, unSpans, unHoles, F.lt, F.le, cond_true, cond_false, Bool.and_true, Bool.true_and, cast_lt hlt, decide_eq_true hlt, decide_eq_true hlt', next_at hlt (by omega : L2.entries.length ≤ 9223372036854775807), getD_at hy, getD_at hz, stLw, hb, q1, F.addS]
      have e : F.sameE ⟨y.uri, y.milli, y.brk, y.date, z.key, y.gap, y.extra⟩ z = true := q2
      cases F.hasS y.key seen
      · simp only [e, Bool.not_true, Bool.not_false, cond_true, cond_false, List.map_append]
        rfl
      · simp only [e, Bool.not_true, Bool.not_false, cond_true, cond_false]
        rfl
    · simp only [outLw, drop_at hy, F.seenF, List.foldl_cons]
  · have : k = L2.entries.length := by omega
    subst this
    left
    refine ⟨(.exit 0, ⟨[(12, .own 12), (10, .sl (ps.map eI)), (9, .ptr 9 0 0), (4, .ptr 4 0 0)], [(12, ⟨false, 9, 1, seen.map eStr⟩), (9, ⟨true, 0, 0, [eLst L2]⟩), (4, ⟨true, 0, 0, [eLst l]⟩)]⟩), ?_, ?_, by simp, rfl⟩
    · rw [evLwL]; simp [eLst]
    · simp only [outLw, List.drop_length, F.seenF, List.foldl_nil]
      rfl

theorem evLiL (l : Lst) (L2 : Lst) (ps : List Int) (seen : List ByteArray) (k : Nat) : ((exec enLaw (loopN Tryd.f4 1) (stLi l L2 ps seen k)).bind (lessX ([15, 12, 10, 9, 4], [12, 9, 4]) ([12, 10, 9, 4], [12, 9, 4]) ([], []))).val =
  bif decide ((↑k : Int) < (↑(List.length (List.map eI ps)) : Int)) then Option.bind (unenc (List.map eI) (List.map eI ps)) fun (z : List Int) => bif decide (k < List.length
  z) then Option.bind (idx (IntKind.wrap IntKind.i64 ((↑k : Int) - (1 : Int)))) fun (z_1 : Nat) => Option.bind (unenc (List.map eI) (List.map eI ps)) fun (z_2 : List Int) =>
  bif decide (z_1 < List.length z_2) then bif decide (List.getD z k (0 : Int) ≤ List.getD z_2 z_1 (0 : Int)) then some (Ex.ret, St.mk [] []) else some (Ex.normal, St.mk
  [(15, (vI (IntKind.wrap IntKind.i64 ((↑k : Int) + (1 : Int))))), (12, .own 12), (10, AV.sl (List.map eI ps)), (9, .ptr 9 0 0), (4, .ptr 4 0 0)] [(12, Blk.mk false 9 1
  (List.map eStr seen)), (9, Blk.mk true 0 0 [[(vI L2.target), (vI L2.first), (vI L2.breaks), AV.sl (List.map eEnt L2.entries), (vB L2.ended)]]), (4, Blk.mk true 0 0 [[(vI
  l.target), (vI l.first), (vI l.breaks), AV.sl (List.map eEnt l.entries), (vB l.ended)]])]) else none else none else some (Ex.exit (2 : Nat), St.mk [(12, .own 12), (10,
  AV.sl (List.map eI ps)), (9, .ptr 9 0 0), (4, .ptr 4 0 0)] [(12, Blk.mk false 9 1 (List.map eStr seen)), (9, Blk.mk true 0 0 [[(vI L2.target), (vI L2.first), (vI
  L2.breaks), AV.sl (List.map eEnt L2.entries), (vB L2.ended)]]), (4, Blk.mk true 0 0 [[(vI l.target), (vI l.first), (vI l.breaks), AV.sl (List.map eEnt l.entries), (vB
  l.ended)]])]) := (execR_bind _ _ _).symm.trans (by kernel_rfl)

theorem lpLi_ok (l : Lst) (L2 : Lst) (ps : List Int) (seen : List ByteArray) (k : Nat) (hp : prlLi l L2 ps seen k = true) : ∀ ex s', (outLi l L2 ps seen k).val = some (ex, s') → LoopOK enLaw (loopN Tryd.f4 1) (stLi l L2 ps seen k) ex s' := by
  simp only [prlLi, Bool.and_eq_true, decide_eq_true_eq] at hp
  obtain ⟨⟨h1, h2⟩, h3⟩ := hp
  refine loop_gen (st := fun k => stLi l L2 ps seen k) (out := fun k => outLi l L2 ps seen k) (I := fun k => 1 ≤ k) (n := ([15, 12, 10, 9, 4], [12, 9, 4])) (e := ([12, 10, 9, 4], [12, 9, 4])) (r := ([], [])) (fun k => ps.length - k) ?_ k h2
  intro k hk
  obtain ⟨j, rfl⟩ : ∃ j, k = j + 1 := ⟨k - 1, by omega⟩
  by_cases hlt : j + 1 < ps.length
  · right
    have hlt' : j < ps.length := by omega
    have hy : ps[j + 1]? = some ps[j + 1] := List.getElem?_eq_getElem hlt
    have hz : ps[j]? = some ps[j] := List.getElem?_eq_getElem hlt'
    have hi := F.incr_at h3 hz hy
    generalize ps[j + 1] = y at hy hi
    generalize ps[j] = z at hz hi
    have hd : decide (y ≤ z) = false := decide_eq_false (by omega)
    refine ⟨j + 2, ?_, rfl, by omega, by omega, rfl⟩
    rw [evLiL]
    simp only [unKey, unWrk, unHasPre, unHss, unSmE, unKeyw, unSmEw, preKey1, preWrk1, preHasPre1, preHss1, preSmE1, unstLw, unstLi, unstLw0, unstLi0, prlLw, prlLi, outLw, outLi, etaEnt, etaLst, etaSeg, etaRot, etaBeat, etaSpan, etaHole, Option.bind_some, List.length_map, unStrs, unInts, unBools, unU8s, unEnts, unLsts, unSegs, unRots, unBeats, unSpans, unHoles, F.lt, F.le, cond_true, cond_false, Bool.and_true, Bool.true_and, cast_lt hlt, decide_eq_true hlt, decide_eq_true hlt', next_at hlt (by omega : ps.length ≤ 9223372036854775807), getD_at hy, getD_at hz, stLi, hd, idx_sub (by omega : j + 1 ≤ 9223372036854775807), eLst]
    try rfl
  · left
    have hc : ¬ (((j + 1 : Nat) : Int) < (ps.length : Int)) := by omega
    refine ⟨(.exit 2, ⟨[(12, .own 12), (10, .sl (ps.map eI)), (9, .ptr 9 0 0), (4, .ptr 4 0 0)], [(12, ⟨false, 9, 1, seen.map eStr⟩), (9, ⟨true, 0, 0, [eLst L2]⟩), (4, ⟨true, 0, 0, [eLst l]⟩)]⟩), ?_, rfl, by simp, rfl⟩
    rw [evLiL]
    have hc2 : ¬ ((j : Int) + 1 < (ps.length : Int)) := by omega
    simp [eLst, hc2]

end M
end Go.Proofs.YtlemjphdhapfpaaDoor
