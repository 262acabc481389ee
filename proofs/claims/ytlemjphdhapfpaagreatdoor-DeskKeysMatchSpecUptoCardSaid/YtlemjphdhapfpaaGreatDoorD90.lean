/- What is proved here: what headendref1.times and small return on limbs (no statement of the seat). -/
import Derived.Test.YtlemjphdhapfpaaGreatDoorD89
namespace Go.Proofs.YtlemjphdhapfpaaGreatDoor
open Go Go.RowKit
set_option linter.unusedVariables false
set_option linter.unusedSimpArgs false

/-- Limbs, and x times others; the last carry. -/
def F.rowD (x : Int) : Int → List Int → List Int → List Int × Int
  | c, o :: os, y :: b => ((o + x * y + c) % 10000 :: (F.rowD x ((o + x * y + c) / 10000) os b).1, (F.rowD x ((o + x * y + c) / 10000) os b).2)
  | c, os, [] => (os, c)
  | c, [], _ :: _ => ([], c)

theorem F.rowD_nil (x c : Int) (os : List Int) : F.rowD x c os [] = (os, c) := by cases os <;> rfl

theorem F.mrow_D (x : Int) : ∀ (b os : List Int) (c : Int), b.length < os.length → F.mrow x c os b = (F.rowD x c os b).1.set b.length ((F.rowD x c os b).1.getD b.length 0 + (F.rowD x c os b).2)
  | [], o :: os, c, _ => by rw [F.mrow, F.rowD_nil]; rfl
  | y :: b, o :: os, c, h => by
    have ih := F.mrow_D x b os ((o + x * y + c) / 10000) (by simpa using h)
    rw [F.mrow, ih, F.rowD]
    rfl
  | [], [], c, h => by simp at h
  | y :: b, [], c, h => by simp at h

theorem F.rowD_len (x : Int) : ∀ (b os : List Int) (c : Int), (F.rowD x c os b).1.length = os.length
  | [], os, c => by rw [F.rowD_nil]
  | y :: b, o :: os, c => by rw [F.rowD]; simp only [List.length_cons, F.rowD_len]
  | y :: b, [], c => rfl

theorem F.rowD_ok {x : Int} (hx : 0 ≤ x ∧ x ≤ 9999) : ∀ (b os : List Int) (c : Int), F.okL b → F.okL os → (0 ≤ c ∧ c ≤ 9999) → F.okL (F.rowD x c os b).1 ∧ 0 ≤ (F.rowD x c os b).2 ∧ (F.rowD x c os b).2 ≤ 9999
  | [], os, c, _, ho, hc => by rw [F.rowD_nil]; exact ⟨ho, hc⟩
  | y :: b, o :: os, c, hb, ho2, hc => by
    have h3 := hb y (List.mem_cons_self ..)
    have hm := F.mul_bd hx h3
    have ho := ho2 o (List.mem_cons_self ..)
    obtain ⟨q1, q2⟩ := F.rowD_ok hx b os ((o + x * y + c) / 10000) (fun z hz => hb z (List.mem_cons_of_mem _ hz)) (fun z hz => ho2 z (List.mem_cons_of_mem _ hz)) (by omega)
    rw [F.rowD]
    exact ⟨F.okL_cons (by omega) q1, q2⟩
  | y :: b, [], c, _, _, hc => ⟨F.okL_nil, hc⟩

theorem F.rowD_z {x : Int} : ∀ (b os : List Int) (c : Int), b.length < os.length → F.zeroFrom b.length os → (F.rowD x c os b).1.getD b.length 0 = 0
  | [], o :: os, c, _, hz => by rw [F.rowD_nil]; exact hz o (by simp)
  | y :: b, o :: os, c, h, hz => by
    have := F.rowD_z (x := x) b os ((o + x * y + c) / 10000) (by simpa using h) (fun z h => hz z (by simpa using h))
    rw [F.rowD]
    simpa using this
  | [], [], c, h, _ => by simp at h
  | y :: b, [], c, h, _ => by simp at h

def F.okB (l : List Int) : Bool := l.all fun x => decide (0 ≤ x) && decide (x ≤ 9999)

theorem F.okB_iff {l : List Int} : F.okB l = true ↔ F.okL l := by
  unfold F.okB F.okL
  rw [List.all_eq_true]
  constructor
  · intro h x hx; have := h x hx; simpa using this
  · intro h x hx; have := h x hx; simpa using this

def F.zB (k : Nat) (l : List Int) : Bool := (l.drop k).all fun x => x == 0

theorem F.zB_iff {k : Nat} {l : List Int} : F.zB k l = true ↔ F.zeroFrom k l := by
  unfold F.zB F.zeroFrom
  rw [List.all_eq_true]
  constructor
  · intro h x hx; have := h x hx; simpa using this
  · intro h x hx; have := h x hx; simpa using this

theorem F.okL_app {a b : List Int} (h1 : F.okL a) (h2 : F.okL b) : F.okL (a ++ b) := fun x hx => by
  rcases List.mem_append.1 hx with h | h
  · exact h1 x h
  · exact h2 x h

theorem F.okL_drop {a : List Int} (k : Nat) (h : F.okL a) : F.okL (a.drop k) := fun x hx => h x (List.mem_of_mem_drop hx)

theorem F.okL_take {a : List Int} (k : Nat) (h : F.okL a) : F.okL (a.take k) := fun x hx => h x (List.mem_of_mem_take hx)

/-- A row added to what is there from a place on. -/
def F.row1 (x : Int) (b : List Int) (i : Nat) (out : List Int) : List Int := out.take i ++ F.mrow x 0 (out.drop i) b

namespace M

theorem drop_y {α : Type} {l : List α} {k : Nat} {y : α} (h : l[k]? = some y) : l.drop k = y :: l.drop (k + 1) := by
  obtain ⟨h1, rfl⟩ := List.getElem?_eq_some_iff.1 h
  exact List.drop_eq_getElem_cons h1

def stTin (a : List Int) (b : List Int) (i : Nat) (out : List Int) (c : Int) (k : Nat) : St := ⟨[(8, vI k), (7, vI c), (6, vI i), (5, .own 15), (1, .sl (b.map eI)), (0, .sl (a.map eI))], [(15, ⟨false, 3, 1, out.map eI⟩)]⟩

def stTin1 (a : (List Int) × (List Int) × Nat × (List Int) × Int × Nat) : St := stTin a.1 a.2.1 a.2.2.1 a.2.2.2.1 a.2.2.2.2.1 a.2.2.2.2.2

theorem stTin_inj (a a' : (List Int) × (List Int) × Nat × (List Int) × Int × Nat) (h : stTin1 a = stTin1 a') : a = a' := by
  simp only [stTin1, stTin] at h
  try simp [strs_inj, ints_inj, bools_inj, u8s_inj, eEnts_inj, eEnt_iff, eLsts_inj, eLst_iff, eSegs_inj, eSeg_iff, eRots_inj, eRot_iff, eBeats_inj, eBeat_iff, eSpans_inj, eSpan_iff, eHoles_inj, eHole_iff] at h
  grind

theorem unstTin (a : List Int) (b : List Int) (i : Nat) (out : List Int) (c : Int) (k : Nat) : unenc stTin1 (St.mk [(8, (vI (↑k : Int))), (7, (vI c)), (6, (vI (↑i : Int))), (5, .own 15), (1, AV.sl (List.map eI b)), (0, AV.sl (List.map eI a))] [(15, Blk.mk false 3 1 (List.map eI
  out))]) = some (a, b, i, out, c, k) := unenc_of stTin_inj (a, b, i, out, c, k) rfl

theorem unstTin0 (a : List Int) (b : List Int) (i : Nat) (out : List Int)  : unenc stTin1 (St.mk [(8, (vI (0 : Int))), (7, (vI (0 : Int))), (6, (vI (↑i : Int))), (5, .own 15), (1, AV.sl (List.map eI b)), (0, AV.sl (List.map eI a))] [(15, Blk.mk false 3 1
  (List.map eI out))]) = some (a, b, i, out, 0, 0) := unenc_of stTin_inj (a, b, i, out, 0, 0) rfl

def outTin (a : List Int) (b : List Int) (i : Nat) (out : List Int) (c : Int) (k : Nat) : T (Ex × St) := .ret (.exit 2, ⟨[(7, vI (F.rowD (a.getD i 0) c (out.drop (i + k)) (b.drop k)).2), (6, vI i), (5, .own 15), (1, .sl (b.map eI)), (0, .sl (a.map eI))], [(15, ⟨false, 3, 1, (out.take (i + k) ++ (F.rowD (a.getD i 0) c (out.drop (i + k)) (b.drop k)).1).map eI⟩)]⟩)

noncomputable def prlTin (a : List Int) (b : List Int) (i : Nat) (out : List Int) (c : Int) (k : Nat) : Bool := F.nk 400 a && F.nk 400 b && F.okB out && decide (0 ≤ c) && decide (c ≤ 9999) && decide (k ≤ b.length) && decide (i < a.length) && decide (out.length = a.length + b.length)

noncomputable def lpTin : Nat × (St → T (Ex × St)) := (7, lpo [8, 7, 6, 5, 1, 0] [15] stTin1 (fun a => prlTin a.1 a.2.1 a.2.2.1 a.2.2.2.1 a.2.2.2.2.1 a.2.2.2.2.2) fun a => outTin a.1 a.2.1 a.2.2.1 a.2.2.2.1 a.2.2.2.2.1 a.2.2.2.2.2)

def stTmz (a : List Int) (b : List Int) (out : List Int) (i : Nat) : St := ⟨[(6, vI i), (5, .own 15), (1, .sl (b.map eI)), (0, .sl (a.map eI))], [(15, ⟨false, 3, 1, out.map eI⟩)]⟩

def stTmz1 (a : (List Int) × (List Int) × (List Int) × Nat) : St := stTmz a.1 a.2.1 a.2.2.1 a.2.2.2

theorem stTmz_inj (a a' : (List Int) × (List Int) × (List Int) × Nat) (h : stTmz1 a = stTmz1 a') : a = a' := by
  simp only [stTmz1, stTmz] at h
  try simp [strs_inj, ints_inj, bools_inj, u8s_inj, eEnts_inj, eEnt_iff, eLsts_inj, eLst_iff, eSegs_inj, eSeg_iff, eRots_inj, eRot_iff, eBeats_inj, eBeat_iff, eSpans_inj, eSpan_iff, eHoles_inj, eHole_iff] at h
  grind

theorem unstTmz (a : List Int) (b : List Int) (out : List Int) (i : Nat) : unenc stTmz1 (St.mk [(6, (vI (↑i : Int))), (5, .own 15), (1, AV.sl (List.map eI b)), (0, AV.sl (List.map eI a))] [(15, Blk.mk false 3 1 (List.map eI out))]) = some (a, b, out, i) := unenc_of stTmz_inj (a, b, out, i) rfl

theorem unstTmz0 (a : List Int) (b : List Int) (out : List Int)  : unenc stTmz1 (St.mk [(6, (vI (0 : Int))), (5, .own 15), (1, AV.sl (List.map eI b)), (0, AV.sl (List.map eI a))] [(15, Blk.mk false 3 1 (List.map eI out))]) = some (a, b, out, 0) := unenc_of stTmz_inj (a, b, out, 0) rfl

def outTmz (a : List Int) (b : List Int) (out : List Int) (i : Nat) : T (Ex × St) := .ret (.exit 0, ⟨[(5, .own 15)], [(15, ⟨false, 3, 1, (out.take i ++ F.mulR b (a.drop i) (out.drop i)).map eI⟩)]⟩)

noncomputable def prlTmz (a : List Int) (b : List Int) (out : List Int) (i : Nat) : Bool := F.nk 400 a && F.nk 400 b && F.okB out && F.zB (i + b.length) out && decide (i ≤ a.length) && decide (out.length = a.length + b.length)

noncomputable def lpTmz : Nat × (St → T (Ex × St)) := (3, lpo [6, 5, 1, 0] [15] stTmz1 (fun a => prlTmz a.1 a.2.1 a.2.2.1 a.2.2.2) fun a => outTmz a.1 a.2.1 a.2.2.1 a.2.2.2)

noncomputable def enTmz : Env := envH ty noG lks [oTrm] [] [] [lpTmz, lpTin]

theorem enTmz_ok : EnvOK Tryz.prog enTmz := by
  refine envH_ok lks_ok ty_ok ?_ ?_
  · simp only [List.forall_mem_cons]
    exact ⟨okTrm, by simp⟩
  · simp

theorem evTinL (a : List Int) (b : List Int) (i : Nat) (out : List Int) (c : Int) (k : Nat) : ((exec enTmz (loopN Tryz.f76 1) (stTin a b i out c k)).bind (lessX ([8, 7, 6, 5, 1, 0], [15]) ([7, 6, 5, 1, 0], [15]) ([], []))).val =
  bif decide ((↑k : Int) < (↑(List.length (List.map eI b)) : Int)) then Option.bind (idx (IntKind.wrap IntKind.i64 ((↑i : Int) + (↑k : Int)))) fun (z : Nat) => bif decide (z
  < List.length (Blk.mk false 3 1 (List.map eI out)).rows) then Option.bind (unenc (List.map eI) (List.map eI out)) fun (z_1 : List Int) => bif decide (z < List.length z_1)
  then Option.bind (unenc (List.map eI) (List.map eI a)) fun (z_2 : List Int) => bif decide (i < List.length z_2) then Option.bind (unenc (List.map eI) (List.map eI b)) fun
  (z_3 : List Int) => bif decide (k < List.length z_3) then Option.bind (idx (IntKind.wrap IntKind.i64 ((↑i : Int) + (↑k : Int)))) fun (z_4 : Nat) => bif decide (z_4 <
  List.length (Blk.mk false 3 1 (List.map eI out)).rows) then Option.bind (unenc (List.map eI) (List.map eI out)) fun (z_5 : List Int) => bif decide (z_4 < List.length z_5)
  then some (Ex.normal, St.mk [(8, (vI (IntKind.wrap IntKind.i64 ((↑k : Int) + (1 : Int))))), (7, (vI (IntKind.wrap IntKind.i64 (Int.tdiv (IntKind.wrap IntKind.i64
  (IntKind.wrap IntKind.i64 (List.getD z_1 z (0 : Int) + IntKind.wrap IntKind.i64 (List.getD z_2 i (0 : Int) * List.getD z_3 k (0 : Int))) + c)) (10000 : Int))))), (6, (vI
  (↑i : Int))), (5, .own 15), (1, AV.sl (List.map eI b)), (0, AV.sl (List.map eI a))] [(15, Blk.mk false 3 1 (List.set (List.map eI out) z_4 [(vI (Int.tmod (IntKind.wrap
  IntKind.i64 (IntKind.wrap IntKind.i64 (List.getD z_1 z (0 : Int) + IntKind.wrap IntKind.i64 (List.getD z_2 i (0 : Int) * List.getD z_3 k (0 : Int))) + c)) (10000 :
  Int)))]))]) else none else none else none else none else none else none else some (Ex.exit (2 : Nat), St.mk [(7, (vI c)), (6, (vI (↑i : Int))), (5, .own 15), (1, AV.sl
  (List.map eI b)), (0, AV.sl (List.map eI a))] [(15, Blk.mk false 3 1 (List.map eI out))]) := (execR_bind _ _ _).symm.trans (by kernel_rfl)

theorem lpTin_ok (a : List Int) (b : List Int) (i : Nat) (out : List Int) (c : Int) (k : Nat) (hp : prlTin a b i out c k = true) : ∀ ex s', (outTin a b i out c k).val = some (ex, s') → LoopOK enTmz (loopN Tryz.f76 1) (stTin a b i out c k) ex s' := by
  simp only [prlTin, Bool.and_eq_true, decide_eq_true_eq] at hp
  obtain ⟨⟨⟨⟨⟨⟨⟨h1, h2⟩, h3⟩, h4⟩, h5⟩, h6⟩, h7⟩, h8⟩ := hp
  have l1 := F.nk_len h1
  have l2 := F.nk_len h2
  have o1 := F.nk_ok h1
  have o2 := F.nk_ok h2
  have h3 := F.okB_iff.1 h3
  have hx : a[i]? = some a[i] := List.getElem?_eq_getElem h7
  have hxg : a.getD i 0 = a[i] := by simp [hx]
  have hxo := o1 _ (List.getElem_mem h7)
  clear h1 h2
  refine loop_gen (st := fun p : List Int × Int × Nat => stTin a b i p.1 p.2.1 p.2.2) (out := fun p => outTin a b i p.1 p.2.1 p.2.2) (I := fun p => F.okL p.1 ∧ (0 ≤ p.2.1 ∧ p.2.1 ≤ 9999) ∧ p.2.2 ≤ b.length ∧ p.1.length = a.length + b.length) (n := ([8, 7, 6, 5, 1, 0], [15])) (e := ([7, 6, 5, 1, 0], [15])) (r := ([], [])) (fun p => b.length - p.2.2) ?_ (out, c, k) ⟨h3, ⟨h4, h5⟩, h6, h8⟩
  rintro ⟨out, c, k⟩ ⟨g0, ⟨g1, g2⟩, g3, g4⟩
  simp only at g0 g1 g2 g3 g4
  generalize hxe : a[i] = x at hx hxg hxo
  by_cases hlt : k < b.length
  · right
    have hy : b[k]? = some b[k] := List.getElem?_eq_getElem hlt
    have hyo := o2 _ (List.getElem_mem hlt)
    have hq : i + k < out.length := by omega
    have ho : out[i + k]? = some out[i + k] := List.getElem?_eq_getElem hq
    have hoo := g0 _ (List.getElem_mem hq)
    generalize b[k] = y at hy hyo
    generalize out[i + k] = o at ho hoo
    have hm := F.mul_bd hxo hyo
    have w0 : IntKind.i64.wrap ((i : Int) + (k : Int)) = ((i + k : Nat) : Int) := by rw [wrap_id (by omega) (by omega)]; rfl
    have w1 : IntKind.i64.wrap (x * y) = x * y := wrap_id (by omega) (by omega)
    have w2 : IntKind.i64.wrap (o + x * y) = o + x * y := wrap_id (by omega) (by omega)
    have w3 : IntKind.i64.wrap (o + x * y + c) = o + x * y + c := wrap_id (by omega) (by omega)
    have hs : (0 : Int) ≤ o + x * y + c := by omega
    have w4 : IntKind.i64.wrap ((o + x * y + c) % 10000) = (o + x * y + c) % 10000 := wrap_id (by omega) (by omega)
    have w5 : IntKind.i64.wrap ((o + x * y + c) / 10000) = (o + x * y + c) / 10000 := wrap_id (by omega) (by omega)
    have m1 : (o + x * y + c).tmod 10000 = (o + x * y + c) % 10000 := Int.tmod_eq_emod_of_nonneg hs
    have m2 : (o + x * y + c).tdiv 10000 = (o + x * y + c) / 10000 := Int.tdiv_eq_ediv_of_nonneg hs
    have hw : IntKind.i64.wrap ((k : Int) + 1) = ((k + 1 : Nat) : Int) := by rw [wrap_id (by omega) (by omega)]; rfl
    have i1 : idx (k : Int) = some k := idx_n (by omega)
    have i2 : idx (i : Int) = some i := idx_n (by omega)
    have i3 : idx ((i + k : Nat) : Int) = some (i + k) := idx_n (by omega)
    have hd := drop_y hy
    have hod := drop_y ho
    refine ⟨(out.set (i + k) ((o + x * y + c) % 10000), (o + x * y + c) / 10000, k + 1), ?_, rfl, ⟨?_, by simp only; omega, by simp only; omega, by simp only [List.length_set]; omega⟩, by simp only; omega, ?_⟩
    · rw [evTinL]
      simp only [unTrm, preTrm1, unstTmz, unstTin, unstTmz0, unstTin0, prlTmz, prlTin, outTmz, outTin, etaEnt, etaLst, etaSeg, etaRot, etaBeat, etaSpan, etaHole, Option.bind_some, List.length_map, unStrs, unInts, unBools, unU8s, unEnts, unLsts, unSegs, unRots, unBeats, unSpans, unHoles, F.lt, F.le, cond_true, cond_false, Bool.and_true, Bool.true_and, cast_lt hlt, decide_eq_true hlt, decide_eq_true h7, decide_eq_true hq, i1, i2, w0, i3, hw, getD_at hx, getD_at hy, getD_at ho, w1, w2, w3, m1, m2, w4, w5, stTin]
      rw [List.map_set]
      rfl
    · intro z hz
      rcases List.mem_or_eq_of_mem_set hz with h | rfl
      · exact g0 z h
      · omega
    · have e1 : (out.set (i + k) ((o + x * y + c) % 10000)).drop (i + (k + 1)) = out.drop (i + k + 1) := by
        rw [List.drop_set_of_lt (by omega)]
        rfl
      have e2 : (out.set (i + k) ((o + x * y + c) % 10000)).take (i + (k + 1)) = out.take (i + k) ++ [(o + x * y + c) % 10000] := by
        rw [show i + (k + 1) = i + k + 1 from rfl, List.take_succ_eq_append_getElem (by simpa using hq), List.take_set_of_le (Nat.le_refl _), List.getElem_set_self]
      simp only [outTin, hxg, e1, e2, hd, hod, F.rowD, List.append_assoc, List.singleton_append]
  · have hk : k = b.length := by omega
    left
    refine ⟨(.exit 2, ⟨[(7, vI c), (6, vI i), (5, .own 15), (1, .sl (b.map eI)), (0, .sl (a.map eI))], [(15, ⟨false, 3, 1, out.map eI⟩)]⟩), ?_, ?_, by simp, rfl⟩
    · have c2 : ¬ (k : Int) < (b.length : Int) := by omega
      rw [evTinL]
      simp only [unTrm, preTrm1, unstTmz, unstTin, unstTmz0, unstTin0, prlTmz, prlTin, outTmz, outTin, etaEnt, etaLst, etaSeg, etaRot, etaBeat, etaSpan, etaHole, Option.bind_some, List.length_map, unStrs, unInts, unBools, unU8s, unEnts, unLsts, unSegs, unRots, unBeats, unSpans, unHoles, F.lt, F.le, cond_true, cond_false, Bool.and_true, Bool.true_and, decide_eq_false c2]
    · simp only [outTin, hk, List.drop_length, F.rowD_nil, List.take_append_drop]
      rfl

end M
end Go.Proofs.YtlemjphdhapfpaaGreatDoor
