/- What is proved here: what the stays of sessions, There and StateAt return on plain data, of the program and of the reference (no statement of the seat). -/
import Derived.Test.YtnkaadiofjoacaaB4
namespace Go.Proofs.Ytnkaadiofjoacaa
open Go Go.RowKit
set_option linter.unusedVariables false
set_option linter.unusedSimpArgs false

/-- Up to when a beat's state lasts, by what follows. -/
def F.endB (q : Int) (b : Beat) : List Beat → Int
  | [] => IntKind.i64.wrap (b.time + q)
  | n :: _ => bif n.session.toList == b.session.toList then min (IntKind.i64.wrap (b.time + q)) n.time else IntKind.i64.wrap (b.time + q)

def F.stayS (q : Int) (acc : List Stay) (b : Beat) (r : List Beat) : List Stay :=
  bif (b.state != 5) && F.lt b.time (F.endB q b r) then acc ++ [⟨b, ⟨b.time, F.endB q b r⟩⟩] else acc

def F.staysA (q : Int) (acc : List Stay) (l : List Beat) : List Stay := M.foldS (F.stayS q) acc l

def F.stays (q : Int) (l : List Beat) : List Stay := F.staysA q [] l

theorem F.stayS_len (q : Int) (acc : List Stay) (b : Beat) (r : List Beat) : (F.stayS q acc b r).length ≤ acc.length + 1 := by
  unfold F.stayS
  cases (b.state != 5) && F.lt b.time (F.endB q b r) <;> simp

theorem F.staysA_len (q : Int) : ∀ (l : List Beat) (acc : List Stay), (F.staysA q acc l).length ≤ acc.length + l.length
  | [], acc => by simp [F.staysA, M.foldS]
  | b :: l, acc => by
    have h1 := F.staysA_len q l (F.stayS q acc b l)
    have h2 := F.stayS_len q acc b l
    simp only [F.staysA, M.foldS] at h1 ⊢
    simp only [List.length_cons]; omega

/-- A span behind others. -/
def F.addSpan (l : List Span) (s : Span) : List Span :=
  bif F.lt 0 l.length && ((l.getD (l.length - 1) ⟨0, 0⟩).to == s.fr) then l.set (l.length - 1) ⟨(l.getD (l.length - 1) ⟨0, 0⟩).fr, s.to⟩ else l ++ [s]

theorem F.addSpan_len (l : List Span) (s : Span) : (F.addSpan l s).length ≤ l.length + 1 := by
  unfold F.addSpan
  cases F.lt 0 l.length && ((l.getD (l.length - 1) ⟨0, 0⟩).to == s.fr) <;> simp

namespace M

theorem drop_at {α : Type} {xs : List α} {k : Nat} {y : α} (h : xs[k]? = some y) : xs.drop k = y :: xs.drop (k + 1) := by
  have hlt := lt_at h
  rw [List.drop_eq_getElem_cons hlt]
  congr 1
  exact (List.getElem?_eq_some_iff.1 h).2

def stSty (l : List Beat) (q : Int) (acc : List Stay) (k : Nat) : St := ⟨[(11, vI k), (10, vI l.length), (9, .sl (l.map eBeat)), (5, .own 5), (1, vI q), (0, .sl (l.map eBeat))], [(5, ⟨false, 70, 7, acc.map eStay⟩)]⟩

def stSty1 (a : (List Beat) × Int × (List Stay) × Nat) : St := stSty a.1 a.2.1 a.2.2.1 a.2.2.2

theorem stSty_inj (a a' : (List Beat) × Int × (List Stay) × Nat) (h : stSty1 a = stSty1 a') : a = a' := by
  simp only [stSty1, stSty] at h
  try simp [strs_inj, ints_inj, bools_inj, eL_eIs_inj, eBeats_inj, eBeat_iff, eL_eBeats_inj, eSpans_inj, eSpan_iff, eHoles_inj, eHole_iff, eLevels_inj, eLevel_iff, eFigss_inj, eFigs_iff, eRatios_inj, eRatio_iff, eReps_inj, eRep_iff, eStays_inj, eStay_iff] at h
  grind

theorem unstSty (l : List Beat) (q : Int) (acc : List Stay) (k : Nat) : unenc stSty1 (St.mk [(11, (vI (↑k : Int))), (10, (vI (↑(List.length l) : Int))), (9, AV.sl (List.map eBeat l)), (5, .own 5), (1, (vI q)), (0, AV.sl (List.map eBeat l))] [(5, Blk.mk
  false 70 7 (List.map eStay acc))]) = some (l, q, acc, k) := unenc_of stSty_inj (l, q, acc, k) rfl

theorem unstSty0 (l : List Beat) (q : Int)  : unenc stSty1 (St.mk [(11, (vI (0 : Int))), (10, (vI (↑(List.length l) : Int))), (9, AV.sl (List.map eBeat l)), (5, .own 5), (1, (vI q)), (0, AV.sl (List.map eBeat l))] [(5, Blk.mk false
  70 7 [])]) = some (l, q, [], 0) := unenc_of stSty_inj (l, q, [], 0) rfl

def outSty (l : List Beat) (q : Int) (acc : List Stay) (k : Nat) : T (Ex × St) := .ret (.exit 0, ⟨[(5, .own 5)], [(5, ⟨false, 70, 7, (F.staysA q acc (l.drop k)).map eStay⟩)]⟩)

noncomputable def prlSty (l : List Beat) (q : Int) (acc : List Stay) (k : Nat) : Bool := decide (l.length ≤ 3000) && decide (k ≤ l.length) && decide (acc.length ≤ k)

noncomputable def lpSty : Nat × (St → T (Ex × St)) := (3, lpo [11, 10, 9, 5, 1, 0] [5] stSty1 (fun a => prlSty a.1 a.2.1 a.2.2.1 a.2.2.2) fun a => outSty a.1 a.2.1 a.2.2.1 a.2.2.2)

noncomputable def enSty : Env := envH ty noG lks [] [] [] [lpSty]

theorem enSty_ok : EnvOK Try.prog enSty := by
  refine envH_ok lks_ok ty_ok ?_ ?_
  · simp
  · simp

theorem evStyL (l : List Beat) (q : Int) (acc : List Stay) (k : Nat) : ((exec enSty (loopN Try.f28 0) (stSty l q acc k)).bind (lessX ([11, 10, 9, 5, 1, 0], [5]) ([5], [5]) ([], []))).val =
  bif decide ((↑k : Int) < (↑(List.length l) : Int)) then Option.bind (unenc (List.map eBeat) (List.map eBeat l)) fun (z : List Beat) => bif decide (k < List.length z) then
  bif decide (IntKind.wrap IntKind.i64 ((↑k : Int) + (1 : Int)) < (↑(List.length (List.map eBeat l)) : Int)) then bif decide (IntKind.wrap IntKind.i64 ((↑k : Int) + (1 :
  Int)) < (↑(List.length (List.map eBeat l)) : Int)) then Option.bind (idx (IntKind.wrap IntKind.i64 ((↑k : Int) + (1 : Int)))) fun (z_1 : Nat) => Option.bind (unenc
  (List.map eBeat) (List.map eBeat l)) fun (z_2 : List Beat) => bif decide (z_1 < List.length z_2) then bif bif decide (IntKind.wrap IntKind.i64 ((↑k : Int) + (1 : Int)) <
  (↑(List.length (List.map eBeat l)) : Int)) then ByteArray.toList (List.getD z_2 z_1 (Beat.mk (ByteArray.mk (Array.mk [])) (0 : Int) (0 : Int) (0 : Int) (0 : Int))).session
  == ByteArray.toList (List.getD z k (Beat.mk (ByteArray.mk (Array.mk [])) (0 : Int) (0 : Int) (0 : Int) (0 : Int))).session else false then Option.bind (idx (IntKind.wrap
  IntKind.i64 ((↑k : Int) + (1 : Int)))) fun (z_3 : Nat) => Option.bind (unenc (List.map eBeat) (List.map eBeat l)) fun (z_4 : List Beat) => bif decide (z_3 < List.length
  z_4) then bif bif (List.getD z k (Beat.mk (ByteArray.mk (Array.mk [])) (0 : Int) (0 : Int) (0 : Int) (0 : Int))).state != (5 : Int) then decide ((List.getD z k (Beat.mk
  (ByteArray.mk (Array.mk [])) (0 : Int) (0 : Int) (0 : Int) (0 : Int))).time < min (IntKind.wrap IntKind.i64 ((List.getD z k (Beat.mk (ByteArray.mk (Array.mk [])) (0 : Int)
  (0 : Int) (0 : Int) (0 : Int))).time + q)) (List.getD z_4 z_3 (Beat.mk (ByteArray.mk (Array.mk [])) (0 : Int) (0 : Int) (0 : Int) (0 : Int))).time) else false then bif
  Nat.ble ((List.length (List.map eStay acc) + (1 : Nat)) * (64 : Nat)) (140737488355328 : Nat) && true then some (Ex.normal, St.mk [(11, (vI (IntKind.wrap IntKind.i64 ((↑k
  : Int) + (1 : Int))))), (10, (vI (↑(List.length l) : Int))), (9, AV.sl (List.map eBeat l)), (5, .own 5), (1, (vI q)), (0, AV.sl (List.map eBeat l))] [(5, Blk.mk false 70 7
  (List.map eStay acc ++ [[(vS (List.getD z k (Beat.mk (ByteArray.mk (Array.mk [])) (0 : Int) (0 : Int) (0 : Int) (0 : Int))).session), (vI (List.getD z k (Beat.mk
  (ByteArray.mk (Array.mk [])) (0 : Int) (0 : Int) (0 : Int) (0 : Int))).no), (vI (List.getD z k (Beat.mk (ByteArray.mk (Array.mk [])) (0 : Int) (0 : Int) (0 : Int) (0 :
  Int))).time), (vI (List.getD z k (Beat.mk (ByteArray.mk (Array.mk [])) (0 : Int) (0 : Int) (0 : Int) (0 : Int))).state), (vI (List.getD z k (Beat.mk (ByteArray.mk
  (Array.mk [])) (0 : Int) (0 : Int) (0 : Int) (0 : Int))).rate), (vI (List.getD z k (Beat.mk (ByteArray.mk (Array.mk [])) (0 : Int) (0 : Int) (0 : Int) (0 : Int))).time),
  (vI (min (IntKind.wrap IntKind.i64 ((List.getD z k (Beat.mk (ByteArray.mk (Array.mk [])) (0 : Int) (0 : Int) (0 : Int) (0 : Int))).time + q)) (List.getD z_4 z_3 (Beat.mk
  (ByteArray.mk (Array.mk [])) (0 : Int) (0 : Int) (0 : Int) (0 : Int))).time))]]))]) else none else some (Ex.normal, St.mk [(11, (vI (IntKind.wrap IntKind.i64 ((↑k : Int) +
  (1 : Int))))), (10, (vI (↑(List.length l) : Int))), (9, AV.sl (List.map eBeat l)), (5, .own 5), (1, (vI q)), (0, AV.sl (List.map eBeat l))] [(5, Blk.mk false 70 7
  (List.map eStay acc))]) else none else bif bif (List.getD z k (Beat.mk (ByteArray.mk (Array.mk [])) (0 : Int) (0 : Int) (0 : Int) (0 : Int))).state != (5 : Int) then
  decide ((List.getD z k (Beat.mk (ByteArray.mk (Array.mk [])) (0 : Int) (0 : Int) (0 : Int) (0 : Int))).time < IntKind.wrap IntKind.i64 ((List.getD z k (Beat.mk
  (ByteArray.mk (Array.mk [])) (0 : Int) (0 : Int) (0 : Int) (0 : Int))).time + q)) else false then bif Nat.ble ((List.length (List.map eStay acc) + (1 : Nat)) * (64 : Nat))
  (140737488355328 : Nat) && true then some (Ex.normal, St.mk [(11, (vI (IntKind.wrap IntKind.i64 ((↑k : Int) + (1 : Int))))), (10, (vI (↑(List.length l) : Int))), (9, AV.sl
  (List.map eBeat l)), (5, .own 5), (1, (vI q)), (0, AV.sl (List.map eBeat l))] [(5, Blk.mk false 70 7 (List.map eStay acc ++ [[(vS (List.getD z k (Beat.mk (ByteArray.mk
  (Array.mk [])) (0 : Int) (0 : Int) (0 : Int) (0 : Int))).session), (vI (List.getD z k (Beat.mk (ByteArray.mk (Array.mk [])) (0 : Int) (0 : Int) (0 : Int) (0 : Int))).no),
  (vI (List.getD z k (Beat.mk (ByteArray.mk (Array.mk [])) (0 : Int) (0 : Int) (0 : Int) (0 : Int))).time), (vI (List.getD z k (Beat.mk (ByteArray.mk (Array.mk [])) (0 :
  Int) (0 : Int) (0 : Int) (0 : Int))).state), (vI (List.getD z k (Beat.mk (ByteArray.mk (Array.mk [])) (0 : Int) (0 : Int) (0 : Int) (0 : Int))).rate), (vI (List.getD z k
  (Beat.mk (ByteArray.mk (Array.mk [])) (0 : Int) (0 : Int) (0 : Int) (0 : Int))).time), (vI (IntKind.wrap IntKind.i64 ((List.getD z k (Beat.mk (ByteArray.mk (Array.mk []))
  (0 : Int) (0 : Int) (0 : Int) (0 : Int))).time + q)))]]))]) else none else some (Ex.normal, St.mk [(11, (vI (IntKind.wrap IntKind.i64 ((↑k : Int) + (1 : Int))))), (10, (vI
  (↑(List.length l) : Int))), (9, AV.sl (List.map eBeat l)), (5, .own 5), (1, (vI q)), (0, AV.sl (List.map eBeat l))] [(5, Blk.mk false 70 7 (List.map eStay acc))]) else
  none else bif decide (IntKind.wrap IntKind.i64 ((↑k : Int) + (1 : Int)) < (↑(List.length (List.map eBeat l)) : Int)) then none else bif decide (IntKind.wrap IntKind.i64
  ((↑k : Int) + (1 : Int)) < (↑(List.length (List.map eBeat l)) : Int)) then none else bif decide (IntKind.wrap IntKind.i64 ((↑k : Int) + (1 : Int)) < (↑(List.length
  (List.map eBeat l)) : Int)) then none else bif bif (List.getD z k (Beat.mk (ByteArray.mk (Array.mk [])) (0 : Int) (0 : Int) (0 : Int) (0 : Int))).state != (5 : Int) then
  decide ((List.getD z k (Beat.mk (ByteArray.mk (Array.mk [])) (0 : Int) (0 : Int) (0 : Int) (0 : Int))).time < IntKind.wrap IntKind.i64 ((List.getD z k (Beat.mk
  (ByteArray.mk (Array.mk [])) (0 : Int) (0 : Int) (0 : Int) (0 : Int))).time + q)) else false then bif Nat.ble ((List.length (List.map eStay acc) + (1 : Nat)) * (64 : Nat))
  (140737488355328 : Nat) && true then some (Ex.normal, St.mk [(11, (vI (IntKind.wrap IntKind.i64 ((↑k : Int) + (1 : Int))))), (10, (vI (↑(List.length l) : Int))), (9, AV.sl
  (List.map eBeat l)), (5, .own 5), (1, (vI q)), (0, AV.sl (List.map eBeat l))] [(5, Blk.mk false 70 7 (List.map eStay acc ++ [[(vS (List.getD z k (Beat.mk (ByteArray.mk
  (Array.mk [])) (0 : Int) (0 : Int) (0 : Int) (0 : Int))).session), (vI (List.getD z k (Beat.mk (ByteArray.mk (Array.mk [])) (0 : Int) (0 : Int) (0 : Int) (0 : Int))).no),
  (vI (List.getD z k (Beat.mk (ByteArray.mk (Array.mk [])) (0 : Int) (0 : Int) (0 : Int) (0 : Int))).time), (vI (List.getD z k (Beat.mk (ByteArray.mk (Array.mk [])) (0 :
  Int) (0 : Int) (0 : Int) (0 : Int))).state), (vI (List.getD z k (Beat.mk (ByteArray.mk (Array.mk [])) (0 : Int) (0 : Int) (0 : Int) (0 : Int))).rate), (vI (List.getD z k
  (Beat.mk (ByteArray.mk (Array.mk [])) (0 : Int) (0 : Int) (0 : Int) (0 : Int))).time), (vI (IntKind.wrap IntKind.i64 ((List.getD z k (Beat.mk (ByteArray.mk (Array.mk []))
  (0 : Int) (0 : Int) (0 : Int) (0 : Int))).time + q)))]]))]) else none else some (Ex.normal, St.mk [(11, (vI (IntKind.wrap IntKind.i64 ((↑k : Int) + (1 : Int))))), (10, (vI
  (↑(List.length l) : Int))), (9, AV.sl (List.map eBeat l)), (5, .own 5), (1, (vI q)), (0, AV.sl (List.map eBeat l))] [(5, Blk.mk false 70 7 (List.map eStay acc))]) else bif
  decide (IntKind.wrap IntKind.i64 ((↑k : Int) + (1 : Int)) < (↑(List.length (List.map eBeat l)) : Int)) then none else bif decide (IntKind.wrap IntKind.i64 ((↑k : Int) + (1
  : Int)) < (↑(List.length (List.map eBeat l)) : Int)) then none else bif decide (IntKind.wrap IntKind.i64 ((↑k : Int) + (1 : Int)) < (↑(List.length (List.map eBeat l)) :
  Int)) then none else bif decide (IntKind.wrap IntKind.i64 ((↑k : Int) + (1 : Int)) < (↑(List.length (List.map eBeat l)) : Int)) then none else bif bif (List.getD z k
  (Beat.mk (ByteArray.mk (Array.mk [])) (0 : Int) (0 : Int) (0 : Int) (0 : Int))).state != (5 : Int) then decide ((List.getD z k (Beat.mk (ByteArray.mk (Array.mk [])) (0 :
  Int) (0 : Int) (0 : Int) (0 : Int))).time < IntKind.wrap IntKind.i64 ((List.getD z k (Beat.mk (ByteArray.mk (Array.mk [])) (0 : Int) (0 : Int) (0 : Int) (0 : Int))).time +
  q)) else false then bif Nat.ble ((List.length (List.map eStay acc) + (1 : Nat)) * (64 : Nat)) (140737488355328 : Nat) && true then some (Ex.normal, St.mk [(11, (vI
  (IntKind.wrap IntKind.i64 ((↑k : Int) + (1 : Int))))), (10, (vI (↑(List.length l) : Int))), (9, AV.sl (List.map eBeat l)), (5, .own 5), (1, (vI q)), (0, AV.sl (List.map
  eBeat l))] [(5, Blk.mk false 70 7 (List.map eStay acc ++ [[(vS (List.getD z k (Beat.mk (ByteArray.mk (Array.mk [])) (0 : Int) (0 : Int) (0 : Int) (0 : Int))).session), (vI
  (List.getD z k (Beat.mk (ByteArray.mk (Array.mk [])) (0 : Int) (0 : Int) (0 : Int) (0 : Int))).no), (vI (List.getD z k (Beat.mk (ByteArray.mk (Array.mk [])) (0 : Int) (0 :
  Int) (0 : Int) (0 : Int))).time), (vI (List.getD z k (Beat.mk (ByteArray.mk (Array.mk [])) (0 : Int) (0 : Int) (0 : Int) (0 : Int))).state), (vI (List.getD z k (Beat.mk
  (ByteArray.mk (Array.mk [])) (0 : Int) (0 : Int) (0 : Int) (0 : Int))).rate), (vI (List.getD z k (Beat.mk (ByteArray.mk (Array.mk [])) (0 : Int) (0 : Int) (0 : Int) (0 :
  Int))).time), (vI (IntKind.wrap IntKind.i64 ((List.getD z k (Beat.mk (ByteArray.mk (Array.mk [])) (0 : Int) (0 : Int) (0 : Int) (0 : Int))).time + q)))]]))]) else none
  else some (Ex.normal, St.mk [(11, (vI (IntKind.wrap IntKind.i64 ((↑k : Int) + (1 : Int))))), (10, (vI (↑(List.length l) : Int))), (9, AV.sl (List.map eBeat l)), (5, .own
  5), (1, (vI q)), (0, AV.sl (List.map eBeat l))] [(5, Blk.mk false 70 7 (List.map eStay acc))]) else none else some (Ex.exit (0 : Nat), St.mk [(5, .own 5)] [(5, Blk.mk
  false 70 7 (List.map eStay acc))]) := by kernel_rfl

theorem lpSty_ok (l : List Beat) (q : Int) (acc : List Stay) (k : Nat) (hp : prlSty l q acc k = true) : ∀ ex s', (outSty l q acc k).val = some (ex, s') → LoopOK enSty (loopN Try.f28 0) (stSty l q acc k) ex s' := by
  simp only [prlSty, Bool.and_eq_true, decide_eq_true_eq] at hp
  obtain ⟨⟨h1, h2⟩, h3⟩ := hp
  refine loop_foldS (xs := l) (st := fun a k => stSty l q a k) (f := F.stayS q) (fin := fun a => (.exit 0, ⟨[(5, .own 5)], [(5, ⟨false, 70, 7, a.map eStay⟩)]⟩)) (I := fun a k => a.length ≤ k) (n := ([11, 10, 9, 5, 1, 0], [5])) (e := ([5], [5])) (r := ([], [])) ?_ (fun _ => ⟨by simp, rfl⟩) (fun _ _ => rfl) ?_ acc k h2 h3
  · intro acc _
    rw [evStyL]; simp
  · intro acc k y hy hI
    have hlt := lt_at hy
    have hroom : Nat.ble ((acc.length + 1) * 64) 140737488355328 = true := ble_t (by omega)
    refine ⟨?_, by have := F.stayS_len q acc y (l.drop (k + 1)); omega⟩
    have hn1 : IntKind.i64.wrap ((k : Int) + 1) = ((k + 1 : Nat) : Int) := next_at hlt (by omega)
    rw [evStyL]
    by_cases hlast : k + 1 < l.length
    · have hn : l[k + 1]? = some l[k + 1] := List.getElem?_eq_getElem hlast
      generalize l[k + 1] = z at hn
      rw [drop_at hn]
      simp only [unstSty, unstSty0, prlSty, outSty, etaBeat, etaSpan, etaHole, etaLevel, etaFigs, etaRatio, etaRep, etaStay, Option.bind_some, List.length_map, unStrs, unInts, unBools, uneL_eIs, unBeats, uneL_eBeats, unSpans, unHoles, unLevels, unFigss, unRatios, unReps, unStays, F.lt, F.le, cond_true, cond_false, Bool.and_true, Bool.true_and, cast_lt hlt, cast_lt hlast, decide_eq_true hlt, decide_eq_true hlast, hn1, getD_at hy, getD_at hn, stSty, hroom, idx, F.stayS, F.endB, appWStays]
      rcases Bool.eq_false_or_eq_true (z.session.toList == y.session.toList) with hs | hs <;> simp only [hs, cond_true, cond_false] <;> cases (y.state != 5) <;> simp only [cond_true, cond_false, Bool.true_and, Bool.false_and]
      · by_cases h : y.time < min (IntKind.i64.wrap (y.time + q)) z.time <;> simp only [h, decide_true, decide_false, cond_true, cond_false]
      · by_cases h : y.time < IntKind.i64.wrap (y.time + q) <;> simp only [h, decide_true, decide_false, cond_true, cond_false]
    · have hd : l.drop (k + 1) = [] := List.drop_eq_nil_of_le (by omega)
      have hno : decide (((k + 1 : Nat) : Int) < (l.length : Int)) = false := decide_eq_false (by omega)
      rw [hd]
      simp only [unstSty, unstSty0, prlSty, outSty, etaBeat, etaSpan, etaHole, etaLevel, etaFigs, etaRatio, etaRep, etaStay, Option.bind_some, List.length_map, unStrs, unInts, unBools, uneL_eIs, unBeats, uneL_eBeats, unSpans, unHoles, unLevels, unFigss, unRatios, unReps, unStays, F.lt, F.le, cond_true, cond_false, Bool.and_true, Bool.true_and, cast_lt hlt, hno, decide_eq_true hlt, hn1, getD_at hy, stSty, hroom, F.stayS, F.endB, appWStays]
      cases (y.state != 5) <;> simp only [cond_true, cond_false, Bool.true_and, Bool.false_and]
      by_cases h : y.time < IntKind.i64.wrap (y.time + q) <;> simp only [h, decide_true, decide_false, cond_true, cond_false]

theorem evSty (l : List Beat) (q : Int) : (runF enSty false Try.f28 [.sl (l.map eBeat), vI q]).val =
  Option.bind (unenc stSty1 (St.mk [(11, (vI (0 : Int))), (10, (vI (↑(List.length (List.map eBeat l)) : Int))), (9, AV.sl (List.map eBeat l)), (5, .own 5), (1, (vI q)), (0,
  AV.sl (List.map eBeat l))] [(5, Blk.mk false 70 7 [])])) fun (z : List Beat × Int × List Stay × Nat) => bif decide (List.length z.fst ≤ (3000 : Nat)) && decide
  (z.snd.snd.snd ≤ List.length z.fst) && decide (List.length z.snd.snd.fst ≤ z.snd.snd.snd) && true then some (AV.sl (List.map eStay (F.staysA z.snd.fst z.snd.snd.fst
  (List.drop z.snd.snd.snd z.fst))), []) else none := by kernel_rfl

def encSty1 (l : List Beat) (q : Int) : List AV := [.sl (l.map eBeat), vI q]

def encSty (a : (List Beat) × Int) : List AV := encSty1 a.1 a.2

theorem encSty_inj (a a' : (List Beat) × Int) (h : encSty a = encSty a') : a = a' := by
  simp only [encSty, encSty1] at h
  try simp [strs_inj, ints_inj, bools_inj, eL_eIs_inj, eBeats_inj, eBeat_iff, eL_eBeats_inj, eSpans_inj, eSpan_iff, eHoles_inj, eHole_iff, eLevels_inj, eLevel_iff, eFigss_inj, eFigs_iff, eRatios_inj, eRatio_iff, eReps_inj, eRep_iff, eStays_inj, eStay_iff] at h
  grind

theorem unSty (l : List Beat) (q : Int) : unenc encSty ([AV.sl (List.map eBeat l), (vI q)]) = some (l, q) := unenc_of encSty_inj (l, q) rfl

def resSty1 (l : List Beat) (q : Int) : AV × Heap := (.sl ((F.stays q l).map eStay), [])

def preSty1 (l : List Beat) (q : Int) : Bool := decide (l.length ≤ 3000)

noncomputable def oSty : Orc := orc 28 false encSty (fun a => preSty1 a.1 a.2) fun a => resSty1 a.1 a.2

theorem okSty : OrcOK Try.prog noG oSty := by
  refine mk_ok Try.f28 (keep := false) (by kernel_rfl) (by kernel_rfl) enSty_ok mixed (one_loop (x0 := loopN Try.f28 0) (by kernel_rfl) (lpo_ok ?_)) (by first | exact fun _ _ => ⟨rfl, rfl⟩ | (intro h; cases h)) ?_
  · rintro ⟨l, q, acc, k⟩ hp
    exact lpSty_ok l q acc k hp
  rintro ⟨l, q⟩ hpre hok
  show (runF enSty false _ (encSty1 _ _)).val = some (resSty1 _ _)
  unfold encSty1 resSty1
  rw [evSty]
  simp only [preSty1, decide_eq_true_eq] at hpre
  simp only [unstSty, unstSty0, prlSty, outSty, etaBeat, etaSpan, etaHole, etaLevel, etaFigs, etaRatio, etaRep, etaStay, Option.bind_some, List.length_map, unStrs, unInts, unBools, uneL_eIs, unBeats, uneL_eBeats, unSpans, unHoles, unLevels, unFigss, unRatios, unReps, unStays, F.lt, F.le, cond_true, cond_false, Bool.and_true, Bool.true_and, List.drop_zero, Nat.zero_le, decide_true, F.stays, List.length_nil, List.map_nil, hpre]

noncomputable def enAddS : Env := envH ty noG lks [] [] [900] []

theorem enAddS_ok : EnvOK Try.prog enAddS := by
  refine envH_ok lks_ok ty_ok ?_ ?_
  · simp
  · simp

def encAddS1 (l : List Span) (s : Span) : List AV × Heap := ([.own 900, .agg (eSpan s)], [(900, ⟨false, 24, 2, l.map eSpan⟩)])

def encAddS (a : (List Span) × Span) : List AV × Heap := encAddS1 a.1 a.2

theorem encAddS_inj (a a' : (List Span) × Span) (h : encAddS a = encAddS a') : a = a' := by
  simp only [encAddS, encAddS1] at h
  try simp [strs_inj, ints_inj, bools_inj, eL_eIs_inj, eBeats_inj, eBeat_iff, eL_eBeats_inj, eSpans_inj, eSpan_iff, eHoles_inj, eHole_iff, eLevels_inj, eLevel_iff, eFigss_inj, eFigs_iff, eRatios_inj, eRatio_iff, eReps_inj, eRep_iff, eStays_inj, eStay_iff] at h
  grind

theorem unAddS (l : List Span) (s : Span) : unenc encAddS (([.own 900, AV.agg [(vI s.fr), (vI s.to)]], [(900, Blk.mk false 24 2 (List.map eSpan l))])) = some (l, s) := unenc_of encAddS_inj (l, s) rfl

theorem unAddSw (l : List Span) (s_fr : Int) (s_to : Int) : unenc encAddS (([.own 900, AV.agg [(vI s_fr), (vI s_to)]], [(900, Blk.mk false 24 2 (List.map eSpan l))])) = some (l, (Span.mk s_fr s_to)) := unenc_of encAddS_inj (l, (Span.mk s_fr s_to)) rfl

def resAddS1 (l : List Span) (s : Span) : AV × Heap × List Nat := (.own 900, [(900, ⟨false, 24, 2, (F.addSpan l s).map eSpan⟩)], [900])

def preAddS1 (l : List Span) (s : Span) : Bool := decide (l.length ≤ 100000)

end M
end Go.Proofs.Ytnkaadiofjoacaa
