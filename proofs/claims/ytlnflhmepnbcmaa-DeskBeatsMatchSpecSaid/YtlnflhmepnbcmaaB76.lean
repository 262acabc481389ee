/- What is proved here: what Missing returns on plain data, of the program and of the reference (no statement of the seat). -/
import Derived.Test.YtlnflhmepnbcmaaB74
import Derived.Test.YtlnflhmepnbcmaaB3
namespace Go.Proofs.Ytlnflhmepnbcmaa
open Go Go.RowKit
set_option linter.unusedVariables false
set_option linter.unusedSimpArgs false
set_option maxHeartbeats 1000000

namespace F

/-- The number that is next behind a beat. -/
def nxt (p : Option Beat) (b : Beat) : Int := match p with
  | none => 1
  | some o => bif F.seq o.session b.session then o.no + 1 else 1

def missAt (p : Option Beat) (b : Beat) : List Hole := bif decide (nxt p b < b.no) then [⟨b.session, nxt p b, b.no⟩] else []

theorem missAt_some (o y : Beat) : missAt (some o) y = bif o.session.toList == y.session.toList then (bif decide (o.no + 1 < y.no) then [⟨y.session, o.no + 1, y.no⟩] else []) else (bif decide (1 < y.no) then [⟨y.session, 1, y.no⟩] else []) := by
  have key : ∀ b : Bool, (bif decide ((bif b then o.no + 1 else 1) < y.no) then [(⟨y.session, (bif b then o.no + 1 else 1), y.no⟩ : Hole)] else []) = bif b then (bif decide (o.no + 1 < y.no) then [⟨y.session, o.no + 1, y.no⟩] else []) else (bif decide (1 < y.no) then [⟨y.session, 1, y.no⟩] else []) := fun b => by cases b <;> rfl
  exact key _

def miss (p : Option Beat) : List Beat → List Hole
  | [] => []
  | b :: r => missAt p b ++ miss (some b) r

def nxL (l : List Beat) : Nat → Int
  | 0 => 1
  | k + 1 => (l.getD k default).no + 1

def missing (l : List Beat) : List Hole × Int := bif checkB l != 0 then ([], checkB l) else (miss none l, 0)

theorem missAt_len (p : Option Beat) (b : Beat) : (missAt p b).length ≤ 1 := by
  unfold missAt
  cases decide (nxt p b < b.no) <;> simp

end F

namespace M

def stMs (l : List Beat) (k : Nat) (n : Int) (out : List Hole) : St := ⟨[(16, vI k), (15, vI l.length), (14, .sl (l.map eBeat)), (6, vI n), (5, .own 5), (0, .sl (l.map eBeat))], [(5, ⟨false, 35, 3, out.map eHole⟩)]⟩

def stMs1 (a : (List Beat) × Nat × Int × (List Hole)) : St := stMs a.1 a.2.1 a.2.2.1 a.2.2.2

theorem stMs_inj (a a' : (List Beat) × Nat × Int × (List Hole)) (h : stMs1 a = stMs1 a') : a = a' := by
  simp only [stMs1, stMs] at h
  try simp [strs_inj, ints_inj, bools_inj, eBeats_inj, eBeat_iff, eL_eBeats_inj, eSpans_inj, eSpan_iff, eHoles_inj, eHole_iff, eLevels_inj, eLevel_iff, eFigss_inj, eFigs_iff, eRatios_inj, eRatio_iff, eReps_inj, eRep_iff, eStays_inj, eStay_iff] at h
  grind

theorem unstMs (l : List Beat) (k : Nat) (n : Int) (out : List Hole) : unenc stMs1 (St.mk [(16, (vI (↑k : Int))), (15, (vI (↑(List.length l) : Int))), (14, AV.sl (List.map eBeat l)), (6, (vI n)), (5, .own 5), (0, AV.sl (List.map eBeat l))] [(5, Blk.mk
  false 35 3 (List.map eHole out))]) = some (l, k, n, out) := unenc_of stMs_inj (l, k, n, out) rfl

theorem unstMs0 (l : List Beat)  : unenc stMs1 (St.mk [(16, (vI (0 : Int))), (15, (vI (↑(List.length l) : Int))), (14, AV.sl (List.map eBeat l)), (6, (vI (1 : Int))), (5, .own 5), (0, AV.sl (List.map eBeat l))] [(5,
  Blk.mk false 35 3 [])]) = some (l, 0, 1, []) := unenc_of stMs_inj (l, 0, 1, []) rfl

def outMs (l : List Beat) (k : Nat) (n : Int) (out : List Hole) : T (Ex × St) := .ret (.exit 0, ⟨[(5, .own 5)], [(5, ⟨false, 35, 3, (out ++ F.miss (F.prev l k) (l.drop k)).map eHole⟩)]⟩)

noncomputable def prlMs (l : List Beat) (k : Nat) (n : Int) (out : List Hole) : Bool := decide (l.length ≤ 3000 ∧ k ≤ l.length ∧ out.length ≤ k ∧ n = F.nxL l k) && l.all F.okN

noncomputable def lpMs : Nat × (St → T (Ex × St)) := (7, lpo [16, 15, 14, 6, 5, 0] [5] stMs1 (fun a => prlMs a.1 a.2.1 a.2.2.1 a.2.2.2) fun a => outMs a.1 a.2.1 a.2.2.1 a.2.2.2)

noncomputable def enMs : Env := envH ty noG lks [oChb] [] [] [lpMs]

theorem enMs_ok : EnvOK Try.prog enMs := by
  refine envH_ok lks_ok ty_ok ?_ ?_
  · simp only [List.forall_mem_cons]
    exact ⟨okChb, by simp⟩
  · simp

theorem miss_step {l : List Beat} {k : Nat} {y : Beat} (h : l[k]? = some y) (out : List Hole) : out ++ F.miss (F.prev l k) (l.drop k) = (out ++ F.missAt (F.prev l k) y) ++ F.miss (F.prev l (k + 1)) (l.drop (k + 1)) := by
  rw [dropAt h, List.append_assoc]
  show out ++ (F.missAt (F.prev l k) y ++ F.miss (some y) _) = out ++ (F.missAt (F.prev l k) y ++ F.miss l[k]? _)
  rw [h]

theorem evMsL (l : List Beat) (k : Nat) (n : Int) (out : List Hole) : ((exec enMs (loopN Try.f10 0) (stMs l k n out)).bind (lessX ([16, 15, 14, 6, 5, 0], [5]) ([5], [5]) ([], []))).val =
  bif decide ((↑k : Int) < (↑(List.length l) : Int)) then Option.bind (unenc (List.map eBeat) (List.map eBeat l)) fun (z : List Beat) => bif decide (k < List.length z) then
  bif decide ((0 : Int) < (↑k : Int)) then Option.bind (idx (IntKind.wrap IntKind.i64 ((↑k : Int) - (1 : Int)))) fun (z_1 : Nat) => Option.bind (unenc (List.map eBeat)
  (List.map eBeat l)) fun (z_2 : List Beat) => bif decide (z_1 < List.length z_2) then bif !ByteArray.toList (List.getD z_2 z_1 (Beat.mk (ByteArray.mk (Array.mk [])) (0 :
  Int) (0 : Int) (0 : Int) (0 : Int))).session == ByteArray.toList (List.getD z k (Beat.mk (ByteArray.mk (Array.mk [])) (0 : Int) (0 : Int) (0 : Int) (0 : Int))).session
  then bif decide ((1 : Int) < (List.getD z k (Beat.mk (ByteArray.mk (Array.mk [])) (0 : Int) (0 : Int) (0 : Int) (0 : Int))).no) then bif Nat.ble ((List.length (List.map
  eHole out) + (1 : Nat)) * (32 : Nat)) (140737488355328 : Nat) && true then some (Ex.normal, St.mk [(16, (vI (IntKind.wrap IntKind.i64 ((↑k : Int) + (1 : Int))))), (15, (vI
  (↑(List.length l) : Int))), (14, AV.sl (List.map eBeat l)), (6, (vI (IntKind.wrap IntKind.i64 ((List.getD z k (Beat.mk (ByteArray.mk (Array.mk [])) (0 : Int) (0 : Int) (0
  : Int) (0 : Int))).no + (1 : Int))))), (5, .own 5), (0, AV.sl (List.map eBeat l))] [(5, Blk.mk false 35 3 (List.map eHole out ++ [[(vS (List.getD z k (Beat.mk
  (ByteArray.mk (Array.mk [])) (0 : Int) (0 : Int) (0 : Int) (0 : Int))).session), (vI (1 : Int)), (vI (List.getD z k (Beat.mk (ByteArray.mk (Array.mk [])) (0 : Int) (0 :
  Int) (0 : Int) (0 : Int))).no)]]))]) else none else some (Ex.normal, St.mk [(16, (vI (IntKind.wrap IntKind.i64 ((↑k : Int) + (1 : Int))))), (15, (vI (↑(List.length l) :
  Int))), (14, AV.sl (List.map eBeat l)), (6, (vI (IntKind.wrap IntKind.i64 ((List.getD z k (Beat.mk (ByteArray.mk (Array.mk [])) (0 : Int) (0 : Int) (0 : Int) (0 :
  Int))).no + (1 : Int))))), (5, .own 5), (0, AV.sl (List.map eBeat l))] [(5, Blk.mk false 35 3 (List.map eHole out))]) else bif decide (n < (List.getD z k (Beat.mk
  (ByteArray.mk (Array.mk [])) (0 : Int) (0 : Int) (0 : Int) (0 : Int))).no) then bif Nat.ble ((List.length (List.map eHole out) + (1 : Nat)) * (32 : Nat)) (140737488355328
  : Nat) && true then some (Ex.normal, St.mk [(16, (vI (IntKind.wrap IntKind.i64 ((↑k : Int) + (1 : Int))))), (15, (vI (↑(List.length l) : Int))), (14, AV.sl (List.map eBeat
  l)), (6, (vI (IntKind.wrap IntKind.i64 ((List.getD z k (Beat.mk (ByteArray.mk (Array.mk [])) (0 : Int) (0 : Int) (0 : Int) (0 : Int))).no + (1 : Int))))), (5, .own 5), (0,
  AV.sl (List.map eBeat l))] [(5, Blk.mk false 35 3 (List.map eHole out ++ [[(vS (List.getD z k (Beat.mk (ByteArray.mk (Array.mk [])) (0 : Int) (0 : Int) (0 : Int) (0 :
  Int))).session), (vI n), (vI (List.getD z k (Beat.mk (ByteArray.mk (Array.mk [])) (0 : Int) (0 : Int) (0 : Int) (0 : Int))).no)]]))]) else none else some (Ex.normal, St.mk
  [(16, (vI (IntKind.wrap IntKind.i64 ((↑k : Int) + (1 : Int))))), (15, (vI (↑(List.length l) : Int))), (14, AV.sl (List.map eBeat l)), (6, (vI (IntKind.wrap IntKind.i64
  ((List.getD z k (Beat.mk (ByteArray.mk (Array.mk [])) (0 : Int) (0 : Int) (0 : Int) (0 : Int))).no + (1 : Int))))), (5, .own 5), (0, AV.sl (List.map eBeat l))] [(5, Blk.mk
  false 35 3 (List.map eHole out))]) else none else bif decide (n < (List.getD z k (Beat.mk (ByteArray.mk (Array.mk [])) (0 : Int) (0 : Int) (0 : Int) (0 : Int))).no) then
  bif Nat.ble ((List.length (List.map eHole out) + (1 : Nat)) * (32 : Nat)) (140737488355328 : Nat) && true then some (Ex.normal, St.mk [(16, (vI (IntKind.wrap IntKind.i64
  ((↑k : Int) + (1 : Int))))), (15, (vI (↑(List.length l) : Int))), (14, AV.sl (List.map eBeat l)), (6, (vI (IntKind.wrap IntKind.i64 ((List.getD z k (Beat.mk (ByteArray.mk
  (Array.mk [])) (0 : Int) (0 : Int) (0 : Int) (0 : Int))).no + (1 : Int))))), (5, .own 5), (0, AV.sl (List.map eBeat l))] [(5, Blk.mk false 35 3 (List.map eHole out ++
  [[(vS (List.getD z k (Beat.mk (ByteArray.mk (Array.mk [])) (0 : Int) (0 : Int) (0 : Int) (0 : Int))).session), (vI n), (vI (List.getD z k (Beat.mk (ByteArray.mk (Array.mk
  [])) (0 : Int) (0 : Int) (0 : Int) (0 : Int))).no)]]))]) else none else some (Ex.normal, St.mk [(16, (vI (IntKind.wrap IntKind.i64 ((↑k : Int) + (1 : Int))))), (15, (vI
  (↑(List.length l) : Int))), (14, AV.sl (List.map eBeat l)), (6, (vI (IntKind.wrap IntKind.i64 ((List.getD z k (Beat.mk (ByteArray.mk (Array.mk [])) (0 : Int) (0 : Int) (0
  : Int) (0 : Int))).no + (1 : Int))))), (5, .own 5), (0, AV.sl (List.map eBeat l))] [(5, Blk.mk false 35 3 (List.map eHole out))]) else none else some (Ex.exit (0 : Nat),
  St.mk [(5, .own 5)] [(5, Blk.mk false 35 3 (List.map eHole out))]) := (execR_bind _ _ _).symm.trans (by kernel_rfl)

theorem lpMs_ok (l : List Beat) (k : Nat) (n : Int) (out : List Hole) (hp : prlMs l k n out = true) : ∀ ex s', (outMs l k n out).val = some (ex, s') → LoopOK enMs (loopN Try.f10 0) (stMs l k n out) ex s' := by
  simp only [prlMs, Bool.and_eq_true, decide_eq_true_eq] at hp
  obtain ⟨⟨h1, h2, h3, h4⟩, h5⟩ := hp
  refine loop_gen (st := fun s : Nat × Int × List Hole => stMs l s.1 s.2.1 s.2.2) (out := fun s => outMs l s.1 s.2.1 s.2.2) (I := fun s => s.1 ≤ l.length ∧ s.2.2.length ≤ s.1 ∧ s.2.1 = F.nxL l s.1) (n := ([16, 15, 14, 6, 5, 0], [5])) (e := ([5], [5])) (r := ([], [])) (fun s => l.length - s.1) ?_ (k, n, out) ⟨h2, h3, h4⟩
  rintro ⟨k, n, out⟩ ⟨h2, h3, h4⟩
  simp only at h2 h3 h4
  by_cases hlt : k < l.length
  · right
    obtain ⟨y, hy⟩ := at_lt hlt
    have hn : 1 ≤ y.no ∧ y.no ≤ 3000 := of_decide_eq_true (List.all_eq_true.1 h5 y (List.mem_of_getElem? hy))
    have hw : IntKind.i64.wrap (y.no + 1) = y.no + 1 := wrap_id (by omega) (by omega)
    have hbl : Nat.ble ((out.length + 1) * 32) 140737488355328 = true := ble_t (by omega)
    have hml := F.missAt_len (F.prev l k) y
    refine ⟨(k + 1, y.no + 1, out ++ F.missAt (F.prev l k) y), ?_, rfl, ⟨hlt, by rw [List.length_append]; omega, by simp only [F.nxL, getD_at hy]⟩, by simp only; omega, ?_⟩
    · rw [evMsL]
      cases k with
      | zero =>
        have h0 : decide ((0 : Int) < ((0 : Nat) : Int)) = false := rfl
        have hn1 : n = 1 := h4
        subst hn1
        have hm : F.missAt (F.prev l 0) y = bif decide (1 < y.no) then [⟨y.session, 1, y.no⟩] else [] := rfl
        rw [hm]
        simp only [unChb, preChb1, unstMs, unstMs0, prlMs, outMs, etaBeat, etaSpan, etaHole, etaLevel, etaFigs, etaRatio, etaRep, etaStay, Option.bind_some, List.length_map, unStrs, unInts, unBools, unBeats, uneL_eBeats, unSpans, unHoles, unLevels, unFigss, unRatios, unReps, unStays, F.lt, F.le, cond_true, cond_false, Bool.and_true, Bool.true_and, cast_lt hlt, decide_eq_true hlt, getD_at hy, h0, hw, hbl, w_add1 (show 0 < 9223372036854775807 by omega), appWHoles, stMs]
        cases decide (1 < y.no)
        · simp only [cond_false, List.append_nil]
        · simp only [cond_true]
      | succ j =>
        obtain ⟨z, hz⟩ := at_lt (show j < l.length by omega)
        have h0 : decide ((0 : Int) < ((j + 1 : Nat) : Int)) = true := decide_eq_true (by omega)
        have hn1 : n = z.no + 1 := by rw [h4]; simp only [F.nxL, getD_at hz]
        subst hn1
        have hm : F.missAt (F.prev l (j + 1)) y = F.missAt (some z) y := by
          show F.missAt l[j]? y = _
          rw [hz]
        rw [hm, F.missAt_some]
        simp only [unChb, preChb1, unstMs, unstMs0, prlMs, outMs, etaBeat, etaSpan, etaHole, etaLevel, etaFigs, etaRatio, etaRep, etaStay, Option.bind_some, List.length_map, unStrs, unInts, unBools, unBeats, uneL_eBeats, unSpans, unHoles, unLevels, unFigss, unRatios, unReps, unStays, F.lt, F.le, cond_true, cond_false, Bool.and_true, Bool.true_and, cast_lt hlt, decide_eq_true hlt, getD_at hy, h0, w_sub1 (show 1 ≤ j + 1 by omega) (show j + 1 ≤ 9223372036854775807 by omega), Nat.add_sub_cancel, idxN, decide_eq_true (lt_at hz), getD_at hz, hw, hbl, w_add1 (show j + 1 < 9223372036854775807 by omega), appWHoles, stMs]
        cases (z.session.toList == y.session.toList)
        · simp only [cond_false, Bool.not_false, cond_true]
          cases decide (1 < y.no)
          · simp only [cond_false, List.append_nil]
          · simp only [cond_true]
        · simp only [cond_false, Bool.not_true, cond_true]
          cases decide (z.no + 1 < y.no)
          · simp only [cond_false, List.append_nil]
          · simp only [cond_true]
    · simp only [outMs, miss_step hy]
  · have : k = l.length := by omega
    subst this
    left
    refine ⟨_, ?_, rfl, by simp, rfl⟩
    rw [evMsL]
    simp only [cast_ge, cond_false, List.drop_length, F.miss, List.append_nil]

theorem evMs (l : List Beat) : (runF enMs false Try.f10 [.sl (l.map eBeat)]).val =
  Option.bind (unenc encChb [AV.sl (List.map eBeat l)]) fun (z : List Beat) => bif F.checkB z != (0 : Int) then some (AV.tup [AV.sl [], (vI (F.checkB z))], []) else
  Option.bind (unenc stMs1 (St.mk [(16, (vI (0 : Int))), (15, (vI (↑(List.length (List.map eBeat l)) : Int))), (14, AV.sl (List.map eBeat l)), (6, (vI (1 : Int))), (5, .own
  5), (0, AV.sl (List.map eBeat l))] [(5, Blk.mk false 35 3 [])])) fun (z : List Beat × Nat × Int × List Hole) => bif decide (List.length z.fst ≤ (3000 : Nat) ∧ z.snd.fst ≤
  List.length z.fst ∧ List.length z.snd.snd.snd ≤ z.snd.fst ∧ z.snd.snd.fst = F.nxL z.fst z.snd.fst) && List.all z.fst F.okN && true then some (AV.tup [AV.sl (List.map eHole
  (z.snd.snd.snd ++ F.miss (F.prev z.fst z.snd.fst) (List.drop z.snd.fst z.fst))), (vI (0 : Int))], []) else none := (runFR_val).symm.trans (by kernel_rfl)

def encMs1 (l : List Beat) : List AV := [.sl (l.map eBeat)]

def encMs (a : (List Beat)) : List AV := encMs1 a

theorem encMs_inj (a a' : (List Beat)) (h : encMs a = encMs a') : a = a' := by
  simp only [encMs, encMs1] at h
  try simp [strs_inj, ints_inj, bools_inj, eBeats_inj, eBeat_iff, eL_eBeats_inj, eSpans_inj, eSpan_iff, eHoles_inj, eHole_iff, eLevels_inj, eLevel_iff, eFigss_inj, eFigs_iff, eRatios_inj, eRatio_iff, eReps_inj, eRep_iff, eStays_inj, eStay_iff] at h
  grind

theorem unMs (l : List Beat) : unenc encMs ([AV.sl (List.map eBeat l)]) = some (l) := unenc_of encMs_inj (l) rfl

def resMs1 (l : List Beat) : AV × Heap := (.tup [.sl ((F.missing l).1.map eHole), vI (F.missing l).2], [])

def preMs1 (l : List Beat) : Bool := true

noncomputable def oMs : Orc := orc 10 false encMs (fun a => preMs1 a) fun a => resMs1 a

theorem okMs : OrcOK Try.prog noG oMs := by
  refine mk_ok Try.f10 (keep := false) (by kernel_rfl) (by kernel_rfl) enMs_ok mixed (one_loop (x0 := loopN Try.f10 0) (by kernel_rfl) (lpo_ok ?_)) (by first | exact fun _ _ => ⟨rfl, rfl⟩ | (intro h; cases h)) ?_
  · rintro ⟨l, k, n, out⟩ hp
    exact lpMs_ok l k n out hp
  rintro l hpre hok
  show (runF enMs false _ (encMs1 _)).val = some (resMs1 _)
  unfold encMs1 resMs1
  rw [evMs]
  simp only [unChb, preChb1, unstMs, unstMs0, prlMs, outMs, etaBeat, etaSpan, etaHole, etaLevel, etaFigs, etaRatio, etaRep, etaStay, Option.bind_some, List.length_map, unStrs, unInts, unBools, unBeats, uneL_eBeats, unSpans, unHoles, unLevels, unFigss, unRatios, unReps, unStays, F.lt, F.le, cond_true, cond_false, Bool.and_true, Bool.true_and, F.missing]
  by_cases h1 : F.checkB l = 0
  case neg => rw [bne1 h1]; rfl
  rw [bne0 h1]
  have q1 : l.length ≤ 3000 ∧ 0 ≤ l.length ∧ ([] : List Hole).length ≤ 0 ∧ 1 = F.nxL l 0 := ⟨F.check_len h1, Nat.zero_le _, Nat.le_refl _, rfl⟩
  simp only [cond_false, unstMs0, Option.bind_some]
  rw [decide_eq_true q1, F.check_okN h1]
  rfl

def stRMs (l : List Beat) (k : Nat) (out : List Hole) : St := ⟨[(16, vI k), (15, vI l.length), (14, .sl (l.map eBeat)), (5, .own 5), (0, .sl (l.map eBeat))], [(5, ⟨false, 35, 3, out.map eHole⟩)]⟩

def stRMs1 (a : (List Beat) × Nat × (List Hole)) : St := stRMs a.1 a.2.1 a.2.2

theorem stRMs_inj (a a' : (List Beat) × Nat × (List Hole)) (h : stRMs1 a = stRMs1 a') : a = a' := by
  simp only [stRMs1, stRMs] at h
  try simp [strs_inj, ints_inj, bools_inj, eBeats_inj, eBeat_iff, eL_eBeats_inj, eSpans_inj, eSpan_iff, eHoles_inj, eHole_iff, eLevels_inj, eLevel_iff, eFigss_inj, eFigs_iff, eRatios_inj, eRatio_iff, eReps_inj, eRep_iff, eStays_inj, eStay_iff] at h
  grind

theorem unstRMs (l : List Beat) (k : Nat) (out : List Hole) : unenc stRMs1 (St.mk [(16, (vI (↑k : Int))), (15, (vI (↑(List.length l) : Int))), (14, AV.sl (List.map eBeat l)), (5, .own 5), (0, AV.sl (List.map eBeat l))] [(5, Blk.mk false 35 3
  (List.map eHole out))]) = some (l, k, out) := unenc_of stRMs_inj (l, k, out) rfl

theorem unstRMs0 (l : List Beat)  : unenc stRMs1 (St.mk [(16, (vI (0 : Int))), (15, (vI (↑(List.length l) : Int))), (14, AV.sl (List.map eBeat l)), (5, .own 5), (0, AV.sl (List.map eBeat l))] [(5, Blk.mk false 35 3 [])]) = some (l, 0, []) := unenc_of stRMs_inj (l, 0, []) rfl

def outRMs (l : List Beat) (k : Nat) (out : List Hole) : T (Ex × St) := .ret (.exit 0, ⟨[(5, .own 5)], [(5, ⟨false, 35, 3, (out ++ F.miss (F.prev l k) (l.drop k)).map eHole⟩)]⟩)

noncomputable def prlRMs (l : List Beat) (k : Nat) (out : List Hole) : Bool := decide (l.length ≤ 3000 ∧ k ≤ l.length ∧ out.length ≤ k) && l.all F.okN

noncomputable def lpRMs : Nat × (St → T (Ex × St)) := (6, lpo [16, 15, 14, 5, 0] [5] stRMs1 (fun a => prlRMs a.1 a.2.1 a.2.2) fun a => outRMs a.1 a.2.1 a.2.2)

noncomputable def enRMs : Env := envH ty noG lks [oRhb] [] [] [lpRMs]

theorem enRMs_ok : EnvOK Try.prog enRMs := by
  refine envH_ok lks_ok ty_ok ?_ ?_
  · simp only [List.forall_mem_cons]
    exact ⟨okRhb, by simp⟩
  · simp

theorem evRMsL (l : List Beat) (k : Nat) (out : List Hole) : ((exec enRMs (loopN Try.f11 0) (stRMs l k out)).bind (lessX ([16, 15, 14, 5, 0], [5]) ([5], [5]) ([], []))).val =
  bif decide ((↑k : Int) < (↑(List.length l) : Int)) then Option.bind (unenc (List.map eBeat) (List.map eBeat l)) fun (z : List Beat) => bif decide (k < List.length z) then
  bif decide ((0 : Int) < (↑k : Int)) then Option.bind (idx (IntKind.wrap IntKind.i64 ((↑k : Int) - (1 : Int)))) fun (z_1 : Nat) => Option.bind (unenc (List.map eBeat)
  (List.map eBeat l)) fun (z_2 : List Beat) => bif decide (z_1 < List.length z_2) then bif ByteArray.toList (List.getD z_2 z_1 (Beat.mk (ByteArray.mk (Array.mk [])) (0 :
  Int) (0 : Int) (0 : Int) (0 : Int))).session == ByteArray.toList (List.getD z k (Beat.mk (ByteArray.mk (Array.mk [])) (0 : Int) (0 : Int) (0 : Int) (0 : Int))).session
  then Option.bind (idx (IntKind.wrap IntKind.i64 ((↑k : Int) - (1 : Int)))) fun (z_3 : Nat) => Option.bind (unenc (List.map eBeat) (List.map eBeat l)) fun (z_4 : List Beat)
  => bif decide (z_3 < List.length z_4) then bif decide (IntKind.wrap IntKind.i64 ((List.getD z_4 z_3 (Beat.mk (ByteArray.mk (Array.mk [])) (0 : Int) (0 : Int) (0 : Int) (0
  : Int))).no + (1 : Int)) < (List.getD z k (Beat.mk (ByteArray.mk (Array.mk [])) (0 : Int) (0 : Int) (0 : Int) (0 : Int))).no) then bif Nat.ble ((List.length (List.map
  eHole out) + (1 : Nat)) * (32 : Nat)) (140737488355328 : Nat) && true then some (Ex.normal, St.mk [(16, (vI (IntKind.wrap IntKind.i64 ((↑k : Int) + (1 : Int))))), (15, (vI
  (↑(List.length l) : Int))), (14, AV.sl (List.map eBeat l)), (5, .own 5), (0, AV.sl (List.map eBeat l))] [(5, Blk.mk false 35 3 (List.map eHole out ++ [[(vS (List.getD z k
  (Beat.mk (ByteArray.mk (Array.mk [])) (0 : Int) (0 : Int) (0 : Int) (0 : Int))).session), (vI (IntKind.wrap IntKind.i64 ((List.getD z_4 z_3 (Beat.mk (ByteArray.mk
  (Array.mk [])) (0 : Int) (0 : Int) (0 : Int) (0 : Int))).no + (1 : Int)))), (vI (List.getD z k (Beat.mk (ByteArray.mk (Array.mk [])) (0 : Int) (0 : Int) (0 : Int) (0 :
  Int))).no)]]))]) else none else some (Ex.normal, St.mk [(16, (vI (IntKind.wrap IntKind.i64 ((↑k : Int) + (1 : Int))))), (15, (vI (↑(List.length l) : Int))), (14, AV.sl
  (List.map eBeat l)), (5, .own 5), (0, AV.sl (List.map eBeat l))] [(5, Blk.mk false 35 3 (List.map eHole out))]) else none else bif decide ((1 : Int) < (List.getD z k
  (Beat.mk (ByteArray.mk (Array.mk [])) (0 : Int) (0 : Int) (0 : Int) (0 : Int))).no) then bif Nat.ble ((List.length (List.map eHole out) + (1 : Nat)) * (32 : Nat))
  (140737488355328 : Nat) && true then some (Ex.normal, St.mk [(16, (vI (IntKind.wrap IntKind.i64 ((↑k : Int) + (1 : Int))))), (15, (vI (↑(List.length l) : Int))), (14,
  AV.sl (List.map eBeat l)), (5, .own 5), (0, AV.sl (List.map eBeat l))] [(5, Blk.mk false 35 3 (List.map eHole out ++ [[(vS (List.getD z k (Beat.mk (ByteArray.mk (Array.mk
  [])) (0 : Int) (0 : Int) (0 : Int) (0 : Int))).session), (vI (1 : Int)), (vI (List.getD z k (Beat.mk (ByteArray.mk (Array.mk [])) (0 : Int) (0 : Int) (0 : Int) (0 :
  Int))).no)]]))]) else none else some (Ex.normal, St.mk [(16, (vI (IntKind.wrap IntKind.i64 ((↑k : Int) + (1 : Int))))), (15, (vI (↑(List.length l) : Int))), (14, AV.sl
  (List.map eBeat l)), (5, .own 5), (0, AV.sl (List.map eBeat l))] [(5, Blk.mk false 35 3 (List.map eHole out))]) else none else bif decide ((1 : Int) < (List.getD z k
  (Beat.mk (ByteArray.mk (Array.mk [])) (0 : Int) (0 : Int) (0 : Int) (0 : Int))).no) then bif Nat.ble ((List.length (List.map eHole out) + (1 : Nat)) * (32 : Nat))
  (140737488355328 : Nat) && true then some (Ex.normal, St.mk [(16, (vI (IntKind.wrap IntKind.i64 ((↑k : Int) + (1 : Int))))), (15, (vI (↑(List.length l) : Int))), (14,
  AV.sl (List.map eBeat l)), (5, .own 5), (0, AV.sl (List.map eBeat l))] [(5, Blk.mk false 35 3 (List.map eHole out ++ [[(vS (List.getD z k (Beat.mk (ByteArray.mk (Array.mk
  [])) (0 : Int) (0 : Int) (0 : Int) (0 : Int))).session), (vI (1 : Int)), (vI (List.getD z k (Beat.mk (ByteArray.mk (Array.mk [])) (0 : Int) (0 : Int) (0 : Int) (0 :
  Int))).no)]]))]) else none else some (Ex.normal, St.mk [(16, (vI (IntKind.wrap IntKind.i64 ((↑k : Int) + (1 : Int))))), (15, (vI (↑(List.length l) : Int))), (14, AV.sl
  (List.map eBeat l)), (5, .own 5), (0, AV.sl (List.map eBeat l))] [(5, Blk.mk false 35 3 (List.map eHole out))]) else none else some (Ex.exit (0 : Nat), St.mk [(5, .own 5)]
  [(5, Blk.mk false 35 3 (List.map eHole out))]) := (execR_bind _ _ _).symm.trans (by kernel_rfl)

theorem lpRMs_ok (l : List Beat) (k : Nat) (out : List Hole) (hp : prlRMs l k out = true) : ∀ ex s', (outRMs l k out).val = some (ex, s') → LoopOK enRMs (loopN Try.f11 0) (stRMs l k out) ex s' := by
  simp only [prlRMs, Bool.and_eq_true, decide_eq_true_eq] at hp
  obtain ⟨⟨h1, h2, h3⟩, h5⟩ := hp
  refine loop_gen (st := fun s : Nat × List Hole => stRMs l s.1 s.2) (out := fun s => outRMs l s.1 s.2) (I := fun s => s.1 ≤ l.length ∧ s.2.length ≤ s.1) (n := ([16, 15, 14, 5, 0], [5])) (e := ([5], [5])) (r := ([], [])) (fun s => l.length - s.1) ?_ (k, out) ⟨h2, h3⟩
  rintro ⟨k, out⟩ ⟨h2, h3⟩
  simp only at h2 h3
  by_cases hlt : k < l.length
  · right
    obtain ⟨y, hy⟩ := at_lt hlt
    have hbl : Nat.ble ((out.length + 1) * 32) 140737488355328 = true := ble_t (by omega)
    have hml := F.missAt_len (F.prev l k) y
    refine ⟨(k + 1, out ++ F.missAt (F.prev l k) y), ?_, rfl, ⟨hlt, by rw [List.length_append]; omega⟩, by simp only; omega, ?_⟩
    · rw [evRMsL]
      cases k with
      | zero =>
        have h0 : decide ((0 : Int) < ((0 : Nat) : Int)) = false := rfl
        have hm : F.missAt (F.prev l 0) y = bif decide (1 < y.no) then [⟨y.session, 1, y.no⟩] else [] := rfl
        rw [hm]
        simp only [unRhb, preRhb1, unstRMs, unstRMs0, prlRMs, outRMs, etaBeat, etaSpan, etaHole, etaLevel, etaFigs, etaRatio, etaRep, etaStay, Option.bind_some, List.length_map, unStrs, unInts, unBools, unBeats, uneL_eBeats, unSpans, unHoles, unLevels, unFigss, unRatios, unReps, unStays, F.lt, F.le, cond_true, cond_false, Bool.and_true, Bool.true_and, cast_lt hlt, decide_eq_true hlt, getD_at hy, h0, hbl, w_add1 (show 0 < 9223372036854775807 by omega), appWHoles, stRMs]
        cases decide (1 < y.no)
        · simp only [cond_false, List.append_nil]
        · simp only [cond_true]
      | succ j =>
        obtain ⟨z, hz⟩ := at_lt (show j < l.length by omega)
        have hn : 1 ≤ z.no ∧ z.no ≤ 3000 := of_decide_eq_true (List.all_eq_true.1 h5 z (List.mem_of_getElem? hz))
        have hw : IntKind.i64.wrap (z.no + 1) = z.no + 1 := wrap_id (by omega) (by omega)
        have h0 : decide ((0 : Int) < ((j + 1 : Nat) : Int)) = true := decide_eq_true (by omega)
        have hm : F.missAt (F.prev l (j + 1)) y = F.missAt (some z) y := by
          show F.missAt l[j]? y = _
          rw [hz]
        rw [hm, F.missAt_some]
        simp only [unRhb, preRhb1, unstRMs, unstRMs0, prlRMs, outRMs, etaBeat, etaSpan, etaHole, etaLevel, etaFigs, etaRatio, etaRep, etaStay, Option.bind_some, List.length_map, unStrs, unInts, unBools, unBeats, uneL_eBeats, unSpans, unHoles, unLevels, unFigss, unRatios, unReps, unStays, F.lt, F.le, cond_true, cond_false, Bool.and_true, Bool.true_and, cast_lt hlt, decide_eq_true hlt, getD_at hy, h0, w_sub1 (show 1 ≤ j + 1 by omega) (show j + 1 ≤ 9223372036854775807 by omega), Nat.add_sub_cancel, idxN, decide_eq_true (lt_at hz), getD_at hz, hw, hbl, w_add1 (show j + 1 < 9223372036854775807 by omega), appWHoles, stRMs]
        cases (z.session.toList == y.session.toList)
        · simp only [cond_false, Bool.not_false, cond_true]
          cases decide (1 < y.no)
          · simp only [cond_false, List.append_nil]
          · simp only [cond_true]
        · simp only [cond_false, Bool.not_true, cond_true]
          cases decide (z.no + 1 < y.no)
          · simp only [cond_false, List.append_nil]
          · simp only [cond_true]
    · simp only [outRMs, miss_step hy]
  · have : k = l.length := by omega
    subst this
    left
    refine ⟨_, ?_, rfl, by simp, rfl⟩
    rw [evRMsL]
    simp only [cast_ge, cond_false, List.drop_length, F.miss, List.append_nil]

theorem evRMs (l : List Beat) : (runF enRMs false Try.f11 [.sl (l.map eBeat)]).val =
  Option.bind (unenc encRhb [AV.sl (List.map eBeat l)]) fun (z : List Beat) => bif F.checkB z != (0 : Int) then some (AV.tup [AV.sl [], (vI (F.checkB z))], []) else
  Option.bind (unenc stRMs1 (St.mk [(16, (vI (0 : Int))), (15, (vI (↑(List.length (List.map eBeat l)) : Int))), (14, AV.sl (List.map eBeat l)), (5, .own 5), (0, AV.sl
  (List.map eBeat l))] [(5, Blk.mk false 35 3 [])])) fun (z : List Beat × Nat × List Hole) => bif decide (List.length z.fst ≤ (3000 : Nat) ∧ z.snd.fst ≤ List.length z.fst ∧
  List.length z.snd.snd ≤ z.snd.fst) && List.all z.fst F.okN && true then some (AV.tup [AV.sl (List.map eHole (z.snd.snd ++ F.miss (F.prev z.fst z.snd.fst) (List.drop
  z.snd.fst z.fst))), (vI (0 : Int))], []) else none := (runFR_val).symm.trans (by kernel_rfl)

def encRMs1 (l : List Beat) : List AV := [.sl (l.map eBeat)]

def encRMs (a : (List Beat)) : List AV := encRMs1 a

theorem encRMs_inj (a a' : (List Beat)) (h : encRMs a = encRMs a') : a = a' := by
  simp only [encRMs, encRMs1] at h
  try simp [strs_inj, ints_inj, bools_inj, eBeats_inj, eBeat_iff, eL_eBeats_inj, eSpans_inj, eSpan_iff, eHoles_inj, eHole_iff, eLevels_inj, eLevel_iff, eFigss_inj, eFigs_iff, eRatios_inj, eRatio_iff, eReps_inj, eRep_iff, eStays_inj, eStay_iff] at h
  grind

theorem unRMs (l : List Beat) : unenc encRMs ([AV.sl (List.map eBeat l)]) = some (l) := unenc_of encRMs_inj (l) rfl

def resRMs1 (l : List Beat) : AV × Heap := (.tup [.sl ((F.missing l).1.map eHole), vI (F.missing l).2], [])

def preRMs1 (l : List Beat) : Bool := true

noncomputable def oRMs : Orc := orc 11 false encRMs (fun a => preRMs1 a) fun a => resRMs1 a

theorem okRMs : OrcOK Try.prog noG oRMs := by
  refine mk_ok Try.f11 (keep := false) (by kernel_rfl) (by kernel_rfl) enRMs_ok mixed (one_loop (x0 := loopN Try.f11 0) (by kernel_rfl) (lpo_ok ?_)) (by first | exact fun _ _ => ⟨rfl, rfl⟩ | (intro h; cases h)) ?_
  · rintro ⟨l, k, out⟩ hp
    exact lpRMs_ok l k out hp
  rintro l hpre hok
  show (runF enRMs false _ (encRMs1 _)).val = some (resRMs1 _)
  unfold encRMs1 resRMs1
  rw [evRMs]
  simp only [unRhb, preRhb1, unstRMs, unstRMs0, prlRMs, outRMs, etaBeat, etaSpan, etaHole, etaLevel, etaFigs, etaRatio, etaRep, etaStay, Option.bind_some, List.length_map, unStrs, unInts, unBools, unBeats, uneL_eBeats, unSpans, unHoles, unLevels, unFigss, unRatios, unReps, unStays, F.lt, F.le, cond_true, cond_false, Bool.and_true, Bool.true_and, F.missing]
  by_cases h1 : F.checkB l = 0
  case neg => rw [bne1 h1]; rfl
  rw [bne0 h1]
  have q1 : l.length ≤ 3000 ∧ 0 ≤ l.length ∧ ([] : List Hole).length ≤ 0 := ⟨F.check_len h1, Nat.zero_le _, Nat.le_refl _⟩
  simp only [cond_false, unstRMs0, Option.bind_some]
  rw [decide_eq_true q1, F.check_okN h1]
  rfl

theorem wk_in : unenc encMs [.sl [[vS ⟨#[97]⟩, vI 3, vI 0, vI 1, vI 0]]] = some [⟨⟨#[97]⟩, 3, 0, 1, 0⟩] := unenc_of encMs_inj [⟨⟨#[97]⟩, 3, 0, 1, 0⟩] rfl

theorem wk_val : F.missing [⟨⟨#[97]⟩, 3, 0, 1, 0⟩] = ([⟨⟨#[97]⟩, 1, 3⟩], 0) := by rfl

theorem wk_eq : unenc encEqHo [.sl (([⟨⟨#[97]⟩, 1, 3⟩] : List Hole).map eHole), .sl [[vS ⟨#[97]⟩, vI 1, vI 3]]] = some ([⟨⟨#[97]⟩, 1, 3⟩], [⟨⟨#[97]⟩, 1, 3⟩]) := unenc_of encEqHo_inj ([⟨⟨#[97]⟩, 1, 3⟩], [⟨⟨#[97]⟩, 1, 3⟩]) rfl

noncomputable def enWk : Env := envH ty noG lks [oMs, oEqHo] [] [] []

theorem enWk_ok : EnvOK Try.prog enWk := by
  refine envH_ok lks_ok ty_ok ?_ ?_
  · simp only [List.forall_mem_cons]
    exact ⟨okMs, okEqHo, by simp⟩
  · simp

theorem evWk  : (runF enWk false Try.f13 []).val =
  Option.bind (unenc encMs [AV.sl [[(vS (ByteArray.mk (Array.mk [(97 : UInt8)]))), (vI (3 : Int)), (vI (0 : Int)), (vI (1 : Int)), (vI (0 : Int))]]]) fun (z : List Beat) =>
  bif (F.missing z).snd == (0 : Int) then Option.bind (unenc encEqHo [AV.sl (List.map eHole (F.missing z).fst), AV.sl [[(vS (ByteArray.mk (Array.mk [(97 : UInt8)]))), (vI (1
  : Int)), (vI (3 : Int))]]]) fun (z : List Hole × List Hole) => some ((vB (F.eqL eqHole z.fst z.snd)), []) else some ((vB false), []) := (runFR_val).symm.trans (by kernel_rfl)

def encWk1  : List AV := []

def encWk (a : Unit) : List AV := encWk1

theorem encWk_inj (a a' : Unit) (h : encWk a = encWk a') : a = a' := rfl

theorem unWk  : unenc encWk ([]) = some () := unenc_of encWk_inj () rfl

def resWk1  : AV × Heap := (vB true, [])

def preWk1  : Bool := true

noncomputable def oWk : Orc := orc 13 true encWk (fun a => preWk1) fun a => resWk1

theorem okWk : OrcOK Try.prog noG oWk := by
  refine mk_ok Try.f13 (keep := false) (by kernel_rfl) (by kernel_rfl) enWk_ok mixed (no_loops (by kernel_rfl)) (by first | exact fun _ _ => ⟨rfl, rfl⟩ | (intro h; cases h)) ?_
  rintro ⟨⟩ hpre hok
  show (runF enWk false _ (encWk1 )).val = some (resWk1 )
  unfold encWk1 resWk1
  rw [evWk]
  rw [wk_in]
  simp only [Option.bind_some, wk_val, wk_eq]
  have : F.eqL eqHole [⟨⟨#[97]⟩, 1, 3⟩] [⟨⟨#[97]⟩, 1, 3⟩] = true := by simp [F.eqL, eqHole_refl]
  rw [this]
  rfl

end M
end Go.Proofs.Ytlnflhmepnbcmaa
