/- What is proved here: what the figures of a session are on plain data (no statement of the seat). -/
import Derived.Test.YtnkaadiofjoacaaB9
namespace Go.Proofs.Ytnkaadiofjoacaa
open Go Go.RowKit
set_option linter.unusedVariables false
set_option linter.unusedSimpArgs false

def F.ofS (x : ByteArray) (acc : List Beat) (b : Beat) : List Beat := bif b.session.toList == x.toList then acc ++ [b] else acc

def F.ofA (x : ByteArray) (acc : List Beat) (l : List Beat) : List Beat := l.foldl (F.ofS x) acc

/-- The beat before is none that stalls. -/
def F.notSt : Option Beat → Bool
  | none => true
  | some o => o.state != 3

def F.figS1 (t0 : Int) (a : Option Beat × Figs × Int) (b : Beat) : Option Beat × Figs × Int :=
  (some b,
    bif b.state == 2 then ⟨bif F.lt a.2.1.wait 0 then IntKind.i64.wrap (b.time - t0) else a.2.1.wait, a.2.1.played, a.2.1.stalled, a.2.1.paused, a.2.1.stalls,
      bif F.le 0 a.2.2 && (a.2.2 != b.rate) then IntKind.i64.wrap (a.2.1.changes + 1) else a.2.1.changes, a.2.1.bits, a.2.1.ended⟩
    else bif (b.state == 3) && F.notSt a.1 then ⟨a.2.1.wait, a.2.1.played, a.2.1.stalled, a.2.1.paused, IntKind.i64.wrap (a.2.1.stalls + 1), a.2.1.changes, a.2.1.bits, a.2.1.ended⟩
    else a.2.1,
    bif b.state == 2 then b.rate else a.2.2)

def F.fig1 (t0 : Int) (p : Option Beat) (f : Figs) (rate : Int) (l : List Beat) : Figs := (l.foldl (F.figS1 t0) (p, f, rate)).2.1

def F.long (s : Stay) : Int := IntKind.i64.wrap (s.sp.to - s.sp.fr)

def F.figS2 (a : Figs × Int) (s : Stay) : Figs × Int :=
  (⟨a.1.wait, bif s.beat.state == 2 then IntKind.i64.wrap (a.1.played + F.long s) else a.1.played,
    bif s.beat.state == 3 then IntKind.i64.wrap (a.1.stalled + F.long s) else a.1.stalled,
    bif s.beat.state == 4 then IntKind.i64.wrap (a.1.paused + F.long s) else a.1.paused, a.1.stalls, a.1.changes, a.1.bits, a.1.ended⟩,
    bif s.beat.state == 2 then IntKind.i64.wrap (a.2 + IntKind.i64.wrap (s.beat.rate * F.long s)) else a.2)

def F.fig2 (f : Figs) (n : Int) (ss : List Stay) : Figs × Int := ss.foldl F.figS2 (f, n)

def F.t0 (l : List Beat) : Int := (l.getD 0 ⟨⟨#[]⟩, 0, 0, 0, 0⟩).time

def F.figI (l : List Beat) : Figs := ⟨-1, 0, 0, 0, 0, 0, 0, (l.getD (l.length - 1) ⟨⟨#[]⟩, 0, 0, 0, 0⟩).state == 5⟩

def F.figM (q : Int) (l : List Beat) : Figs × Int := F.fig2 (F.fig1 (F.t0 l) none (F.figI l) (-1) l) 0 (F.stays q l)

def F.figB (a : Figs × Int) : Figs × Int := (⟨a.1.wait, a.1.played, a.1.stalled, a.1.paused, a.1.stalls, a.1.changes, IntKind.i64.wrap (a.2.tdiv 1000), a.1.ended⟩, a.2)

def F.figs (q : Int) (l : List Beat) : Figs × Int := F.figB (F.figM q l)

def F.zeroF : Figs := ⟨0, 0, 0, 0, 0, 0, 0, false⟩

def F.figures (l : List Beat) (q : Int) (x : ByteArray) : Figs × Int :=
  bif F.sesF l q x != 0 then (F.zeroF, F.sesF l q x) else bif (F.ofA x [] l).isEmpty then (F.zeroF, 9) else ((F.figs q (F.ofA x [] l)).1, 0)

theorem F.ofS_len (x : ByteArray) (acc : List Beat) (b : Beat) : (F.ofS x acc b).length ≤ acc.length + 1 := by
  unfold F.ofS
  cases (b.session.toList == x.toList) <;> simp

theorem F.ofA_len (x : ByteArray) : ∀ (l : List Beat) (acc : List Beat), (F.ofA x acc l).length ≤ acc.length + l.length
  | [], acc => by simp [F.ofA]
  | b :: l, acc => by
    have h1 := F.ofA_len x l (F.ofS x acc b)
    have h2 := F.ofS_len x acc b
    simp only [F.ofA, List.foldl_cons, List.length_cons] at h1 ⊢
    omega

/-- The milliseconds of some spans. -/
def F.sumSp (n : Int) (l : List Span) : Int := l.foldl (fun n s => IntKind.i64.wrap (n + IntKind.i64.wrap (s.to - s.fr))) n

namespace M

def stOfS (l : List Beat) (x : ByteArray) (acc : List Beat) (k : Nat) : St := ⟨[(10, vI k), (9, vI l.length), (8, .sl (l.map eBeat)), (5, .own 5), (1, vS x)], [(5, ⟨false, 38, 5, acc.map eBeat⟩)]⟩

def stOfS1 (a : (List Beat) × ByteArray × (List Beat) × Nat) : St := stOfS a.1 a.2.1 a.2.2.1 a.2.2.2

theorem stOfS_inj (a a' : (List Beat) × ByteArray × (List Beat) × Nat) (h : stOfS1 a = stOfS1 a') : a = a' := by
  simp only [stOfS1, stOfS] at h
  try simp [strs_inj, ints_inj, bools_inj, eL_eIs_inj, eBeats_inj, eBeat_iff, eL_eBeats_inj, eSpans_inj, eSpan_iff, eHoles_inj, eHole_iff, eLevels_inj, eLevel_iff, eFigss_inj, eFigs_iff, eRatios_inj, eRatio_iff, eReps_inj, eRep_iff, eStays_inj, eStay_iff] at h
  grind

theorem unstOfS (l : List Beat) (x : ByteArray) (acc : List Beat) (k : Nat) : unenc stOfS1 (St.mk [(10, (vI (↑k : Int))), (9, (vI (↑(List.length l) : Int))), (8, AV.sl (List.map eBeat l)), (5, .own 5), (1, (vS x))] [(5, Blk.mk false 38 5 (List.map eBeat acc))]) = some (l, x, acc, k) := unenc_of stOfS_inj (l, x, acc, k) rfl

theorem unstOfS0 (l : List Beat) (x : ByteArray)  : unenc stOfS1 (St.mk [(10, (vI (0 : Int))), (9, (vI (↑(List.length l) : Int))), (8, AV.sl (List.map eBeat l)), (5, .own 5), (1, (vS x))] [(5, Blk.mk false 38 5 [])]) = some (l, x, [], 0) := unenc_of stOfS_inj (l, x, [], 0) rfl

def outOfS (l : List Beat) (x : ByteArray) (acc : List Beat) (k : Nat) : T (Ex × St) := .ret (.exit 0, ⟨[(5, .own 5)], [(5, ⟨false, 38, 5, (F.ofA x acc (l.drop k)).map eBeat⟩)]⟩)

noncomputable def prlOfS (l : List Beat) (x : ByteArray) (acc : List Beat) (k : Nat) : Bool := decide (l.length ≤ 3000) && decide (k ≤ l.length) && decide (acc.length ≤ k)

noncomputable def lpOfS : Nat × (St → T (Ex × St)) := (3, lpo [10, 9, 8, 5, 1] [5] stOfS1 (fun a => prlOfS a.1 a.2.1 a.2.2.1 a.2.2.2) fun a => outOfS a.1 a.2.1 a.2.2.1 a.2.2.2)

noncomputable def enOfS : Env := envH ty noG lks [] [] [] [lpOfS]

theorem enOfS_ok : EnvOK Try.prog enOfS := by
  refine envH_ok lks_ok ty_ok ?_ ?_
  · simp
  · simp

theorem evOfSL (l : List Beat) (x : ByteArray) (acc : List Beat) (k : Nat) : ((exec enOfS (loopN Try.f32 0) (stOfS l x acc k)).bind (lessX ([10, 9, 8, 5, 1], [5]) ([5], [5]) ([], []))).val =
  bif decide ((↑k : Int) < (↑(List.length l) : Int)) then Option.bind (unenc (List.map eBeat) (List.map eBeat l)) fun (z : List Beat) => bif decide (k < List.length z) then
  bif ByteArray.toList (List.getD z k (Beat.mk (ByteArray.mk (Array.mk [])) (0 : Int) (0 : Int) (0 : Int) (0 : Int))).session == ByteArray.toList x then bif Nat.ble
  ((List.length (List.map eBeat acc) + (1 : Nat)) * (48 : Nat)) (140737488355328 : Nat) && true then some (Ex.normal, St.mk [(10, (vI (IntKind.wrap IntKind.i64 ((↑k : Int) +
  (1 : Int))))), (9, (vI (↑(List.length l) : Int))), (8, AV.sl (List.map eBeat l)), (5, .own 5), (1, (vS x))] [(5, Blk.mk false 38 5 (List.map eBeat acc ++ [[(vS (List.getD
  z k (Beat.mk (ByteArray.mk (Array.mk [])) (0 : Int) (0 : Int) (0 : Int) (0 : Int))).session), (vI (List.getD z k (Beat.mk (ByteArray.mk (Array.mk [])) (0 : Int) (0 : Int)
  (0 : Int) (0 : Int))).no), (vI (List.getD z k (Beat.mk (ByteArray.mk (Array.mk [])) (0 : Int) (0 : Int) (0 : Int) (0 : Int))).time), (vI (List.getD z k (Beat.mk
  (ByteArray.mk (Array.mk [])) (0 : Int) (0 : Int) (0 : Int) (0 : Int))).state), (vI (List.getD z k (Beat.mk (ByteArray.mk (Array.mk [])) (0 : Int) (0 : Int) (0 : Int) (0 :
  Int))).rate)]]))]) else none else some (Ex.normal, St.mk [(10, (vI (IntKind.wrap IntKind.i64 ((↑k : Int) + (1 : Int))))), (9, (vI (↑(List.length l) : Int))), (8, AV.sl
  (List.map eBeat l)), (5, .own 5), (1, (vS x))] [(5, Blk.mk false 38 5 (List.map eBeat acc))]) else none else some (Ex.exit (0 : Nat), St.mk [(5, .own 5)] [(5, Blk.mk false
  38 5 (List.map eBeat acc))]) := by kernel_rfl

theorem lpOfS_ok (l : List Beat) (x : ByteArray) (acc : List Beat) (k : Nat) (hp : prlOfS l x acc k = true) : ∀ ex s', (outOfS l x acc k).val = some (ex, s') → LoopOK enOfS (loopN Try.f32 0) (stOfS l x acc k) ex s' := by
  simp only [prlOfS, Bool.and_eq_true, decide_eq_true_eq] at hp
  obtain ⟨⟨h1, h2⟩, h3⟩ := hp
  refine loop_fold (xs := l) (st := fun a k => stOfS l x a k) (f := F.ofS x) (fin := fun a => (.exit 0, ⟨[(5, .own 5)], [(5, ⟨false, 38, 5, a.map eBeat⟩)]⟩)) (I := fun a k => a.length ≤ k) (n := ([10, 9, 8, 5, 1], [5])) (e := ([5], [5])) (r := ([], [])) ?_ (fun _ => ⟨by simp, rfl⟩) (fun _ _ => rfl) ?_ acc k h2 h3
  · intro acc _
    rw [evOfSL]; simp
  · intro acc k y hy hI
    have hlt := lt_at hy
    have hroom : Nat.ble ((acc.length + 1) * 48) 140737488355328 = true := ble_t (by omega)
    refine ⟨?_, by have := F.ofS_len x acc y; omega⟩
    rw [evOfSL]
    simp only [unstOfS, unstOfS0, prlOfS, outOfS, etaBeat, etaSpan, etaHole, etaLevel, etaFigs, etaRatio, etaRep, etaStay, Option.bind_some, List.length_map, unStrs, unInts, unBools, uneL_eIs, unBeats, uneL_eBeats, unSpans, unHoles, unLevels, unFigss, unRatios, unReps, unStays, F.lt, F.le, cond_true, cond_false, Bool.and_true, Bool.true_and, cast_lt hlt, decide_eq_true hlt, next_at hlt (by omega : l.length ≤ 9223372036854775807), getD_at hy, stOfS, hroom, F.ofS, appWBeats, etaBeat]
    cases (y.session.toList == x.toList) <;> rfl

theorem evOfS (l : List Beat) (x : ByteArray) : (runF enOfS false Try.f32 [.sl (l.map eBeat), vS x]).val =
  Option.bind (unenc stOfS1 (St.mk [(10, (vI (0 : Int))), (9, (vI (↑(List.length (List.map eBeat l)) : Int))), (8, AV.sl (List.map eBeat l)), (5, .own 5), (1, (vS x))] [(5,
  Blk.mk false 38 5 [])])) fun (z : List Beat × ByteArray × List Beat × Nat) => bif decide (List.length z.fst ≤ (3000 : Nat)) && decide (z.snd.snd.snd ≤ List.length z.fst)
  && decide (List.length z.snd.snd.fst ≤ z.snd.snd.snd) && true then some (AV.sl (List.map eBeat (F.ofA z.snd.fst z.snd.snd.fst (List.drop z.snd.snd.snd z.fst))), []) else
  none := by kernel_rfl

def encOfS1 (l : List Beat) (x : ByteArray) : List AV := [.sl (l.map eBeat), vS x]

def encOfS (a : (List Beat) × ByteArray) : List AV := encOfS1 a.1 a.2

theorem encOfS_inj (a a' : (List Beat) × ByteArray) (h : encOfS a = encOfS a') : a = a' := by
  simp only [encOfS, encOfS1] at h
  try simp [strs_inj, ints_inj, bools_inj, eL_eIs_inj, eBeats_inj, eBeat_iff, eL_eBeats_inj, eSpans_inj, eSpan_iff, eHoles_inj, eHole_iff, eLevels_inj, eLevel_iff, eFigss_inj, eFigs_iff, eRatios_inj, eRatio_iff, eReps_inj, eRep_iff, eStays_inj, eStay_iff] at h
  grind

theorem unOfS (l : List Beat) (x : ByteArray) : unenc encOfS ([AV.sl (List.map eBeat l), (vS x)]) = some (l, x) := unenc_of encOfS_inj (l, x) rfl

def resOfS1 (l : List Beat) (x : ByteArray) : AV × Heap := (.sl ((F.ofA x [] l).map eBeat), [])

def preOfS1 (l : List Beat) (x : ByteArray) : Bool := decide (l.length ≤ 3000)

noncomputable def oOfS : Orc := orc 32 false encOfS (fun a => preOfS1 a.1 a.2) fun a => resOfS1 a.1 a.2

theorem okOfS : OrcOK Try.prog noG oOfS := by
  refine mk_ok Try.f32 (keep := false) (by kernel_rfl) (by kernel_rfl) enOfS_ok mixed (one_loop (x0 := loopN Try.f32 0) (by kernel_rfl) (lpo_ok ?_)) (by first | exact fun _ _ => ⟨rfl, rfl⟩ | (intro h; cases h)) ?_
  · rintro ⟨l, x, acc, k⟩ hp
    exact lpOfS_ok l x acc k hp
  rintro ⟨l, x⟩ hpre hok
  show (runF enOfS false _ (encOfS1 _ _)).val = some (resOfS1 _ _)
  unfold encOfS1 resOfS1
  rw [evOfS]
  simp only [preOfS1, decide_eq_true_eq] at hpre
  simp only [unstOfS, unstOfS0, prlOfS, outOfS, etaBeat, etaSpan, etaHole, etaLevel, etaFigs, etaRatio, etaRep, etaStay, Option.bind_some, List.length_map, unStrs, unInts, unBools, uneL_eIs, unBeats, uneL_eBeats, unSpans, unHoles, unLevels, unFigss, unRatios, unReps, unStays, F.lt, F.le, cond_true, cond_false, Bool.and_true, Bool.true_and, List.drop_zero, Nat.zero_le, decide_true, List.length_nil, List.map_nil, hpre]

def stFg1 (l : List Beat) (q : Int) (f : Figs) (rate : Int) (k : Nat) : St := ⟨[(25, vI k), (24, vI l.length), (23, .sl (l.map eBeat)), (7, vI rate), (6, .ptr 6 0 0), (4, .ptr 4 0 0), (1, vI q), (0, .sl (l.map eBeat))], [(6, ⟨true, 0, 0, [eFigs f]⟩), (4, ⟨true, 0, 0, [[vI 0, vI 0, vI 0, vI 0, vI 0, vI 0, vI 0, vB false]]⟩)]⟩

def stFg11 (a : (List Beat) × Int × Figs × Int × Nat) : St := stFg1 a.1 a.2.1 a.2.2.1 a.2.2.2.1 a.2.2.2.2

theorem stFg1_inj (a a' : (List Beat) × Int × Figs × Int × Nat) (h : stFg11 a = stFg11 a') : a = a' := by
  simp only [stFg11, stFg1] at h
  try simp [strs_inj, ints_inj, bools_inj, eL_eIs_inj, eBeats_inj, eBeat_iff, eL_eBeats_inj, eSpans_inj, eSpan_iff, eHoles_inj, eHole_iff, eLevels_inj, eLevel_iff, eFigss_inj, eFigs_iff, eRatios_inj, eRatio_iff, eReps_inj, eRep_iff, eStays_inj, eStay_iff] at h
  grind

theorem unstFg1 (l : List Beat) (q : Int) (f : Figs) (rate : Int) (k : Nat) : unenc stFg11 (St.mk [(25, (vI (↑k : Int))), (24, (vI (↑(List.length l) : Int))), (23, AV.sl (List.map eBeat l)), (7, (vI rate)), (6, .ptr 6 0 0), (4, .ptr 4 0 0), (1, (vI q)), (0, AV.sl
  (List.map eBeat l))] [(6, Blk.mk true 0 0 [[(vI f.wait), (vI f.played), (vI f.stalled), (vI f.paused), (vI f.stalls), (vI f.changes), (vI f.bits), (vB f.ended)]]), (4,
  Blk.mk true 0 0 [[(vI (0 : Int)), (vI (0 : Int)), (vI (0 : Int)), (vI (0 : Int)), (vI (0 : Int)), (vI (0 : Int)), (vI (0 : Int)), (vB false)]])]) = some (l, q, f, rate, k) := unenc_of stFg1_inj (l, q, f, rate, k) rfl

theorem unstFg10 (l : List Beat) (q : Int) (f : Figs) (rate : Int)  : unenc stFg11 (St.mk [(25, (vI (0 : Int))), (24, (vI (↑(List.length l) : Int))), (23, AV.sl (List.map eBeat l)), (7, (vI rate)), (6, .ptr 6 0 0), (4, .ptr 4 0 0), (1, (vI q)), (0, AV.sl
  (List.map eBeat l))] [(6, Blk.mk true 0 0 [[(vI f.wait), (vI f.played), (vI f.stalled), (vI f.paused), (vI f.stalls), (vI f.changes), (vI f.bits), (vB f.ended)]]), (4,
  Blk.mk true 0 0 [[(vI (0 : Int)), (vI (0 : Int)), (vI (0 : Int)), (vI (0 : Int)), (vI (0 : Int)), (vI (0 : Int)), (vI (0 : Int)), (vB false)]])]) = some (l, q, f, rate, 0) := unenc_of stFg1_inj (l, q, f, rate, 0) rfl

def outFg1 (l : List Beat) (q : Int) (f : Figs) (rate : Int) (k : Nat) : T (Ex × St) := .ret (.exit 0, ⟨[(6, .ptr 6 0 0), (4, .ptr 4 0 0), (1, vI q), (0, .sl (l.map eBeat))], [(6, ⟨true, 0, 0, [eFigs (F.fig1 (F.t0 l) (F.prev l k) f rate (l.drop k))]⟩), (4, ⟨true, 0, 0, [[vI 0, vI 0, vI 0, vI 0, vI 0, vI 0, vI 0, vB false]]⟩)]⟩)

noncomputable def prlFg1 (l : List Beat) (q : Int) (f : Figs) (rate : Int) (k : Nat) : Bool := decide (l.length ≤ 3000) && decide (k ≤ l.length)

noncomputable def lpFg1 : Nat × (St → T (Ex × St)) := (4, lpo [25, 24, 23, 7, 6, 4, 1, 0] [6, 4] stFg11 (fun a => prlFg1 a.1 a.2.1 a.2.2.1 a.2.2.2.1 a.2.2.2.2) fun a => outFg1 a.1 a.2.1 a.2.2.1 a.2.2.2.1 a.2.2.2.2)

def stFg2 (ss : List Stay) (f : Figs) (n : Int) (k : Nat) : St := ⟨[(81, vI k), (80, vI ss.length), (79, .sl (ss.map eStay)), (10, vI n), (6, .ptr 6 0 0), (4, .ptr 4 0 0)], [(6, ⟨true, 0, 0, [eFigs f]⟩), (4, ⟨true, 0, 0, [[vI 0, vI 0, vI 0, vI 0, vI 0, vI 0, vI 0, vB false]]⟩)]⟩

def stFg21 (a : (List Stay) × Figs × Int × Nat) : St := stFg2 a.1 a.2.1 a.2.2.1 a.2.2.2

theorem stFg2_inj (a a' : (List Stay) × Figs × Int × Nat) (h : stFg21 a = stFg21 a') : a = a' := by
  simp only [stFg21, stFg2] at h
  try simp [strs_inj, ints_inj, bools_inj, eL_eIs_inj, eBeats_inj, eBeat_iff, eL_eBeats_inj, eSpans_inj, eSpan_iff, eHoles_inj, eHole_iff, eLevels_inj, eLevel_iff, eFigss_inj, eFigs_iff, eRatios_inj, eRatio_iff, eReps_inj, eRep_iff, eStays_inj, eStay_iff] at h
  grind

theorem unstFg2 (ss : List Stay) (f : Figs) (n : Int) (k : Nat) : unenc stFg21 (St.mk [(81, (vI (↑k : Int))), (80, (vI (↑(List.length ss) : Int))), (79, AV.sl (List.map eStay ss)), (10, (vI n)), (6, .ptr 6 0 0), (4, .ptr 4 0 0)] [(6, Blk.mk true 0 0
  [[(vI f.wait), (vI f.played), (vI f.stalled), (vI f.paused), (vI f.stalls), (vI f.changes), (vI f.bits), (vB f.ended)]]), (4, Blk.mk true 0 0 [[(vI (0 : Int)), (vI (0 :
  Int)), (vI (0 : Int)), (vI (0 : Int)), (vI (0 : Int)), (vI (0 : Int)), (vI (0 : Int)), (vB false)]])]) = some (ss, f, n, k) := unenc_of stFg2_inj (ss, f, n, k) rfl

theorem unstFg20 (ss : List Stay) (f : Figs) (n : Int)  : unenc stFg21 (St.mk [(81, (vI (0 : Int))), (80, (vI (↑(List.length ss) : Int))), (79, AV.sl (List.map eStay ss)), (10, (vI n)), (6, .ptr 6 0 0), (4, .ptr 4 0 0)] [(6, Blk.mk true 0 0
  [[(vI f.wait), (vI f.played), (vI f.stalled), (vI f.paused), (vI f.stalls), (vI f.changes), (vI f.bits), (vB f.ended)]]), (4, Blk.mk true 0 0 [[(vI (0 : Int)), (vI (0 :
  Int)), (vI (0 : Int)), (vI (0 : Int)), (vI (0 : Int)), (vI (0 : Int)), (vI (0 : Int)), (vB false)]])]) = some (ss, f, n, 0) := unenc_of stFg2_inj (ss, f, n, 0) rfl

def outFg2 (ss : List Stay) (f : Figs) (n : Int) (k : Nat) : T (Ex × St) := .ret (.exit 3, ⟨[(10, vI (F.fig2 f n (ss.drop k)).2), (6, .ptr 6 0 0), (4, .ptr 4 0 0)], [(6, ⟨true, 0, 0, [eFigs (F.fig2 f n (ss.drop k)).1]⟩), (4, ⟨true, 0, 0, [[vI 0, vI 0, vI 0, vI 0, vI 0, vI 0, vI 0, vB false]]⟩)]⟩)

noncomputable def prlFg2 (ss : List Stay) (f : Figs) (n : Int) (k : Nat) : Bool := decide (ss.length ≤ 3000) && decide (k ≤ ss.length)

noncomputable def lpFg2 : Nat × (St → T (Ex × St)) := (19, lpo [81, 80, 79, 10, 6, 4] [6, 4] stFg21 (fun a => prlFg2 a.1 a.2.1 a.2.2.1 a.2.2.2) fun a => outFg2 a.1 a.2.1 a.2.2.1 a.2.2.2)

noncomputable def enFgs : Env := envH ty noG lks [oSty] [] [] [lpFg1, lpFg2]

theorem enFgs_ok : EnvOK Try.prog enFgs := by
  refine envH_ok lks_ok ty_ok ?_ ?_
  · simp only [List.forall_mem_cons]
    exact ⟨okSty, by simp⟩
  · simp

theorem evFg1L (l : List Beat) (q : Int) (f : Figs) (rate : Int) (k : Nat) : ((exec enFgs (loopN Try.f33 0) (stFg1 l q f rate k)).bind (lessX ([25, 24, 23, 7, 6, 4, 1, 0], [6, 4]) ([6, 4, 1, 0], [6, 4]) ([], []))).val =
  bif decide ((↑k : Int) < (↑(List.length l) : Int)) then Option.bind (unenc (List.map eBeat) (List.map eBeat l)) fun (z : List Beat) => bif decide (k < List.length z) then
  bif (List.getD z k (Beat.mk (ByteArray.mk (Array.mk [])) (0 : Int) (0 : Int) (0 : Int) (0 : Int))).state == (2 : Int) then bif decide (f.wait < (0 : Int)) then Option.bind
  (unenc (List.map eBeat) (List.map eBeat l)) fun (z_1 : List Beat) => bif decide ((0 : Nat) < List.length z_1) then bif bif decide ((0 : Int) ≤ rate) then rate !=
  (List.getD z k (Beat.mk (ByteArray.mk (Array.mk [])) (0 : Int) (0 : Int) (0 : Int) (0 : Int))).rate else false then some (Ex.normal, St.mk [(25, (vI (IntKind.wrap
  IntKind.i64 ((↑k : Int) + (1 : Int))))), (24, (vI (↑(List.length l) : Int))), (23, AV.sl (List.map eBeat l)), (7, (vI (List.getD z k (Beat.mk (ByteArray.mk (Array.mk []))
  (0 : Int) (0 : Int) (0 : Int) (0 : Int))).rate)), (6, .ptr 6 0 0), (4, .ptr 4 0 0), (1, (vI q)), (0, AV.sl (List.map eBeat l))] [(6, Blk.mk true 0 0 [[(vI (IntKind.wrap
  IntKind.i64 ((List.getD z k (Beat.mk (ByteArray.mk (Array.mk [])) (0 : Int) (0 : Int) (0 : Int) (0 : Int))).time - (List.getD z_1 (0 : Nat) (Beat.mk (ByteArray.mk
  (Array.mk [])) (0 : Int) (0 : Int) (0 : Int) (0 : Int))).time))), (vI f.played), (vI f.stalled), (vI f.paused), (vI f.stalls), (vI (IntKind.wrap IntKind.i64 (f.changes +
  (1 : Int)))), (vI f.bits), (vB f.ended)]]), (4, Blk.mk true 0 0 [[(vI (0 : Int)), (vI (0 : Int)), (vI (0 : Int)), (vI (0 : Int)), (vI (0 : Int)), (vI (0 : Int)), (vI (0 :
  Int)), (vB false)]])]) else some (Ex.normal, St.mk [(25, (vI (IntKind.wrap IntKind.i64 ((↑k : Int) + (1 : Int))))), (24, (vI (↑(List.length l) : Int))), (23, AV.sl
  (List.map eBeat l)), (7, (vI (List.getD z k (Beat.mk (ByteArray.mk (Array.mk [])) (0 : Int) (0 : Int) (0 : Int) (0 : Int))).rate)), (6, .ptr 6 0 0), (4, .ptr 4 0 0), (1,
  (vI q)), (0, AV.sl (List.map eBeat l))] [(6, Blk.mk true 0 0 [[(vI (IntKind.wrap IntKind.i64 ((List.getD z k (Beat.mk (ByteArray.mk (Array.mk [])) (0 : Int) (0 : Int) (0 :
  Int) (0 : Int))).time - (List.getD z_1 (0 : Nat) (Beat.mk (ByteArray.mk (Array.mk [])) (0 : Int) (0 : Int) (0 : Int) (0 : Int))).time))), (vI f.played), (vI f.stalled),
  (vI f.paused), (vI f.stalls), (vI f.changes), (vI f.bits), (vB f.ended)]]), (4, Blk.mk true 0 0 [[(vI (0 : Int)), (vI (0 : Int)), (vI (0 : Int)), (vI (0 : Int)), (vI (0 :
  Int)), (vI (0 : Int)), (vI (0 : Int)), (vB false)]])]) else none else bif bif decide ((0 : Int) ≤ rate) then rate != (List.getD z k (Beat.mk (ByteArray.mk (Array.mk []))
  (0 : Int) (0 : Int) (0 : Int) (0 : Int))).rate else false then some (Ex.normal, St.mk [(25, (vI (IntKind.wrap IntKind.i64 ((↑k : Int) + (1 : Int))))), (24, (vI
  (↑(List.length l) : Int))), (23, AV.sl (List.map eBeat l)), (7, (vI (List.getD z k (Beat.mk (ByteArray.mk (Array.mk [])) (0 : Int) (0 : Int) (0 : Int) (0 : Int))).rate)),
  (6, .ptr 6 0 0), (4, .ptr 4 0 0), (1, (vI q)), (0, AV.sl (List.map eBeat l))] [(6, Blk.mk true 0 0 [[(vI f.wait), (vI f.played), (vI f.stalled), (vI f.paused), (vI
  f.stalls), (vI (IntKind.wrap IntKind.i64 (f.changes + (1 : Int)))), (vI f.bits), (vB f.ended)]]), (4, Blk.mk true 0 0 [[(vI (0 : Int)), (vI (0 : Int)), (vI (0 : Int)), (vI
  (0 : Int)), (vI (0 : Int)), (vI (0 : Int)), (vI (0 : Int)), (vB false)]])]) else some (Ex.normal, St.mk [(25, (vI (IntKind.wrap IntKind.i64 ((↑k : Int) + (1 : Int))))),
  (24, (vI (↑(List.length l) : Int))), (23, AV.sl (List.map eBeat l)), (7, (vI (List.getD z k (Beat.mk (ByteArray.mk (Array.mk [])) (0 : Int) (0 : Int) (0 : Int) (0 :
  Int))).rate)), (6, .ptr 6 0 0), (4, .ptr 4 0 0), (1, (vI q)), (0, AV.sl (List.map eBeat l))] [(6, Blk.mk true 0 0 [[(vI f.wait), (vI f.played), (vI f.stalled), (vI
  f.paused), (vI f.stalls), (vI f.changes), (vI f.bits), (vB f.ended)]]), (4, Blk.mk true 0 0 [[(vI (0 : Int)), (vI (0 : Int)), (vI (0 : Int)), (vI (0 : Int)), (vI (0 :
  Int)), (vI (0 : Int)), (vI (0 : Int)), (vB false)]])]) else bif (List.getD z k (Beat.mk (ByteArray.mk (Array.mk [])) (0 : Int) (0 : Int) (0 : Int) (0 : Int))).state == (3
  : Int) then bif !(↑k : Int) == (0 : Int) then Option.bind (idx (IntKind.wrap IntKind.i64 ((↑k : Int) - (1 : Int)))) fun (z : Nat) => Option.bind (unenc (List.map eBeat)
  (List.map eBeat l)) fun (z_1 : List Beat) => bif decide (z < List.length z_1) then bif bif (↑k : Int) == (0 : Int) then true else (List.getD z_1 z (Beat.mk (ByteArray.mk
  (Array.mk [])) (0 : Int) (0 : Int) (0 : Int) (0 : Int))).state != (3 : Int) then some (Ex.normal, St.mk [(25, (vI (IntKind.wrap IntKind.i64 ((↑k : Int) + (1 : Int))))),
  (24, (vI (↑(List.length l) : Int))), (23, AV.sl (List.map eBeat l)), (7, (vI rate)), (6, .ptr 6 0 0), (4, .ptr 4 0 0), (1, (vI q)), (0, AV.sl (List.map eBeat l))] [(6,
  Blk.mk true 0 0 [[(vI f.wait), (vI f.played), (vI f.stalled), (vI f.paused), (vI (IntKind.wrap IntKind.i64 (f.stalls + (1 : Int)))), (vI f.changes), (vI f.bits), (vB
  f.ended)]]), (4, Blk.mk true 0 0 [[(vI (0 : Int)), (vI (0 : Int)), (vI (0 : Int)), (vI (0 : Int)), (vI (0 : Int)), (vI (0 : Int)), (vI (0 : Int)), (vB false)]])]) else
  some (Ex.normal, St.mk [(25, (vI (IntKind.wrap IntKind.i64 ((↑k : Int) + (1 : Int))))), (24, (vI (↑(List.length l) : Int))), (23, AV.sl (List.map eBeat l)), (7, (vI
  rate)), (6, .ptr 6 0 0), (4, .ptr 4 0 0), (1, (vI q)), (0, AV.sl (List.map eBeat l))] [(6, Blk.mk true 0 0 [[(vI f.wait), (vI f.played), (vI f.stalled), (vI f.paused), (vI
  f.stalls), (vI f.changes), (vI f.bits), (vB f.ended)]]), (4, Blk.mk true 0 0 [[(vI (0 : Int)), (vI (0 : Int)), (vI (0 : Int)), (vI (0 : Int)), (vI (0 : Int)), (vI (0 :
  Int)), (vI (0 : Int)), (vB false)]])]) else none else bif !(↑k : Int) == (0 : Int) then none else bif !(↑k : Int) == (0 : Int) then none else bif !(↑k : Int) == (0 : Int)
  then none else some (Ex.normal, St.mk [(25, (vI (IntKind.wrap IntKind.i64 ((↑k : Int) + (1 : Int))))), (24, (vI (↑(List.length l) : Int))), (23, AV.sl (List.map eBeat l)),
  (7, (vI rate)), (6, .ptr 6 0 0), (4, .ptr 4 0 0), (1, (vI q)), (0, AV.sl (List.map eBeat l))] [(6, Blk.mk true 0 0 [[(vI f.wait), (vI f.played), (vI f.stalled), (vI
  f.paused), (vI (IntKind.wrap IntKind.i64 (f.stalls + (1 : Int)))), (vI f.changes), (vI f.bits), (vB f.ended)]]), (4, Blk.mk true 0 0 [[(vI (0 : Int)), (vI (0 : Int)), (vI
  (0 : Int)), (vI (0 : Int)), (vI (0 : Int)), (vI (0 : Int)), (vI (0 : Int)), (vB false)]])]) else some (Ex.normal, St.mk [(25, (vI (IntKind.wrap IntKind.i64 ((↑k : Int) +
  (1 : Int))))), (24, (vI (↑(List.length l) : Int))), (23, AV.sl (List.map eBeat l)), (7, (vI rate)), (6, .ptr 6 0 0), (4, .ptr 4 0 0), (1, (vI q)), (0, AV.sl (List.map
  eBeat l))] [(6, Blk.mk true 0 0 [[(vI f.wait), (vI f.played), (vI f.stalled), (vI f.paused), (vI f.stalls), (vI f.changes), (vI f.bits), (vB f.ended)]]), (4, Blk.mk true 0
  0 [[(vI (0 : Int)), (vI (0 : Int)), (vI (0 : Int)), (vI (0 : Int)), (vI (0 : Int)), (vI (0 : Int)), (vI (0 : Int)), (vB false)]])]) else none else some (Ex.exit (0 : Nat),
  St.mk [(6, .ptr 6 0 0), (4, .ptr 4 0 0), (1, (vI q)), (0, AV.sl (List.map eBeat l))] [(6, Blk.mk true 0 0 [[(vI f.wait), (vI f.played), (vI f.stalled), (vI f.paused), (vI
  f.stalls), (vI f.changes), (vI f.bits), (vB f.ended)]]), (4, Blk.mk true 0 0 [[(vI (0 : Int)), (vI (0 : Int)), (vI (0 : Int)), (vI (0 : Int)), (vI (0 : Int)), (vI (0 :
  Int)), (vI (0 : Int)), (vB false)]])]) := by kernel_rfl

theorem lpFg1_ok (l : List Beat) (q : Int) (f : Figs) (rate : Int) (k : Nat) (hp : prlFg1 l q f rate k = true) : ∀ ex s', (outFg1 l q f rate k).val = some (ex, s') → LoopOK enFgs (loopN Try.f33 0) (stFg1 l q f rate k) ex s' := by
  simp only [prlFg1, Bool.and_eq_true, decide_eq_true_eq] at hp
  obtain ⟨h1, h2⟩ := hp
  refine loop_fold (xs := l) (st := fun a k => stFg1 l q a.2.1 a.2.2 k) (f := F.figS1 (F.t0 l)) (fin := fun a => (.exit 0, ⟨[(6, .ptr 6 0 0), (4, .ptr 4 0 0), (1, vI q), (0, .sl (l.map eBeat))], [(6, ⟨true, 0, 0, [eFigs a.2.1]⟩), (4, ⟨true, 0, 0, [[vI 0, vI 0, vI 0, vI 0, vI 0, vI 0, vI 0, vB false]]⟩)]⟩)) (I := fun a k => a.1 = F.prev l k) (n := ([25, 24, 23, 7, 6, 4, 1, 0], [6, 4])) (e := ([6, 4, 1, 0], [6, 4])) (r := ([], [])) ?_ (fun _ => ⟨by simp, rfl⟩) (fun _ _ => rfl) ?_ (F.prev l k, f, rate) k h2 rfl
  · rintro ⟨p, f, rate⟩ _
    rw [evFg1L]; simp
    rfl
  · rintro ⟨p, f, rate⟩ k y hy hI
    have hlt := lt_at hy
    simp only at hI
    subst hI
    refine ⟨?_, hy.symm⟩
    have h0 : decide (0 < l.length) = true := decide_eq_true (by omega)
    cases k with
    | zero =>
      have hz : (((0 : Nat) : Int) == 0) = true := rfl
      rw [evFg1L]
      simp only [unSty, preSty1, unstFg1, unstFg2, unstFg10, unstFg20, prlFg1, prlFg2, outFg1, outFg2, etaBeat, etaSpan, etaHole, etaLevel, etaFigs, etaRatio, etaRep, etaStay, Option.bind_some, List.length_map, unStrs, unInts, unBools, uneL_eIs, unBeats, uneL_eBeats, unSpans, unHoles, unLevels, unFigss, unRatios, unReps, unStays, F.lt, F.le, cond_true, cond_false, Bool.and_true, Bool.true_and, cast_lt hlt, decide_eq_true hlt, next_at hlt (by omega : l.length ≤ 9223372036854775807), getD_at hy, stFg1, F.figS1, F.notSt, F.prev, F.t0, hz]
      cases (y.state == 2)
      · cases (y.state == 3) <;> rfl
      · cases decide (f.wait < 0) <;> cases decide (0 ≤ rate) <;> cases (rate != y.rate) <;> rfl
    | succ j =>
      have ho : l[j]? = some l[j] := List.getElem?_eq_getElem (by omega)
      have hz : (((j + 1 : Nat) : Int) == 0) = false := by simp; omega
      have hlt' : j < l.length := by omega
      rw [evFg1L]
      simp only [unSty, preSty1, unstFg1, unstFg2, unstFg10, unstFg20, prlFg1, prlFg2, outFg1, outFg2, etaBeat, etaSpan, etaHole, etaLevel, etaFigs, etaRatio, etaRep, etaStay, Option.bind_some, List.length_map, unStrs, unInts, unBools, uneL_eIs, unBeats, uneL_eBeats, unSpans, unHoles, unLevels, unFigss, unRatios, unReps, unStays, F.lt, F.le, cond_true, cond_false, Bool.and_true, Bool.true_and, cast_lt hlt, decide_eq_true hlt, decide_eq_true hlt', next_at hlt (by omega : l.length ≤ 9223372036854775807), getD_at hy, getD_at ho, stFg1, F.figS1, F.notSt, F.prev, F.t0, hz, ho, h0, idx_sub (by omega : j + 1 ≤ 9223372036854775807)]
      cases (y.state == 2)
      · cases (y.state == 3)
        · rfl
        · cases (l[j].state != 3) <;> rfl
      · cases decide (f.wait < 0) <;> cases decide (0 ≤ rate) <;> cases (rate != y.rate) <;> rfl

theorem evFg2L (ss : List Stay) (f : Figs) (n : Int) (k : Nat) : ((exec enFgs (loopN Try.f33 1) (stFg2 ss f n k)).bind (lessX ([81, 80, 79, 10, 6, 4], [6, 4]) ([10, 6, 4], [6, 4]) ([], []))).val =
  bif decide ((↑k : Int) < (↑(List.length ss) : Int)) then Option.bind (unenc (List.map eStay) (List.map eStay ss)) fun (z : List Stay) => bif decide (k < List.length z)
  then bif (List.getD z k (Stay.mk (Beat.mk (ByteArray.mk (Array.mk [])) (0 : Int) (0 : Int) (0 : Int) (0 : Int)) (Span.mk (0 : Int) (0 : Int)))).beat.state == (2 : Int)
  then some (Ex.normal, St.mk [(81, (vI (IntKind.wrap IntKind.i64 ((↑k : Int) + (1 : Int))))), (80, (vI (↑(List.length ss) : Int))), (79, AV.sl (List.map eStay ss)), (10,
  (vI (IntKind.wrap IntKind.i64 (n + IntKind.wrap IntKind.i64 ((List.getD z k (Stay.mk (Beat.mk (ByteArray.mk (Array.mk [])) (0 : Int) (0 : Int) (0 : Int) (0 : Int))
  (Span.mk (0 : Int) (0 : Int)))).beat.rate * IntKind.wrap IntKind.i64 ((List.getD z k (Stay.mk (Beat.mk (ByteArray.mk (Array.mk [])) (0 : Int) (0 : Int) (0 : Int) (0 :
  Int)) (Span.mk (0 : Int) (0 : Int)))).sp.to - (List.getD z k (Stay.mk (Beat.mk (ByteArray.mk (Array.mk [])) (0 : Int) (0 : Int) (0 : Int) (0 : Int)) (Span.mk (0 : Int) (0
  : Int)))).sp.fr)))))), (6, .ptr 6 0 0), (4, .ptr 4 0 0)] [(6, Blk.mk true 0 0 [[(vI f.wait), (vI (IntKind.wrap IntKind.i64 (f.played + IntKind.wrap IntKind.i64 ((List.getD
  z k (Stay.mk (Beat.mk (ByteArray.mk (Array.mk [])) (0 : Int) (0 : Int) (0 : Int) (0 : Int)) (Span.mk (0 : Int) (0 : Int)))).sp.to - (List.getD z k (Stay.mk (Beat.mk
  (ByteArray.mk (Array.mk [])) (0 : Int) (0 : Int) (0 : Int) (0 : Int)) (Span.mk (0 : Int) (0 : Int)))).sp.fr)))), (vI f.stalled), (vI f.paused), (vI f.stalls), (vI
  f.changes), (vI f.bits), (vB f.ended)]]), (4, Blk.mk true 0 0 [[(vI (0 : Int)), (vI (0 : Int)), (vI (0 : Int)), (vI (0 : Int)), (vI (0 : Int)), (vI (0 : Int)), (vI (0 :
  Int)), (vB false)]])]) else bif (List.getD z k (Stay.mk (Beat.mk (ByteArray.mk (Array.mk [])) (0 : Int) (0 : Int) (0 : Int) (0 : Int)) (Span.mk (0 : Int) (0 :
  Int)))).beat.state == (3 : Int) then some (Ex.normal, St.mk [(81, (vI (IntKind.wrap IntKind.i64 ((↑k : Int) + (1 : Int))))), (80, (vI (↑(List.length ss) : Int))), (79,
  AV.sl (List.map eStay ss)), (10, (vI n)), (6, .ptr 6 0 0), (4, .ptr 4 0 0)] [(6, Blk.mk true 0 0 [[(vI f.wait), (vI f.played), (vI (IntKind.wrap IntKind.i64 (f.stalled +
  IntKind.wrap IntKind.i64 ((List.getD z k (Stay.mk (Beat.mk (ByteArray.mk (Array.mk [])) (0 : Int) (0 : Int) (0 : Int) (0 : Int)) (Span.mk (0 : Int) (0 : Int)))).sp.to -
  (List.getD z k (Stay.mk (Beat.mk (ByteArray.mk (Array.mk [])) (0 : Int) (0 : Int) (0 : Int) (0 : Int)) (Span.mk (0 : Int) (0 : Int)))).sp.fr)))), (vI f.paused), (vI
  f.stalls), (vI f.changes), (vI f.bits), (vB f.ended)]]), (4, Blk.mk true 0 0 [[(vI (0 : Int)), (vI (0 : Int)), (vI (0 : Int)), (vI (0 : Int)), (vI (0 : Int)), (vI (0 :
  Int)), (vI (0 : Int)), (vB false)]])]) else bif (List.getD z k (Stay.mk (Beat.mk (ByteArray.mk (Array.mk [])) (0 : Int) (0 : Int) (0 : Int) (0 : Int)) (Span.mk (0 : Int)
  (0 : Int)))).beat.state == (4 : Int) then some (Ex.normal, St.mk [(81, (vI (IntKind.wrap IntKind.i64 ((↑k : Int) + (1 : Int))))), (80, (vI (↑(List.length ss) : Int))),
  (79, AV.sl (List.map eStay ss)), (10, (vI n)), (6, .ptr 6 0 0), (4, .ptr 4 0 0)] [(6, Blk.mk true 0 0 [[(vI f.wait), (vI f.played), (vI f.stalled), (vI (IntKind.wrap
  IntKind.i64 (f.paused + IntKind.wrap IntKind.i64 ((List.getD z k (Stay.mk (Beat.mk (ByteArray.mk (Array.mk [])) (0 : Int) (0 : Int) (0 : Int) (0 : Int)) (Span.mk (0 : Int)
  (0 : Int)))).sp.to - (List.getD z k (Stay.mk (Beat.mk (ByteArray.mk (Array.mk [])) (0 : Int) (0 : Int) (0 : Int) (0 : Int)) (Span.mk (0 : Int) (0 : Int)))).sp.fr)))), (vI
  f.stalls), (vI f.changes), (vI f.bits), (vB f.ended)]]), (4, Blk.mk true 0 0 [[(vI (0 : Int)), (vI (0 : Int)), (vI (0 : Int)), (vI (0 : Int)), (vI (0 : Int)), (vI (0 :
  Int)), (vI (0 : Int)), (vB false)]])]) else some (Ex.normal, St.mk [(81, (vI (IntKind.wrap IntKind.i64 ((↑k : Int) + (1 : Int))))), (80, (vI (↑(List.length ss) : Int))),
  (79, AV.sl (List.map eStay ss)), (10, (vI n)), (6, .ptr 6 0 0), (4, .ptr 4 0 0)] [(6, Blk.mk true 0 0 [[(vI f.wait), (vI f.played), (vI f.stalled), (vI f.paused), (vI
  f.stalls), (vI f.changes), (vI f.bits), (vB f.ended)]]), (4, Blk.mk true 0 0 [[(vI (0 : Int)), (vI (0 : Int)), (vI (0 : Int)), (vI (0 : Int)), (vI (0 : Int)), (vI (0 :
  Int)), (vI (0 : Int)), (vB false)]])]) else none else some (Ex.exit (3 : Nat), St.mk [(10, (vI n)), (6, .ptr 6 0 0), (4, .ptr 4 0 0)] [(6, Blk.mk true 0 0 [[(vI f.wait),
  (vI f.played), (vI f.stalled), (vI f.paused), (vI f.stalls), (vI f.changes), (vI f.bits), (vB f.ended)]]), (4, Blk.mk true 0 0 [[(vI (0 : Int)), (vI (0 : Int)), (vI (0 :
  Int)), (vI (0 : Int)), (vI (0 : Int)), (vI (0 : Int)), (vI (0 : Int)), (vB false)]])]) := by kernel_rfl

theorem lpFg2_ok (ss : List Stay) (f : Figs) (n : Int) (k : Nat) (hp : prlFg2 ss f n k = true) : ∀ ex s', (outFg2 ss f n k).val = some (ex, s') → LoopOK enFgs (loopN Try.f33 1) (stFg2 ss f n k) ex s' := by
  simp only [prlFg2, Bool.and_eq_true, decide_eq_true_eq] at hp
  obtain ⟨h1, h2⟩ := hp
  refine loop_fold (xs := ss) (st := fun a k => stFg2 ss a.1 a.2 k) (f := F.figS2) (fin := fun a => (.exit 3, ⟨[(10, vI a.2), (6, .ptr 6 0 0), (4, .ptr 4 0 0)], [(6, ⟨true, 0, 0, [eFigs a.1]⟩), (4, ⟨true, 0, 0, [[vI 0, vI 0, vI 0, vI 0, vI 0, vI 0, vI 0, vB false]]⟩)]⟩)) (I := fun _ _ => True) (n := ([81, 80, 79, 10, 6, 4], [6, 4])) (e := ([10, 6, 4], [6, 4])) (r := ([], [])) ?_ (fun _ => ⟨by simp, rfl⟩) (fun _ _ => rfl) ?_ (f, n) k h2 trivial
  · rintro ⟨f, n⟩ _
    rw [evFg2L]; simp
    rfl
  · rintro ⟨f, n⟩ k y hy _
    have hlt := lt_at hy
    refine ⟨?_, trivial⟩
    rw [evFg2L]
    simp only [unSty, preSty1, unstFg1, unstFg2, unstFg10, unstFg20, prlFg1, prlFg2, outFg1, outFg2, etaBeat, etaSpan, etaHole, etaLevel, etaFigs, etaRatio, etaRep, etaStay, Option.bind_some, List.length_map, unStrs, unInts, unBools, uneL_eIs, unBeats, uneL_eBeats, unSpans, unHoles, unLevels, unFigss, unRatios, unReps, unStays, F.lt, F.le, cond_true, cond_false, Bool.and_true, Bool.true_and, cast_lt hlt, decide_eq_true hlt, next_at hlt (by omega : ss.length ≤ 9223372036854775807), getD_at hy, stFg2, F.figS2, F.long]
    by_cases e2 : y.beat.state = 2
    · simp only [e2, beq_self_eq_true, show ((2 : Int) == 3) = false from rfl, show ((2 : Int) == 4) = false from rfl, cond_true, cond_false]
      rfl
    · by_cases e3 : y.beat.state = 3
      · simp only [e3, beq_self_eq_true, show ((3 : Int) == 2) = false from rfl, show ((3 : Int) == 4) = false from rfl, cond_true, cond_false]
        rfl
      · have b2 : (y.beat.state == 2) = false := by simpa using e2
        have b3 : (y.beat.state == 3) = false := by simpa using e3
        simp only [b2, b3, cond_false]
        cases (y.beat.state == 4) <;> rfl

theorem evFgs (l : List Beat) (q : Int) : (runF enFgs false Try.f33 [.sl (l.map eBeat), vI q]).val =
  Option.bind (idx (IntKind.wrap IntKind.i64 ((↑(List.length (List.map eBeat l)) : Int) - (1 : Int)))) fun (z : Nat) => Option.bind (unenc (List.map eBeat) (List.map eBeat
  l)) fun (z_1 : List Beat) => bif decide (z < List.length z_1) then Option.bind (unenc stFg11 (St.mk [(25, (vI (0 : Int))), (24, (vI (↑(List.length (List.map eBeat l)) :
  Int))), (23, AV.sl (List.map eBeat l)), (7, (vI (-1 : Int))), (6, .ptr 6 0 0), (4, .ptr 4 0 0), (1, (vI q)), (0, AV.sl (List.map eBeat l))] [(6, Blk.mk true 0 0 [[(vI (-1
  : Int)), (vI (0 : Int)), (vI (0 : Int)), (vI (0 : Int)), (vI (0 : Int)), (vI (0 : Int)), (vI (0 : Int)), (vB ((List.getD z_1 z (Beat.mk (ByteArray.mk (Array.mk [])) (0 :
  Int) (0 : Int) (0 : Int) (0 : Int))).state == (5 : Int)))]]), (4, Blk.mk true 0 0 [[(vI (0 : Int)), (vI (0 : Int)), (vI (0 : Int)), (vI (0 : Int)), (vI (0 : Int)), (vI (0
  : Int)), (vI (0 : Int)), (vB false)]])])) fun (z : List Beat × Int × Figs × Int × Nat) => bif decide (List.length z.fst ≤ (3000 : Nat)) && decide (z.snd.snd.snd.snd ≤
  List.length z.fst) && true then Option.bind (unenc encSty [AV.sl (List.map eBeat z.fst), (vI z.snd.fst)]) fun (z_2 : List Beat × Int) => bif decide (List.length z_2.fst ≤
  (3000 : Nat)) then Option.bind (unenc stFg21 (St.mk [(81, (vI (0 : Int))), (80, (vI (↑(List.length (List.map eStay (F.stays z_2.snd z_2.fst))) : Int))), (79, AV.sl
  (List.map eStay (F.stays z_2.snd z_2.fst))), (10, (vI (0 : Int))), (6, .ptr 6 0 0), (4, .ptr 4 0 0)] [(6, Blk.mk true 0 0 [[(vI (F.fig1 (F.t0 z.fst) (F.prev z.fst
  z.snd.snd.snd.snd) z.snd.snd.fst z.snd.snd.snd.fst (List.drop z.snd.snd.snd.snd z.fst)).wait), (vI (F.fig1 (F.t0 z.fst) (F.prev z.fst z.snd.snd.snd.snd) z.snd.snd.fst
  z.snd.snd.snd.fst (List.drop z.snd.snd.snd.snd z.fst)).played), (vI (F.fig1 (F.t0 z.fst) (F.prev z.fst z.snd.snd.snd.snd) z.snd.snd.fst z.snd.snd.snd.fst (List.drop
  z.snd.snd.snd.snd z.fst)).stalled), (vI (F.fig1 (F.t0 z.fst) (F.prev z.fst z.snd.snd.snd.snd) z.snd.snd.fst z.snd.snd.snd.fst (List.drop z.snd.snd.snd.snd z.fst)).paused),
  (vI (F.fig1 (F.t0 z.fst) (F.prev z.fst z.snd.snd.snd.snd) z.snd.snd.fst z.snd.snd.snd.fst (List.drop z.snd.snd.snd.snd z.fst)).stalls), (vI (F.fig1 (F.t0 z.fst) (F.prev
  z.fst z.snd.snd.snd.snd) z.snd.snd.fst z.snd.snd.snd.fst (List.drop z.snd.snd.snd.snd z.fst)).changes), (vI (F.fig1 (F.t0 z.fst) (F.prev z.fst z.snd.snd.snd.snd)
  z.snd.snd.fst z.snd.snd.snd.fst (List.drop z.snd.snd.snd.snd z.fst)).bits), (vB (F.fig1 (F.t0 z.fst) (F.prev z.fst z.snd.snd.snd.snd) z.snd.snd.fst z.snd.snd.snd.fst
  (List.drop z.snd.snd.snd.snd z.fst)).ended)]]), (4, Blk.mk true 0 0 [[(vI (0 : Int)), (vI (0 : Int)), (vI (0 : Int)), (vI (0 : Int)), (vI (0 : Int)), (vI (0 : Int)), (vI
  (0 : Int)), (vB false)]])])) fun (z : List Stay × Figs × Int × Nat) => bif decide (List.length z.fst ≤ (3000 : Nat)) && decide (z.snd.snd.snd ≤ List.length z.fst) && true
  then some (AV.tup [AV.agg [(vI (F.fig2 z.snd.fst z.snd.snd.fst (List.drop z.snd.snd.snd z.fst)).fst.wait), (vI (F.fig2 z.snd.fst z.snd.snd.fst (List.drop z.snd.snd.snd
  z.fst)).fst.played), (vI (F.fig2 z.snd.fst z.snd.snd.fst (List.drop z.snd.snd.snd z.fst)).fst.stalled), (vI (F.fig2 z.snd.fst z.snd.snd.fst (List.drop z.snd.snd.snd
  z.fst)).fst.paused), (vI (F.fig2 z.snd.fst z.snd.snd.fst (List.drop z.snd.snd.snd z.fst)).fst.stalls), (vI (F.fig2 z.snd.fst z.snd.snd.fst (List.drop z.snd.snd.snd
  z.fst)).fst.changes), (vI (IntKind.wrap IntKind.i64 (Int.tdiv (F.fig2 z.snd.fst z.snd.snd.fst (List.drop z.snd.snd.snd z.fst)).snd (1000 : Int)))), (vB (F.fig2 z.snd.fst
  z.snd.snd.fst (List.drop z.snd.snd.snd z.fst)).fst.ended)], (vI (F.fig2 z.snd.fst z.snd.snd.fst (List.drop z.snd.snd.snd z.fst)).snd)], []) else none else none else none
  else none := by kernel_rfl

def encFgs1 (l : List Beat) (q : Int) : List AV := [.sl (l.map eBeat), vI q]

def encFgs (a : (List Beat) × Int) : List AV := encFgs1 a.1 a.2

theorem encFgs_inj (a a' : (List Beat) × Int) (h : encFgs a = encFgs a') : a = a' := by
  simp only [encFgs, encFgs1] at h
  try simp [strs_inj, ints_inj, bools_inj, eL_eIs_inj, eBeats_inj, eBeat_iff, eL_eBeats_inj, eSpans_inj, eSpan_iff, eHoles_inj, eHole_iff, eLevels_inj, eLevel_iff, eFigss_inj, eFigs_iff, eRatios_inj, eRatio_iff, eReps_inj, eRep_iff, eStays_inj, eStay_iff] at h
  grind

theorem unFgs (l : List Beat) (q : Int) : unenc encFgs ([AV.sl (List.map eBeat l), (vI q)]) = some (l, q) := unenc_of encFgs_inj (l, q) rfl

def resFgs1 (l : List Beat) (q : Int) : AV × Heap := (.tup [.agg (eFigs (F.figs q l).1), vI (F.figs q l).2], [])

def preFgs1 (l : List Beat) (q : Int) : Bool := decide (l.length ≤ 3000) && decide (0 < l.length)

noncomputable def oFgs : Orc := orc 33 false encFgs (fun a => preFgs1 a.1 a.2) fun a => resFgs1 a.1 a.2

theorem okFgs : OrcOK Try.prog noG oFgs := by
  refine mk_ok Try.f33 (keep := false) (by kernel_rfl) (by kernel_rfl) enFgs_ok mixed (two_loops (x0 := loopN Try.f33 0) (x1 := loopN Try.f33 1) (by kernel_rfl) (lpo_ok ?_) (lpo_ok ?_)) (by first | exact fun _ _ => ⟨rfl, rfl⟩ | (intro h; cases h)) ?_
  · rintro ⟨l, q, f, rate, k⟩ hp
    exact lpFg1_ok l q f rate k hp
  · rintro ⟨ss, f, n, k⟩ hp
    exact lpFg2_ok ss f n k hp
  rintro ⟨l, q⟩ hpre hok
  show (runF enFgs false _ (encFgs1 _ _)).val = some (resFgs1 _ _)
  unfold encFgs1 resFgs1
  rw [evFgs]
  simp only [preFgs1, decide_eq_true_eq, Bool.and_eq_true] at hpre
  have hj : idx (IntKind.i64.wrap ((l.length : Int) - 1)) = some (l.length - 1) := by
    have := idx_sub (j := l.length - 1) (by omega)
    rw [show l.length - 1 + 1 = l.length by omega] at this
    exact this
  have hlt : decide (l.length - 1 < l.length) = true := decide_eq_true (by omega)
  simp only [unSty, preSty1, unstFg1, unstFg2, unstFg10, unstFg20, prlFg1, prlFg2, outFg1, outFg2, etaBeat, etaSpan, etaHole, etaLevel, etaFigs, etaRatio, etaRep, etaStay, Option.bind_some, List.length_map, unStrs, unInts, unBools, uneL_eIs, unBeats, uneL_eBeats, unSpans, unHoles, unLevels, unFigss, unRatios, unReps, unStays, F.lt, F.le, cond_true, cond_false, Bool.and_true, Bool.true_and, List.drop_zero, Nat.zero_le, decide_true, hpre.1, hj, hlt]
  have hs : decide ((F.stays q l).length ≤ 3000) = true := decide_eq_true (by have := F.stays_len q l; omega)
  have hl : decide (l.length ≤ 3000) = true := decide_eq_true hpre.1
  have hp : F.prev l 0 = none := rfl
  refine (congrArg (fun o => Option.bind o _) (unenc_of stFg1_inj (l, q, F.figI l, -1, 0) rfl)).trans ?_
  simp only [Option.bind_some, hs, hl, hp, Nat.zero_le, decide_true, Bool.and_self, cond_true, List.drop_zero]
  rfl

noncomputable def enFig : Env := envH ty noG lks [oSeF, oOfS, oFgs] [] [] []

theorem enFig_ok : EnvOK Try.prog enFig := by
  refine envH_ok lks_ok ty_ok ?_ ?_
  · simp only [List.forall_mem_cons]
    exact ⟨okSeF, okOfS, okFgs, by simp⟩
  · simp

theorem evFig (l : List Beat) (q : Int) (x : ByteArray) : (runF enFig false Try.f16 [.sl (l.map eBeat), vI q, vS x]).val =
  Option.bind (unenc encSeF [AV.sl (List.map eBeat l), (vI q), (vS x)]) fun (z : List Beat × Int × ByteArray) => bif F.sesF z.fst z.snd.fst z.snd.snd != (0 : Int) then some
  (AV.tup [AV.agg [(vI (0 : Int)), (vI (0 : Int)), (vI (0 : Int)), (vI (0 : Int)), (vI (0 : Int)), (vI (0 : Int)), (vI (0 : Int)), (vB false)], (vI (F.sesF z.fst z.snd.fst
  z.snd.snd))], []) else Option.bind (unenc encOfS [AV.sl (List.map eBeat l), (vS x)]) fun (z : List Beat × ByteArray) => bif decide (List.length z.fst ≤ (3000 : Nat)) then
  bif (↑(List.length (List.map eBeat (F.ofA z.snd [] z.fst))) : Int) == (0 : Int) then some (AV.tup [AV.agg [(vI (0 : Int)), (vI (0 : Int)), (vI (0 : Int)), (vI (0 : Int)),
  (vI (0 : Int)), (vI (0 : Int)), (vI (0 : Int)), (vB false)], (vI (9 : Int))], []) else Option.bind (unenc encFgs [AV.sl (List.map eBeat (F.ofA z.snd [] z.fst)), (vI q)])
  fun (z : List Beat × Int) => bif decide (List.length z.fst ≤ (3000 : Nat)) && decide ((0 : Nat) < List.length z.fst) then some (AV.tup [AV.agg [(vI (F.figM z.snd
  z.fst).fst.wait), (vI (F.figM z.snd z.fst).fst.played), (vI (F.figM z.snd z.fst).fst.stalled), (vI (F.figM z.snd z.fst).fst.paused), (vI (F.figM z.snd z.fst).fst.stalls),
  (vI (F.figM z.snd z.fst).fst.changes), (vI (IntKind.wrap IntKind.i64 (Int.tdiv (F.figM z.snd z.fst).snd (1000 : Int)))), (vB (F.figM z.snd z.fst).fst.ended)], (vI (0 :
  Int))], []) else none else none := by kernel_rfl

def encFig1 (l : List Beat) (q : Int) (x : ByteArray) : List AV := [.sl (l.map eBeat), vI q, vS x]

def encFig (a : (List Beat) × Int × ByteArray) : List AV := encFig1 a.1 a.2.1 a.2.2

theorem encFig_inj (a a' : (List Beat) × Int × ByteArray) (h : encFig a = encFig a') : a = a' := by
  simp only [encFig, encFig1] at h
  try simp [strs_inj, ints_inj, bools_inj, eL_eIs_inj, eBeats_inj, eBeat_iff, eL_eBeats_inj, eSpans_inj, eSpan_iff, eHoles_inj, eHole_iff, eLevels_inj, eLevel_iff, eFigss_inj, eFigs_iff, eRatios_inj, eRatio_iff, eReps_inj, eRep_iff, eStays_inj, eStay_iff] at h
  grind

theorem unFig (l : List Beat) (q : Int) (x : ByteArray) : unenc encFig ([AV.sl (List.map eBeat l), (vI q), (vS x)]) = some (l, q, x) := unenc_of encFig_inj (l, q, x) rfl

def resFig1 (l : List Beat) (q : Int) (x : ByteArray) : AV × Heap := (.tup [.agg (eFigs (F.figures l q x).1), vI (F.figures l q x).2], [])

def preFig1 (l : List Beat) (q : Int) (x : ByteArray) : Bool := true

noncomputable def oFig : Orc := orc 16 false encFig (fun a => preFig1 a.1 a.2.1 a.2.2) fun a => resFig1 a.1 a.2.1 a.2.2

theorem okFig : OrcOK Try.prog noG oFig := by
  refine mk_ok Try.f16 (keep := false) (by kernel_rfl) (by kernel_rfl) enFig_ok mixed (no_loops (by kernel_rfl)) (by first | exact fun _ _ => ⟨rfl, rfl⟩ | (intro h; cases h)) ?_
  rintro ⟨l, q, x⟩ hpre hok
  show (runF enFig false _ (encFig1 _ _ _)).val = some (resFig1 _ _ _)
  unfold encFig1 resFig1
  rw [evFig]
  simp only [unSeF, unOfS, unFgs, preSeF1, preOfS1, preFgs1, etaBeat, etaSpan, etaHole, etaLevel, etaFigs, etaRatio, etaRep, etaStay, Option.bind_some, List.length_map, unStrs, unInts, unBools, uneL_eIs, unBeats, uneL_eBeats, unSpans, unHoles, unLevels, unFigss, unRatios, unReps, unStays, F.lt, F.le, cond_true, cond_false, Bool.and_true, Bool.true_and, F.figures]
  cases h : F.sesF l q x != 0
  · have hl := F.sesF_len h
    have hl1 : decide (l.length ≤ 3000) = true := decide_eq_true hl
    have hl2 : decide ((F.ofA x [] l).length ≤ 3000) = true := decide_eq_true (by have := F.ofA_len x l []; simp at this; omega)
    simp only [hl1, hl2, cond_false, cond_true]
    cases F.ofA x [] l with
    | nil => rfl
    | cons b r =>
      have hz : (((b :: r).length : Int) == 0) = false := by simp; omega
      have hn : decide (0 < (b :: r).length) = true := by simp
      simp only [hz, hn, cond_false, cond_true, Bool.and_self, List.isEmpty]
      rfl
  · rfl

end M
end Go.Proofs.Ytnkaadiofjoacaa
