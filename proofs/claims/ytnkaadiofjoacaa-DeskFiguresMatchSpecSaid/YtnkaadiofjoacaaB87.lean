/- What is proved here: what figures of the reference return on plain data (no statement of the seat). -/
import Derived.Test.YtnkaadiofjoacaaB86
namespace Go.Proofs.Ytnkaadiofjoacaa
open Go Go.RowKit
set_option linter.unusedVariables false
set_option linter.unusedSimpArgs false
set_option maxHeartbeats 1000000

namespace F

def okR (b : Beat) : Bool := decide (0 ≤ b.rate)

/-- The rate at a place, if it is one. -/
def rateAt (l : List Beat) (pl : Int) : Int := bif decide (pl < 0) then -1 else (l.getD pl.toNat default).rate

theorem okR_all {l : List Beat} (h : ∀ b ∈ l, beatF1 b = 0) : l.all okR = true := by
  rw [List.all_eq_true]
  intro b hb
  exact decide_eq_true (beatF1_rng (h b hb)).2.2.1

end F

namespace M

def stRfg (l : List Beat) (q : Int) (f : Figs) (n : Int) (pl : Int) (k : Nat) : St := ⟨[(13, vI k), (12, vI l.length), (11, .sl (l.map eBeat)), (6, vI pl), (5, vI n), (4, .ptr 4 0 0), (1, vI q), (0, .sl (l.map eBeat))], [(4, ⟨true, 0, 0, [eFigs f]⟩)]⟩

def stRfg1 (a : (List Beat) × Int × Figs × Int × Int × Nat) : St := stRfg a.1 a.2.1 a.2.2.1 a.2.2.2.1 a.2.2.2.2.1 a.2.2.2.2.2

theorem stRfg_inj (a a' : (List Beat) × Int × Figs × Int × Int × Nat) (h : stRfg1 a = stRfg1 a') : a = a' := by
  simp only [stRfg1, stRfg] at h
  try simp [strs_inj, ints_inj, bools_inj, eBeats_inj, eBeat_iff, eL_eBeats_inj, eSpans_inj, eSpan_iff, eHoles_inj, eHole_iff, eLevels_inj, eLevel_iff, eFigss_inj, eFigs_iff, eRatios_inj, eRatio_iff, eReps_inj, eRep_iff, eStays_inj, eStay_iff] at h
  grind

theorem unstRfg (l : List Beat) (q : Int) (f : Figs) (n : Int) (pl : Int) (k : Nat) : unenc stRfg1 (St.mk [(13, (vI (↑k : Int))), (12, (vI (↑(List.length l) : Int))), (11, AV.sl (List.map eBeat l)), (6, (vI pl)), (5, (vI n)), (4, .ptr 4 0 0), (1, (vI q)), (0, AV.sl
  (List.map eBeat l))] [(4, Blk.mk true 0 0 [[(vI f.wait), (vI f.played), (vI f.stalled), (vI f.paused), (vI f.stalls), (vI f.changes), (vI f.bits), (vB f.ended)]])]) = some (l, q, f, n, pl, k) := unenc_of stRfg_inj (l, q, f, n, pl, k) rfl

def outRfg (l : List Beat) (q : Int) (f : Figs) (n : Int) (pl : Int) (k : Nat) : T (Ex × St) := .ret (.exit 0, ⟨[(5, vI (F.rf q (F.t0 l) (F.prev l k) (F.rateAt l pl) f n (l.drop k)).2), (4, .ptr 4 0 0)], [(4, ⟨true, 0, 0, [eFigs (F.rf q (F.t0 l) (F.prev l k) (F.rateAt l pl) f n (l.drop k)).1]⟩)]⟩)

noncomputable def prlRfg (l : List Beat) (q : Int) (f : Figs) (n : Int) (pl : Int) (k : Nat) : Bool := decide (l.length ≤ 3000 ∧ k = 0 ∧ pl = -1) && l.all F.okR

noncomputable def lpRfg : Nat × (St → T (Ex × St)) := (4, lpo [13, 12, 11, 6, 5, 4, 1, 0] [4] stRfg1 (fun a => prlRfg a.1 a.2.1 a.2.2.1 a.2.2.2.1 a.2.2.2.2.1 a.2.2.2.2.2) fun a => outRfg a.1 a.2.1 a.2.2.1 a.2.2.2.1 a.2.2.2.2.1 a.2.2.2.2.2)

noncomputable def enRfg : Env := envH ty noG lks [oLst] [] [] [lpRfg]

theorem enRfg_ok : EnvOK Try.prog enRfg := by
  refine envH_ok lks_ok ty_ok ?_ ?_
  · simp only [List.forall_mem_cons]
    exact ⟨okLst, by simp⟩
  · simp

theorem evRfgL (l : List Beat) (q : Int) (f : Figs) (n : Int) (pl : Int) (k : Nat) : ((exec enRfg (loopN Try.f36 0) (stRfg l q f n pl k)).bind (lessX ([13, 12, 11, 6, 5, 4, 1, 0], [4]) ([5, 4], [4]) ([], []))).val =
  bif decide ((↑k : Int) < (↑(List.length l) : Int)) then Option.bind (unenc (List.map eBeat) (List.map eBeat l)) fun (z : List Beat) => bif decide (k < List.length z) then
  Option.bind (unenc encLst [AV.sl (List.map eBeat l), (vI (↑k : Int)), (vI q)]) fun (z_1 : List Beat × Nat × Int) => bif decide (z_1.snd.fst < List.length z_1.fst) &&
  decide (List.length z_1.fst ≤ (3000 : Nat)) then bif (List.getD z k (Beat.mk (ByteArray.mk (Array.mk [])) (0 : Int) (0 : Int) (0 : Int) (0 : Int))).state == (2 : Int) then
  bif decide (f.wait < (0 : Int)) then Option.bind (unenc (List.map eBeat) (List.map eBeat l)) fun (z_2 : List Beat) => bif decide ((0 : Nat) < List.length z_2) then bif
  decide ((0 : Int) ≤ pl) then Option.bind (idx pl) fun (z_3 : Nat) => Option.bind (unenc (List.map eBeat) (List.map eBeat l)) fun (z_4 : List Beat) => bif decide (z_3 <
  List.length z_4) then bif (List.getD z_4 z_3 (Beat.mk (ByteArray.mk (Array.mk [])) (0 : Int) (0 : Int) (0 : Int) (0 : Int))).rate != (List.getD z k (Beat.mk (ByteArray.mk
  (Array.mk [])) (0 : Int) (0 : Int) (0 : Int) (0 : Int))).rate then some (Ex.normal, St.mk [(13, (vI (IntKind.wrap IntKind.i64 ((↑k : Int) + (1 : Int))))), (12, (vI
  (↑(List.length l) : Int))), (11, AV.sl (List.map eBeat l)), (6, (vI (↑k : Int))), (5, (vI (IntKind.wrap IntKind.i64 (n + IntKind.wrap IntKind.i64 ((List.getD z k (Beat.mk
  (ByteArray.mk (Array.mk [])) (0 : Int) (0 : Int) (0 : Int) (0 : Int))).rate * max (0 : Int) (IntKind.wrap IntKind.i64 (F.lastsAt z_1.fst z_1.snd.fst z_1.snd.snd -
  (List.getD z k (Beat.mk (ByteArray.mk (Array.mk [])) (0 : Int) (0 : Int) (0 : Int) (0 : Int))).time))))))), (4, .ptr 4 0 0), (1, (vI q)), (0, AV.sl (List.map eBeat l))]
  [(4, Blk.mk true 0 0 [[(vI (IntKind.wrap IntKind.i64 ((List.getD z k (Beat.mk (ByteArray.mk (Array.mk [])) (0 : Int) (0 : Int) (0 : Int) (0 : Int))).time - (List.getD z_2
  (0 : Nat) (Beat.mk (ByteArray.mk (Array.mk [])) (0 : Int) (0 : Int) (0 : Int) (0 : Int))).time))), (vI (IntKind.wrap IntKind.i64 (f.played + max (0 : Int) (IntKind.wrap
  IntKind.i64 (F.lastsAt z_1.fst z_1.snd.fst z_1.snd.snd - (List.getD z k (Beat.mk (ByteArray.mk (Array.mk [])) (0 : Int) (0 : Int) (0 : Int) (0 : Int))).time))))), (vI
  f.stalled), (vI f.paused), (vI f.stalls), (vI (IntKind.wrap IntKind.i64 (f.changes + (1 : Int)))), (vI f.bits), (vB ((List.getD z k (Beat.mk (ByteArray.mk (Array.mk []))
  (0 : Int) (0 : Int) (0 : Int) (0 : Int))).state == (5 : Int)))]])]) else some (Ex.normal, St.mk [(13, (vI (IntKind.wrap IntKind.i64 ((↑k : Int) + (1 : Int))))), (12, (vI
  (↑(List.length l) : Int))), (11, AV.sl (List.map eBeat l)), (6, (vI (↑k : Int))), (5, (vI (IntKind.wrap IntKind.i64 (n + IntKind.wrap IntKind.i64 ((List.getD z k (Beat.mk
  (ByteArray.mk (Array.mk [])) (0 : Int) (0 : Int) (0 : Int) (0 : Int))).rate * max (0 : Int) (IntKind.wrap IntKind.i64 (F.lastsAt z_1.fst z_1.snd.fst z_1.snd.snd -
  (List.getD z k (Beat.mk (ByteArray.mk (Array.mk [])) (0 : Int) (0 : Int) (0 : Int) (0 : Int))).time))))))), (4, .ptr 4 0 0), (1, (vI q)), (0, AV.sl (List.map eBeat l))]
  [(4, Blk.mk true 0 0 [[(vI (IntKind.wrap IntKind.i64 ((List.getD z k (Beat.mk (ByteArray.mk (Array.mk [])) (0 : Int) (0 : Int) (0 : Int) (0 : Int))).time - (List.getD z_2
  (0 : Nat) (Beat.mk (ByteArray.mk (Array.mk [])) (0 : Int) (0 : Int) (0 : Int) (0 : Int))).time))), (vI (IntKind.wrap IntKind.i64 (f.played + max (0 : Int) (IntKind.wrap
  IntKind.i64 (F.lastsAt z_1.fst z_1.snd.fst z_1.snd.snd - (List.getD z k (Beat.mk (ByteArray.mk (Array.mk [])) (0 : Int) (0 : Int) (0 : Int) (0 : Int))).time))))), (vI
  f.stalled), (vI f.paused), (vI f.stalls), (vI f.changes), (vI f.bits), (vB ((List.getD z k (Beat.mk (ByteArray.mk (Array.mk [])) (0 : Int) (0 : Int) (0 : Int) (0 :
  Int))).state == (5 : Int)))]])]) else none else some (Ex.normal, St.mk [(13, (vI (IntKind.wrap IntKind.i64 ((↑k : Int) + (1 : Int))))), (12, (vI (↑(List.length l) :
  Int))), (11, AV.sl (List.map eBeat l)), (6, (vI (↑k : Int))), (5, (vI (IntKind.wrap IntKind.i64 (n + IntKind.wrap IntKind.i64 ((List.getD z k (Beat.mk (ByteArray.mk
  (Array.mk [])) (0 : Int) (0 : Int) (0 : Int) (0 : Int))).rate * max (0 : Int) (IntKind.wrap IntKind.i64 (F.lastsAt z_1.fst z_1.snd.fst z_1.snd.snd - (List.getD z k
  (Beat.mk (ByteArray.mk (Array.mk [])) (0 : Int) (0 : Int) (0 : Int) (0 : Int))).time))))))), (4, .ptr 4 0 0), (1, (vI q)), (0, AV.sl (List.map eBeat l))] [(4, Blk.mk true
  0 0 [[(vI (IntKind.wrap IntKind.i64 ((List.getD z k (Beat.mk (ByteArray.mk (Array.mk [])) (0 : Int) (0 : Int) (0 : Int) (0 : Int))).time - (List.getD z_2 (0 : Nat)
  (Beat.mk (ByteArray.mk (Array.mk [])) (0 : Int) (0 : Int) (0 : Int) (0 : Int))).time))), (vI (IntKind.wrap IntKind.i64 (f.played + max (0 : Int) (IntKind.wrap IntKind.i64
  (F.lastsAt z_1.fst z_1.snd.fst z_1.snd.snd - (List.getD z k (Beat.mk (ByteArray.mk (Array.mk [])) (0 : Int) (0 : Int) (0 : Int) (0 : Int))).time))))), (vI f.stalled), (vI
  f.paused), (vI f.stalls), (vI f.changes), (vI f.bits), (vB ((List.getD z k (Beat.mk (ByteArray.mk (Array.mk [])) (0 : Int) (0 : Int) (0 : Int) (0 : Int))).state == (5 :
  Int)))]])]) else none else bif decide ((0 : Int) ≤ pl) then Option.bind (idx pl) fun (z_2 : Nat) => Option.bind (unenc (List.map eBeat) (List.map eBeat l)) fun (z_3 : List
  Beat) => bif decide (z_2 < List.length z_3) then bif (List.getD z_3 z_2 (Beat.mk (ByteArray.mk (Array.mk [])) (0 : Int) (0 : Int) (0 : Int) (0 : Int))).rate != (List.getD
  z k (Beat.mk (ByteArray.mk (Array.mk [])) (0 : Int) (0 : Int) (0 : Int) (0 : Int))).rate then some (Ex.normal, St.mk [(13, (vI (IntKind.wrap IntKind.i64 ((↑k : Int) + (1 :
  Int))))), (12, (vI (↑(List.length l) : Int))), (11, AV.sl (List.map eBeat l)), (6, (vI (↑k : Int))), (5, (vI (IntKind.wrap IntKind.i64 (n + IntKind.wrap IntKind.i64
  ((List.getD z k (Beat.mk (ByteArray.mk (Array.mk [])) (0 : Int) (0 : Int) (0 : Int) (0 : Int))).rate * max (0 : Int) (IntKind.wrap IntKind.i64 (F.lastsAt z_1.fst
  z_1.snd.fst z_1.snd.snd - (List.getD z k (Beat.mk (ByteArray.mk (Array.mk [])) (0 : Int) (0 : Int) (0 : Int) (0 : Int))).time))))))), (4, .ptr 4 0 0), (1, (vI q)), (0,
  AV.sl (List.map eBeat l))] [(4, Blk.mk true 0 0 [[(vI f.wait), (vI (IntKind.wrap IntKind.i64 (f.played + max (0 : Int) (IntKind.wrap IntKind.i64 (F.lastsAt z_1.fst
  z_1.snd.fst z_1.snd.snd - (List.getD z k (Beat.mk (ByteArray.mk (Array.mk [])) (0 : Int) (0 : Int) (0 : Int) (0 : Int))).time))))), (vI f.stalled), (vI f.paused), (vI
  f.stalls), (vI (IntKind.wrap IntKind.i64 (f.changes + (1 : Int)))), (vI f.bits), (vB ((List.getD z k (Beat.mk (ByteArray.mk (Array.mk [])) (0 : Int) (0 : Int) (0 : Int) (0
  : Int))).state == (5 : Int)))]])]) else some (Ex.normal, St.mk [(13, (vI (IntKind.wrap IntKind.i64 ((↑k : Int) + (1 : Int))))), (12, (vI (↑(List.length l) : Int))), (11,
  AV.sl (List.map eBeat l)), (6, (vI (↑k : Int))), (5, (vI (IntKind.wrap IntKind.i64 (n + IntKind.wrap IntKind.i64 ((List.getD z k (Beat.mk (ByteArray.mk (Array.mk [])) (0 :
  Int) (0 : Int) (0 : Int) (0 : Int))).rate * max (0 : Int) (IntKind.wrap IntKind.i64 (F.lastsAt z_1.fst z_1.snd.fst z_1.snd.snd - (List.getD z k (Beat.mk (ByteArray.mk
  (Array.mk [])) (0 : Int) (0 : Int) (0 : Int) (0 : Int))).time))))))), (4, .ptr 4 0 0), (1, (vI q)), (0, AV.sl (List.map eBeat l))] [(4, Blk.mk true 0 0 [[(vI f.wait), (vI
  (IntKind.wrap IntKind.i64 (f.played + max (0 : Int) (IntKind.wrap IntKind.i64 (F.lastsAt z_1.fst z_1.snd.fst z_1.snd.snd - (List.getD z k (Beat.mk (ByteArray.mk (Array.mk
  [])) (0 : Int) (0 : Int) (0 : Int) (0 : Int))).time))))), (vI f.stalled), (vI f.paused), (vI f.stalls), (vI f.changes), (vI f.bits), (vB ((List.getD z k (Beat.mk
  (ByteArray.mk (Array.mk [])) (0 : Int) (0 : Int) (0 : Int) (0 : Int))).state == (5 : Int)))]])]) else none else some (Ex.normal, St.mk [(13, (vI (IntKind.wrap IntKind.i64
  ((↑k : Int) + (1 : Int))))), (12, (vI (↑(List.length l) : Int))), (11, AV.sl (List.map eBeat l)), (6, (vI (↑k : Int))), (5, (vI (IntKind.wrap IntKind.i64 (n + IntKind.wrap
  IntKind.i64 ((List.getD z k (Beat.mk (ByteArray.mk (Array.mk [])) (0 : Int) (0 : Int) (0 : Int) (0 : Int))).rate * max (0 : Int) (IntKind.wrap IntKind.i64 (F.lastsAt
  z_1.fst z_1.snd.fst z_1.snd.snd - (List.getD z k (Beat.mk (ByteArray.mk (Array.mk [])) (0 : Int) (0 : Int) (0 : Int) (0 : Int))).time))))))), (4, .ptr 4 0 0), (1, (vI q)),
  (0, AV.sl (List.map eBeat l))] [(4, Blk.mk true 0 0 [[(vI f.wait), (vI (IntKind.wrap IntKind.i64 (f.played + max (0 : Int) (IntKind.wrap IntKind.i64 (F.lastsAt z_1.fst
  z_1.snd.fst z_1.snd.snd - (List.getD z k (Beat.mk (ByteArray.mk (Array.mk [])) (0 : Int) (0 : Int) (0 : Int) (0 : Int))).time))))), (vI f.stalled), (vI f.paused), (vI
  f.stalls), (vI f.changes), (vI f.bits), (vB ((List.getD z k (Beat.mk (ByteArray.mk (Array.mk [])) (0 : Int) (0 : Int) (0 : Int) (0 : Int))).state == (5 : Int)))]])]) else
  bif (List.getD z k (Beat.mk (ByteArray.mk (Array.mk [])) (0 : Int) (0 : Int) (0 : Int) (0 : Int))).state == (3 : Int) then bif !(↑k : Int) == (0 : Int) then Option.bind
  (idx (IntKind.wrap IntKind.i64 ((↑k : Int) - (1 : Int)))) fun (z_2 : Nat) => Option.bind (unenc (List.map eBeat) (List.map eBeat l)) fun (z_3 : List Beat) => bif decide
  (z_2 < List.length z_3) then bif (List.getD z_3 z_2 (Beat.mk (ByteArray.mk (Array.mk [])) (0 : Int) (0 : Int) (0 : Int) (0 : Int))).state != (3 : Int) then some
  (Ex.normal, St.mk [(13, (vI (IntKind.wrap IntKind.i64 ((↑k : Int) + (1 : Int))))), (12, (vI (↑(List.length l) : Int))), (11, AV.sl (List.map eBeat l)), (6, (vI pl)), (5,
  (vI n)), (4, .ptr 4 0 0), (1, (vI q)), (0, AV.sl (List.map eBeat l))] [(4, Blk.mk true 0 0 [[(vI f.wait), (vI f.played), (vI (IntKind.wrap IntKind.i64 (f.stalled + max (0
  : Int) (IntKind.wrap IntKind.i64 (F.lastsAt z_1.fst z_1.snd.fst z_1.snd.snd - (List.getD z k (Beat.mk (ByteArray.mk (Array.mk [])) (0 : Int) (0 : Int) (0 : Int) (0 :
  Int))).time))))), (vI f.paused), (vI (IntKind.wrap IntKind.i64 (f.stalls + (1 : Int)))), (vI f.changes), (vI f.bits), (vB ((List.getD z k (Beat.mk (ByteArray.mk (Array.mk
  [])) (0 : Int) (0 : Int) (0 : Int) (0 : Int))).state == (5 : Int)))]])]) else some (Ex.normal, St.mk [(13, (vI (IntKind.wrap IntKind.i64 ((↑k : Int) + (1 : Int))))), (12,
  (vI (↑(List.length l) : Int))), (11, AV.sl (List.map eBeat l)), (6, (vI pl)), (5, (vI n)), (4, .ptr 4 0 0), (1, (vI q)), (0, AV.sl (List.map eBeat l))] [(4, Blk.mk true 0
  0 [[(vI f.wait), (vI f.played), (vI (IntKind.wrap IntKind.i64 (f.stalled + max (0 : Int) (IntKind.wrap IntKind.i64 (F.lastsAt z_1.fst z_1.snd.fst z_1.snd.snd - (List.getD
  z k (Beat.mk (ByteArray.mk (Array.mk [])) (0 : Int) (0 : Int) (0 : Int) (0 : Int))).time))))), (vI f.paused), (vI f.stalls), (vI f.changes), (vI f.bits), (vB ((List.getD z
  k (Beat.mk (ByteArray.mk (Array.mk [])) (0 : Int) (0 : Int) (0 : Int) (0 : Int))).state == (5 : Int)))]])]) else none else some (Ex.normal, St.mk [(13, (vI (IntKind.wrap
  IntKind.i64 ((↑k : Int) + (1 : Int))))), (12, (vI (↑(List.length l) : Int))), (11, AV.sl (List.map eBeat l)), (6, (vI pl)), (5, (vI n)), (4, .ptr 4 0 0), (1, (vI q)), (0,
  AV.sl (List.map eBeat l))] [(4, Blk.mk true 0 0 [[(vI f.wait), (vI f.played), (vI (IntKind.wrap IntKind.i64 (f.stalled + max (0 : Int) (IntKind.wrap IntKind.i64 (F.lastsAt
  z_1.fst z_1.snd.fst z_1.snd.snd - (List.getD z k (Beat.mk (ByteArray.mk (Array.mk [])) (0 : Int) (0 : Int) (0 : Int) (0 : Int))).time))))), (vI f.paused), (vI
  (IntKind.wrap IntKind.i64 (f.stalls + (1 : Int)))), (vI f.changes), (vI f.bits), (vB ((List.getD z k (Beat.mk (ByteArray.mk (Array.mk [])) (0 : Int) (0 : Int) (0 : Int) (0
  : Int))).state == (5 : Int)))]])]) else bif (List.getD z k (Beat.mk (ByteArray.mk (Array.mk [])) (0 : Int) (0 : Int) (0 : Int) (0 : Int))).state == (4 : Int) then some
  (Ex.normal, St.mk [(13, (vI (IntKind.wrap IntKind.i64 ((↑k : Int) + (1 : Int))))), (12, (vI (↑(List.length l) : Int))), (11, AV.sl (List.map eBeat l)), (6, (vI pl)), (5,
  (vI n)), (4, .ptr 4 0 0), (1, (vI q)), (0, AV.sl (List.map eBeat l))] [(4, Blk.mk true 0 0 [[(vI f.wait), (vI f.played), (vI f.stalled), (vI (IntKind.wrap IntKind.i64
  (f.paused + max (0 : Int) (IntKind.wrap IntKind.i64 (F.lastsAt z_1.fst z_1.snd.fst z_1.snd.snd - (List.getD z k (Beat.mk (ByteArray.mk (Array.mk [])) (0 : Int) (0 : Int)
  (0 : Int) (0 : Int))).time))))), (vI f.stalls), (vI f.changes), (vI f.bits), (vB ((List.getD z k (Beat.mk (ByteArray.mk (Array.mk [])) (0 : Int) (0 : Int) (0 : Int) (0 :
  Int))).state == (5 : Int)))]])]) else some (Ex.normal, St.mk [(13, (vI (IntKind.wrap IntKind.i64 ((↑k : Int) + (1 : Int))))), (12, (vI (↑(List.length l) : Int))), (11,
  AV.sl (List.map eBeat l)), (6, (vI pl)), (5, (vI n)), (4, .ptr 4 0 0), (1, (vI q)), (0, AV.sl (List.map eBeat l))] [(4, Blk.mk true 0 0 [[(vI f.wait), (vI f.played), (vI
  f.stalled), (vI f.paused), (vI f.stalls), (vI f.changes), (vI f.bits), (vB ((List.getD z k (Beat.mk (ByteArray.mk (Array.mk [])) (0 : Int) (0 : Int) (0 : Int) (0 :
  Int))).state == (5 : Int)))]])]) else none else none else some (Ex.exit (0 : Nat), St.mk [(5, (vI n)), (4, .ptr 4 0 0)] [(4, Blk.mk true 0 0 [[(vI f.wait), (vI f.played),
  (vI f.stalled), (vI f.paused), (vI f.stalls), (vI f.changes), (vI f.bits), (vB f.ended)]])]) := (execR_bind _ _ _).symm.trans (by kernel_rfl)

theorem lpRfg_ok (l : List Beat) (q : Int) (f : Figs) (n : Int) (pl : Int) (k : Nat) (hp : prlRfg l q f n pl k = true) : ∀ ex s', (outRfg l q f n pl k).val = some (ex, s') → LoopOK enRfg (loopN Try.f36 0) (stRfg l q f n pl k) ex s' := by
  simp only [prlRfg, Bool.and_eq_true, decide_eq_true_eq] at hp
  obtain ⟨⟨h1, rfl, rfl⟩, h5⟩ := hp
  refine loop_gen (st := fun s : Nat × Int × Figs × Int => stRfg l q s.2.2.1 s.2.2.2 s.2.1 s.1) (out := fun s => outRfg l q s.2.2.1 s.2.2.2 s.2.1 s.1) (I := fun s => s.1 ≤ l.length ∧ (s.2.1 = -1 ∨ ∃ j : Nat, s.2.1 = (j : Int) ∧ j < s.1)) (n := ([13, 12, 11, 6, 5, 4, 1, 0], [4])) (e := ([5, 4], [4])) (r := ([], [])) (fun s => l.length - s.1) ?_ (0, -1, f, n) ⟨Nat.zero_le _, .inl rfl⟩
  rintro ⟨k, pl, f, n⟩ ⟨hk, hpl⟩
  simp only at hk hpl
  by_cases hlt : k < l.length
  · right
    obtain ⟨y, hy⟩ := at_lt hlt
    have hla : F.lastsAt l k q = F.lastsB q y (l.drop (k + 1)) := by unfold F.lastsAt; rw [drop_at hy]
    have h0 : decide (0 < l.length) = true := decide_eq_true (by omega)
    refine ⟨(k + 1, bif y.state == 2 then (k : Int) else pl, (F.rfS q (F.t0 l) (F.prev l k) (F.rateAt l pl) f n y (l.drop (k + 1))).1, (F.rfS q (F.t0 l) (F.prev l k) (F.rateAt l pl) f n y (l.drop (k + 1))).2.1), ?_, rfl, ⟨hlt, ?_⟩, by simp only; omega, ?_⟩
    · rw [evRfgL]
      simp only [unLst, preLst1, unstRfg, prlRfg, outRfg, etaBeat, etaSpan, etaHole, etaLevel, etaFigs, etaRatio, etaRep, etaStay, Option.bind_some, List.length_map, unStrs, unInts, unBools, unBeats, uneL_eBeats, unSpans, unHoles, unLevels, unFigss, unRatios, unReps, unStays, F.lt, F.le, cond_true, cond_false, Bool.and_true, Bool.true_and, cast_lt hlt, decide_eq_true hlt, decide_eq_true h1, getD_at hy, hla, w_add1 (show k < 9223372036854775807 by omega), h0, stRfg, F.rfS, F.rlong, F.t0]
      by_cases e2 : y.state = 2
      · simp only [e2, beq_self_eq_true, show ((2 : Int) == 3) = false from rfl, show ((2 : Int) == 4) = false from rfl, show ((2 : Int) == 5) = false from rfl, cond_true, cond_false]
        rcases hpl with rfl | ⟨j, rfl, hj⟩
        · have hr : F.rateAt l (-1) = -1 := rfl
          simp only [hr, show decide ((0 : Int) ≤ -1) = false from rfl, cond_false, Bool.false_and]
          cases decide (f.wait < 0) <;> rfl
        · obtain ⟨z, hz⟩ := at_lt (show j < l.length by omega)
          have hj0 : decide ((0 : Int) ≤ (j : Int)) = true := decide_eq_true (by omega)
          have hr : F.rateAt l (j : Int) = z.rate := by
            have hn : decide ((j : Int) < 0) = false := decide_eq_false (by omega)
            simp only [F.rateAt, hn, cond_false, Int.toNat_natCast, getD_at hz]
          have hzr : decide (0 ≤ z.rate) = true := List.all_eq_true.1 h5 z (List.mem_of_getElem? hz)
          simp only [unLst, preLst1, unstRfg, prlRfg, outRfg, etaBeat, etaSpan, etaHole, etaLevel, etaFigs, etaRatio, etaRep, etaStay, Option.bind_some, List.length_map, unStrs, unInts, unBools, unBeats, uneL_eBeats, unSpans, unHoles, unLevels, unFigss, unRatios, unReps, unStays, F.lt, F.le, cond_true, cond_false, Bool.and_true, Bool.true_and, hj0, idxN, decide_eq_true (lt_at hz), getD_at hz, hr, hzr]
          cases decide (f.wait < 0) <;> cases (z.rate != y.rate) <;> rfl
      · have b2 : (y.state == 2) = false := beq_eq_false_iff_ne.2 e2
        by_cases e3 : y.state = 3
        · simp only [e3, beq_self_eq_true, show ((3 : Int) == 2) = false from rfl, show ((3 : Int) == 4) = false from rfl, show ((3 : Int) == 5) = false from rfl, cond_true, cond_false]
          cases k with
          | zero => rfl
          | succ j =>
            obtain ⟨z, hz⟩ := at_lt (show j < l.length by omega)
            have hz0 : (((j + 1 : Nat) : Int) == 0) = false := by rw [beq_eq_false_iff_ne]; omega
            simp only [unLst, preLst1, unstRfg, prlRfg, outRfg, etaBeat, etaSpan, etaHole, etaLevel, etaFigs, etaRatio, etaRep, etaStay, Option.bind_some, List.length_map, unStrs, unInts, unBools, unBeats, uneL_eBeats, unSpans, unHoles, unLevels, unFigss, unRatios, unReps, unStays, F.lt, F.le, cond_true, cond_false, Bool.and_true, Bool.true_and, hz0, w_sub1 (show 1 ≤ j + 1 by omega) (show j + 1 ≤ 9223372036854775807 by omega), Nat.add_sub_cancel, idxN, decide_eq_true (lt_at hz), getD_at hz, F.prev, hz, F.notSt]
            cases (z.state != 3) <;> rfl
        · have b3 : (y.state == 3) = false := beq_eq_false_iff_ne.2 e3
          simp only [b2, b3, cond_false]
          cases (y.state == 4) <;> rfl
    · cases y.state == 2
      · rcases hpl with h | ⟨j, h, hj⟩
        · exact .inl h
        · exact .inr ⟨j, h, by simp only; omega⟩
      · exact .inr ⟨k, rfl, Nat.lt_succ_self _⟩
    · have e1 : F.rateAt l (bif y.state == 2 then (k : Int) else pl) = (F.rfS q (F.t0 l) (F.prev l k) (F.rateAt l pl) f n y (l.drop (k + 1))).2.2 := by
        unfold F.rfS
        by_cases e2 : y.state = 2
        · have b2 : (y.state == 2) = true := by rw [e2]; rfl
          have hk0 : ¬ ((k : Int) < 0) := by omega
          simp only [b2, cond_true, F.rateAt, decide_eq_false hk0, cond_false, Int.toNat_natCast, getD_at hy]
        · have b2 : (y.state == 2) = false := beq_eq_false_iff_ne.2 e2
          simp only [b2, cond_false]
          cases y.state == 3 <;> cases y.state == 4 <;> rfl
      have e2 : F.prev l (k + 1) = some y := hy
      simp only [outRfg, drop_at hy, F.rf, e1, e2]
  · have : k = l.length := by omega
    subst this
    left
    refine ⟨_, ?_, rfl, by simp, rfl⟩
    rw [evRfgL]
    simp only [List.length_map, cast_ge, cond_false, List.drop_length, F.rf]
    rfl

theorem evRfg (l : List Beat) (q : Int) : (runF enRfg false Try.f36 [.sl (l.map eBeat), vI q]).val =
  Option.bind (unenc stRfg1 (St.mk [(13, (vI (0 : Int))), (12, (vI (↑(List.length (List.map eBeat l)) : Int))), (11, AV.sl (List.map eBeat l)), (6, (vI (-1 : Int))), (5, (vI
  (0 : Int))), (4, .ptr 4 0 0), (1, (vI q)), (0, AV.sl (List.map eBeat l))] [(4, Blk.mk true 0 0 [[(vI (-1 : Int)), (vI (0 : Int)), (vI (0 : Int)), (vI (0 : Int)), (vI (0 :
  Int)), (vI (0 : Int)), (vI (0 : Int)), (vB false)]])])) fun (z : List Beat × Int × Figs × Int × Int × Nat) => bif decide (List.length z.fst ≤ (3000 : Nat) ∧
  z.snd.snd.snd.snd.snd = (0 : Nat) ∧ z.snd.snd.snd.snd.fst = (-1 : Int)) && List.all z.fst F.okR && true then some (AV.tup [AV.agg [(vI (F.rf z.snd.fst (F.t0 z.fst) (F.prev
  z.fst z.snd.snd.snd.snd.snd) (F.rateAt z.fst z.snd.snd.snd.snd.fst) z.snd.snd.fst z.snd.snd.snd.fst (List.drop z.snd.snd.snd.snd.snd z.fst)).fst.wait), (vI (F.rf z.snd.fst
  (F.t0 z.fst) (F.prev z.fst z.snd.snd.snd.snd.snd) (F.rateAt z.fst z.snd.snd.snd.snd.fst) z.snd.snd.fst z.snd.snd.snd.fst (List.drop z.snd.snd.snd.snd.snd
  z.fst)).fst.played), (vI (F.rf z.snd.fst (F.t0 z.fst) (F.prev z.fst z.snd.snd.snd.snd.snd) (F.rateAt z.fst z.snd.snd.snd.snd.fst) z.snd.snd.fst z.snd.snd.snd.fst
  (List.drop z.snd.snd.snd.snd.snd z.fst)).fst.stalled), (vI (F.rf z.snd.fst (F.t0 z.fst) (F.prev z.fst z.snd.snd.snd.snd.snd) (F.rateAt z.fst z.snd.snd.snd.snd.fst)
  z.snd.snd.fst z.snd.snd.snd.fst (List.drop z.snd.snd.snd.snd.snd z.fst)).fst.paused), (vI (F.rf z.snd.fst (F.t0 z.fst) (F.prev z.fst z.snd.snd.snd.snd.snd) (F.rateAt z.fst
  z.snd.snd.snd.snd.fst) z.snd.snd.fst z.snd.snd.snd.fst (List.drop z.snd.snd.snd.snd.snd z.fst)).fst.stalls), (vI (F.rf z.snd.fst (F.t0 z.fst) (F.prev z.fst
  z.snd.snd.snd.snd.snd) (F.rateAt z.fst z.snd.snd.snd.snd.fst) z.snd.snd.fst z.snd.snd.snd.fst (List.drop z.snd.snd.snd.snd.snd z.fst)).fst.changes), (vI (IntKind.wrap
  IntKind.i64 (Int.tdiv (F.rf z.snd.fst (F.t0 z.fst) (F.prev z.fst z.snd.snd.snd.snd.snd) (F.rateAt z.fst z.snd.snd.snd.snd.fst) z.snd.snd.fst z.snd.snd.snd.fst (List.drop
  z.snd.snd.snd.snd.snd z.fst)).snd (1000 : Int)))), (vB (F.rf z.snd.fst (F.t0 z.fst) (F.prev z.fst z.snd.snd.snd.snd.snd) (F.rateAt z.fst z.snd.snd.snd.snd.fst)
  z.snd.snd.fst z.snd.snd.snd.fst (List.drop z.snd.snd.snd.snd.snd z.fst)).fst.ended)], (vI (F.rf z.snd.fst (F.t0 z.fst) (F.prev z.fst z.snd.snd.snd.snd.snd) (F.rateAt z.fst
  z.snd.snd.snd.snd.fst) z.snd.snd.fst z.snd.snd.snd.fst (List.drop z.snd.snd.snd.snd.snd z.fst)).snd)], []) else none := (runFR_val).symm.trans (by kernel_rfl)

def encRfg1 (l : List Beat) (q : Int) : List AV := [.sl (l.map eBeat), vI q]

def encRfg (a : (List Beat) × Int) : List AV := encRfg1 a.1 a.2

theorem encRfg_inj (a a' : (List Beat) × Int) (h : encRfg a = encRfg a') : a = a' := by
  simp only [encRfg, encRfg1] at h
  try simp [strs_inj, ints_inj, bools_inj, eBeats_inj, eBeat_iff, eL_eBeats_inj, eSpans_inj, eSpan_iff, eHoles_inj, eHole_iff, eLevels_inj, eLevel_iff, eFigss_inj, eFigs_iff, eRatios_inj, eRatio_iff, eReps_inj, eRep_iff, eStays_inj, eStay_iff] at h
  grind

theorem unRfg (l : List Beat) (q : Int) : unenc encRfg ([AV.sl (List.map eBeat l), (vI q)]) = some (l, q) := unenc_of encRfg_inj (l, q) rfl

def resRfg1 (l : List Beat) (q : Int) : AV × Heap := (.tup [.agg (eFigs (F.rfigs q l).1), vI (F.rfigs q l).2], [])

def preRfg1 (l : List Beat) (q : Int) : Bool := decide (l.length ≤ 3000) && l.all F.okR

noncomputable def oRfg : Orc := orc 36 false encRfg (fun a => preRfg1 a.1 a.2) fun a => resRfg1 a.1 a.2

theorem okRfg : OrcOK Try.prog noG oRfg := by
  refine mk_ok Try.f36 (keep := false) (by kernel_rfl) (by kernel_rfl) enRfg_ok mixed (one_loop (x0 := loopN Try.f36 0) (by kernel_rfl) (lpo_ok ?_)) (by first | exact fun _ _ => ⟨rfl, rfl⟩ | (intro h; cases h)) ?_
  · rintro ⟨l, q, f, n, pl, k⟩ hp
    exact lpRfg_ok l q f n pl k hp
  rintro ⟨l, q⟩ hpre hok
  show (runF enRfg false _ (encRfg1 _ _)).val = some (resRfg1 _ _)
  unfold encRfg1 resRfg1
  rw [evRfg]
  simp only [preRfg1, decide_eq_true_eq, Bool.and_eq_true] at hpre
  have q1 : l.length ≤ 3000 ∧ 0 = 0 ∧ (-1 : Int) = -1 := ⟨hpre.1, rfl, rfl⟩
  rw [List.length_map]
  refine (congrArg (fun o => Option.bind o _) (unenc_of stRfg_inj (l, q, ⟨-1, 0, 0, 0, 0, 0, 0, false⟩, 0, -1, 0) rfl)).trans ?_
  have hp : F.prev l 0 = none := rfl
  have hr : F.rateAt l (-1) = -1 := rfl
  simp only [unLst, preLst1, unstRfg, prlRfg, outRfg, etaBeat, etaSpan, etaHole, etaLevel, etaFigs, etaRatio, etaRep, etaStay, Option.bind_some, List.length_map, unStrs, unInts, unBools, unBeats, uneL_eBeats, unSpans, unHoles, unLevels, unFigss, unRatios, unReps, unStays, F.lt, F.le, cond_true, cond_false, Bool.and_true, Bool.true_and, decide_eq_true q1, hpre.2, List.drop_zero, hp, hr, F.rfigs, F.rfM, F.figB]
  simp only [hpre.1, and_self, decide_true, cond_true]
  rfl

end M
end Go.Proofs.Ytnkaadiofjoacaa
