/- What is proved here: the reference's MasterText, and the law of lists of all renditions, on plain data (no statement of the seat). -/
import Derived.Test.YtkfhfjcgegimbaaDoorE38
namespace Go.Proofs.YtkfhfjcgegimbaaDoor
open Go Go.RowKit
set_option linter.unusedVariables false
set_option linter.unusedSimpArgs false
set_option maxRecDepth 100000

namespace M


def stRX1 (m : Mas) (o : ByteArray) (k : Nat) : St := ⟨[(6, vI k), (5, vS o), (1, .ptr 1 0 0)], [(1, ⟨true, 0, 0, [eMas m]⟩)]⟩

def stRX11 (a : Mas × ByteArray × Nat) : St := stRX1 a.1 a.2.1 a.2.2

theorem stRX1_inj (a a' : Mas × ByteArray × Nat) (h : stRX11 a = stRX11 a') : a = a' := by
  simp only [stRX11, stRX1] at h
  try simp [ints_inj, strs_inj, ents_inj, eEnt_iff, eLst_iff, eSnds_inj, eSnd_iff, eStrms_inj, eStrm_iff, eMas_iff] at h
  grind

theorem unstRX1 (m : Mas) (o : ByteArray) (k : Nat) : unenc stRX11 (St.mk [(6, (vI (↑k : Int))), (5, (vS o)), (1, .ptr 1 0 0)] [(1, Blk.mk true 0 0 [[AV.sl (List.map eStrm m.streams), AV.sl (List.map eSnd m.sounds)]])]) = some (m, o, k) := unenc_of stRX1_inj (m, o, k) rfl

theorem unstRX10 (m : Mas) (o : ByteArray) : unenc stRX11 (St.mk [(6, (vI (0 : Int))), (5, (vS o)), (1, .ptr 1 0 0)] [(1, Blk.mk true 0 0 [[AV.sl (List.map eStrm m.streams), AV.sl (List.map eSnd m.sounds)]])]) = some (m, o, 0) := unenc_of stRX1_inj (m, o, 0) rfl

def outRX1 (m : Mas) (o : ByteArray) (k : Nat) : T (Ex × St) := .ret (.exit 0, ⟨[(5, vS (F.sndsT o (m.sounds.drop k))), (1, .ptr 1 0 0)], [(1, ⟨true, 0, 0, [eMas m]⟩)]⟩)

noncomputable def prlRX1 (m : Mas) (o : ByteArray) (k : Nat) : Bool := decide (m.sounds.length ≤ 50) && decide (k ≤ m.sounds.length) && sndsOK m.sounds && decide (o.size ≤ 100 + 400 * k)

noncomputable def lpRX1 : Nat × (St → T (Ex × St)) := (6, lpo [6, 5, 1] [1] stRX11 (fun a => prlRX1 a.1 a.2.1 a.2.2) fun a => outRX1 a.1 a.2.1 a.2.2)

def stRX2 (m : Mas) (o : ByteArray) (k : Nat) : St := ⟨[(8, vI k), (5, vS o), (1, .ptr 1 0 0)], [(1, ⟨true, 0, 0, [eMas m]⟩)]⟩

def stRX21 (a : Mas × ByteArray × Nat) : St := stRX2 a.1 a.2.1 a.2.2

theorem stRX2_inj (a a' : Mas × ByteArray × Nat) (h : stRX21 a = stRX21 a') : a = a' := by
  simp only [stRX21, stRX2] at h
  try simp [ints_inj, strs_inj, ents_inj, eEnt_iff, eLst_iff, eSnds_inj, eSnd_iff, eStrms_inj, eStrm_iff, eMas_iff] at h
  grind

theorem unstRX2 (m : Mas) (o : ByteArray) (k : Nat) : unenc stRX21 (St.mk [(8, (vI (↑k : Int))), (5, (vS o)), (1, .ptr 1 0 0)] [(1, Blk.mk true 0 0 [[AV.sl (List.map eStrm m.streams), AV.sl (List.map eSnd m.sounds)]])]) = some (m, o, k) := unenc_of stRX2_inj (m, o, k) rfl

theorem unstRX20 (m : Mas) (o : ByteArray) : unenc stRX21 (St.mk [(8, (vI (0 : Int))), (5, (vS o)), (1, .ptr 1 0 0)] [(1, Blk.mk true 0 0 [[AV.sl (List.map eStrm m.streams), AV.sl (List.map eSnd m.sounds)]])]) = some (m, o, 0) := unenc_of stRX2_inj (m, o, 0) rfl

def outRX2 (m : Mas) (o : ByteArray) (k : Nat) : T (Ex × St) := .ret (.exit 2, ⟨[(5, vS (F.strsT o (m.streams.drop k)))], []⟩)

noncomputable def prlRX2 (m : Mas) (o : ByteArray) (k : Nat) : Bool := decide (m.streams.length ≤ 50) && decide (k ≤ m.streams.length) && strsOK m.streams && decide (o.size ≤ 20200 + 400 * k)

noncomputable def lpRX2 : Nat × (St → T (Ex × St)) := (14, lpo [8, 5, 1] [1] stRX21 (fun a => prlRX2 a.1 a.2.1 a.2.2) fun a => outRX2 a.1 a.2.1 a.2.2)

noncomputable def enRX : Env := envH ty noG lksS [oRM, oIta] [] [] [lpRX1, lpRX2]

theorem enRX_ok : EnvOK Tryd.prog enRX := by
  refine envH_ok lksS_ok ty_ok ?_ ?_
  · simp only [List.forall_mem_cons]
    exact ⟨okRM, okIta, by simp⟩
  · simp

theorem evRX1L (m : Mas) (o : ByteArray) (k : Nat) : ((exec enRX (loopN Tryd.f5 0) (stRX1 m o k)).bind (lessX ([6, 5, 1], [1]) ([5, 1], [1]) ([], []))).val =
  bif decide ((↑k : Int) < (↑(List.length (List.map eSnd m.sounds)) : Int)) then Option.bind (unenc (List.map eSnd) (List.map eSnd m.sounds)) fun (z : List Snd) => bif
  decide (k < List.length z) then bif Nat.ble (ByteArray.size (ByteArray.mk (Array.mk [(35 : UInt8), (83 : UInt8), (79 : UInt8), (85 : UInt8), (78 : UInt8), (68 : UInt8),
  (32 : UInt8)])) + ByteArray.size (List.getD z k (Snd.mk (ByteArray.mk (Array.mk [])) (ByteArray.mk (Array.mk [])) (ByteArray.mk (Array.mk [])) false (ByteArray.mk
  (Array.mk [])))).group) (9223372036854775807 : Nat) then bif Nat.ble (ByteArray.size (ByteArray.mk (Array.mk [(35 : UInt8), (83 : UInt8), (79 : UInt8), (85 : UInt8), (78 :
  UInt8), (68 : UInt8), (32 : UInt8)]) ++ (List.getD z k (Snd.mk (ByteArray.mk (Array.mk [])) (ByteArray.mk (Array.mk [])) (ByteArray.mk (Array.mk [])) false (ByteArray.mk
  (Array.mk [])))).group) + ByteArray.size (ByteArray.mk (Array.mk [(32 : UInt8)]))) (9223372036854775807 : Nat) then bif Nat.ble (ByteArray.size (ByteArray.mk (Array.mk
  [(35 : UInt8), (83 : UInt8), (79 : UInt8), (85 : UInt8), (78 : UInt8), (68 : UInt8), (32 : UInt8)]) ++ (List.getD z k (Snd.mk (ByteArray.mk (Array.mk [])) (ByteArray.mk
  (Array.mk [])) (ByteArray.mk (Array.mk [])) false (ByteArray.mk (Array.mk [])))).group ++ ByteArray.mk (Array.mk [(32 : UInt8)])) + ByteArray.size (List.getD z k (Snd.mk
  (ByteArray.mk (Array.mk [])) (ByteArray.mk (Array.mk [])) (ByteArray.mk (Array.mk [])) false (ByteArray.mk (Array.mk [])))).name) (9223372036854775807 : Nat) then bif
  Nat.ble (ByteArray.size (ByteArray.mk (Array.mk [(35 : UInt8), (83 : UInt8), (79 : UInt8), (85 : UInt8), (78 : UInt8), (68 : UInt8), (32 : UInt8)]) ++ (List.getD z k
  (Snd.mk (ByteArray.mk (Array.mk [])) (ByteArray.mk (Array.mk [])) (ByteArray.mk (Array.mk [])) false (ByteArray.mk (Array.mk [])))).group ++ ByteArray.mk (Array.mk [(32 :
  UInt8)]) ++ (List.getD z k (Snd.mk (ByteArray.mk (Array.mk [])) (ByteArray.mk (Array.mk [])) (ByteArray.mk (Array.mk [])) false (ByteArray.mk (Array.mk [])))).name) +
  ByteArray.size (ByteArray.mk (Array.mk [(32 : UInt8)]))) (9223372036854775807 : Nat) then bif Nat.ble (ByteArray.size (ByteArray.mk (Array.mk [(35 : UInt8), (83 : UInt8),
  (79 : UInt8), (85 : UInt8), (78 : UInt8), (68 : UInt8), (32 : UInt8)]) ++ (List.getD z k (Snd.mk (ByteArray.mk (Array.mk [])) (ByteArray.mk (Array.mk [])) (ByteArray.mk
  (Array.mk [])) false (ByteArray.mk (Array.mk [])))).group ++ ByteArray.mk (Array.mk [(32 : UInt8)]) ++ (List.getD z k (Snd.mk (ByteArray.mk (Array.mk [])) (ByteArray.mk
  (Array.mk [])) (ByteArray.mk (Array.mk [])) false (ByteArray.mk (Array.mk [])))).name ++ ByteArray.mk (Array.mk [(32 : UInt8)])) + ByteArray.size (List.getD z k (Snd.mk
  (ByteArray.mk (Array.mk [])) (ByteArray.mk (Array.mk [])) (ByteArray.mk (Array.mk [])) false (ByteArray.mk (Array.mk [])))).lang) (9223372036854775807 : Nat) then bif
  Nat.ble (ByteArray.size o + ByteArray.size (ByteArray.mk (Array.mk [(35 : UInt8), (83 : UInt8), (79 : UInt8), (85 : UInt8), (78 : UInt8), (68 : UInt8), (32 : UInt8)]) ++
  (List.getD z k (Snd.mk (ByteArray.mk (Array.mk [])) (ByteArray.mk (Array.mk [])) (ByteArray.mk (Array.mk [])) false (ByteArray.mk (Array.mk [])))).group ++ ByteArray.mk
  (Array.mk [(32 : UInt8)]) ++ (List.getD z k (Snd.mk (ByteArray.mk (Array.mk [])) (ByteArray.mk (Array.mk [])) (ByteArray.mk (Array.mk [])) false (ByteArray.mk (Array.mk
  [])))).name ++ ByteArray.mk (Array.mk [(32 : UInt8)]) ++ (List.getD z k (Snd.mk (ByteArray.mk (Array.mk [])) (ByteArray.mk (Array.mk [])) (ByteArray.mk (Array.mk []))
  false (ByteArray.mk (Array.mk [])))).lang)) (9223372036854775807 : Nat) then bif (List.getD z k (Snd.mk (ByteArray.mk (Array.mk [])) (ByteArray.mk (Array.mk []))
  (ByteArray.mk (Array.mk [])) false (ByteArray.mk (Array.mk [])))).dflt then bif Nat.ble (ByteArray.size (o ++ (ByteArray.mk (Array.mk [(35 : UInt8), (83 : UInt8), (79 :
  UInt8), (85 : UInt8), (78 : UInt8), (68 : UInt8), (32 : UInt8)]) ++ (List.getD z k (Snd.mk (ByteArray.mk (Array.mk [])) (ByteArray.mk (Array.mk [])) (ByteArray.mk
  (Array.mk [])) false (ByteArray.mk (Array.mk [])))).group ++ ByteArray.mk (Array.mk [(32 : UInt8)]) ++ (List.getD z k (Snd.mk (ByteArray.mk (Array.mk [])) (ByteArray.mk
  (Array.mk [])) (ByteArray.mk (Array.mk [])) false (ByteArray.mk (Array.mk [])))).name ++ ByteArray.mk (Array.mk [(32 : UInt8)]) ++ (List.getD z k (Snd.mk (ByteArray.mk
  (Array.mk [])) (ByteArray.mk (Array.mk [])) (ByteArray.mk (Array.mk [])) false (ByteArray.mk (Array.mk [])))).lang)) + ByteArray.size (ByteArray.mk (Array.mk [(32 :
  UInt8), (68 : UInt8), (69 : UInt8), (70 : UInt8), (65 : UInt8), (85 : UInt8), (76 : UInt8), (84 : UInt8)]))) (9223372036854775807 : Nat) then bif Nat.ble (ByteArray.size
  (ByteArray.mk (Array.mk [(10 : UInt8)])) + ByteArray.size (List.getD z k (Snd.mk (ByteArray.mk (Array.mk [])) (ByteArray.mk (Array.mk [])) (ByteArray.mk (Array.mk []))
  false (ByteArray.mk (Array.mk [])))).uri) (9223372036854775807 : Nat) then bif Nat.ble (ByteArray.size (ByteArray.mk (Array.mk [(10 : UInt8)]) ++ (List.getD z k (Snd.mk
  (ByteArray.mk (Array.mk [])) (ByteArray.mk (Array.mk [])) (ByteArray.mk (Array.mk [])) false (ByteArray.mk (Array.mk [])))).uri) + ByteArray.size (ByteArray.mk (Array.mk
  [(10 : UInt8)]))) (9223372036854775807 : Nat) then bif Nat.ble (ByteArray.size (o ++ (ByteArray.mk (Array.mk [(35 : UInt8), (83 : UInt8), (79 : UInt8), (85 : UInt8), (78 :
  UInt8), (68 : UInt8), (32 : UInt8)]) ++ (List.getD z k (Snd.mk (ByteArray.mk (Array.mk [])) (ByteArray.mk (Array.mk [])) (ByteArray.mk (Array.mk [])) false (ByteArray.mk
  (Array.mk [])))).group ++ ByteArray.mk (Array.mk [(32 : UInt8)]) ++ (List.getD z k (Snd.mk (ByteArray.mk (Array.mk [])) (ByteArray.mk (Array.mk [])) (ByteArray.mk
  (Array.mk [])) false (ByteArray.mk (Array.mk [])))).name ++ ByteArray.mk (Array.mk [(32 : UInt8)]) ++ (List.getD z k (Snd.mk (ByteArray.mk (Array.mk [])) (ByteArray.mk
  (Array.mk [])) (ByteArray.mk (Array.mk [])) false (ByteArray.mk (Array.mk [])))).lang) ++ ByteArray.mk (Array.mk [(32 : UInt8), (68 : UInt8), (69 : UInt8), (70 : UInt8),
  (65 : UInt8), (85 : UInt8), (76 : UInt8), (84 : UInt8)])) + ByteArray.size (ByteArray.mk (Array.mk [(10 : UInt8)]) ++ (List.getD z k (Snd.mk (ByteArray.mk (Array.mk []))
  (ByteArray.mk (Array.mk [])) (ByteArray.mk (Array.mk [])) false (ByteArray.mk (Array.mk [])))).uri ++ ByteArray.mk (Array.mk [(10 : UInt8)]))) (9223372036854775807 : Nat)
  then some (Ex.normal, St.mk [(6, (vI (IntKind.wrap IntKind.i64 ((↑k : Int) + (1 : Int))))), (5, (vS (o ++ (ByteArray.mk (Array.mk [(35 : UInt8), (83 : UInt8), (79 :
  UInt8), (85 : UInt8), (78 : UInt8), (68 : UInt8), (32 : UInt8)]) ++ (List.getD z k (Snd.mk (ByteArray.mk (Array.mk [])) (ByteArray.mk (Array.mk [])) (ByteArray.mk
  (Array.mk [])) false (ByteArray.mk (Array.mk [])))).group ++ ByteArray.mk (Array.mk [(32 : UInt8)]) ++ (List.getD z k (Snd.mk (ByteArray.mk (Array.mk [])) (ByteArray.mk
  (Array.mk [])) (ByteArray.mk (Array.mk [])) false (ByteArray.mk (Array.mk [])))).name ++ ByteArray.mk (Array.mk [(32 : UInt8)]) ++ (List.getD z k (Snd.mk (ByteArray.mk
  (Array.mk [])) (ByteArray.mk (Array.mk [])) (ByteArray.mk (Array.mk [])) false (ByteArray.mk (Array.mk [])))).lang) ++ ByteArray.mk (Array.mk [(32 : UInt8), (68 : UInt8),
  (69 : UInt8), (70 : UInt8), (65 : UInt8), (85 : UInt8), (76 : UInt8), (84 : UInt8)]) ++ (ByteArray.mk (Array.mk [(10 : UInt8)]) ++ (List.getD z k (Snd.mk (ByteArray.mk
  (Array.mk [])) (ByteArray.mk (Array.mk [])) (ByteArray.mk (Array.mk [])) false (ByteArray.mk (Array.mk [])))).uri ++ ByteArray.mk (Array.mk [(10 : UInt8)]))))), (1, .ptr 1
  0 0)] [(1, Blk.mk true 0 0 [[AV.sl (List.map eStrm m.streams), AV.sl (List.map eSnd m.sounds)]])]) else none else none else none else none else bif Nat.ble (ByteArray.size
  (ByteArray.mk (Array.mk [(10 : UInt8)])) + ByteArray.size (List.getD z k (Snd.mk (ByteArray.mk (Array.mk [])) (ByteArray.mk (Array.mk [])) (ByteArray.mk (Array.mk []))
  false (ByteArray.mk (Array.mk [])))).uri) (9223372036854775807 : Nat) then bif Nat.ble (ByteArray.size (ByteArray.mk (Array.mk [(10 : UInt8)]) ++ (List.getD z k (Snd.mk
  (ByteArray.mk (Array.mk [])) (ByteArray.mk (Array.mk [])) (ByteArray.mk (Array.mk [])) false (ByteArray.mk (Array.mk [])))).uri) + ByteArray.size (ByteArray.mk (Array.mk
  [(10 : UInt8)]))) (9223372036854775807 : Nat) then bif Nat.ble (ByteArray.size (o ++ (ByteArray.mk (Array.mk [(35 : UInt8), (83 : UInt8), (79 : UInt8), (85 : UInt8), (78 :
  UInt8), (68 : UInt8), (32 : UInt8)]) ++ (List.getD z k (Snd.mk (ByteArray.mk (Array.mk [])) (ByteArray.mk (Array.mk [])) (ByteArray.mk (Array.mk [])) false (ByteArray.mk
  (Array.mk [])))).group ++ ByteArray.mk (Array.mk [(32 : UInt8)]) ++ (List.getD z k (Snd.mk (ByteArray.mk (Array.mk [])) (ByteArray.mk (Array.mk [])) (ByteArray.mk
  (Array.mk [])) false (ByteArray.mk (Array.mk [])))).name ++ ByteArray.mk (Array.mk [(32 : UInt8)]) ++ (List.getD z k (Snd.mk (ByteArray.mk (Array.mk [])) (ByteArray.mk
  (Array.mk [])) (ByteArray.mk (Array.mk [])) false (ByteArray.mk (Array.mk [])))).lang)) + ByteArray.size (ByteArray.mk (Array.mk [(10 : UInt8)]) ++ (List.getD z k (Snd.mk
  (ByteArray.mk (Array.mk [])) (ByteArray.mk (Array.mk [])) (ByteArray.mk (Array.mk [])) false (ByteArray.mk (Array.mk [])))).uri ++ ByteArray.mk (Array.mk [(10 : UInt8)])))
  (9223372036854775807 : Nat) then some (Ex.normal, St.mk [(6, (vI (IntKind.wrap IntKind.i64 ((↑k : Int) + (1 : Int))))), (5, (vS (o ++ (ByteArray.mk (Array.mk [(35 :
  UInt8), (83 : UInt8), (79 : UInt8), (85 : UInt8), (78 : UInt8), (68 : UInt8), (32 : UInt8)]) ++ (List.getD z k (Snd.mk (ByteArray.mk (Array.mk [])) (ByteArray.mk (Array.mk
  [])) (ByteArray.mk (Array.mk [])) false (ByteArray.mk (Array.mk [])))).group ++ ByteArray.mk (Array.mk [(32 : UInt8)]) ++ (List.getD z k (Snd.mk (ByteArray.mk (Array.mk
  [])) (ByteArray.mk (Array.mk [])) (ByteArray.mk (Array.mk [])) false (ByteArray.mk (Array.mk [])))).name ++ ByteArray.mk (Array.mk [(32 : UInt8)]) ++ (List.getD z k
  (Snd.mk (ByteArray.mk (Array.mk [])) (ByteArray.mk (Array.mk [])) (ByteArray.mk (Array.mk [])) false (ByteArray.mk (Array.mk [])))).lang) ++ (ByteArray.mk (Array.mk [(10 :
  UInt8)]) ++ (List.getD z k (Snd.mk (ByteArray.mk (Array.mk [])) (ByteArray.mk (Array.mk [])) (ByteArray.mk (Array.mk [])) false (ByteArray.mk (Array.mk [])))).uri ++
  ByteArray.mk (Array.mk [(10 : UInt8)]))))), (1, .ptr 1 0 0)] [(1, Blk.mk true 0 0 [[AV.sl (List.map eStrm m.streams), AV.sl (List.map eSnd m.sounds)]])]) else none else
  none else none else none else none else none else none else none else none else none else some (Ex.exit (0 : Nat), St.mk [(5, (vS o)), (1, .ptr 1 0 0)] [(1, Blk.mk true 0
  0 [[AV.sl (List.map eStrm m.streams), AV.sl (List.map eSnd m.sounds)]])]) := by kernel_rfl

theorem lpRX1_ok (m : Mas) (o : ByteArray) (k : Nat) (hp : prlRX1 m o k = true) : ∀ ex s', (outRX1 m o k).val = some (ex, s') → LoopOK enRX (loopN Tryd.f5 0) (stRX1 m o k) ex s' := by
  simp only [prlRX1, Bool.and_eq_true, decide_eq_true_eq] at hp
  obtain ⟨⟨⟨h1, h2⟩, h3⟩, h4⟩ := hp
  refine loop_fold (xs := m.sounds) (st := fun o k => stRX1 m o k) (f := F.sndT) (fin := fun o => (.exit 0, ⟨[(5, vS o), (1, .ptr 1 0 0)], [(1, ⟨true, 0, 0, [eMas m]⟩)]⟩)) (I := fun o k => o.size ≤ 100 + 400 * k) (n := ([6, 5, 1], [1])) (e := ([5, 1], [1])) (r := ([], [])) ?_ (fun _ => ⟨by simp, rfl⟩) (fun _ _ => rfl) ?_ o k h2 h4
  · intro o _
    rw [evRX1L]; simp
    rfl
  · intro o k y hy hI
    have hlt := lt_at hy
    obtain ⟨b1, b2, b3, b4⟩ := sndsOK_at h3 (List.mem_of_getElem? hy)
    refine ⟨?_, by have := F.sndT_size (o := o) (s := y) ⟨b1, b2, b3, b4⟩; omega⟩
    rw [evRX1L]
    simp only [unRM, unIta, unRMw, preRM1, preIta1, unstRX1, unstRX2, unstRX10, unstRX20, prlRX1, prlRX2, outRX1, outRX2, etaEnt, etaLst, etaSnd, etaStrm, etaMas, Option.bind_some, List.length_map, unStrs, unInts, unBools, unEnts, unItms, unTrns, cond_true, cond_false, Bool.and_true, Bool.true_and, unSnds, unStrms, cast_lt hlt, decide_eq_true hlt, next_at hlt (by omega : m.sounds.length ≤ 9223372036854775807), getD_at hy, stRX1, F.sndT, eMas]
    simp (disch := (simp only [ByteArray.size_append, F.sz, List.length_cons, List.length_nil]; omega)) only [ble_t, cond_true]
    cases y.dflt <;> rfl

theorem evRX2L (m : Mas) (o : ByteArray) (k : Nat) : ((exec enRX (loopN Tryd.f5 1) (stRX2 m o k)).bind (lessX ([8, 5, 1], [1]) ([5], []) ([], []))).val =
  bif decide ((↑k : Int) < (↑(List.length (List.map eStrm m.streams)) : Int)) then Option.bind (unenc (List.map eStrm) (List.map eStrm m.streams)) fun (z : List Strm) => bif
  decide (k < List.length z) then bif ByteArray.toList (List.getD z k (Strm.mk (ByteArray.mk (Array.mk [])) (ByteArray.mk (Array.mk [])) (0 : Int) (0 : Int) (0 : Int) (0 :
  Int) (ByteArray.mk (Array.mk [])))).sound == ByteArray.toList (ByteArray.mk (Array.mk [])) then bif Nat.ble (ByteArray.size (ByteArray.mk (Array.mk [(35 : UInt8), (83 :
  UInt8), (84 : UInt8), (82 : UInt8), (69 : UInt8), (65 : UInt8), (77 : UInt8), (32 : UInt8)])) + ByteArray.size (List.getD z k (Strm.mk (ByteArray.mk (Array.mk []))
  (ByteArray.mk (Array.mk [])) (0 : Int) (0 : Int) (0 : Int) (0 : Int) (ByteArray.mk (Array.mk [])))).name) (9223372036854775807 : Nat) then bif Nat.ble (ByteArray.size
  (ByteArray.mk (Array.mk [(35 : UInt8), (83 : UInt8), (84 : UInt8), (82 : UInt8), (69 : UInt8), (65 : UInt8), (77 : UInt8), (32 : UInt8)]) ++ (List.getD z k (Strm.mk
  (ByteArray.mk (Array.mk [])) (ByteArray.mk (Array.mk [])) (0 : Int) (0 : Int) (0 : Int) (0 : Int) (ByteArray.mk (Array.mk [])))).name) + ByteArray.size (ByteArray.mk
  (Array.mk [(32 : UInt8)]))) (9223372036854775807 : Nat) then Option.bind (unenc encIta [(vI (List.getD z k (Strm.mk (ByteArray.mk (Array.mk [])) (ByteArray.mk (Array.mk
  [])) (0 : Int) (0 : Int) (0 : Int) (0 : Int) (ByteArray.mk (Array.mk [])))).mean)]) fun (z_1 : Int) => bif decide ((-9223372036854775808 : Int) ≤ z_1) && decide (z_1 ≤
  (9223372036854775807 : Int)) then bif Nat.ble (ByteArray.size (ByteArray.mk (Array.mk [(35 : UInt8), (83 : UInt8), (84 : UInt8), (82 : UInt8), (69 : UInt8), (65 : UInt8),
  (77 : UInt8), (32 : UInt8)]) ++ (List.getD z k (Strm.mk (ByteArray.mk (Array.mk [])) (ByteArray.mk (Array.mk [])) (0 : Int) (0 : Int) (0 : Int) (0 : Int) (ByteArray.mk
  (Array.mk [])))).name ++ ByteArray.mk (Array.mk [(32 : UInt8)])) + ByteArray.size (F.itoa z_1)) (9223372036854775807 : Nat) then bif Nat.ble (ByteArray.size (ByteArray.mk
  (Array.mk [(35 : UInt8), (83 : UInt8), (84 : UInt8), (82 : UInt8), (69 : UInt8), (65 : UInt8), (77 : UInt8), (32 : UInt8)]) ++ (List.getD z k (Strm.mk (ByteArray.mk
  (Array.mk [])) (ByteArray.mk (Array.mk [])) (0 : Int) (0 : Int) (0 : Int) (0 : Int) (ByteArray.mk (Array.mk [])))).name ++ ByteArray.mk (Array.mk [(32 : UInt8)]) ++ F.itoa
  z_1) + ByteArray.size (ByteArray.mk (Array.mk [(32 : UInt8)]))) (9223372036854775807 : Nat) then Option.bind (unenc encIta [(vI (List.getD z k (Strm.mk (ByteArray.mk
  (Array.mk [])) (ByteArray.mk (Array.mk [])) (0 : Int) (0 : Int) (0 : Int) (0 : Int) (ByteArray.mk (Array.mk [])))).peak)]) fun (z_2 : Int) => bif decide
  ((-9223372036854775808 : Int) ≤ z_2) && decide (z_2 ≤ (9223372036854775807 : Int)) then bif Nat.ble (ByteArray.size (ByteArray.mk (Array.mk [(35 : UInt8), (83 : UInt8),
  (84 : UInt8), (82 : UInt8), (69 : UInt8), (65 : UInt8), (77 : UInt8), (32 : UInt8)]) ++ (List.getD z k (Strm.mk (ByteArray.mk (Array.mk [])) (ByteArray.mk (Array.mk []))
  (0 : Int) (0 : Int) (0 : Int) (0 : Int) (ByteArray.mk (Array.mk [])))).name ++ ByteArray.mk (Array.mk [(32 : UInt8)]) ++ F.itoa z_1 ++ ByteArray.mk (Array.mk [(32 :
  UInt8)])) + ByteArray.size (F.itoa z_2)) (9223372036854775807 : Nat) then bif Nat.ble (ByteArray.size (ByteArray.mk (Array.mk [(35 : UInt8), (83 : UInt8), (84 : UInt8),
  (82 : UInt8), (69 : UInt8), (65 : UInt8), (77 : UInt8), (32 : UInt8)]) ++ (List.getD z k (Strm.mk (ByteArray.mk (Array.mk [])) (ByteArray.mk (Array.mk [])) (0 : Int) (0 :
  Int) (0 : Int) (0 : Int) (ByteArray.mk (Array.mk [])))).name ++ ByteArray.mk (Array.mk [(32 : UInt8)]) ++ F.itoa z_1 ++ ByteArray.mk (Array.mk [(32 : UInt8)]) ++ F.itoa
  z_2) + ByteArray.size (ByteArray.mk (Array.mk [(32 : UInt8)]))) (9223372036854775807 : Nat) then Option.bind (unenc encIta [(vI (List.getD z k (Strm.mk (ByteArray.mk
  (Array.mk [])) (ByteArray.mk (Array.mk [])) (0 : Int) (0 : Int) (0 : Int) (0 : Int) (ByteArray.mk (Array.mk [])))).width)]) fun (z_3 : Int) => bif decide
  ((-9223372036854775808 : Int) ≤ z_3) && decide (z_3 ≤ (9223372036854775807 : Int)) then bif Nat.ble (ByteArray.size (ByteArray.mk (Array.mk [(35 : UInt8), (83 : UInt8),
  (84 : UInt8), (82 : UInt8), (69 : UInt8), (65 : UInt8), (77 : UInt8), (32 : UInt8)]) ++ (List.getD z k (Strm.mk (ByteArray.mk (Array.mk [])) (ByteArray.mk (Array.mk []))
  (0 : Int) (0 : Int) (0 : Int) (0 : Int) (ByteArray.mk (Array.mk [])))).name ++ ByteArray.mk (Array.mk [(32 : UInt8)]) ++ F.itoa z_1 ++ ByteArray.mk (Array.mk [(32 :
  UInt8)]) ++ F.itoa z_2 ++ ByteArray.mk (Array.mk [(32 : UInt8)])) + ByteArray.size (F.itoa z_3)) (9223372036854775807 : Nat) then bif Nat.ble (ByteArray.size (ByteArray.mk
  (Array.mk [(35 : UInt8), (83 : UInt8), (84 : UInt8), (82 : UInt8), (69 : UInt8), (65 : UInt8), (77 : UInt8), (32 : UInt8)]) ++ (List.getD z k (Strm.mk (ByteArray.mk
  (Array.mk [])) (ByteArray.mk (Array.mk [])) (0 : Int) (0 : Int) (0 : Int) (0 : Int) (ByteArray.mk (Array.mk [])))).name ++ ByteArray.mk (Array.mk [(32 : UInt8)]) ++ F.itoa
  z_1 ++ ByteArray.mk (Array.mk [(32 : UInt8)]) ++ F.itoa z_2 ++ ByteArray.mk (Array.mk [(32 : UInt8)]) ++ F.itoa z_3) + ByteArray.size (ByteArray.mk (Array.mk [(32 :
  UInt8)]))) (9223372036854775807 : Nat) then Option.bind (unenc encIta [(vI (List.getD z k (Strm.mk (ByteArray.mk (Array.mk [])) (ByteArray.mk (Array.mk [])) (0 : Int) (0 :
  Int) (0 : Int) (0 : Int) (ByteArray.mk (Array.mk [])))).height)]) fun (z_4 : Int) => bif decide ((-9223372036854775808 : Int) ≤ z_4) && decide (z_4 ≤ (9223372036854775807
  : Int)) then bif Nat.ble (ByteArray.size (ByteArray.mk (Array.mk [(35 : UInt8), (83 : UInt8), (84 : UInt8), (82 : UInt8), (69 : UInt8), (65 : UInt8), (77 : UInt8), (32 :
  UInt8)]) ++ (List.getD z k (Strm.mk (ByteArray.mk (Array.mk [])) (ByteArray.mk (Array.mk [])) (0 : Int) (0 : Int) (0 : Int) (0 : Int) (ByteArray.mk (Array.mk [])))).name
  ++ ByteArray.mk (Array.mk [(32 : UInt8)]) ++ F.itoa z_1 ++ ByteArray.mk (Array.mk [(32 : UInt8)]) ++ F.itoa z_2 ++ ByteArray.mk (Array.mk [(32 : UInt8)]) ++ F.itoa z_3 ++
  ByteArray.mk (Array.mk [(32 : UInt8)])) + ByteArray.size (F.itoa z_4)) (9223372036854775807 : Nat) then bif Nat.ble (ByteArray.size (ByteArray.mk (Array.mk [(35 : UInt8),
  (83 : UInt8), (84 : UInt8), (82 : UInt8), (69 : UInt8), (65 : UInt8), (77 : UInt8), (32 : UInt8)]) ++ (List.getD z k (Strm.mk (ByteArray.mk (Array.mk [])) (ByteArray.mk
  (Array.mk [])) (0 : Int) (0 : Int) (0 : Int) (0 : Int) (ByteArray.mk (Array.mk [])))).name ++ ByteArray.mk (Array.mk [(32 : UInt8)]) ++ F.itoa z_1 ++ ByteArray.mk
  (Array.mk [(32 : UInt8)]) ++ F.itoa z_2 ++ ByteArray.mk (Array.mk [(32 : UInt8)]) ++ F.itoa z_3 ++ ByteArray.mk (Array.mk [(32 : UInt8)]) ++ F.itoa z_4) + ByteArray.size
  (ByteArray.mk (Array.mk [(32 : UInt8)]))) (9223372036854775807 : Nat) then bif Nat.ble (ByteArray.size (ByteArray.mk (Array.mk [(35 : UInt8), (83 : UInt8), (84 : UInt8),
  (82 : UInt8), (69 : UInt8), (65 : UInt8), (77 : UInt8), (32 : UInt8)]) ++ (List.getD z k (Strm.mk (ByteArray.mk (Array.mk [])) (ByteArray.mk (Array.mk [])) (0 : Int) (0 :
  Int) (0 : Int) (0 : Int) (ByteArray.mk (Array.mk [])))).name ++ ByteArray.mk (Array.mk [(32 : UInt8)]) ++ F.itoa z_1 ++ ByteArray.mk (Array.mk [(32 : UInt8)]) ++ F.itoa
  z_2 ++ ByteArray.mk (Array.mk [(32 : UInt8)]) ++ F.itoa z_3 ++ ByteArray.mk (Array.mk [(32 : UInt8)]) ++ F.itoa z_4 ++ ByteArray.mk (Array.mk [(32 : UInt8)])) +
  ByteArray.size (ByteArray.mk (Array.mk [(45 : UInt8)]))) (9223372036854775807 : Nat) then bif Nat.ble (ByteArray.size (ByteArray.mk (Array.mk [(35 : UInt8), (83 : UInt8),
  (84 : UInt8), (82 : UInt8), (69 : UInt8), (65 : UInt8), (77 : UInt8), (32 : UInt8)]) ++ (List.getD z k (Strm.mk (ByteArray.mk (Array.mk [])) (ByteArray.mk (Array.mk []))
  (0 : Int) (0 : Int) (0 : Int) (0 : Int) (ByteArray.mk (Array.mk [])))).name ++ ByteArray.mk (Array.mk [(32 : UInt8)]) ++ F.itoa z_1 ++ ByteArray.mk (Array.mk [(32 :
  UInt8)]) ++ F.itoa z_2 ++ ByteArray.mk (Array.mk [(32 : UInt8)]) ++ F.itoa z_3 ++ ByteArray.mk (Array.mk [(32 : UInt8)]) ++ F.itoa z_4 ++ ByteArray.mk (Array.mk [(32 :
  UInt8)]) ++ ByteArray.mk (Array.mk [(45 : UInt8)])) + ByteArray.size (ByteArray.mk (Array.mk [(10 : UInt8)]))) (9223372036854775807 : Nat) then bif Nat.ble (ByteArray.size
  (ByteArray.mk (Array.mk [(35 : UInt8), (83 : UInt8), (84 : UInt8), (82 : UInt8), (69 : UInt8), (65 : UInt8), (77 : UInt8), (32 : UInt8)]) ++ (List.getD z k (Strm.mk
  (ByteArray.mk (Array.mk [])) (ByteArray.mk (Array.mk [])) (0 : Int) (0 : Int) (0 : Int) (0 : Int) (ByteArray.mk (Array.mk [])))).name ++ ByteArray.mk (Array.mk [(32 :
  UInt8)]) ++ F.itoa z_1 ++ ByteArray.mk (Array.mk [(32 : UInt8)]) ++ F.itoa z_2 ++ ByteArray.mk (Array.mk [(32 : UInt8)]) ++ F.itoa z_3 ++ ByteArray.mk (Array.mk [(32 :
  UInt8)]) ++ F.itoa z_4 ++ ByteArray.mk (Array.mk [(32 : UInt8)]) ++ ByteArray.mk (Array.mk [(45 : UInt8)]) ++ ByteArray.mk (Array.mk [(10 : UInt8)])) + ByteArray.size
  (List.getD z k (Strm.mk (ByteArray.mk (Array.mk [])) (ByteArray.mk (Array.mk [])) (0 : Int) (0 : Int) (0 : Int) (0 : Int) (ByteArray.mk (Array.mk [])))).uri)
  (9223372036854775807 : Nat) then bif Nat.ble (ByteArray.size (ByteArray.mk (Array.mk [(35 : UInt8), (83 : UInt8), (84 : UInt8), (82 : UInt8), (69 : UInt8), (65 : UInt8),
  (77 : UInt8), (32 : UInt8)]) ++ (List.getD z k (Strm.mk (ByteArray.mk (Array.mk [])) (ByteArray.mk (Array.mk [])) (0 : Int) (0 : Int) (0 : Int) (0 : Int) (ByteArray.mk
  (Array.mk [])))).name ++ ByteArray.mk (Array.mk [(32 : UInt8)]) ++ F.itoa z_1 ++ ByteArray.mk (Array.mk [(32 : UInt8)]) ++ F.itoa z_2 ++ ByteArray.mk (Array.mk [(32 :
  UInt8)]) ++ F.itoa z_3 ++ ByteArray.mk (Array.mk [(32 : UInt8)]) ++ F.itoa z_4 ++ ByteArray.mk (Array.mk [(32 : UInt8)]) ++ ByteArray.mk (Array.mk [(45 : UInt8)]) ++
  ByteArray.mk (Array.mk [(10 : UInt8)]) ++ (List.getD z k (Strm.mk (ByteArray.mk (Array.mk [])) (ByteArray.mk (Array.mk [])) (0 : Int) (0 : Int) (0 : Int) (0 : Int)
  (ByteArray.mk (Array.mk [])))).uri) + ByteArray.size (ByteArray.mk (Array.mk [(10 : UInt8)]))) (9223372036854775807 : Nat) then bif Nat.ble (ByteArray.size o +
  ByteArray.size (ByteArray.mk (Array.mk [(35 : UInt8), (83 : UInt8), (84 : UInt8), (82 : UInt8), (69 : UInt8), (65 : UInt8), (77 : UInt8), (32 : UInt8)]) ++ (List.getD z k
  (Strm.mk (ByteArray.mk (Array.mk [])) (ByteArray.mk (Array.mk [])) (0 : Int) (0 : Int) (0 : Int) (0 : Int) (ByteArray.mk (Array.mk [])))).name ++ ByteArray.mk (Array.mk
  [(32 : UInt8)]) ++ F.itoa z_1 ++ ByteArray.mk (Array.mk [(32 : UInt8)]) ++ F.itoa z_2 ++ ByteArray.mk (Array.mk [(32 : UInt8)]) ++ F.itoa z_3 ++ ByteArray.mk (Array.mk
  [(32 : UInt8)]) ++ F.itoa z_4 ++ ByteArray.mk (Array.mk [(32 : UInt8)]) ++ ByteArray.mk (Array.mk [(45 : UInt8)]) ++ ByteArray.mk (Array.mk [(10 : UInt8)]) ++ (List.getD z
  k (Strm.mk (ByteArray.mk (Array.mk [])) (ByteArray.mk (Array.mk [])) (0 : Int) (0 : Int) (0 : Int) (0 : Int) (ByteArray.mk (Array.mk [])))).uri ++ ByteArray.mk (Array.mk
  [(10 : UInt8)]))) (9223372036854775807 : Nat) then some (Ex.normal, St.mk [(8, (vI (IntKind.wrap IntKind.i64 ((↑k : Int) + (1 : Int))))), (5, (vS (o ++ (ByteArray.mk
  (Array.mk [(35 : UInt8), (83 : UInt8), (84 : UInt8), (82 : UInt8), (69 : UInt8), (65 : UInt8), (77 : UInt8), (32 : UInt8)]) ++ (List.getD z k (Strm.mk (ByteArray.mk
  (Array.mk [])) (ByteArray.mk (Array.mk [])) (0 : Int) (0 : Int) (0 : Int) (0 : Int) (ByteArray.mk (Array.mk [])))).name ++ ByteArray.mk (Array.mk [(32 : UInt8)]) ++ F.itoa
  z_1 ++ ByteArray.mk (Array.mk [(32 : UInt8)]) ++ F.itoa z_2 ++ ByteArray.mk (Array.mk [(32 : UInt8)]) ++ F.itoa z_3 ++ ByteArray.mk (Array.mk [(32 : UInt8)]) ++ F.itoa z_4
  ++ ByteArray.mk (Array.mk [(32 : UInt8)]) ++ ByteArray.mk (Array.mk [(45 : UInt8)]) ++ ByteArray.mk (Array.mk [(10 : UInt8)]) ++ (List.getD z k (Strm.mk (ByteArray.mk
  (Array.mk [])) (ByteArray.mk (Array.mk [])) (0 : Int) (0 : Int) (0 : Int) (0 : Int) (ByteArray.mk (Array.mk [])))).uri ++ ByteArray.mk (Array.mk [(10 : UInt8)]))))), (1,
  .ptr 1 0 0)] [(1, Blk.mk true 0 0 [[AV.sl (List.map eStrm m.streams), AV.sl (List.map eSnd m.sounds)]])]) else none else none else none else none else none else none else
  none else none else none else none else none else none else none else none else none else none else none else none else none else bif Nat.ble (ByteArray.size (ByteArray.mk
  (Array.mk [(35 : UInt8), (83 : UInt8), (84 : UInt8), (82 : UInt8), (69 : UInt8), (65 : UInt8), (77 : UInt8), (32 : UInt8)])) + ByteArray.size (List.getD z k (Strm.mk
  (ByteArray.mk (Array.mk [])) (ByteArray.mk (Array.mk [])) (0 : Int) (0 : Int) (0 : Int) (0 : Int) (ByteArray.mk (Array.mk [])))).name) (9223372036854775807 : Nat) then bif
  Nat.ble (ByteArray.size (ByteArray.mk (Array.mk [(35 : UInt8), (83 : UInt8), (84 : UInt8), (82 : UInt8), (69 : UInt8), (65 : UInt8), (77 : UInt8), (32 : UInt8)]) ++
  (List.getD z k (Strm.mk (ByteArray.mk (Array.mk [])) (ByteArray.mk (Array.mk [])) (0 : Int) (0 : Int) (0 : Int) (0 : Int) (ByteArray.mk (Array.mk [])))).name) +
  ByteArray.size (ByteArray.mk (Array.mk [(32 : UInt8)]))) (9223372036854775807 : Nat) then Option.bind (unenc encIta [(vI (List.getD z k (Strm.mk (ByteArray.mk (Array.mk
  [])) (ByteArray.mk (Array.mk [])) (0 : Int) (0 : Int) (0 : Int) (0 : Int) (ByteArray.mk (Array.mk [])))).mean)]) fun (z_1 : Int) => bif decide ((-9223372036854775808 :
  Int) ≤ z_1) && decide (z_1 ≤ (9223372036854775807 : Int)) then bif Nat.ble (ByteArray.size (ByteArray.mk (Array.mk [(35 : UInt8), (83 : UInt8), (84 : UInt8), (82 : UInt8),
  (69 : UInt8), (65 : UInt8), (77 : UInt8), (32 : UInt8)]) ++ (List.getD z k (Strm.mk (ByteArray.mk (Array.mk [])) (ByteArray.mk (Array.mk [])) (0 : Int) (0 : Int) (0 : Int)
  (0 : Int) (ByteArray.mk (Array.mk [])))).name ++ ByteArray.mk (Array.mk [(32 : UInt8)])) + ByteArray.size (F.itoa z_1)) (9223372036854775807 : Nat) then bif Nat.ble
  (ByteArray.size (ByteArray.mk (Array.mk [(35 : UInt8), (83 : UInt8), (84 : UInt8), (82 : UInt8), (69 : UInt8), (65 : UInt8), (77 : UInt8), (32 : UInt8)]) ++ (List.getD z k
  (Strm.mk (ByteArray.mk (Array.mk [])) (ByteArray.mk (Array.mk [])) (0 : Int) (0 : Int) (0 : Int) (0 : Int) (ByteArray.mk (Array.mk [])))).name ++ ByteArray.mk (Array.mk
  [(32 : UInt8)]) ++ F.itoa z_1) + ByteArray.size (ByteArray.mk (Array.mk [(32 : UInt8)]))) (9223372036854775807 : Nat) then Option.bind (unenc encIta [(vI (List.getD z k
  (Strm.mk (ByteArray.mk (Array.mk [])) (ByteArray.mk (Array.mk [])) (0 : Int) (0 : Int) (0 : Int) (0 : Int) (ByteArray.mk (Array.mk [])))).peak)]) fun (z_2 : Int) => bif
  decide ((-9223372036854775808 : Int) ≤ z_2) && decide (z_2 ≤ (9223372036854775807 : Int)) then bif Nat.ble (ByteArray.size (ByteArray.mk (Array.mk [(35 : UInt8), (83 :
  UInt8), (84 : UInt8), (82 : UInt8), (69 : UInt8), (65 : UInt8), (77 : UInt8), (32 : UInt8)]) ++ (List.getD z k (Strm.mk (ByteArray.mk (Array.mk [])) (ByteArray.mk
  (Array.mk [])) (0 : Int) (0 : Int) (0 : Int) (0 : Int) (ByteArray.mk (Array.mk [])))).name ++ ByteArray.mk (Array.mk [(32 : UInt8)]) ++ F.itoa z_1 ++ ByteArray.mk
  (Array.mk [(32 : UInt8)])) + ByteArray.size (F.itoa z_2)) (9223372036854775807 : Nat) then bif Nat.ble (ByteArray.size (ByteArray.mk (Array.mk [(35 : UInt8), (83 : UInt8),
  (84 : UInt8), (82 : UInt8), (69 : UInt8), (65 : UInt8), (77 : UInt8), (32 : UInt8)]) ++ (List.getD z k (Strm.mk (ByteArray.mk (Array.mk [])) (ByteArray.mk (Array.mk []))
  (0 : Int) (0 : Int) (0 : Int) (0 : Int) (ByteArray.mk (Array.mk [])))).name ++ ByteArray.mk (Array.mk [(32 : UInt8)]) ++ F.itoa z_1 ++ ByteArray.mk (Array.mk [(32 :
  UInt8)]) ++ F.itoa z_2) + ByteArray.size (ByteArray.mk (Array.mk [(32 : UInt8)]))) (9223372036854775807 : Nat) then Option.bind (unenc encIta [(vI (List.getD z k (Strm.mk
  (ByteArray.mk (Array.mk [])) (ByteArray.mk (Array.mk [])) (0 : Int) (0 : Int) (0 : Int) (0 : Int) (ByteArray.mk (Array.mk [])))).width)]) fun (z_3 : Int) => bif decide
  ((-9223372036854775808 : Int) ≤ z_3) && decide (z_3 ≤ (9223372036854775807 : Int)) then bif Nat.ble (ByteArray.size (ByteArray.mk (Array.mk [(35 : UInt8), (83 : UInt8),
  (84 : UInt8), (82 : UInt8), (69 : UInt8), (65 : UInt8), (77 : UInt8), (32 : UInt8)]) ++ (List.getD z k (Strm.mk (ByteArray.mk (Array.mk [])) (ByteArray.mk (Array.mk []))
  (0 : Int) (0 : Int) (0 : Int) (0 : Int) (ByteArray.mk (Array.mk [])))).name ++ ByteArray.mk (Array.mk [(32 : UInt8)]) ++ F.itoa z_1 ++ ByteArray.mk (Array.mk [(32 :
  UInt8)]) ++ F.itoa z_2 ++ ByteArray.mk (Array.mk [(32 : UInt8)])) + ByteArray.size (F.itoa z_3)) (9223372036854775807 : Nat) then bif Nat.ble (ByteArray.size (ByteArray.mk
  (Array.mk [(35 : UInt8), (83 : UInt8), (84 : UInt8), (82 : UInt8), (69 : UInt8), (65 : UInt8), (77 : UInt8), (32 : UInt8)]) ++ (List.getD z k (Strm.mk (ByteArray.mk
  (Array.mk [])) (ByteArray.mk (Array.mk [])) (0 : Int) (0 : Int) (0 : Int) (0 : Int) (ByteArray.mk (Array.mk [])))).name ++ ByteArray.mk (Array.mk [(32 : UInt8)]) ++ F.itoa
  z_1 ++ ByteArray.mk (Array.mk [(32 : UInt8)]) ++ F.itoa z_2 ++ ByteArray.mk (Array.mk [(32 : UInt8)]) ++ F.itoa z_3) + ByteArray.size (ByteArray.mk (Array.mk [(32 :
  UInt8)]))) (9223372036854775807 : Nat) then Option.bind (unenc encIta [(vI (List.getD z k (Strm.mk (ByteArray.mk (Array.mk [])) (ByteArray.mk (Array.mk [])) (0 : Int) (0 :
  Int) (0 : Int) (0 : Int) (ByteArray.mk (Array.mk [])))).height)]) fun (z_4 : Int) => bif decide ((-9223372036854775808 : Int) ≤ z_4) && decide (z_4 ≤ (9223372036854775807
  : Int)) then bif Nat.ble (ByteArray.size (ByteArray.mk (Array.mk [(35 : UInt8), (83 : UInt8), (84 : UInt8), (82 : UInt8), (69 : UInt8), (65 : UInt8), (77 : UInt8), (32 :
  UInt8)]) ++ (List.getD z k (Strm.mk (ByteArray.mk (Array.mk [])) (ByteArray.mk (Array.mk [])) (0 : Int) (0 : Int) (0 : Int) (0 : Int) (ByteArray.mk (Array.mk [])))).name
  ++ ByteArray.mk (Array.mk [(32 : UInt8)]) ++ F.itoa z_1 ++ ByteArray.mk (Array.mk [(32 : UInt8)]) ++ F.itoa z_2 ++ ByteArray.mk (Array.mk [(32 : UInt8)]) ++ F.itoa z_3 ++
  ByteArray.mk (Array.mk [(32 : UInt8)])) + ByteArray.size (F.itoa z_4)) (9223372036854775807 : Nat) then bif Nat.ble (ByteArray.size (ByteArray.mk (Array.mk [(35 : UInt8),
  (83 : UInt8), (84 : UInt8), (82 : UInt8), (69 : UInt8), (65 : UInt8), (77 : UInt8), (32 : UInt8)]) ++ (List.getD z k (Strm.mk (ByteArray.mk (Array.mk [])) (ByteArray.mk
  (Array.mk [])) (0 : Int) (0 : Int) (0 : Int) (0 : Int) (ByteArray.mk (Array.mk [])))).name ++ ByteArray.mk (Array.mk [(32 : UInt8)]) ++ F.itoa z_1 ++ ByteArray.mk
  (Array.mk [(32 : UInt8)]) ++ F.itoa z_2 ++ ByteArray.mk (Array.mk [(32 : UInt8)]) ++ F.itoa z_3 ++ ByteArray.mk (Array.mk [(32 : UInt8)]) ++ F.itoa z_4) + ByteArray.size
  (ByteArray.mk (Array.mk [(32 : UInt8)]))) (9223372036854775807 : Nat) then bif Nat.ble (ByteArray.size (ByteArray.mk (Array.mk [(35 : UInt8), (83 : UInt8), (84 : UInt8),
  (82 : UInt8), (69 : UInt8), (65 : UInt8), (77 : UInt8), (32 : UInt8)]) ++ (List.getD z k (Strm.mk (ByteArray.mk (Array.mk [])) (ByteArray.mk (Array.mk [])) (0 : Int) (0 :
  Int) (0 : Int) (0 : Int) (ByteArray.mk (Array.mk [])))).name ++ ByteArray.mk (Array.mk [(32 : UInt8)]) ++ F.itoa z_1 ++ ByteArray.mk (Array.mk [(32 : UInt8)]) ++ F.itoa
  z_2 ++ ByteArray.mk (Array.mk [(32 : UInt8)]) ++ F.itoa z_3 ++ ByteArray.mk (Array.mk [(32 : UInt8)]) ++ F.itoa z_4 ++ ByteArray.mk (Array.mk [(32 : UInt8)])) +
  ByteArray.size (List.getD z k (Strm.mk (ByteArray.mk (Array.mk [])) (ByteArray.mk (Array.mk [])) (0 : Int) (0 : Int) (0 : Int) (0 : Int) (ByteArray.mk (Array.mk
  [])))).sound) (9223372036854775807 : Nat) then bif Nat.ble (ByteArray.size (ByteArray.mk (Array.mk [(35 : UInt8), (83 : UInt8), (84 : UInt8), (82 : UInt8), (69 : UInt8),
  (65 : UInt8), (77 : UInt8), (32 : UInt8)]) ++ (List.getD z k (Strm.mk (ByteArray.mk (Array.mk [])) (ByteArray.mk (Array.mk [])) (0 : Int) (0 : Int) (0 : Int) (0 : Int)
  (ByteArray.mk (Array.mk [])))).name ++ ByteArray.mk (Array.mk [(32 : UInt8)]) ++ F.itoa z_1 ++ ByteArray.mk (Array.mk [(32 : UInt8)]) ++ F.itoa z_2 ++ ByteArray.mk
  (Array.mk [(32 : UInt8)]) ++ F.itoa z_3 ++ ByteArray.mk (Array.mk [(32 : UInt8)]) ++ F.itoa z_4 ++ ByteArray.mk (Array.mk [(32 : UInt8)]) ++ (List.getD z k (Strm.mk
  (ByteArray.mk (Array.mk [])) (ByteArray.mk (Array.mk [])) (0 : Int) (0 : Int) (0 : Int) (0 : Int) (ByteArray.mk (Array.mk [])))).sound) + ByteArray.size (ByteArray.mk
  (Array.mk [(10 : UInt8)]))) (9223372036854775807 : Nat) then bif Nat.ble (ByteArray.size (ByteArray.mk (Array.mk [(35 : UInt8), (83 : UInt8), (84 : UInt8), (82 : UInt8),
  (69 : UInt8), (65 : UInt8), (77 : UInt8), (32 : UInt8)]) ++ (List.getD z k (Strm.mk (ByteArray.mk (Array.mk [])) (ByteArray.mk (Array.mk [])) (0 : Int) (0 : Int) (0 : Int)
  (0 : Int) (ByteArray.mk (Array.mk [])))).name ++ ByteArray.mk (Array.mk [(32 : UInt8)]) ++ F.itoa z_1 ++ ByteArray.mk (Array.mk [(32 : UInt8)]) ++ F.itoa z_2 ++
  ByteArray.mk (Array.mk [(32 : UInt8)]) ++ F.itoa z_3 ++ ByteArray.mk (Array.mk [(32 : UInt8)]) ++ F.itoa z_4 ++ ByteArray.mk (Array.mk [(32 : UInt8)]) ++ (List.getD z k
  (Strm.mk (ByteArray.mk (Array.mk [])) (ByteArray.mk (Array.mk [])) (0 : Int) (0 : Int) (0 : Int) (0 : Int) (ByteArray.mk (Array.mk [])))).sound ++ ByteArray.mk (Array.mk
  [(10 : UInt8)])) + ByteArray.size (List.getD z k (Strm.mk (ByteArray.mk (Array.mk [])) (ByteArray.mk (Array.mk [])) (0 : Int) (0 : Int) (0 : Int) (0 : Int) (ByteArray.mk
  (Array.mk [])))).uri) (9223372036854775807 : Nat) then bif Nat.ble (ByteArray.size (ByteArray.mk (Array.mk [(35 : UInt8), (83 : UInt8), (84 : UInt8), (82 : UInt8), (69 :
  UInt8), (65 : UInt8), (77 : UInt8), (32 : UInt8)]) ++ (List.getD z k (Strm.mk (ByteArray.mk (Array.mk [])) (ByteArray.mk (Array.mk [])) (0 : Int) (0 : Int) (0 : Int) (0 :
  Int) (ByteArray.mk (Array.mk [])))).name ++ ByteArray.mk (Array.mk [(32 : UInt8)]) ++ F.itoa z_1 ++ ByteArray.mk (Array.mk [(32 : UInt8)]) ++ F.itoa z_2 ++ ByteArray.mk
  (Array.mk [(32 : UInt8)]) ++ F.itoa z_3 ++ ByteArray.mk (Array.mk [(32 : UInt8)]) ++ F.itoa z_4 ++ ByteArray.mk (Array.mk [(32 : UInt8)]) ++ (List.getD z k (Strm.mk
  (ByteArray.mk (Array.mk [])) (ByteArray.mk (Array.mk [])) (0 : Int) (0 : Int) (0 : Int) (0 : Int) (ByteArray.mk (Array.mk [])))).sound ++ ByteArray.mk (Array.mk [(10 :
  UInt8)]) ++ (List.getD z k (Strm.mk (ByteArray.mk (Array.mk [])) (ByteArray.mk (Array.mk [])) (0 : Int) (0 : Int) (0 : Int) (0 : Int) (ByteArray.mk (Array.mk [])))).uri) +
  ByteArray.size (ByteArray.mk (Array.mk [(10 : UInt8)]))) (9223372036854775807 : Nat) then bif Nat.ble (ByteArray.size o + ByteArray.size (ByteArray.mk (Array.mk [(35 :
  UInt8), (83 : UInt8), (84 : UInt8), (82 : UInt8), (69 : UInt8), (65 : UInt8), (77 : UInt8), (32 : UInt8)]) ++ (List.getD z k (Strm.mk (ByteArray.mk (Array.mk []))
  (ByteArray.mk (Array.mk [])) (0 : Int) (0 : Int) (0 : Int) (0 : Int) (ByteArray.mk (Array.mk [])))).name ++ ByteArray.mk (Array.mk [(32 : UInt8)]) ++ F.itoa z_1 ++
  ByteArray.mk (Array.mk [(32 : UInt8)]) ++ F.itoa z_2 ++ ByteArray.mk (Array.mk [(32 : UInt8)]) ++ F.itoa z_3 ++ ByteArray.mk (Array.mk [(32 : UInt8)]) ++ F.itoa z_4 ++
  ByteArray.mk (Array.mk [(32 : UInt8)]) ++ (List.getD z k (Strm.mk (ByteArray.mk (Array.mk [])) (ByteArray.mk (Array.mk [])) (0 : Int) (0 : Int) (0 : Int) (0 : Int)
  (ByteArray.mk (Array.mk [])))).sound ++ ByteArray.mk (Array.mk [(10 : UInt8)]) ++ (List.getD z k (Strm.mk (ByteArray.mk (Array.mk [])) (ByteArray.mk (Array.mk [])) (0 :
  Int) (0 : Int) (0 : Int) (0 : Int) (ByteArray.mk (Array.mk [])))).uri ++ ByteArray.mk (Array.mk [(10 : UInt8)]))) (9223372036854775807 : Nat) then some (Ex.normal, St.mk
  [(8, (vI (IntKind.wrap IntKind.i64 ((↑k : Int) + (1 : Int))))), (5, (vS (o ++ (ByteArray.mk (Array.mk [(35 : UInt8), (83 : UInt8), (84 : UInt8), (82 : UInt8), (69 :
  UInt8), (65 : UInt8), (77 : UInt8), (32 : UInt8)]) ++ (List.getD z k (Strm.mk (ByteArray.mk (Array.mk [])) (ByteArray.mk (Array.mk [])) (0 : Int) (0 : Int) (0 : Int) (0 :
  Int) (ByteArray.mk (Array.mk [])))).name ++ ByteArray.mk (Array.mk [(32 : UInt8)]) ++ F.itoa z_1 ++ ByteArray.mk (Array.mk [(32 : UInt8)]) ++ F.itoa z_2 ++ ByteArray.mk
  (Array.mk [(32 : UInt8)]) ++ F.itoa z_3 ++ ByteArray.mk (Array.mk [(32 : UInt8)]) ++ F.itoa z_4 ++ ByteArray.mk (Array.mk [(32 : UInt8)]) ++ (List.getD z k (Strm.mk
  (ByteArray.mk (Array.mk [])) (ByteArray.mk (Array.mk [])) (0 : Int) (0 : Int) (0 : Int) (0 : Int) (ByteArray.mk (Array.mk [])))).sound ++ ByteArray.mk (Array.mk [(10 :
  UInt8)]) ++ (List.getD z k (Strm.mk (ByteArray.mk (Array.mk [])) (ByteArray.mk (Array.mk [])) (0 : Int) (0 : Int) (0 : Int) (0 : Int) (ByteArray.mk (Array.mk [])))).uri ++
  ByteArray.mk (Array.mk [(10 : UInt8)]))))), (1, .ptr 1 0 0)] [(1, Blk.mk true 0 0 [[AV.sl (List.map eStrm m.streams), AV.sl (List.map eSnd m.sounds)]])]) else none else
  none else none else none else none else none else none else none else none else none else none else none else none else none else none else none else none else none else
  none else none else some (Ex.exit (2 : Nat), St.mk [(5, (vS o))] []) := by kernel_rfl

theorem lpRX2_ok (m : Mas) (o : ByteArray) (k : Nat) (hp : prlRX2 m o k = true) : ∀ ex s', (outRX2 m o k).val = some (ex, s') → LoopOK enRX (loopN Tryd.f5 1) (stRX2 m o k) ex s' := by
  simp only [prlRX2, Bool.and_eq_true, decide_eq_true_eq] at hp
  obtain ⟨⟨⟨h1, h2⟩, h3⟩, h4⟩ := hp
  refine loop_fold (xs := m.streams) (st := fun o k => stRX2 m o k) (f := F.strT) (fin := fun o => (.exit 2, ⟨[(5, vS o)], []⟩)) (I := fun o k => o.size ≤ 20200 + 400 * k) (n := ([8, 5, 1], [1])) (e := ([5], [])) (r := ([], [])) ?_ (fun _ => ⟨by simp, rfl⟩) (fun _ _ => rfl) ?_ o k h2 h4
  · intro o _
    rw [evRX2L]; simp
  · intro o k y hy hI
    have hlt := lt_at hy
    have hb := strsOK_at h3 (List.mem_of_getElem? hy)
    have hz := F.strT_size (o := o) hb
    obtain ⟨b1, b2, b3, b4, b5, b6, b7⟩ := hb
    have bd := F.dash_size b3
    have i1 := F.itoa_size (n := y.mean) (by omega) (by omega)
    have i2 := F.itoa_size (n := y.peak) (by omega) (by omega)
    have i3 := F.itoa_size (n := y.width) (by omega) (by omega)
    have i4 := F.itoa_size (n := y.height) (by omega) (by omega)
    have hr : ∀ n : Int, 0 ≤ n → n ≤ 10000000000 → decide (-9223372036854775808 ≤ n) = true ∧ decide (n ≤ 9223372036854775807) = true := fun n h1 h2 => ⟨decide_eq_true (by omega), decide_eq_true (by omega)⟩
    have j1 := hr y.mean (by omega) (by omega)
    have j2 := hr y.peak (by omega) (by omega)
    have j3 := hr y.width (by omega) (by omega)
    have j4 := hr y.height (by omega) (by omega)
    refine ⟨?_, by omega⟩
    rw [evRX2L]
    simp only [unRM, unIta, unRMw, preRM1, preIta1, unstRX1, unstRX2, unstRX10, unstRX20, prlRX1, prlRX2, outRX1, outRX2, etaEnt, etaLst, etaSnd, etaStrm, etaMas, Option.bind_some, List.length_map, unStrs, unInts, unBools, unEnts, unItms, unTrns, cond_true, cond_false, Bool.and_true, Bool.true_and, unSnds, unStrms, cast_lt hlt, decide_eq_true hlt, next_at hlt (by omega : m.streams.length ≤ 9223372036854775807), getD_at hy, stRX2, j1.1, j1.2, j2.1, j2.2, j3.1, j3.2, j4.1, j4.2, Bool.and_self]
    have hd : F.strT o y = o ++ (⟨⟨[35, 83, 84, 82, 69, 65, 77, 32]⟩⟩ ++ y.name ++ ⟨⟨[32]⟩⟩ ++ F.itoa y.mean ++ ⟨⟨[32]⟩⟩ ++ F.itoa y.peak ++ ⟨⟨[32]⟩⟩ ++ F.itoa y.width ++ ⟨⟨[32]⟩⟩ ++ F.itoa y.height ++ ⟨⟨[32]⟩⟩ ++ F.dash y.sound ++ ⟨⟨[10]⟩⟩ ++ y.uri ++ ⟨⟨[10]⟩⟩) := by
      simp only [F.strT, F.numT, List.foldl_cons, List.foldl_nil, ByteArray.append_assoc]
    rw [hd]
    unfold F.dash F.seq at bd ⊢
    cases hc : (y.sound.toList == ByteArray.toList ⟨⟨[]⟩⟩)
    · rw [hc] at bd
      simp only [cond_false] at bd ⊢
      simp (disch := (simp only [ByteArray.size_append, F.sz, List.length_cons, List.length_nil]; omega)) only [ble_t, cond_true]
      try rfl
    · rw [hc] at bd
      simp only [cond_true] at bd ⊢
      simp (disch := (simp only [ByteArray.size_append, F.sz, List.length_cons, List.length_nil]; omega)) only [ble_t, cond_true]
      try rfl

theorem evRX (m : Mas) : (runF enRX false Tryd.f5 [.agg (eMas m)]).val =
  Option.bind (unenc encRM [AV.agg [AV.sl (List.map eStrm m.streams), AV.sl (List.map eSnd m.sounds)]]) fun (z : Mas) => bif F.chkM z != (0 : Int) then some (AV.tup [(vS
  (ByteArray.mk (Array.mk []))), (vI (F.chkM z))], []) else Option.bind (unenc stRX11 (St.mk [(6, (vI (0 : Int))), (5, (vS (ByteArray.mk (Array.mk [(35 : UInt8), (77 :
  UInt8), (65 : UInt8), (83 : UInt8), (84 : UInt8), (69 : UInt8), (82 : UInt8), (10 : UInt8)])))), (1, .ptr 1 0 0)] [(1, Blk.mk true 0 0 [[AV.sl (List.map eStrm m.streams),
  AV.sl (List.map eSnd m.sounds)]])])) fun (z : Mas × ByteArray × Nat) => bif (decide (List.length z.fst.sounds ≤ (50 : Nat)) && decide (z.snd.snd ≤ List.length
  z.fst.sounds) && List.all z.fst.sounds fun (s : Snd) => decide (ByteArray.size s.group ≤ (40 : Nat)) && decide (ByteArray.size s.name ≤ (40 : Nat)) && decide
  (ByteArray.size s.lang ≤ (8 : Nat)) && decide (ByteArray.size s.uri ≤ (200 : Nat))) && decide (ByteArray.size z.snd.fst ≤ (100 : Nat) + (400 : Nat) * z.snd.snd) && true
  then Option.bind (unenc stRX21 (St.mk [(8, (vI (0 : Int))), (5, (vS (F.sndsT z.snd.fst (List.drop z.snd.snd z.fst.sounds)))), (1, .ptr 1 0 0)] [(1, Blk.mk true 0 0 [[AV.sl
  (List.map eStrm z.fst.streams), AV.sl (List.map eSnd z.fst.sounds)]])])) fun (z : Mas × ByteArray × Nat) => bif (decide (List.length z.fst.streams ≤ (50 : Nat)) && decide
  (z.snd.snd ≤ List.length z.fst.streams) && List.all z.fst.streams fun (s : Strm) => decide (ByteArray.size s.name ≤ (40 : Nat)) && decide (ByteArray.size s.uri ≤ (200 :
  Nat)) && decide (ByteArray.size s.sound ≤ (40 : Nat)) && decide ((1 : Int) ≤ s.mean ∧ s.mean ≤ (10000000000 : Int)) && decide ((1 : Int) ≤ s.peak ∧ s.peak ≤ (10000000000 :
  Int)) && decide ((0 : Int) ≤ s.width ∧ s.width ≤ (20000 : Int)) && decide ((0 : Int) ≤ s.height ∧ s.height ≤ (20000 : Int))) && decide (ByteArray.size z.snd.fst ≤ (20200 :
  Nat) + (400 : Nat) * z.snd.snd) && true then bif decide ((500000 : Int) < (↑(ByteArray.size (F.strsT z.snd.fst (List.drop z.snd.snd z.fst.streams))) : Int)) then some
  (AV.tup [(vS (ByteArray.mk (Array.mk []))), (vI (2 : Int))], []) else some (AV.tup [(vS (F.strsT z.snd.fst (List.drop z.snd.snd z.fst.streams))), (vI (0 : Int))], []) else
  none else none := by kernel_rfl

def encRX1 (m : Mas) : List AV := [.agg (eMas m)]

def encRX (a : Mas) : List AV := encRX1 a

theorem encRX_inj (a a' : Mas) (h : encRX a = encRX a') : a = a' := by
  simp only [encRX, encRX1] at h
  try simp [ints_inj, strs_inj, ents_inj, eEnt_iff, eLst_iff, eSnds_inj, eSnd_iff, eStrms_inj, eStrm_iff, eMas_iff] at h
  grind

theorem unRX (m : Mas) : unenc encRX ([AV.agg [AV.sl (List.map eStrm m.streams), AV.sl (List.map eSnd m.sounds)]]) = some (m) := unenc_of encRX_inj (m) rfl

theorem unRXw (m_streams : List Strm) (m_sounds : List Snd) : unenc encRX ([AV.agg [AV.sl (List.map eStrm m_streams), AV.sl (List.map eSnd m_sounds)]]) = some ((Mas.mk m_streams m_sounds)) := unenc_of encRX_inj ((Mas.mk m_streams m_sounds)) rfl

def resRX1 (m : Mas) : AV × Heap := (.tup [vS (F.mtext m).1, vI (F.mtext m).2], [])

def preRX1 (m : Mas) : Bool := true

noncomputable def oRX : Orc := orc 5 true encRX (fun a => preRX1 a) fun a => resRX1 a

theorem okRX : OrcOK Tryd.prog noG oRX := by
  refine mk_ok Tryd.f5 (keep := false) (by kernel_rfl) (by kernel_rfl) enRX_ok mixed (two_loops (x0 := loopN Tryd.f5 0) (x1 := loopN Tryd.f5 1) (by kernel_rfl) (lpo_ok ?_) (lpo_ok ?_)) (by first | exact fun _ _ => ⟨rfl, rfl⟩ | (intro h; cases h)) ?_
  · rintro ⟨m, o, k⟩ hp
    exact lpRX1_ok m o k hp
  · rintro ⟨m, o, k⟩ hp
    exact lpRX2_ok m o k hp
  rintro m hpre hok
  show (runF enRX false _ (encRX1 _)).val = some (resRX1 _)
  unfold encRX1 resRX1
  rw [evRX]
  simp only [unRM, unIta, unRMw, preRM1, preIta1, unstRX1, unstRX2, unstRX10, unstRX20, prlRX1, prlRX2, outRX1, outRX2, etaEnt, etaLst, etaSnd, etaStrm, etaMas, Option.bind_some, List.length_map, unStrs, unInts, unBools, unEnts, unItms, unTrns, cond_true, cond_false, Bool.and_true, Bool.true_and, unSnds, unStrms, F.mtext, F.masT, List.drop_zero, Nat.zero_le, decide_true]
  cases hc : F.chkM m != 0
  · have hc0 : F.chkM m = 0 := by simpa using hc
    obtain ⟨c1, c2, c3, c4⟩ := F.chkM_ok hc0
    have e1 : sndsOK m.sounds = true := List.all_eq_true.2 fun s hs => by obtain ⟨q1, q2, q3, q4⟩ := c3 s hs; simp [q1, q2, q3, q4]
    have e2 : strsOK m.streams = true := List.all_eq_true.2 fun s hs => by obtain ⟨q1, q2, q3, q4, q5, q6, q7⟩ := c4 s hs; simp [q1, q2, q3, q4, q5, q6, q7]
    have e3 := snds_size m.sounds ⟨⟨[35, 77, 65, 83, 84, 69, 82, 10]⟩⟩ e1
    rw [show (⟨⟨[35, 77, 65, 83, 84, 69, 82, 10]⟩⟩ : ByteArray).size = 8 from rfl] at e3
    have d1 : decide (m.streams.length ≤ 50) = true := decide_eq_true c1
    have d2 : decide (m.sounds.length ≤ 50) = true := decide_eq_true c2
    have d3 : decide ((⟨⟨[35, 77, 65, 83, 84, 69, 82, 10]⟩⟩ : ByteArray).size ≤ 100 + 400 * 0) = true := rfl
    have d4 : decide ((F.sndsT ⟨⟨[35, 77, 65, 83, 84, 69, 82, 10]⟩⟩ m.sounds).size ≤ 20200 + 400 * 0) = true := decide_eq_true (by omega)
    unfold sndsOK at e1
    unfold strsOK at e2
    simp only [d1, d2, d3, d4, e1, e2, cond_true, cond_false, Bool.and_self]
    have e : decide ((500000 : Int) < ((F.strsT (F.sndsT ⟨⟨[35, 77, 65, 83, 84, 69, 82, 10]⟩⟩ m.sounds) m.streams).size : Int)) = F.big (F.strsT (F.sndsT ⟨⟨[35, 77, 65, 83, 84, 69, 82, 10]⟩⟩ m.sounds) m.streams) := by
      generalize F.strsT (F.sndsT ⟨⟨[35, 77, 65, 83, 84, 69, 82, 10]⟩⟩ m.sounds) m.streams = s
      unfold F.big
      by_cases h : 500000 < s.size
      · rw [decide_eq_true h, decide_eq_true (by omega)]
      · rw [decide_eq_false h, decide_eq_false (by omega)]
    rw [e]
    cases F.big (F.strsT (F.sndsT ⟨⟨[35, 77, 65, 83, 84, 69, 82, 10]⟩⟩ m.sounds) m.streams) <;> rfl
  · rfl

noncomputable def enLMM : Env := envH ty noG lksS [oChM, oRM, oTxx, oRX, oBst, oRBs, oAwk] [] [] []

theorem enLMM_ok : EnvOK Tryd.prog enLMM := by
  refine envH_ok lksS_ok ty_ok ?_ ?_
  · simp only [List.forall_mem_cons]
    exact ⟨okChM, okRM, okTxx, okRX, okBst, okRBs, okAwk, by simp⟩
  · simp

theorem evLMM (m : Mas) (r : Int) (w : Int) (h : Int) : (runF enLMM false Tryd.f3 [.agg (eMas m), vI r, vI w, vI h]).val =
  Option.bind (unenc encTxx [AV.agg [AV.sl (List.map eStrm m.streams), AV.sl (List.map eSnd m.sounds)]]) fun (z : Mas) => Option.bind (unenc encRX [AV.agg [AV.sl (List.map
  eStrm m.streams), AV.sl (List.map eSnd m.sounds)]]) fun (z_1 : Mas) => Option.bind (unenc encBst [AV.agg [AV.sl (List.map eStrm m.streams), AV.sl (List.map eSnd
  m.sounds)], (vI r), (vI w), (vI h)]) fun (z_2 : Mas × Int × Int × Int) => Option.bind (unenc encRBs [AV.agg [AV.sl (List.map eStrm m.streams), AV.sl (List.map eSnd
  m.sounds)], (vI r), (vI w), (vI h)]) fun (z_3 : Mas × Int × Int × Int) => Option.bind (unenc encChM [AV.agg [AV.sl (List.map eStrm m.streams), AV.sl (List.map eSnd
  m.sounds)]]) fun (z_4 : Mas) => Option.bind (unenc encRM [AV.agg [AV.sl (List.map eStrm m.streams), AV.sl (List.map eSnd m.sounds)]]) fun (z_5 : Mas) => bif bif bif bif
  bif F.chkM z_4 == F.chkM z_5 then ByteArray.toList (F.mtext z).fst == ByteArray.toList (F.mtext z_1).fst else false then (F.mtext z).snd == (F.mtext z_1).snd else false
  then (F.best z_2.fst z_2.snd.fst z_2.snd.snd.fst z_2.snd.snd.snd).fst == (F.best z_3.fst z_3.snd.fst z_3.snd.snd.fst z_3.snd.snd.snd).fst else false then (F.best z_2.fst
  z_2.snd.fst z_2.snd.snd.fst z_2.snd.snd.snd).snd == (F.best z_3.fst z_3.snd.fst z_3.snd.snd.fst z_3.snd.snd.snd).snd else false then Option.bind (unenc encAwk []) fun (z_6
  : Unit) => some ((vB (bif bif bif bif bif F.chkM z_4 == F.chkM z_5 then ByteArray.toList (F.mtext z).fst == ByteArray.toList (F.mtext z_1).fst else false then (F.mtext
  z).snd == (F.mtext z_1).snd else false then (F.best z_2.fst z_2.snd.fst z_2.snd.snd.fst z_2.snd.snd.snd).fst == (F.best z_3.fst z_3.snd.fst z_3.snd.snd.fst
  z_3.snd.snd.snd).fst else false then (F.best z_2.fst z_2.snd.fst z_2.snd.snd.fst z_2.snd.snd.snd).snd == (F.best z_3.fst z_3.snd.fst z_3.snd.snd.fst z_3.snd.snd.snd).snd
  else false then true else false)), []) else some ((vB false), []) := by kernel_rfl

def encLMM1 (m : Mas) (r : Int) (w : Int) (h : Int) : List AV := [.agg (eMas m), vI r, vI w, vI h]

def encLMM (a : Mas × Int × Int × Int) : List AV := encLMM1 a.1 a.2.1 a.2.2.1 a.2.2.2

theorem encLMM_inj (a a' : Mas × Int × Int × Int) (h : encLMM a = encLMM a') : a = a' := by
  simp only [encLMM, encLMM1] at h
  try simp [ints_inj, strs_inj, ents_inj, eEnt_iff, eLst_iff, eSnds_inj, eSnd_iff, eStrms_inj, eStrm_iff, eMas_iff] at h
  grind

theorem unLMM (m : Mas) (r : Int) (w : Int) (h : Int) : unenc encLMM ([AV.agg [AV.sl (List.map eStrm m.streams), AV.sl (List.map eSnd m.sounds)], (vI r), (vI w), (vI h)]) = some (m, r, w, h) := unenc_of encLMM_inj (m, r, w, h) rfl

theorem unLMMw (m_streams : List Strm) (m_sounds : List Snd) (r : Int) (w : Int) (h : Int) : unenc encLMM ([AV.agg [AV.sl (List.map eStrm m_streams), AV.sl (List.map eSnd m_sounds)], (vI r), (vI w), (vI h)]) = some ((Mas.mk m_streams m_sounds), r, w, h) := unenc_of encLMM_inj ((Mas.mk m_streams m_sounds), r, w, h) rfl

def resLMM1 (m : Mas) (r : Int) (w : Int) (h : Int) : AV × Heap := (vB true, [])

def preLMM1 (m : Mas) (r : Int) (w : Int) (h : Int) : Bool := true

noncomputable def oLMM : Orc := orc 3 true encLMM (fun a => preLMM1 a.1 a.2.1 a.2.2.1 a.2.2.2) fun a => resLMM1 a.1 a.2.1 a.2.2.1 a.2.2.2

theorem okLMM : OrcOK Tryd.prog noG oLMM := by
  refine mk_ok Tryd.f3 (keep := false) (by kernel_rfl) (by kernel_rfl) enLMM_ok mixed (no_loops (by kernel_rfl)) (by first | exact fun _ _ => ⟨rfl, rfl⟩ | (intro h; cases h)) ?_
  rintro ⟨m, r, w, h⟩ hpre hok
  show (runF enLMM false _ (encLMM1 _ _ _ _)).val = some (resLMM1 _ _ _ _)
  unfold encLMM1 resLMM1
  rw [evLMM]
  simp only [unChM, unRM, unTxx, unRX, unBst, unRBs, unAwk, unChMw, unRMw, unTxxw, unRXw, unBstw, unRBsw, preChM1, preRM1, preTxx1, preRX1, preBst1, preRBs1, preAwk1, etaEnt, etaLst, etaSnd, etaStrm, etaMas, Option.bind_some, List.length_map, unStrs, unInts, unBools, unEnts, unItms, unTrns, cond_true, cond_false, Bool.and_true, Bool.true_and, unSnds, unStrms, F.seq_refl, bne_self_eq_false, beq_self_eq_true]
  done

end M
end Go.Proofs.YtkfhfjcgegimbaaDoor
