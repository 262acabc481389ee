/- What is proved here: MasterText on plain data, of the program and of the reference (no statement of the seat). -/
import Derived.Test.YtipngpndgniagaaDoorE37
namespace Go.Proofs.YtipngpndgniagaaDoor
open Go Go.RowKit
set_option linter.unusedVariables false
set_option linter.unusedSimpArgs false
set_option maxRecDepth 100000

namespace M


def strsOK (l : List Strm) : Bool := l.all fun s => decide (s.name.size ≤ 40) && decide (s.uri.size ≤ 200) && decide (s.sound.size ≤ 40) && decide (1 ≤ s.mean ∧ s.mean ≤ 10000000000) && decide (1 ≤ s.peak ∧ s.peak ≤ 10000000000) && decide (0 ≤ s.width ∧ s.width ≤ 20000) && decide (0 ≤ s.height ∧ s.height ≤ 20000)

theorem strsOK_at {l : List Strm} (h : strsOK l = true) {s : Strm} (hs : s ∈ l) : s.name.size ≤ 40 ∧ s.uri.size ≤ 200 ∧ s.sound.size ≤ 40 ∧ (1 ≤ s.mean ∧ s.mean ≤ 10000000000) ∧ (1 ≤ s.peak ∧ s.peak ≤ 10000000000) ∧ (0 ≤ s.width ∧ s.width ≤ 20000) ∧ (0 ≤ s.height ∧ s.height ≤ 20000) := by
  have := List.all_eq_true.1 h s hs
  simp only [Bool.and_eq_true, decide_eq_true_eq] at this
  obtain ⟨⟨⟨⟨⟨⟨h1, h2⟩, h3⟩, h4⟩, h5⟩, h6⟩, h7⟩ := this
  exact ⟨h1, h2, h3, h4, h5, h6, h7⟩

def stTx1 (m : Mas) (o : ByteArray) (k : Nat) : St := ⟨[(20, vI k), (19, vI m.sounds.length), (18, .sl (m.sounds.map eSnd)), (5, vS o), (1, .ptr 1 0 0)], [(1, ⟨true, 0, 0, [eMas m]⟩)]⟩

def stTx11 (a : Mas × ByteArray × Nat) : St := stTx1 a.1 a.2.1 a.2.2

theorem stTx1_inj (a a' : Mas × ByteArray × Nat) (h : stTx11 a = stTx11 a') : a = a' := by
  simp only [stTx11, stTx1] at h
  try simp [ints_inj, strs_inj, ents_inj, eEnt_iff, eLst_iff, eSnds_inj, eSnd_iff, eStrms_inj, eStrm_iff, eMas_iff] at h
  grind

theorem unstTx1 (m : Mas) (o : ByteArray) (k : Nat) : unenc stTx11 (St.mk [(20, (vI (↑k : Int))), (19, (vI (↑(List.length m.sounds) : Int))), (18, AV.sl (List.map eSnd m.sounds)), (5, (vS o)), (1, .ptr 1 0 0)] [(1, Blk.mk true 0 0 [[AV.sl
  (List.map eStrm m.streams), AV.sl (List.map eSnd m.sounds)]])]) = some (m, o, k) := unenc_of stTx1_inj (m, o, k) rfl

theorem unstTx10 (m : Mas) (o : ByteArray)  : unenc stTx11 (St.mk [(20, (vI (0 : Int))), (19, (vI (↑(List.length m.sounds) : Int))), (18, AV.sl (List.map eSnd m.sounds)), (5, (vS o)), (1, .ptr 1 0 0)] [(1, Blk.mk true 0 0 [[AV.sl
  (List.map eStrm m.streams), AV.sl (List.map eSnd m.sounds)]])]) = some (m, o, 0) := unenc_of stTx1_inj (m, o, 0) rfl

def outTx1 (m : Mas) (o : ByteArray) (k : Nat) : T (Ex × St) := .ret (.exit 0, ⟨[(5, vS (F.sndsT o (m.sounds.drop k))), (1, .ptr 1 0 0)], [(1, ⟨true, 0, 0, [eMas m]⟩)]⟩)

noncomputable def prlTx1 (m : Mas) (o : ByteArray) (k : Nat) : Bool := decide (m.sounds.length ≤ 50) && decide (k ≤ m.sounds.length) && sndsOK m.sounds && decide (o.size ≤ 100 + 400 * k)

noncomputable def lpTx1 : Nat × (St → T (Ex × St)) := (6, lpo [20, 19, 18, 5, 1] [1] stTx11 (fun a => prlTx1 a.1 a.2.1 a.2.2) fun a => outTx1 a.1 a.2.1 a.2.2)

def stTx2 (l : List Strm) (o : ByteArray) (k : Nat) : St := ⟨[(51, vI k), (50, vI l.length), (49, .sl (l.map eStrm)), (5, vS o)], []⟩

def stTx21 (a : (List Strm) × ByteArray × Nat) : St := stTx2 a.1 a.2.1 a.2.2

theorem stTx2_inj (a a' : (List Strm) × ByteArray × Nat) (h : stTx21 a = stTx21 a') : a = a' := by
  simp only [stTx21, stTx2] at h
  try simp [ints_inj, strs_inj, ents_inj, eEnt_iff, eLst_iff, eSnds_inj, eSnd_iff, eStrms_inj, eStrm_iff, eMas_iff] at h
  grind

theorem unstTx2 (l : List Strm) (o : ByteArray) (k : Nat) : unenc stTx21 (St.mk [(51, (vI (↑k : Int))), (50, (vI (↑(List.length l) : Int))), (49, AV.sl (List.map eStrm l)), (5, (vS o))] []) = some (l, o, k) := unenc_of stTx2_inj (l, o, k) rfl

theorem unstTx20 (l : List Strm) (o : ByteArray)  : unenc stTx21 (St.mk [(51, (vI (0 : Int))), (50, (vI (↑(List.length l) : Int))), (49, AV.sl (List.map eStrm l)), (5, (vS o))] []) = some (l, o, 0) := unenc_of stTx2_inj (l, o, 0) rfl

def outTx2 (l : List Strm) (o : ByteArray) (k : Nat) : T (Ex × St) := .ret (.exit 2, ⟨[(5, vS (F.strsT o (l.drop k)))], []⟩)

noncomputable def prlTx2 (l : List Strm) (o : ByteArray) (k : Nat) : Bool := decide (l.length ≤ 50) && decide (k ≤ l.length) && strsOK l && decide (o.size ≤ 20200 + 400 * k)

noncomputable def lpTx2 : Nat × (St → T (Ex × St)) := (14, lpo [51, 50, 49, 5] [] stTx21 (fun a => prlTx2 a.1 a.2.1 a.2.2) fun a => outTx2 a.1 a.2.1 a.2.2)

def numsOK (l : List Int) : Bool := l.all fun n => decide (0 ≤ n) && decide (n ≤ 10000000000)

def stTx3 (l : List Strm) (x : Strm) (ns : List Int) (o : ByteArray) (k : Nat) (j : Nat) : St := ⟨[(70, vI j), (69, vI ns.length), (68, .own 68), (51, vI k), (50, vI l.length), (49, .sl (l.map eStrm)), (9, .ptr 9 0 0), (5, vS o)], [(68, ⟨false, 3, 1, ns.map eI⟩), (9, ⟨true, 0, 0, [eStrm x]⟩)]⟩

def stTx31 (a : (List Strm) × Strm × (List Int) × ByteArray × Nat × Nat) : St := stTx3 a.1 a.2.1 a.2.2.1 a.2.2.2.1 a.2.2.2.2.1 a.2.2.2.2.2

theorem stTx3_inj (a a' : (List Strm) × Strm × (List Int) × ByteArray × Nat × Nat) (h : stTx31 a = stTx31 a') : a = a' := by
  simp only [stTx31, stTx3] at h
  try simp [ints_inj, strs_inj, ents_inj, eEnt_iff, eLst_iff, eSnds_inj, eSnd_iff, eStrms_inj, eStrm_iff, eMas_iff] at h
  grind

theorem unstTx3 (l : List Strm) (x : Strm) (ns : List Int) (o : ByteArray) (k : Nat) (j : Nat) : unenc stTx31 (St.mk [(70, (vI (↑j : Int))), (69, (vI (↑(List.length ns) : Int))), (68, .own 68), (51, (vI (↑k : Int))), (50, (vI (↑(List.length l) : Int))), (49, AV.sl (List.map eStrm
  l)), (9, .ptr 9 0 0), (5, (vS o))] [(68, Blk.mk false 3 1 (List.map eI ns)), (9, Blk.mk true 0 0 [[(vS x.name), (vS x.uri), (vI x.mean), (vI x.peak), (vI x.width), (vI
  x.height), (vS x.sound)]])]) = some (l, x, ns, o, k, j) := unenc_of stTx3_inj (l, x, ns, o, k, j) rfl

theorem unstTx30 (l : List Strm) (x : Strm) (o : ByteArray) (k : Nat)  : unenc stTx31 (St.mk [(70, (vI (0 : Int))), (69, (vI (↑(4 : Nat) : Int))), (68, .own 68), (51, (vI (↑k : Int))), (50, (vI (↑(List.length l) : Int))), (49, AV.sl (List.map eStrm l)), (9,
  .ptr 9 0 0), (5, (vS o))] [(68, Blk.mk false 3 1 [[(vI x.mean)], [(vI x.peak)], [(vI x.width)], [(vI x.height)]]), (9, Blk.mk true 0 0 [[(vS x.name), (vS x.uri), (vI
  x.mean), (vI x.peak), (vI x.width), (vI x.height), (vS x.sound)]])]) = some (l, x, [x.mean, x.peak, x.width, x.height], o, k, 0) := unenc_of stTx3_inj (l, x, [x.mean, x.peak, x.width, x.height], o, k, 0) rfl

def outTx3 (l : List Strm) (x : Strm) (ns : List Int) (o : ByteArray) (k : Nat) (j : Nat) : T (Ex × St) := .ret (.exit 4, ⟨[(51, vI k), (50, vI l.length), (49, .sl (l.map eStrm)), (9, .ptr 9 0 0), (5, vS ((ns.drop j).foldl F.numT o))], [(9, ⟨true, 0, 0, [eStrm x]⟩)]⟩)

noncomputable def prlTx3 (l : List Strm) (x : Strm) (ns : List Int) (o : ByteArray) (k : Nat) (j : Nat) : Bool := decide (ns.length ≤ 4) && decide (j ≤ ns.length) && numsOK ns && decide (o.size ≤ 100000 + 22 * j)

noncomputable def lpTx3 : Nat × (St → T (Ex × St)) := (18, lpo [70, 69, 68, 51, 50, 49, 9, 5] [68, 9] stTx31 (fun a => prlTx3 a.1 a.2.1 a.2.2.1 a.2.2.2.1 a.2.2.2.2.1 a.2.2.2.2.2) fun a => outTx3 a.1 a.2.1 a.2.2.1 a.2.2.2.1 a.2.2.2.2.1 a.2.2.2.2.2)

noncomputable def enTxx : Env := envH ty noG lksS [oChM, oIta, oDsh, oBnd] [] [] [lpTx1, lpTx2, lpTx3]

theorem enTxx_ok : EnvOK Tryd.prog enTxx := by
  refine envH_ok lksS_ok ty_ok ?_ ?_
  · simp only [List.forall_mem_cons]
    exact ⟨okChM, okIta, okDsh, okBnd, by simp⟩
  · simp

theorem evTx3L (l : List Strm) (x : Strm) (ns : List Int) (o : ByteArray) (k : Nat) (j : Nat) : ((exec enTxx (loopN Tryd.f6 2) (stTx3 l x ns o k j)).bind (lessX ([70, 69, 68, 51, 50, 49, 9, 5], [68, 9]) ([51, 50, 49, 9, 5], [9]) ([], []))).val =
  bif decide ((↑j : Int) < (↑(List.length ns) : Int)) then bif decide (j < List.length (Blk.mk false 3 1 (List.map eI ns)).rows) then Option.bind (unenc (List.map eI)
  (List.map eI ns)) fun (z : List Int) => bif decide (j < List.length z) then Option.bind (unenc encIta [(vI (List.getD z j (0 : Int)))]) fun (z : Int) => bif decide
  ((-9223372036854775808 : Int) ≤ z) && decide (z ≤ (9223372036854775807 : Int)) then bif Nat.ble (ByteArray.size (ByteArray.mk (Array.mk [(32 : UInt8)])) + ByteArray.size
  (F.itoa z)) (9223372036854775807 : Nat) then bif Nat.ble (ByteArray.size o + ByteArray.size (ByteArray.mk (Array.mk [(32 : UInt8)]) ++ F.itoa z)) (9223372036854775807 :
  Nat) then some (Ex.normal, St.mk [(70, (vI (IntKind.wrap IntKind.i64 ((↑j : Int) + (1 : Int))))), (69, (vI (↑(List.length ns) : Int))), (68, .own 68), (51, (vI (↑k :
  Int))), (50, (vI (↑(List.length l) : Int))), (49, AV.sl (List.map eStrm l)), (9, .ptr 9 0 0), (5, (vS (o ++ (ByteArray.mk (Array.mk [(32 : UInt8)]) ++ F.itoa z))))] [(68,
  Blk.mk false 3 1 (List.map eI ns)), (9, Blk.mk true 0 0 [[(vS x.name), (vS x.uri), (vI x.mean), (vI x.peak), (vI x.width), (vI x.height), (vS x.sound)]])]) else none else
  none else none else none else none else some (Ex.exit (4 : Nat), St.mk [(51, (vI (↑k : Int))), (50, (vI (↑(List.length l) : Int))), (49, AV.sl (List.map eStrm l)), (9,
  .ptr 9 0 0), (5, (vS o))] [(9, Blk.mk true 0 0 [[(vS x.name), (vS x.uri), (vI x.mean), (vI x.peak), (vI x.width), (vI x.height), (vS x.sound)]])]) := by kernel_rfl

theorem lpTx3_ok (l : List Strm) (x : Strm) (ns : List Int) (o : ByteArray) (k : Nat) (j : Nat) (hp : prlTx3 l x ns o k j = true) : ∀ ex s', (outTx3 l x ns o k j).val = some (ex, s') → LoopOK enTxx (loopN Tryd.f6 2) (stTx3 l x ns o k j) ex s' := by
  simp only [prlTx3, Bool.and_eq_true, decide_eq_true_eq] at hp
  obtain ⟨⟨⟨h1, h2⟩, h3⟩, h4⟩ := hp
  refine loop_fold (xs := ns) (st := fun o j => stTx3 l x ns o k j) (f := F.numT) (fin := fun o => (.exit 4, ⟨[(51, vI k), (50, vI l.length), (49, .sl (l.map eStrm)), (9, .ptr 9 0 0), (5, vS o)], [(9, ⟨true, 0, 0, [eStrm x]⟩)]⟩)) (I := fun o j => o.size ≤ 100000 + 22 * j) (n := ([70, 69, 68, 51, 50, 49, 9, 5], [68, 9])) (e := ([51, 50, 49, 9, 5], [9])) (r := ([], [])) ?_ (fun _ => ⟨by simp, rfl⟩) (fun _ _ => rfl) ?_ o j h2 h4
  · intro o _
    rw [evTx3L]; simp
    rfl
  · intro o j y hy hI
    have hlt := lt_at hy
    have hy' := List.all_eq_true.1 h3 y (List.mem_of_getElem? hy)
    simp only [Bool.and_eq_true, decide_eq_true_eq] at hy'
    have b1 := F.itoa_size (n := y) (by omega) (by omega)
    have d1 : decide (-9223372036854775808 ≤ y) = true := decide_eq_true (by omega)
    have d2 : decide (y ≤ 9223372036854775807) = true := decide_eq_true (by omega)
    refine ⟨?_, by have := F.numT_size (o := o) (n := y) (by omega) (by omega); omega⟩
    rw [evTx3L]
    simp only [unChM, unIta, unDsh, unBnd, unChMw, preChM1, preIta1, preDsh1, preBnd1, unstTx1, unstTx2, unstTx3, unstTx10, unstTx20, unstTx30, prlTx1, prlTx2, prlTx3, outTx1, outTx2, outTx3, etaEnt, etaLst, etaSnd, etaStrm, etaMas, Option.bind_some, List.length_map, unStrs, unInts, unBools, unEnts, unItms, unTrns, cond_true, cond_false, Bool.and_true, Bool.true_and, unSnds, unStrms, cast_lt hlt, decide_eq_true hlt, next_at hlt (by omega : ns.length ≤ 9223372036854775807), getD_at hy, stTx3, F.numT, d1, d2, Bool.and_self]
    simp (disch := (simp only [ByteArray.size_append, F.sz, List.length_cons, List.length_nil]; omega)) only [ble_t, cond_true]
    try rfl

theorem evTx1L (m : Mas) (o : ByteArray) (k : Nat) : ((exec enTxx (loopN Tryd.f6 0) (stTx1 m o k)).bind (lessX ([20, 19, 18, 5, 1], [1]) ([5, 1], [1]) ([], []))).val =
  bif decide ((↑k : Int) < (↑(List.length m.sounds) : Int)) then Option.bind (unenc (List.map eSnd) (List.map eSnd m.sounds)) fun (z : List Snd) => bif decide (k <
  List.length z) then bif Nat.ble (ByteArray.size (ByteArray.mk (Array.mk [(35 : UInt8), (83 : UInt8), (79 : UInt8), (85 : UInt8), (78 : UInt8), (68 : UInt8), (32 :
  UInt8)])) + ByteArray.size (List.getD z k (Snd.mk (ByteArray.mk (Array.mk [])) (ByteArray.mk (Array.mk [])) (ByteArray.mk (Array.mk [])) false (ByteArray.mk (Array.mk
  [])))).group) (9223372036854775807 : Nat) then bif Nat.ble (ByteArray.size (ByteArray.mk (Array.mk [(35 : UInt8), (83 : UInt8), (79 : UInt8), (85 : UInt8), (78 : UInt8),
  (68 : UInt8), (32 : UInt8)]) ++ (List.getD z k (Snd.mk (ByteArray.mk (Array.mk [])) (ByteArray.mk (Array.mk [])) (ByteArray.mk (Array.mk [])) false (ByteArray.mk (Array.mk
  [])))).group) + ByteArray.size (ByteArray.mk (Array.mk [(32 : UInt8)]))) (9223372036854775807 : Nat) then bif Nat.ble (ByteArray.size (ByteArray.mk (Array.mk [(35 :
  UInt8), (83 : UInt8), (79 : UInt8), (85 : UInt8), (78 : UInt8), (68 : UInt8), (32 : UInt8)]) ++ (List.getD z k (Snd.mk (ByteArray.mk (Array.mk [])) (ByteArray.mk (Array.mk
  [])) (ByteArray.mk (Array.mk [])) false (ByteArray.mk (Array.mk [])))).group ++ ByteArray.mk (Array.mk [(32 : UInt8)])) + ByteArray.size (List.getD z k (Snd.mk
  (ByteArray.mk (Array.mk [])) (ByteArray.mk (Array.mk [])) (ByteArray.mk (Array.mk [])) false (ByteArray.mk (Array.mk [])))).name) (9223372036854775807 : Nat) then bif
  Nat.ble (ByteArray.size (ByteArray.mk (Array.mk [(35 : UInt8), (83 : UInt8), (79 : UInt8), (85 : UInt8), (78 : UInt8), (68 : UInt8), (32 : UInt8)]) ++ (List.getD z k
  (Snd.mk (ByteArray.mk (Array.mk [])) (ByteArray.mk (Array.mk [])) (ByteArray.mk (Array.mk [])) false (ByteArray.mk (Array.mk [])))).group ++ ByteArray.mk (Array.mk [(32 :
  UInt8)]) ++ (List.getD z k (Snd.mk (ByteArray.mk (Array.mk [])) (ByteArray.mk (Array.mk [])) (ByteArray.mk (Array.mk [])) false (ByteArray.mk (Array.mk [])))).name) +
  ByteArray.size (ByteArray.mk (Array.mk [(32 : UInt8)]))) (9223372036854775807 : Nat) then bif Nat.ble (ByteArray.size (ByteArray.mk (Array.mk [(35 : UInt8), (83 : UInt8),
  (79 : UInt8), (85 : UInt8), (78 : UInt8), (68 : UInt8), (32 : UInt8)]) ++ (List.getD z k (Snd.mk (ByteArray.mk (Array.mk [])) (ByteArray.mk (Array.mk [])) (ByteArray.mk
  (Array.mk [])) false (ByteArray.mk (Array.mk [])))).group ++ ByteArray.mk (Array.mk [(32 : UInt8)]) ++ (List.getD z k (Snd.mk (ByteArray.mk (Array.mk [])) (ByteArray.mk
  (Array.mk [])) (ByteArray.mk (Array.mk [])) false (ByteArray.mk (Array.mk [])))).name ++ ByteArray.mk (Array.mk [(32 : UInt8)])) + ByteArray.size (List.getD z k (Snd.mk
  (ByteArray.mk (Array.mk [])) (ByteArray.mk (Array.mk [])) (ByteArray.mk (Array.mk [])) false (ByteArray.mk (Array.mk [])))).lang) (9223372036854775807 : Nat) then bif
  Nat.ble (ByteArray.size o + ByteArray.size (ByteArray.mk (Array.mk [(35 : UInt8), (83 : UInt8), (79 : UInt8), (85 : UInt8), (78 : UInt8), (68 : UInt8), (32 : UInt8)]) ++
  (List.getD z k (Snd.mk (ByteArray.mk (Array.mk [])) (ByteArray.mk (Array.mk [])) (ByteArray.mk (Array.mk [])) false (ByteArray.mk (Array.mk [])))).group ++ ByteArray.mk
  (Array.mk [(32 : UInt8)]) ++ (List.getD z k (Snd.mk (ByteArray.mk (Array.mk [])) (ByteArray.mk (Array.mk [])) (ByteArray.mk (Array.mk [])) false (ByteArray.mk (Array.mk
  [])))).name ++ ByteArray.mk (Array.mk [(32 : UInt8)]) ++ (List.getD z k (Snd.mk (ByteArray.mk (Array.mk [])) (ByteArray.mk (Array.mk [])) (ByteArray.mk (Array.mk []))
  false (ByteArray.mk (Array.mk [])))).lang)) (9223372036854775807 : Nat) then bif (List.getD z k (Snd.mk (ByteArray.mk (Array.mk [])) (ByteArray.mk (Array.mk []))
  (ByteArray.mk (Array.mk [])) false (ByteArray.mk (Array.mk [])))).dflt then bif Nat.ble (ByteArray.size (o ++ (ByteArray.mk (Array.mk [(35 : UInt8), (83 : UInt8), (79 :
  UInt8), (85 : UInt8), (78 : UInt8), (68 : UInt8), (32 : UInt8)]) ++ (List.getD z k (Snd.mk (ByteArray.mk (Array.mk [])) (ByteArray.mk (Array.mk [])) (ByteArray.mk
  (Array.mk [])) false (ByteArray.mk (Array.mk [])))).group ++ ByteArray.mk (Array.mk [(32 : UInt8)]) ++ (List.getD z k (Snd.mk (ByteArray.mk (Array.mk [])) (ByteArray.mk
  (Array.mk [])) (ByteArray.mk (Array.mk [])) false (ByteArray.mk (Array.mk [])))).name ++ ByteArray.mk (Array.mk [(32 : UInt8)]) ++ (List.getD z k (Snd.mk (ByteArray.mk
  (Array.mk [])) (ByteArray.mk (Array.mk [])) (ByteArray.mk (Array.mk [])) false (ByteArray.mk (Array.mk [])))).lang)) + ByteArray.size (ByteArray.mk (Array.mk [(32 :
  UInt8), (68 : UInt8), (69 : UInt8), (70 : UInt8), (65 : UInt8), (85 : UInt8), (76 : UInt8), (84 : UInt8)]))) (9223372036854775807 : Nat) then bif Nat.ble (ByteArray.size
  (ByteArray.mk (Array.mk [(10 : UInt8)])) + ByteArray.size (List.getD z k (Snd.mk (ByteArray.mk (Array.mk [])) (ByteArray.mk (Array.mk [])) (ByteArray.mk (Array.mk []))
  false (ByteArray.mk (Array.mk [])))).uri) (9223372036854775807 : Nat) then bif Nat.ble (ByteArray.size (ByteArray.mk (Array.mk [(10 : UInt8)]) ++ (List.getD z k (Snd.mk
  (ByteArray.mk (Array.mk [])) (ByteArray.mk (Array.mk [])) (ByteArray.mk (Array.mk [])) false (ByteArray.mk (Array.mk [])))).uri) + ByteArray.size (ByteArray.mk (Array.mk
  [(10 : UInt8)]))) (9223372036854775807 : Nat) then bif Nat.ble (ByteArray.size (o ++ (ByteArray.mk (Array.mk [(35 : UInt8), (83 : UInt8), (79 : UInt8), (85 : UInt8), (78 :
  UInt8), (68 : UInt8), (32 : UInt8)]) ++ (List.getD z k (Snd.mk (ByteArray.mk (Array.mk [])) (ByteArray.mk (Array.mk [])) (ByteArray.mk (Array.mk [])) false (ByteArray.mk
  (Array.mk [])))).group ++ ByteArray.mk (Array.mk [(32 : UInt8)]) ++ (List.getD z k (Snd.mk (ByteArray.mk (Array.mk [])) (ByteArray.mk (Array.mk [])) (ByteArray.mk
  (Array.mk [])) false (ByteArray.mk (Array.mk [])))).name ++ ByteArray.mk (Array.mk [(32 : UInt8)]) ++ (List.getD z k (Snd.mk (ByteArray.mk (Array.mk [])) (ByteArray.mk
  (Array.mk [])) (ByteArray.mk (Array.mk [])) false (ByteArray.mk (Array.mk [])))).lang) ++ ByteArray.mk (Array.mk [(32 : UInt8), (68 : UInt8), (69 : UInt8), (70 : UInt8),
  (65 : UInt8), (85 : UInt8), (76 : UInt8), (84 : UInt8)])) + ByteArray.size (ByteArray.mk (Array.mk [(10 : UInt8)]) ++ (List.getD z k (Snd.mk (ByteArray.mk (Array.mk []))
  (ByteArray.mk (Array.mk [])) (ByteArray.mk (Array.mk [])) false (ByteArray.mk (Array.mk [])))).uri ++ ByteArray.mk (Array.mk [(10 : UInt8)]))) (9223372036854775807 : Nat)
  then some (Ex.normal, St.mk [(20, (vI (IntKind.wrap IntKind.i64 ((↑k : Int) + (1 : Int))))), (19, (vI (↑(List.length m.sounds) : Int))), (18, AV.sl (List.map eSnd
  m.sounds)), (5, (vS (o ++ (ByteArray.mk (Array.mk [(35 : UInt8), (83 : UInt8), (79 : UInt8), (85 : UInt8), (78 : UInt8), (68 : UInt8), (32 : UInt8)]) ++ (List.getD z k
  (Snd.mk (ByteArray.mk (Array.mk [])) (ByteArray.mk (Array.mk [])) (ByteArray.mk (Array.mk [])) false (ByteArray.mk (Array.mk [])))).group ++ ByteArray.mk (Array.mk [(32 :
  UInt8)]) ++ (List.getD z k (Snd.mk (ByteArray.mk (Array.mk [])) (ByteArray.mk (Array.mk [])) (ByteArray.mk (Array.mk [])) false (ByteArray.mk (Array.mk [])))).name ++
  ByteArray.mk (Array.mk [(32 : UInt8)]) ++ (List.getD z k (Snd.mk (ByteArray.mk (Array.mk [])) (ByteArray.mk (Array.mk [])) (ByteArray.mk (Array.mk [])) false (ByteArray.mk
  (Array.mk [])))).lang) ++ ByteArray.mk (Array.mk [(32 : UInt8), (68 : UInt8), (69 : UInt8), (70 : UInt8), (65 : UInt8), (85 : UInt8), (76 : UInt8), (84 : UInt8)]) ++
  (ByteArray.mk (Array.mk [(10 : UInt8)]) ++ (List.getD z k (Snd.mk (ByteArray.mk (Array.mk [])) (ByteArray.mk (Array.mk [])) (ByteArray.mk (Array.mk [])) false
  (ByteArray.mk (Array.mk [])))).uri ++ ByteArray.mk (Array.mk [(10 : UInt8)]))))), (1, .ptr 1 0 0)] [(1, Blk.mk true 0 0 [[AV.sl (List.map eStrm m.streams), AV.sl (List.map
  eSnd m.sounds)]])]) else none else none else none else none else bif Nat.ble (ByteArray.size (ByteArray.mk (Array.mk [(10 : UInt8)])) + ByteArray.size (List.getD z k
  (Snd.mk (ByteArray.mk (Array.mk [])) (ByteArray.mk (Array.mk [])) (ByteArray.mk (Array.mk [])) false (ByteArray.mk (Array.mk [])))).uri) (9223372036854775807 : Nat) then
  bif Nat.ble (ByteArray.size (ByteArray.mk (Array.mk [(10 : UInt8)]) ++ (List.getD z k (Snd.mk (ByteArray.mk (Array.mk [])) (ByteArray.mk (Array.mk [])) (ByteArray.mk
  (Array.mk [])) false (ByteArray.mk (Array.mk [])))).uri) + ByteArray.size (ByteArray.mk (Array.mk [(10 : UInt8)]))) (9223372036854775807 : Nat) then bif Nat.ble
  (ByteArray.size (o ++ (ByteArray.mk (Array.mk [(35 : UInt8), (83 : UInt8), (79 : UInt8), (85 : UInt8), (78 : UInt8), (68 : UInt8), (32 : UInt8)]) ++ (List.getD z k (Snd.mk
  (ByteArray.mk (Array.mk [])) (ByteArray.mk (Array.mk [])) (ByteArray.mk (Array.mk [])) false (ByteArray.mk (Array.mk [])))).group ++ ByteArray.mk (Array.mk [(32 : UInt8)])
  ++ (List.getD z k (Snd.mk (ByteArray.mk (Array.mk [])) (ByteArray.mk (Array.mk [])) (ByteArray.mk (Array.mk [])) false (ByteArray.mk (Array.mk [])))).name ++ ByteArray.mk
  (Array.mk [(32 : UInt8)]) ++ (List.getD z k (Snd.mk (ByteArray.mk (Array.mk [])) (ByteArray.mk (Array.mk [])) (ByteArray.mk (Array.mk [])) false (ByteArray.mk (Array.mk
  [])))).lang)) + ByteArray.size (ByteArray.mk (Array.mk [(10 : UInt8)]) ++ (List.getD z k (Snd.mk (ByteArray.mk (Array.mk [])) (ByteArray.mk (Array.mk [])) (ByteArray.mk
  (Array.mk [])) false (ByteArray.mk (Array.mk [])))).uri ++ ByteArray.mk (Array.mk [(10 : UInt8)]))) (9223372036854775807 : Nat) then some (Ex.normal, St.mk [(20, (vI
  (IntKind.wrap IntKind.i64 ((↑k : Int) + (1 : Int))))), (19, (vI (↑(List.length m.sounds) : Int))), (18, AV.sl (List.map eSnd m.sounds)), (5, (vS (o ++ (ByteArray.mk
  (Array.mk [(35 : UInt8), (83 : UInt8), (79 : UInt8), (85 : UInt8), (78 : UInt8), (68 : UInt8), (32 : UInt8)]) ++ (List.getD z k (Snd.mk (ByteArray.mk (Array.mk []))
  (ByteArray.mk (Array.mk [])) (ByteArray.mk (Array.mk [])) false (ByteArray.mk (Array.mk [])))).group ++ ByteArray.mk (Array.mk [(32 : UInt8)]) ++ (List.getD z k (Snd.mk
  (ByteArray.mk (Array.mk [])) (ByteArray.mk (Array.mk [])) (ByteArray.mk (Array.mk [])) false (ByteArray.mk (Array.mk [])))).name ++ ByteArray.mk (Array.mk [(32 : UInt8)])
  ++ (List.getD z k (Snd.mk (ByteArray.mk (Array.mk [])) (ByteArray.mk (Array.mk [])) (ByteArray.mk (Array.mk [])) false (ByteArray.mk (Array.mk [])))).lang) ++
  (ByteArray.mk (Array.mk [(10 : UInt8)]) ++ (List.getD z k (Snd.mk (ByteArray.mk (Array.mk [])) (ByteArray.mk (Array.mk [])) (ByteArray.mk (Array.mk [])) false
  (ByteArray.mk (Array.mk [])))).uri ++ ByteArray.mk (Array.mk [(10 : UInt8)]))))), (1, .ptr 1 0 0)] [(1, Blk.mk true 0 0 [[AV.sl (List.map eStrm m.streams), AV.sl (List.map
  eSnd m.sounds)]])]) else none else none else none else none else none else none else none else none else none else none else some (Ex.exit (0 : Nat), St.mk [(5, (vS o)),
  (1, .ptr 1 0 0)] [(1, Blk.mk true 0 0 [[AV.sl (List.map eStrm m.streams), AV.sl (List.map eSnd m.sounds)]])]) := by kernel_rfl

theorem lpTx1_ok (m : Mas) (o : ByteArray) (k : Nat) (hp : prlTx1 m o k = true) : ∀ ex s', (outTx1 m o k).val = some (ex, s') → LoopOK enTxx (loopN Tryd.f6 0) (stTx1 m o k) ex s' := by
  simp only [prlTx1, Bool.and_eq_true, decide_eq_true_eq] at hp
  obtain ⟨⟨⟨h1, h2⟩, h3⟩, h4⟩ := hp
  refine loop_fold (xs := m.sounds) (st := fun o k => stTx1 m o k) (f := F.sndT) (fin := fun o => (.exit 0, ⟨[(5, vS o), (1, .ptr 1 0 0)], [(1, ⟨true, 0, 0, [eMas m]⟩)]⟩)) (I := fun o k => o.size ≤ 100 + 400 * k) (n := ([20, 19, 18, 5, 1], [1])) (e := ([5, 1], [1])) (r := ([], [])) ?_ (fun _ => ⟨by simp, rfl⟩) (fun _ _ => rfl) ?_ o k h2 h4
  · intro o _
    rw [evTx1L]; simp
    rfl
  · intro o k y hy hI
    have hlt := lt_at hy
    obtain ⟨b1, b2, b3, b4⟩ := sndsOK_at h3 (List.mem_of_getElem? hy)
    refine ⟨?_, by have := F.sndT_size (o := o) (s := y) ⟨b1, b2, b3, b4⟩; omega⟩
    rw [evTx1L]
    simp only [unChM, unIta, unDsh, unBnd, unChMw, preChM1, preIta1, preDsh1, preBnd1, unstTx1, unstTx2, unstTx3, unstTx10, unstTx20, unstTx30, prlTx1, prlTx2, prlTx3, outTx1, outTx2, outTx3, etaEnt, etaLst, etaSnd, etaStrm, etaMas, Option.bind_some, List.length_map, unStrs, unInts, unBools, unEnts, unItms, unTrns, cond_true, cond_false, Bool.and_true, Bool.true_and, unSnds, unStrms, cast_lt hlt, decide_eq_true hlt, next_at hlt (by omega : m.sounds.length ≤ 9223372036854775807), getD_at hy, stTx1, F.sndT, eMas]
    simp (disch := (simp only [ByteArray.size_append, F.sz, List.length_cons, List.length_nil]; omega)) only [ble_t, cond_true]
    cases y.dflt <;> rfl

theorem evTx2L (l : List Strm) (o : ByteArray) (k : Nat) : ((exec enTxx (loopN Tryd.f6 1) (stTx2 l o k)).bind (lessX ([51, 50, 49, 5], []) ([5], []) ([], []))).val =
  bif decide ((↑k : Int) < (↑(List.length l) : Int)) then Option.bind (unenc (List.map eStrm) (List.map eStrm l)) fun (z : List Strm) => bif decide (k < List.length z) then
  bif Nat.ble (ByteArray.size (ByteArray.mk (Array.mk [(35 : UInt8), (83 : UInt8), (84 : UInt8), (82 : UInt8), (69 : UInt8), (65 : UInt8), (77 : UInt8), (32 : UInt8)])) +
  ByteArray.size (List.getD z k (Strm.mk (ByteArray.mk (Array.mk [])) (ByteArray.mk (Array.mk [])) (0 : Int) (0 : Int) (0 : Int) (0 : Int) (ByteArray.mk (Array.mk
  [])))).name) (9223372036854775807 : Nat) then bif Nat.ble (ByteArray.size o + ByteArray.size (ByteArray.mk (Array.mk [(35 : UInt8), (83 : UInt8), (84 : UInt8), (82 :
  UInt8), (69 : UInt8), (65 : UInt8), (77 : UInt8), (32 : UInt8)]) ++ (List.getD z k (Strm.mk (ByteArray.mk (Array.mk [])) (ByteArray.mk (Array.mk [])) (0 : Int) (0 : Int)
  (0 : Int) (0 : Int) (ByteArray.mk (Array.mk [])))).name)) (9223372036854775807 : Nat) then Option.bind (unenc stTx31 (St.mk [(70, (vI (0 : Int))), (69, (vI (↑(4 : Nat) :
  Int))), (68, .own 68), (51, (vI (↑k : Int))), (50, (vI (↑(List.length l) : Int))), (49, AV.sl (List.map eStrm l)), (9, .ptr 9 0 0), (5, (vS (o ++ (ByteArray.mk (Array.mk
  [(35 : UInt8), (83 : UInt8), (84 : UInt8), (82 : UInt8), (69 : UInt8), (65 : UInt8), (77 : UInt8), (32 : UInt8)]) ++ (List.getD z k (Strm.mk (ByteArray.mk (Array.mk []))
  (ByteArray.mk (Array.mk [])) (0 : Int) (0 : Int) (0 : Int) (0 : Int) (ByteArray.mk (Array.mk [])))).name))))] [(68, Blk.mk false 3 1 [[(vI (List.getD z k (Strm.mk
  (ByteArray.mk (Array.mk [])) (ByteArray.mk (Array.mk [])) (0 : Int) (0 : Int) (0 : Int) (0 : Int) (ByteArray.mk (Array.mk [])))).mean)], [(vI (List.getD z k (Strm.mk
  (ByteArray.mk (Array.mk [])) (ByteArray.mk (Array.mk [])) (0 : Int) (0 : Int) (0 : Int) (0 : Int) (ByteArray.mk (Array.mk [])))).peak)], [(vI (List.getD z k (Strm.mk
  (ByteArray.mk (Array.mk [])) (ByteArray.mk (Array.mk [])) (0 : Int) (0 : Int) (0 : Int) (0 : Int) (ByteArray.mk (Array.mk [])))).width)], [(vI (List.getD z k (Strm.mk
  (ByteArray.mk (Array.mk [])) (ByteArray.mk (Array.mk [])) (0 : Int) (0 : Int) (0 : Int) (0 : Int) (ByteArray.mk (Array.mk [])))).height)]]), (9, Blk.mk true 0 0 [[(vS
  (List.getD z k (Strm.mk (ByteArray.mk (Array.mk [])) (ByteArray.mk (Array.mk [])) (0 : Int) (0 : Int) (0 : Int) (0 : Int) (ByteArray.mk (Array.mk [])))).name), (vS
  (List.getD z k (Strm.mk (ByteArray.mk (Array.mk [])) (ByteArray.mk (Array.mk [])) (0 : Int) (0 : Int) (0 : Int) (0 : Int) (ByteArray.mk (Array.mk [])))).uri), (vI
  (List.getD z k (Strm.mk (ByteArray.mk (Array.mk [])) (ByteArray.mk (Array.mk [])) (0 : Int) (0 : Int) (0 : Int) (0 : Int) (ByteArray.mk (Array.mk [])))).mean), (vI
  (List.getD z k (Strm.mk (ByteArray.mk (Array.mk [])) (ByteArray.mk (Array.mk [])) (0 : Int) (0 : Int) (0 : Int) (0 : Int) (ByteArray.mk (Array.mk [])))).peak), (vI
  (List.getD z k (Strm.mk (ByteArray.mk (Array.mk [])) (ByteArray.mk (Array.mk [])) (0 : Int) (0 : Int) (0 : Int) (0 : Int) (ByteArray.mk (Array.mk [])))).width), (vI
  (List.getD z k (Strm.mk (ByteArray.mk (Array.mk [])) (ByteArray.mk (Array.mk [])) (0 : Int) (0 : Int) (0 : Int) (0 : Int) (ByteArray.mk (Array.mk [])))).height), (vS
  (List.getD z k (Strm.mk (ByteArray.mk (Array.mk [])) (ByteArray.mk (Array.mk [])) (0 : Int) (0 : Int) (0 : Int) (0 : Int) (ByteArray.mk (Array.mk [])))).sound)]])])) fun
  (z : List Strm × Strm × List Int × ByteArray × Nat × Nat) => bif (decide (List.length z.snd.snd.fst ≤ (4 : Nat)) && decide (z.snd.snd.snd.snd.snd ≤ List.length
  z.snd.snd.fst) && List.all z.snd.snd.fst fun (n : Int) => decide ((0 : Int) ≤ n) && decide (n ≤ (10000000000 : Int))) && decide (ByteArray.size z.snd.snd.snd.fst ≤ (100000
  : Nat) + (22 : Nat) * z.snd.snd.snd.snd.snd) && true then Option.bind (unenc encDsh [(vS z.snd.fst.sound)]) fun (z_1 : ByteArray) => bif Nat.ble (ByteArray.size
  (ByteArray.mk (Array.mk [(32 : UInt8)])) + ByteArray.size (F.dash z_1)) (9223372036854775807 : Nat) then bif Nat.ble (ByteArray.size (ByteArray.mk (Array.mk [(32 :
  UInt8)]) ++ F.dash z_1) + ByteArray.size (ByteArray.mk (Array.mk [(10 : UInt8)]))) (9223372036854775807 : Nat) then bif Nat.ble (ByteArray.size (ByteArray.mk (Array.mk
  [(32 : UInt8)]) ++ F.dash z_1 ++ ByteArray.mk (Array.mk [(10 : UInt8)])) + ByteArray.size z.snd.fst.uri) (9223372036854775807 : Nat) then bif Nat.ble (ByteArray.size
  (ByteArray.mk (Array.mk [(32 : UInt8)]) ++ F.dash z_1 ++ ByteArray.mk (Array.mk [(10 : UInt8)]) ++ z.snd.fst.uri) + ByteArray.size (ByteArray.mk (Array.mk [(10 :
  UInt8)]))) (9223372036854775807 : Nat) then bif Nat.ble (ByteArray.size (List.foldl F.numT z.snd.snd.snd.fst (List.drop z.snd.snd.snd.snd.snd z.snd.snd.fst)) +
  ByteArray.size (ByteArray.mk (Array.mk [(32 : UInt8)]) ++ F.dash z_1 ++ ByteArray.mk (Array.mk [(10 : UInt8)]) ++ z.snd.fst.uri ++ ByteArray.mk (Array.mk [(10 : UInt8)])))
  (9223372036854775807 : Nat) then some (Ex.normal, St.mk [(51, (vI (IntKind.wrap IntKind.i64 ((↑z.snd.snd.snd.snd.fst : Int) + (1 : Int))))), (50, (vI (↑(List.length z.fst)
  : Int))), (49, AV.sl (List.map eStrm z.fst)), (5, (vS (List.foldl F.numT z.snd.snd.snd.fst (List.drop z.snd.snd.snd.snd.snd z.snd.snd.fst) ++ (ByteArray.mk (Array.mk [(32
  : UInt8)]) ++ F.dash z_1 ++ ByteArray.mk (Array.mk [(10 : UInt8)]) ++ z.snd.fst.uri ++ ByteArray.mk (Array.mk [(10 : UInt8)])))))] []) else none else none else none else
  none else none else none else none else none else none else some (Ex.exit (2 : Nat), St.mk [(5, (vS o))] []) := by kernel_rfl

theorem lpTx2_ok (l : List Strm) (o : ByteArray) (k : Nat) (hp : prlTx2 l o k = true) : ∀ ex s', (outTx2 l o k).val = some (ex, s') → LoopOK enTxx (loopN Tryd.f6 1) (stTx2 l o k) ex s' := by
  simp only [prlTx2, Bool.and_eq_true, decide_eq_true_eq] at hp
  obtain ⟨⟨⟨h1, h2⟩, h3⟩, h4⟩ := hp
  refine loop_fold (xs := l) (st := fun o k => stTx2 l o k) (f := F.strT) (fin := fun o => (.exit 2, ⟨[(5, vS o)], []⟩)) (I := fun o k => o.size ≤ 20200 + 400 * k) (n := ([51, 50, 49, 5], [])) (e := ([5], [])) (r := ([], [])) ?_ (fun _ => ⟨by simp, rfl⟩) (fun _ _ => rfl) ?_ o k h2 h4
  · intro o _
    rw [evTx2L]; simp
  · intro o k y hy hI
    have hlt := lt_at hy
    have hb := strsOK_at h3 (List.mem_of_getElem? hy)
    have hz := F.strT_size (o := o) hb
    obtain ⟨b1, b2, b3, b4, b5, b6, b7⟩ := hb
    have bd := F.dash_size b3
    refine ⟨?_, by omega⟩
    rw [evTx2L]
    simp only [unChM, unIta, unDsh, unBnd, unChMw, preChM1, preIta1, preDsh1, preBnd1, unstTx1, unstTx2, unstTx3, unstTx10, unstTx20, unstTx30, prlTx1, prlTx2, prlTx3, outTx1, outTx2, outTx3, etaEnt, etaLst, etaSnd, etaStrm, etaMas, Option.bind_some, List.length_map, unStrs, unInts, unBools, unEnts, unItms, unTrns, cond_true, cond_false, Bool.and_true, Bool.true_and, unSnds, unStrms, cast_lt hlt, decide_eq_true hlt, next_at hlt (by omega : l.length ≤ 9223372036854775807), getD_at hy, stTx2, F.strT]
    have q4 := F.num4 (o := o ++ (⟨⟨[35, 83, 84, 82, 69, 65, 77, 32]⟩⟩ ++ y.name)) b4 b5 b6 b7
    simp only [ByteArray.size_append, F.sz, List.length_cons, List.length_nil] at q4
    have e1 : decide ([y.mean, y.peak, y.width, y.height].length ≤ 4) = true := rfl
    have e2 : decide ((o ++ (⟨⟨[35, 83, 84, 82, 69, 65, 77, 32]⟩⟩ ++ y.name)).size ≤ 100000 + 22 * 0) = true := decide_eq_true (by simp only [ByteArray.size_append, F.sz, List.length_cons, List.length_nil]; omega)
    have e3 : numsOK [y.mean, y.peak, y.width, y.height] = true := by simp [numsOK]; omega
    unfold numsOK at e3
    simp only [e1, e2, e3, Nat.zero_le, decide_true, Bool.and_self, cond_true, List.drop_zero]
    simp (disch := (simp only [ByteArray.size_append, F.sz, List.length_cons, List.length_nil]; omega)) only [ble_t, cond_true]

theorem snds_size : ∀ (l : List Snd) (o : ByteArray), sndsOK l = true → (F.sndsT o l).size ≤ o.size + 400 * l.length
  | [], o, _ => by simp [F.sndsT]
  | s :: l, o, h => by
    have hs := sndsOK_at h (List.mem_cons_self ..)
    have hl : sndsOK l = true := by simp only [sndsOK, List.all_cons, Bool.and_eq_true] at h; exact h.2
    have h1 := F.sndT_size (o := o) hs
    have h2 := snds_size l (F.sndT o s) hl
    show (F.sndsT (F.sndT o s) l).size ≤ _
    simp only [List.length_cons]
    omega

theorem evTxx (m : Mas) : (runF enTxx false Tryd.f6 [.agg (eMas m)]).val =
  Option.bind (unenc encChM [AV.agg [AV.sl (List.map eStrm m.streams), AV.sl (List.map eSnd m.sounds)]]) fun (z : Mas) => bif F.chkM z != (0 : Int) then some (AV.tup [(vS
  (ByteArray.mk (Array.mk []))), (vI (F.chkM z))], []) else Option.bind (unenc stTx11 (St.mk [(20, (vI (0 : Int))), (19, (vI (↑(List.length (List.map eSnd m.sounds)) :
  Int))), (18, AV.sl (List.map eSnd m.sounds)), (5, (vS (ByteArray.mk (Array.mk [(35 : UInt8), (77 : UInt8), (65 : UInt8), (83 : UInt8), (84 : UInt8), (69 : UInt8), (82 :
  UInt8), (10 : UInt8)])))), (1, .ptr 1 0 0)] [(1, Blk.mk true 0 0 [[AV.sl (List.map eStrm m.streams), AV.sl (List.map eSnd m.sounds)]])])) fun (z : Mas × ByteArray × Nat)
  => bif (decide (List.length z.fst.sounds ≤ (50 : Nat)) && decide (z.snd.snd ≤ List.length z.fst.sounds) && List.all z.fst.sounds fun (s : Snd) => decide (ByteArray.size
  s.group ≤ (40 : Nat)) && decide (ByteArray.size s.name ≤ (40 : Nat)) && decide (ByteArray.size s.lang ≤ (8 : Nat)) && decide (ByteArray.size s.uri ≤ (200 : Nat))) &&
  decide (ByteArray.size z.snd.fst ≤ (100 : Nat) + (400 : Nat) * z.snd.snd) && true then Option.bind (unenc stTx21 (St.mk [(51, (vI (0 : Int))), (50, (vI (↑(List.length
  (List.map eStrm z.fst.streams)) : Int))), (49, AV.sl (List.map eStrm z.fst.streams)), (5, (vS (F.sndsT z.snd.fst (List.drop z.snd.snd z.fst.sounds))))] [])) fun (z : List
  Strm × ByteArray × Nat) => bif (decide (List.length z.fst ≤ (50 : Nat)) && decide (z.snd.snd ≤ List.length z.fst) && List.all z.fst fun (s : Strm) => decide
  (ByteArray.size s.name ≤ (40 : Nat)) && decide (ByteArray.size s.uri ≤ (200 : Nat)) && decide (ByteArray.size s.sound ≤ (40 : Nat)) && decide ((1 : Int) ≤ s.mean ∧ s.mean
  ≤ (10000000000 : Int)) && decide ((1 : Int) ≤ s.peak ∧ s.peak ≤ (10000000000 : Int)) && decide ((0 : Int) ≤ s.width ∧ s.width ≤ (20000 : Int)) && decide ((0 : Int) ≤
  s.height ∧ s.height ≤ (20000 : Int))) && decide (ByteArray.size z.snd.fst ≤ (20200 : Nat) + (400 : Nat) * z.snd.snd) && true then Option.bind (unenc encBnd [(vS (F.strsT
  z.snd.fst (List.drop z.snd.snd z.fst)))]) fun (z : ByteArray) => some (AV.tup [(vS (bif F.big z then ByteArray.mk (Array.mk []) else z)), (vI (bif F.big z then (2 : Int)
  else (0 : Int)))], []) else none else none := by kernel_rfl

def encTxx1 (m : Mas) : List AV := [.agg (eMas m)]

def encTxx (a : Mas) : List AV := encTxx1 a

theorem encTxx_inj (a a' : Mas) (h : encTxx a = encTxx a') : a = a' := by
  simp only [encTxx, encTxx1] at h
  try simp [ints_inj, strs_inj, ents_inj, eEnt_iff, eLst_iff, eSnds_inj, eSnd_iff, eStrms_inj, eStrm_iff, eMas_iff] at h
  grind

theorem unTxx (m : Mas) : unenc encTxx ([AV.agg [AV.sl (List.map eStrm m.streams), AV.sl (List.map eSnd m.sounds)]]) = some (m) := unenc_of encTxx_inj (m) rfl

theorem unTxxw (m_streams : List Strm) (m_sounds : List Snd) : unenc encTxx ([AV.agg [AV.sl (List.map eStrm m_streams), AV.sl (List.map eSnd m_sounds)]]) = some ((Mas.mk m_streams m_sounds)) := unenc_of encTxx_inj ((Mas.mk m_streams m_sounds)) rfl

def resTxx1 (m : Mas) : AV × Heap := (.tup [vS (F.mtext m).1, vI (F.mtext m).2], [])

def preTxx1 (m : Mas) : Bool := true

noncomputable def oTxx : Orc := orc 6 true encTxx (fun a => preTxx1 a) fun a => resTxx1 a

theorem okTxx : OrcOK Tryd.prog noG oTxx := by
  refine mk_ok Tryd.f6 (keep := false) (by kernel_rfl) (by kernel_rfl) enTxx_ok mixed (three_loops (x0 := loopN Tryd.f6 0) (x1 := loopN Tryd.f6 1) (x2 := loopN Tryd.f6 2) (by kernel_rfl) (lpo_ok ?_) (lpo_ok ?_) (lpo_ok ?_)) (by first | exact fun _ _ => ⟨rfl, rfl⟩ | (intro h; cases h)) ?_
  · rintro ⟨m, o, k⟩ hp
    exact lpTx1_ok m o k hp
  · rintro ⟨l, o, k⟩ hp
    exact lpTx2_ok l o k hp
  · rintro ⟨l, x, ns, o, k, j⟩ hp
    exact lpTx3_ok l x ns o k j hp
  rintro m hpre hok
  show (runF enTxx false _ (encTxx1 _)).val = some (resTxx1 _)
  unfold encTxx1 resTxx1
  rw [evTxx]
  simp only [unChM, unIta, unDsh, unBnd, unChMw, preChM1, preIta1, preDsh1, preBnd1, unstTx1, unstTx2, unstTx3, unstTx10, unstTx20, unstTx30, prlTx1, prlTx2, prlTx3, outTx1, outTx2, outTx3, etaEnt, etaLst, etaSnd, etaStrm, etaMas, Option.bind_some, List.length_map, unStrs, unInts, unBools, unEnts, unItms, unTrns, cond_true, cond_false, Bool.and_true, Bool.true_and, unSnds, unStrms, F.mtext, F.masT, List.drop_zero, Nat.zero_le, decide_true]
  cases hc : F.chkM m != 0
  · have hc0 : F.chkM m = 0 := by simpa using hc
    obtain ⟨c1, c2, c3, c4⟩ := F.chkM_ok hc0
    have e1 : sndsOK m.sounds = true := List.all_eq_true.2 fun s hs => by obtain ⟨q1, q2, q3, q4⟩ := c3 s hs; simp [q1, q2, q3, q4]
    have e2 : strsOK m.streams = true := List.all_eq_true.2 fun s hs => by obtain ⟨q1, q2, q3, q4, q5, q6, q7⟩ := c4 s hs; simp [q1, q2, q3, q4, q5, q6, q7]
    have e3 := snds_size m.sounds ⟨⟨[35, 77, 65, 83, 84, 69, 82, 10]⟩⟩ e1
    rw [show (⟨⟨[35, 77, 65, 83, 84, 69, 82, 10]⟩⟩ : ByteArray).size = 8 from rfl] at e3
    have d1 : decide (m.streams.length ≤ 50) = true := decide_eq_true c1
    have d2 : decide (m.sounds.length ≤ 50) = true := decide_eq_true c2
    have d3 : decide ((⟨⟨[35, 77, 65, 83, 84, 69, 82, 10]⟩⟩ : ByteArray).size ≤ 100 + 400 * 0) = true := rfl
    have d4 : decide ((F.sndsT ⟨⟨[35, 77, 65, 83, 84, 69, 82, 10]⟩⟩ m.sounds).size ≤ 20200 + 400 * 0) = true := decide_eq_true (by omega)
    unfold sndsOK at e1
    unfold strsOK at e2
    simp only [d1, d2, d3, d4, e1, e2, cond_true, cond_false, Bool.and_self]
    cases F.big (F.strsT (F.sndsT ⟨⟨[35, 77, 65, 83, 84, 69, 82, 10]⟩⟩ m.sounds) m.streams) <;> rfl
  · rfl

end M
end Go.Proofs.YtipngpndgniagaaDoor
