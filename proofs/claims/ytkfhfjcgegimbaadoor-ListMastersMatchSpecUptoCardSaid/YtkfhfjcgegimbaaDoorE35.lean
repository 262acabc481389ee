/- What is proved here: what Best returns on plain data, of the program and of the reference (no statement of the seat). -/
import Derived.Test.YtkfhfjcgegimbaaDoorE34
namespace Go.Proofs.YtkfhfjcgegimbaaDoor
open Go Go.RowKit
set_option linter.unusedVariables false
set_option linter.unusedSimpArgs false

def F.lt (a b : Int) : Bool := decide (a < b)

def F.le (a b : Int) : Bool := decide (a ≤ b)

/-- A step of Best: the best stream so far, and the cheapest one. -/
def F.bstS (l : List Strm) (r w h : Int) (a : Int × Int) (p : Strm × Nat) : Int × Int :=
  bif (F.lt 0 w || F.lt 0 h) && (F.lt w p.1.width || F.lt h p.1.height) then a else
  (bif F.le p.1.peak r && (F.lt a.1 0 || F.lt (l.getD a.1.toNat default).mean p.1.mean) then (p.2 : Int) else a.1, bif F.lt a.2 0 || F.lt p.1.peak (l.getD a.2.toNat default).peak then (p.2 : Int) else a.2)

def F.bst (l : List Strm) (r w h : Int) (a : Int × Int) (ps : List (Strm × Nat)) : Int × Int := ps.foldl (F.bstS l r w h) a

def F.best (m : Mas) (r w h : Int) : Int × Int :=
  bif F.chkM m != 0 then (0, F.chkM m) else bif F.out r 0 10000000000 || F.out w 0 20000 || F.out h 0 20000 then (0, 1) else
  bif F.le 0 (F.bst m.streams r w h (-1, -1) m.streams.zipIdx).1 then ((F.bst m.streams r w h (-1, -1) m.streams.zipIdx).1, 0) else
  bif F.le 0 (F.bst m.streams r w h (-1, -1) m.streams.zipIdx).2 then ((F.bst m.streams r w h (-1, -1) m.streams.zipIdx).2, 0) else (0, 9)

def F.bstI (a : Int × Int) (k : Nat) : Prop := (-1 ≤ a.1 ∧ a.1 < k) ∧ (-1 ≤ a.2 ∧ a.2 < k)

theorem F.bstI_step {l : List Strm} {r w h : Int} {a : Int × Int} {p : Strm × Nat} (hI : F.bstI a p.2) : F.bstI (F.bstS l r w h a p) (p.2 + 1) := by
  obtain ⟨⟨h1, h2⟩, h3, h4⟩ := hI
  unfold F.bstS
  cases ((F.lt 0 w || F.lt 0 h) && (F.lt w p.1.width || F.lt h p.1.height))
  · simp only [cond_false]
    unfold F.bstI
    cases (F.le p.1.peak r && (F.lt a.1 0 || F.lt (l.getD a.1.toNat default).mean p.1.mean)) <;> cases (F.lt a.2 0 || F.lt p.1.peak (l.getD a.2.toNat default).peak) <;> simp <;> omega
  · exact ⟨⟨h1, by simp only [cond_true]; omega⟩, h3, by simp only [cond_true]; omega⟩

namespace M


theorem at_toNat {l : List Strm} {n : Int} (h1 : 0 ≤ n) (h2 : n < l.length) : idx n = some n.toNat ∧ decide (n.toNat < l.length) = true := by
  obtain ⟨k, rfl⟩ := Int.eq_ofNat_of_zero_le h1
  exact ⟨rfl, decide_eq_true (by simpa using h2)⟩

def stBst (m : Mas) (r : Int) (w : Int) (h : Int) (best : Int) (least : Int) (k : Nat) : St := ⟨[(33, vI k), (32, vI m.streams.length), (31, .sl (m.streams.map eStrm)), (12, vI least), (11, vI best), (4, .ptr 4 0 0), (3, vI h), (2, vI w), (1, vI r)], [(4, ⟨true, 0, 0, [eMas m]⟩)]⟩

def stBst1 (a : Mas × Int × Int × Int × Int × Int × Nat) : St := stBst a.1 a.2.1 a.2.2.1 a.2.2.2.1 a.2.2.2.2.1 a.2.2.2.2.2.1 a.2.2.2.2.2.2

theorem stBst_inj (a a' : Mas × Int × Int × Int × Int × Int × Nat) (h : stBst1 a = stBst1 a') : a = a' := by
  simp only [stBst1, stBst] at h
  try simp [strs_inj, ents_inj, eEnt_iff, eLst_iff, eSnds_inj, eSnd_iff, eStrms_inj, eStrm_iff, eMas_iff] at h
  grind

theorem unstBst (m : Mas) (r : Int) (w : Int) (h : Int) (best : Int) (least : Int) (k : Nat) : unenc stBst1 (St.mk [(33, (vI (↑k : Int))), (32, (vI (↑(List.length m.streams) : Int))), (31, AV.sl (List.map eStrm m.streams)), (12, (vI least)), (11, (vI best)), (4, .ptr 4 0 0), (3,
  (vI h)), (2, (vI w)), (1, (vI r))] [(4, Blk.mk true 0 0 [[AV.sl (List.map eStrm m.streams), AV.sl (List.map eSnd m.sounds)]])]) = some (m, r, w, h, best, least, k) := unenc_of stBst_inj (m, r, w, h, best, least, k) rfl

theorem unstBst0 (m : Mas) (r : Int) (w : Int) (h : Int) : unenc stBst1 (St.mk [(33, (vI (0 : Int))), (32, (vI (↑(List.length m.streams) : Int))), (31, AV.sl (List.map eStrm m.streams)), (12, (vI (-1 : Int))), (11, (vI (-1 : Int))), (4, .ptr 4
  0 0), (3, (vI h)), (2, (vI w)), (1, (vI r))] [(4, Blk.mk true 0 0 [[AV.sl (List.map eStrm m.streams), AV.sl (List.map eSnd m.sounds)]])]) = some (m, r, w, h, (-1), (-1), 0) := unenc_of stBst_inj (m, r, w, h, (-1), (-1), 0) rfl

def outBst (m : Mas) (r : Int) (w : Int) (h : Int) (best : Int) (least : Int) (k : Nat) : T (Ex × St) := .ret (.exit 0, ⟨[(12, vI (F.bst m.streams r w h (best, least) (m.streams.zipIdx.drop k)).2), (11, vI (F.bst m.streams r w h (best, least) (m.streams.zipIdx.drop k)).1)], []⟩)

noncomputable def prlBst (m : Mas) (r : Int) (w : Int) (h : Int) (best : Int) (least : Int) (k : Nat) : Bool := decide (m.streams.length ≤ 9223372036854775807) && decide (k ≤ m.streams.length) && decide (-1 ≤ best) && decide (best < k) && decide (-1 ≤ least) && decide (least < k)

noncomputable def lpBst : Nat × (St → T (Ex × St)) := (8, lpo [33, 32, 31, 12, 11, 4, 3, 2, 1] [4] stBst1 (fun a => prlBst a.1 a.2.1 a.2.2.1 a.2.2.2.1 a.2.2.2.2.1 a.2.2.2.2.2.1 a.2.2.2.2.2.2) fun a => outBst a.1 a.2.1 a.2.2.1 a.2.2.2.1 a.2.2.2.2.1 a.2.2.2.2.2.1 a.2.2.2.2.2.2)

noncomputable def enBst : Env := envH ty noG lksS [oChM, oOut] [] [] [lpBst]

theorem enBst_ok : EnvOK Tryd.prog enBst := by
  refine envH_ok lksS_ok ty_ok ?_ ?_
  · simp only [List.forall_mem_cons]
    exact ⟨okChM, okOut, by simp⟩
  · simp

theorem evBstL (m : Mas) (r : Int) (w : Int) (h : Int) (best : Int) (least : Int) (k : Nat) : ((exec enBst (loopN Tryd.f6 0) (stBst m r w h best least k)).bind (lessX ([33, 32, 31, 12, 11, 4, 3, 2, 1], [4]) ([12, 11], []) ([], []))).val =
  bif decide ((↑k : Int) < (↑(List.length m.streams) : Int)) then Option.bind (unenc (List.map eStrm) (List.map eStrm m.streams)) fun (z : List Strm) => bif decide (k <
  List.length z) then bif bif bif decide ((0 : Int) < w) then true else decide ((0 : Int) < h) then bif decide (w < (List.getD z k (Strm.mk (ByteArray.mk (Array.mk []))
  (ByteArray.mk (Array.mk [])) (0 : Int) (0 : Int) (0 : Int) (0 : Int) (ByteArray.mk (Array.mk [])))).width) then true else decide (h < (List.getD z k (Strm.mk (ByteArray.mk
  (Array.mk [])) (ByteArray.mk (Array.mk [])) (0 : Int) (0 : Int) (0 : Int) (0 : Int) (ByteArray.mk (Array.mk [])))).height) else false then some (Ex.normal, St.mk [(33, (vI
  (IntKind.wrap IntKind.i64 ((↑k : Int) + (1 : Int))))), (32, (vI (↑(List.length m.streams) : Int))), (31, AV.sl (List.map eStrm m.streams)), (12, (vI least)), (11, (vI
  best)), (4, .ptr 4 0 0), (3, (vI h)), (2, (vI w)), (1, (vI r))] [(4, Blk.mk true 0 0 [[AV.sl (List.map eStrm m.streams), AV.sl (List.map eSnd m.sounds)]])]) else bif
  decide ((List.getD z k (Strm.mk (ByteArray.mk (Array.mk [])) (ByteArray.mk (Array.mk [])) (0 : Int) (0 : Int) (0 : Int) (0 : Int) (ByteArray.mk (Array.mk [])))).peak ≤ r)
  && !decide (best < (0 : Int)) then Option.bind (idx best) fun (z_1 : Nat) => Option.bind (unenc (List.map eStrm) (List.map eStrm m.streams)) fun (z_2 : List Strm) => bif
  decide (z_1 < List.length z_2) then bif bif decide ((List.getD z k (Strm.mk (ByteArray.mk (Array.mk [])) (ByteArray.mk (Array.mk [])) (0 : Int) (0 : Int) (0 : Int) (0 :
  Int) (ByteArray.mk (Array.mk [])))).peak ≤ r) then bif decide (best < (0 : Int)) then true else decide ((List.getD z_2 z_1 (Strm.mk (ByteArray.mk (Array.mk []))
  (ByteArray.mk (Array.mk [])) (0 : Int) (0 : Int) (0 : Int) (0 : Int) (ByteArray.mk (Array.mk [])))).mean < (List.getD z k (Strm.mk (ByteArray.mk (Array.mk []))
  (ByteArray.mk (Array.mk [])) (0 : Int) (0 : Int) (0 : Int) (0 : Int) (ByteArray.mk (Array.mk [])))).mean) else false then bif !decide (least < (0 : Int)) then Option.bind
  (idx least) fun (z_3 : Nat) => Option.bind (unenc (List.map eStrm) (List.map eStrm m.streams)) fun (z_4 : List Strm) => bif decide (z_3 < List.length z_4) then bif bif
  decide (least < (0 : Int)) then true else decide ((List.getD z k (Strm.mk (ByteArray.mk (Array.mk [])) (ByteArray.mk (Array.mk [])) (0 : Int) (0 : Int) (0 : Int) (0 : Int)
  (ByteArray.mk (Array.mk [])))).peak < (List.getD z_4 z_3 (Strm.mk (ByteArray.mk (Array.mk [])) (ByteArray.mk (Array.mk [])) (0 : Int) (0 : Int) (0 : Int) (0 : Int)
  (ByteArray.mk (Array.mk [])))).peak) then some (Ex.normal, St.mk [(33, (vI (IntKind.wrap IntKind.i64 ((↑k : Int) + (1 : Int))))), (32, (vI (↑(List.length m.streams) :
  Int))), (31, AV.sl (List.map eStrm m.streams)), (12, (vI (↑k : Int))), (11, (vI (↑k : Int))), (4, .ptr 4 0 0), (3, (vI h)), (2, (vI w)), (1, (vI r))] [(4, Blk.mk true 0 0
  [[AV.sl (List.map eStrm m.streams), AV.sl (List.map eSnd m.sounds)]])]) else some (Ex.normal, St.mk [(33, (vI (IntKind.wrap IntKind.i64 ((↑k : Int) + (1 : Int))))), (32,
  (vI (↑(List.length m.streams) : Int))), (31, AV.sl (List.map eStrm m.streams)), (12, (vI least)), (11, (vI (↑k : Int))), (4, .ptr 4 0 0), (3, (vI h)), (2, (vI w)), (1, (vI
  r))] [(4, Blk.mk true 0 0 [[AV.sl (List.map eStrm m.streams), AV.sl (List.map eSnd m.sounds)]])]) else none else bif !decide (least < (0 : Int)) then none else bif !decide
  (least < (0 : Int)) then none else bif !decide (least < (0 : Int)) then none else some (Ex.normal, St.mk [(33, (vI (IntKind.wrap IntKind.i64 ((↑k : Int) + (1 : Int))))),
  (32, (vI (↑(List.length m.streams) : Int))), (31, AV.sl (List.map eStrm m.streams)), (12, (vI (↑k : Int))), (11, (vI (↑k : Int))), (4, .ptr 4 0 0), (3, (vI h)), (2, (vI
  w)), (1, (vI r))] [(4, Blk.mk true 0 0 [[AV.sl (List.map eStrm m.streams), AV.sl (List.map eSnd m.sounds)]])]) else bif !decide (least < (0 : Int)) then Option.bind (idx
  least) fun (z_3 : Nat) => Option.bind (unenc (List.map eStrm) (List.map eStrm m.streams)) fun (z_4 : List Strm) => bif decide (z_3 < List.length z_4) then bif bif decide
  (least < (0 : Int)) then true else decide ((List.getD z k (Strm.mk (ByteArray.mk (Array.mk [])) (ByteArray.mk (Array.mk [])) (0 : Int) (0 : Int) (0 : Int) (0 : Int)
  (ByteArray.mk (Array.mk [])))).peak < (List.getD z_4 z_3 (Strm.mk (ByteArray.mk (Array.mk [])) (ByteArray.mk (Array.mk [])) (0 : Int) (0 : Int) (0 : Int) (0 : Int)
  (ByteArray.mk (Array.mk [])))).peak) then some (Ex.normal, St.mk [(33, (vI (IntKind.wrap IntKind.i64 ((↑k : Int) + (1 : Int))))), (32, (vI (↑(List.length m.streams) :
  Int))), (31, AV.sl (List.map eStrm m.streams)), (12, (vI (↑k : Int))), (11, (vI best)), (4, .ptr 4 0 0), (3, (vI h)), (2, (vI w)), (1, (vI r))] [(4, Blk.mk true 0 0
  [[AV.sl (List.map eStrm m.streams), AV.sl (List.map eSnd m.sounds)]])]) else some (Ex.normal, St.mk [(33, (vI (IntKind.wrap IntKind.i64 ((↑k : Int) + (1 : Int))))), (32,
  (vI (↑(List.length m.streams) : Int))), (31, AV.sl (List.map eStrm m.streams)), (12, (vI least)), (11, (vI best)), (4, .ptr 4 0 0), (3, (vI h)), (2, (vI w)), (1, (vI r))]
  [(4, Blk.mk true 0 0 [[AV.sl (List.map eStrm m.streams), AV.sl (List.map eSnd m.sounds)]])]) else none else bif !decide (least < (0 : Int)) then none else bif !decide
  (least < (0 : Int)) then none else bif !decide (least < (0 : Int)) then none else some (Ex.normal, St.mk [(33, (vI (IntKind.wrap IntKind.i64 ((↑k : Int) + (1 : Int))))),
  (32, (vI (↑(List.length m.streams) : Int))), (31, AV.sl (List.map eStrm m.streams)), (12, (vI (↑k : Int))), (11, (vI best)), (4, .ptr 4 0 0), (3, (vI h)), (2, (vI w)), (1,
  (vI r))] [(4, Blk.mk true 0 0 [[AV.sl (List.map eStrm m.streams), AV.sl (List.map eSnd m.sounds)]])]) else none else bif decide ((List.getD z k (Strm.mk (ByteArray.mk
  (Array.mk [])) (ByteArray.mk (Array.mk [])) (0 : Int) (0 : Int) (0 : Int) (0 : Int) (ByteArray.mk (Array.mk [])))).peak ≤ r) && !decide (best < (0 : Int)) then none else
  bif decide ((List.getD z k (Strm.mk (ByteArray.mk (Array.mk [])) (ByteArray.mk (Array.mk [])) (0 : Int) (0 : Int) (0 : Int) (0 : Int) (ByteArray.mk (Array.mk [])))).peak ≤
  r) && !decide (best < (0 : Int)) then none else bif decide ((List.getD z k (Strm.mk (ByteArray.mk (Array.mk [])) (ByteArray.mk (Array.mk [])) (0 : Int) (0 : Int) (0 : Int)
  (0 : Int) (ByteArray.mk (Array.mk [])))).peak ≤ r) && !decide (best < (0 : Int)) then none else bif bif decide ((List.getD z k (Strm.mk (ByteArray.mk (Array.mk []))
  (ByteArray.mk (Array.mk [])) (0 : Int) (0 : Int) (0 : Int) (0 : Int) (ByteArray.mk (Array.mk [])))).peak ≤ r) then true else false then bif !decide (least < (0 : Int))
  then Option.bind (idx least) fun (z_1 : Nat) => Option.bind (unenc (List.map eStrm) (List.map eStrm m.streams)) fun (z_2 : List Strm) => bif decide (z_1 < List.length z_2)
  then bif bif decide (least < (0 : Int)) then true else decide ((List.getD z k (Strm.mk (ByteArray.mk (Array.mk [])) (ByteArray.mk (Array.mk [])) (0 : Int) (0 : Int) (0 :
  Int) (0 : Int) (ByteArray.mk (Array.mk [])))).peak < (List.getD z_2 z_1 (Strm.mk (ByteArray.mk (Array.mk [])) (ByteArray.mk (Array.mk [])) (0 : Int) (0 : Int) (0 : Int) (0
  : Int) (ByteArray.mk (Array.mk [])))).peak) then some (Ex.normal, St.mk [(33, (vI (IntKind.wrap IntKind.i64 ((↑k : Int) + (1 : Int))))), (32, (vI (↑(List.length m.streams)
  : Int))), (31, AV.sl (List.map eStrm m.streams)), (12, (vI (↑k : Int))), (11, (vI (↑k : Int))), (4, .ptr 4 0 0), (3, (vI h)), (2, (vI w)), (1, (vI r))] [(4, Blk.mk true 0
  0 [[AV.sl (List.map eStrm m.streams), AV.sl (List.map eSnd m.sounds)]])]) else some (Ex.normal, St.mk [(33, (vI (IntKind.wrap IntKind.i64 ((↑k : Int) + (1 : Int))))), (32,
  (vI (↑(List.length m.streams) : Int))), (31, AV.sl (List.map eStrm m.streams)), (12, (vI least)), (11, (vI (↑k : Int))), (4, .ptr 4 0 0), (3, (vI h)), (2, (vI w)), (1, (vI
  r))] [(4, Blk.mk true 0 0 [[AV.sl (List.map eStrm m.streams), AV.sl (List.map eSnd m.sounds)]])]) else none else bif !decide (least < (0 : Int)) then none else bif !decide
  (least < (0 : Int)) then none else bif !decide (least < (0 : Int)) then none else some (Ex.normal, St.mk [(33, (vI (IntKind.wrap IntKind.i64 ((↑k : Int) + (1 : Int))))),
  (32, (vI (↑(List.length m.streams) : Int))), (31, AV.sl (List.map eStrm m.streams)), (12, (vI (↑k : Int))), (11, (vI (↑k : Int))), (4, .ptr 4 0 0), (3, (vI h)), (2, (vI
  w)), (1, (vI r))] [(4, Blk.mk true 0 0 [[AV.sl (List.map eStrm m.streams), AV.sl (List.map eSnd m.sounds)]])]) else bif !decide (least < (0 : Int)) then Option.bind (idx
  least) fun (z_1 : Nat) => Option.bind (unenc (List.map eStrm) (List.map eStrm m.streams)) fun (z_2 : List Strm) => bif decide (z_1 < List.length z_2) then bif bif decide
  (least < (0 : Int)) then true else decide ((List.getD z k (Strm.mk (ByteArray.mk (Array.mk [])) (ByteArray.mk (Array.mk [])) (0 : Int) (0 : Int) (0 : Int) (0 : Int)
  (ByteArray.mk (Array.mk [])))).peak < (List.getD z_2 z_1 (Strm.mk (ByteArray.mk (Array.mk [])) (ByteArray.mk (Array.mk [])) (0 : Int) (0 : Int) (0 : Int) (0 : Int)
  (ByteArray.mk (Array.mk [])))).peak) then some (Ex.normal, St.mk [(33, (vI (IntKind.wrap IntKind.i64 ((↑k : Int) + (1 : Int))))), (32, (vI (↑(List.length m.streams) :
  Int))), (31, AV.sl (List.map eStrm m.streams)), (12, (vI (↑k : Int))), (11, (vI best)), (4, .ptr 4 0 0), (3, (vI h)), (2, (vI w)), (1, (vI r))] [(4, Blk.mk true 0 0
  [[AV.sl (List.map eStrm m.streams), AV.sl (List.map eSnd m.sounds)]])]) else some (Ex.normal, St.mk [(33, (vI (IntKind.wrap IntKind.i64 ((↑k : Int) + (1 : Int))))), (32,
  (vI (↑(List.length m.streams) : Int))), (31, AV.sl (List.map eStrm m.streams)), (12, (vI least)), (11, (vI best)), (4, .ptr 4 0 0), (3, (vI h)), (2, (vI w)), (1, (vI r))]
  [(4, Blk.mk true 0 0 [[AV.sl (List.map eStrm m.streams), AV.sl (List.map eSnd m.sounds)]])]) else none else bif !decide (least < (0 : Int)) then none else bif !decide
  (least < (0 : Int)) then none else bif !decide (least < (0 : Int)) then none else some (Ex.normal, St.mk [(33, (vI (IntKind.wrap IntKind.i64 ((↑k : Int) + (1 : Int))))),
  (32, (vI (↑(List.length m.streams) : Int))), (31, AV.sl (List.map eStrm m.streams)), (12, (vI (↑k : Int))), (11, (vI best)), (4, .ptr 4 0 0), (3, (vI h)), (2, (vI w)), (1,
  (vI r))] [(4, Blk.mk true 0 0 [[AV.sl (List.map eStrm m.streams), AV.sl (List.map eSnd m.sounds)]])]) else none else some (Ex.exit (0 : Nat), St.mk [(12, (vI least)), (11,
  (vI best))] []) := by kernel_rfl

theorem lpBst_ok (m : Mas) (r : Int) (w : Int) (h : Int) (best : Int) (least : Int) (k : Nat) (hp : prlBst m r w h best least k = true) : ∀ ex s', (outBst m r w h best least k).val = some (ex, s') → LoopOK enBst (loopN Tryd.f6 0) (stBst m r w h best least k) ex s' := by
  simp only [prlBst, Bool.and_eq_true, decide_eq_true_eq] at hp
  obtain ⟨⟨⟨⟨⟨h1, h2⟩, h3⟩, h4⟩, h5⟩, h6⟩ := hp
  refine loop_fold (xs := m.streams.zipIdx) (st := fun a k => stBst m r w h a.1 a.2 k) (f := F.bstS m.streams r w h) (fin := fun a => (.exit 0, ⟨[(12, vI a.2), (11, vI a.1)], []⟩)) (I := F.bstI) (n := ([33, 32, 31, 12, 11, 4, 3, 2, 1], [4])) (e := ([12, 11], [])) (r := ([], [])) ?_ (fun _ => ⟨by simp, rfl⟩) (fun _ _ => rfl) ?_ (best, least) k (by simp; exact h2) ⟨⟨h3, h4⟩, h5, h6⟩
  · rintro ⟨a, c⟩ _
    rw [evBstL]; simp
  · rintro ⟨a, c⟩ k y hy hI
    obtain ⟨ha, hk⟩ := F.zipIdx_at hy
    have hlt := lt_at ha
    refine ⟨?_, by have := F.bstI_step (l := m.streams) (r := r) (w := w) (h := h) (a := (a, c)) (p := y) (by rw [hk]; exact hI); rw [hk] at this; exact this⟩
    obtain ⟨⟨i1, i2⟩, i3, i4⟩ := hI
    simp only at i1 i2 i3 i4
    rw [evBstL]
    simp only [unChM, unOut, unChMw, preChM1, preOut1, unstBst, unstBst0, prlBst, outBst, etaEnt, etaLst, etaSnd, etaStrm, etaMas, Option.bind_some, List.length_map, unStrs, unInts, unBools, unEnts, unItms, unTrns, cond_true, cond_false, Bool.and_true, Bool.true_and, unSnds, unStrms, cast_lt hlt, decide_eq_true hlt, next_at hlt h1, getD_at ha, stBst, F.bstS, F.lt, F.le, hk, eMas, eStrm]
    have fa : ¬ a < 0 → idx a = some a.toNat ∧ decide (a.toNat < m.streams.length) = true := fun h => at_toNat (by omega) (by omega)
    have fc : ¬ c < 0 → idx c = some c.toNat ∧ decide (c.toNat < m.streams.length) = true := fun h => at_toNat (by omega) (by omega)
    have dflt : (default : Strm) = ⟨⟨#[]⟩, ⟨#[]⟩, 0, 0, 0, 0, ⟨#[]⟩⟩ := rfl
    rw [dflt]
    by_cases ga : a < 0 <;> by_cases gc : c < 0
    · simp only [ga, gc, decide_true, Bool.not_true, Bool.not_false, Bool.and_true, Bool.and_false, Bool.true_or, cond_true, cond_false]
      cases decide (0 < w) <;> cases decide (0 < h) <;> cases decide (w < y.1.width) <;> cases decide (h < y.1.height) <;> cases decide (y.1.peak ≤ r) <;> rfl
    · obtain ⟨f1, f2⟩ := fc gc
      simp only [ga, gc, f1, f2, Option.bind_some, decide_true, decide_false, Bool.not_true, Bool.not_false, Bool.and_true, Bool.and_false, Bool.true_or, Bool.false_or, cond_true, cond_false]
      generalize decide (y.1.peak < _) = e1
      cases decide (0 < w) <;> cases decide (0 < h) <;> cases decide (w < y.1.width) <;> cases decide (h < y.1.height) <;> cases decide (y.1.peak ≤ r) <;> cases e1 <;> rfl
    · obtain ⟨f1, f2⟩ := fa ga
      simp only [ga, gc, f1, f2, Option.bind_some, decide_true, decide_false, Bool.not_true, Bool.not_false, Bool.and_true, Bool.and_false, Bool.true_or, Bool.false_or, cond_true, cond_false]
      generalize decide (_ < y.1.mean) = e1
      cases decide (0 < w) <;> cases decide (0 < h) <;> cases decide (w < y.1.width) <;> cases decide (h < y.1.height) <;> cases decide (y.1.peak ≤ r) <;> cases e1 <;> rfl
    · obtain ⟨f1, f2⟩ := fa ga
      obtain ⟨f3, f4⟩ := fc gc
      simp only [ga, gc, f1, f2, f3, f4, Option.bind_some, decide_true, decide_false, Bool.not_true, Bool.not_false, Bool.and_true, Bool.and_false, Bool.true_or, Bool.false_or, cond_true, cond_false]
      generalize decide (_ < y.1.mean) = e1
      generalize decide (y.1.peak < _) = e2
      cases decide (0 < w) <;> cases decide (0 < h) <;> cases decide (w < y.1.width) <;> cases decide (h < y.1.height) <;> cases decide (y.1.peak ≤ r) <;> cases e1 <;> cases e2 <;> rfl

theorem evBst (m : Mas) (r : Int) (w : Int) (h : Int) : (runF enBst false Tryd.f6 [.agg (eMas m), vI r, vI w, vI h]).val =
  Option.bind (unenc encChM [AV.agg [AV.sl (List.map eStrm m.streams), AV.sl (List.map eSnd m.sounds)]]) fun (z : Mas) => bif F.chkM z != (0 : Int) then some (AV.tup [(vI (0
  : Int)), (vI (F.chkM z))], []) else Option.bind (unenc encOut [(vI r), (vI (0 : Int)), (vI (10000000000 : Int))]) fun (z : Int × Int × Int) => bif !F.out z.fst z.snd.fst
  z.snd.snd then Option.bind (unenc encOut [(vI w), (vI (0 : Int)), (vI (20000 : Int))]) fun (z_1 : Int × Int × Int) => bif !bif F.out z.fst z.snd.fst z.snd.snd then true
  else F.out z_1.fst z_1.snd.fst z_1.snd.snd then Option.bind (unenc encOut [(vI h), (vI (0 : Int)), (vI (20000 : Int))]) fun (z_2 : Int × Int × Int) => bif bif bif F.out
  z.fst z.snd.fst z.snd.snd then true else F.out z_1.fst z_1.snd.fst z_1.snd.snd then true else F.out z_2.fst z_2.snd.fst z_2.snd.snd then some (AV.tup [(vI (0 : Int)), (vI
  (1 : Int))], []) else Option.bind (unenc stBst1 (St.mk [(33, (vI (0 : Int))), (32, (vI (↑(List.length (List.map eStrm m.streams)) : Int))), (31, AV.sl (List.map eStrm
  m.streams)), (12, (vI (-1 : Int))), (11, (vI (-1 : Int))), (4, .ptr 4 0 0), (3, (vI h)), (2, (vI w)), (1, (vI r))] [(4, Blk.mk true 0 0 [[AV.sl (List.map eStrm m.streams),
  AV.sl (List.map eSnd m.sounds)]])])) fun (z : Mas × Int × Int × Int × Int × Int × Nat) => bif decide (List.length z.fst.streams ≤ (9223372036854775807 : Nat)) && decide
  (z.snd.snd.snd.snd.snd.snd ≤ List.length z.fst.streams) && decide ((-1 : Int) ≤ z.snd.snd.snd.snd.fst) && decide (z.snd.snd.snd.snd.fst < (↑z.snd.snd.snd.snd.snd.snd :
  Int)) && decide ((-1 : Int) ≤ z.snd.snd.snd.snd.snd.fst) && decide (z.snd.snd.snd.snd.snd.fst < (↑z.snd.snd.snd.snd.snd.snd : Int)) && true then bif decide ((0 : Int) ≤
  (F.bst z.fst.streams z.snd.fst z.snd.snd.fst z.snd.snd.snd.fst (z.snd.snd.snd.snd.fst, z.snd.snd.snd.snd.snd.fst) (List.drop z.snd.snd.snd.snd.snd.snd (List.zipIdx
  z.fst.streams))).fst) then some (AV.tup [(vI (F.bst z.fst.streams z.snd.fst z.snd.snd.fst z.snd.snd.snd.fst (z.snd.snd.snd.snd.fst, z.snd.snd.snd.snd.snd.fst) (List.drop
  z.snd.snd.snd.snd.snd.snd (List.zipIdx z.fst.streams))).fst), (vI (0 : Int))], []) else bif decide ((0 : Int) ≤ (F.bst z.fst.streams z.snd.fst z.snd.snd.fst
  z.snd.snd.snd.fst (z.snd.snd.snd.snd.fst, z.snd.snd.snd.snd.snd.fst) (List.drop z.snd.snd.snd.snd.snd.snd (List.zipIdx z.fst.streams))).snd) then some (AV.tup [(vI (F.bst
  z.fst.streams z.snd.fst z.snd.snd.fst z.snd.snd.snd.fst (z.snd.snd.snd.snd.fst, z.snd.snd.snd.snd.snd.fst) (List.drop z.snd.snd.snd.snd.snd.snd (List.zipIdx
  z.fst.streams))).snd), (vI (0 : Int))], []) else some (AV.tup [(vI (0 : Int)), (vI (9 : Int))], []) else none else some (AV.tup [(vI (0 : Int)), (vI (1 : Int))], []) else
  some (AV.tup [(vI (0 : Int)), (vI (1 : Int))], []) := by kernel_rfl

def encBst1 (m : Mas) (r : Int) (w : Int) (h : Int) : List AV := [.agg (eMas m), vI r, vI w, vI h]

def encBst (a : Mas × Int × Int × Int) : List AV := encBst1 a.1 a.2.1 a.2.2.1 a.2.2.2

theorem encBst_inj (a a' : Mas × Int × Int × Int) (h : encBst a = encBst a') : a = a' := by
  simp only [encBst, encBst1] at h
  try simp [strs_inj, ents_inj, eEnt_iff, eLst_iff, eSnds_inj, eSnd_iff, eStrms_inj, eStrm_iff, eMas_iff] at h
  grind

theorem unBst (m : Mas) (r : Int) (w : Int) (h : Int) : unenc encBst ([AV.agg [AV.sl (List.map eStrm m.streams), AV.sl (List.map eSnd m.sounds)], (vI r), (vI w), (vI h)]) = some (m, r, w, h) := unenc_of encBst_inj (m, r, w, h) rfl

theorem unBstw (m_streams : List Strm) (m_sounds : List Snd) (r : Int) (w : Int) (h : Int) : unenc encBst ([AV.agg [AV.sl (List.map eStrm m_streams), AV.sl (List.map eSnd m_sounds)], (vI r), (vI w), (vI h)]) = some ((Mas.mk m_streams m_sounds), r, w, h) := unenc_of encBst_inj ((Mas.mk m_streams m_sounds), r, w, h) rfl

def resBst1 (m : Mas) (r : Int) (w : Int) (h : Int) : AV × Heap := (.tup [vI (F.best m r w h).1, vI (F.best m r w h).2], [])

def preBst1 (m : Mas) (r : Int) (w : Int) (h : Int) : Bool := true

noncomputable def oBst : Orc := orc 6 true encBst (fun a => preBst1 a.1 a.2.1 a.2.2.1 a.2.2.2) fun a => resBst1 a.1 a.2.1 a.2.2.1 a.2.2.2

theorem okBst : OrcOK Tryd.prog noG oBst := by
  refine mk_ok Tryd.f6 (keep := false) (by kernel_rfl) (by kernel_rfl) enBst_ok mixed (one_loop (x0 := loopN Tryd.f6 0) (by kernel_rfl) (lpo_ok ?_)) (by first | exact fun _ _ => ⟨rfl, rfl⟩ | (intro h; cases h)) ?_
  · rintro ⟨m, r, w, h, best, least, k⟩ hp
    exact lpBst_ok m r w h best least k hp
  rintro ⟨m, r, w, h⟩ hpre hok
  show (runF enBst false _ (encBst1 _ _ _ _)).val = some (resBst1 _ _ _ _)
  unfold encBst1 resBst1
  rw [evBst]
  obtain ⟨h1, h2⟩ := mas_len (hok _ (List.mem_cons_self ..))
  simp only [unChM, unOut, unChMw, preChM1, preOut1, unstBst, unstBst0, prlBst, outBst, etaEnt, etaLst, etaSnd, etaStrm, etaMas, Option.bind_some, List.length_map, unStrs, unInts, unBools, unEnts, unItms, unTrns, cond_true, cond_false, Bool.and_true, Bool.true_and, unSnds, unStrms, h1, List.drop_zero, Nat.zero_le, decide_true, F.best, F.le]
  cases F.chkM m != 0
  · cases F.out r 0 10000000000
    · cases F.out w 0 20000
      · cases F.out h 0 20000
        · simp only [Bool.or_self, cond_false, cond_true, Bool.not_false, Bool.not_true, Bool.and_self, (by decide : decide ((-1 : Int) ≤ -1) = true), (by decide : decide ((-1 : Int) < ((0 : Nat) : Int)) = true)]
          generalize F.bst m.streams r w h (-1, -1) m.streams.zipIdx = a
          cases decide (0 ≤ a.1) <;> cases decide (0 ≤ a.2) <;> rfl
        · rfl
      · rfl
    · rfl
  · rfl

def stRBs (m : Mas) (r : Int) (w : Int) (h : Int) (best : Int) (least : Int) (k : Nat) : St := ⟨[(13, vI k), (12, vI least), (11, vI best), (4, .ptr 4 0 0), (3, vI h), (2, vI w), (1, vI r)], [(4, ⟨true, 0, 0, [eMas m]⟩)]⟩

def stRBs1 (a : Mas × Int × Int × Int × Int × Int × Nat) : St := stRBs a.1 a.2.1 a.2.2.1 a.2.2.2.1 a.2.2.2.2.1 a.2.2.2.2.2.1 a.2.2.2.2.2.2

theorem stRBs_inj (a a' : Mas × Int × Int × Int × Int × Int × Nat) (h : stRBs1 a = stRBs1 a') : a = a' := by
  simp only [stRBs1, stRBs] at h
  try simp [strs_inj, ents_inj, eEnt_iff, eLst_iff, eSnds_inj, eSnd_iff, eStrms_inj, eStrm_iff, eMas_iff] at h
  grind

theorem unstRBs (m : Mas) (r : Int) (w : Int) (h : Int) (best : Int) (least : Int) (k : Nat) : unenc stRBs1 (St.mk [(13, (vI (↑k : Int))), (12, (vI least)), (11, (vI best)), (4, .ptr 4 0 0), (3, (vI h)), (2, (vI w)), (1, (vI r))] [(4, Blk.mk true 0 0 [[AV.sl (List.map eStrm
  m.streams), AV.sl (List.map eSnd m.sounds)]])]) = some (m, r, w, h, best, least, k) := unenc_of stRBs_inj (m, r, w, h, best, least, k) rfl

theorem unstRBs0 (m : Mas) (r : Int) (w : Int) (h : Int) : unenc stRBs1 (St.mk [(13, (vI (0 : Int))), (12, (vI (-1 : Int))), (11, (vI (-1 : Int))), (4, .ptr 4 0 0), (3, (vI h)), (2, (vI w)), (1, (vI r))] [(4, Blk.mk true 0 0 [[AV.sl (List.map
  eStrm m.streams), AV.sl (List.map eSnd m.sounds)]])]) = some (m, r, w, h, (-1), (-1), 0) := unenc_of stRBs_inj (m, r, w, h, (-1), (-1), 0) rfl

def outRBs (m : Mas) (r : Int) (w : Int) (h : Int) (best : Int) (least : Int) (k : Nat) : T (Ex × St) := .ret (.exit 0, ⟨[(12, vI (F.bst m.streams r w h (best, least) (m.streams.zipIdx.drop k)).2), (11, vI (F.bst m.streams r w h (best, least) (m.streams.zipIdx.drop k)).1)], []⟩)

noncomputable def prlRBs (m : Mas) (r : Int) (w : Int) (h : Int) (best : Int) (least : Int) (k : Nat) : Bool := decide (m.streams.length ≤ 9223372036854775807) && decide (k ≤ m.streams.length) && decide (-1 ≤ best) && decide (best < k) && decide (-1 ≤ least) && decide (least < k) && decide (0 ≤ w) && decide (0 ≤ h)

noncomputable def lpRBs : Nat × (St → T (Ex × St)) := (8, lpo [13, 12, 11, 4, 3, 2, 1] [4] stRBs1 (fun a => prlRBs a.1 a.2.1 a.2.2.1 a.2.2.2.1 a.2.2.2.2.1 a.2.2.2.2.2.1 a.2.2.2.2.2.2) fun a => outRBs a.1 a.2.1 a.2.2.1 a.2.2.2.1 a.2.2.2.2.1 a.2.2.2.2.2.1 a.2.2.2.2.2.2)

noncomputable def enRBs : Env := envH ty noG lksS [oRM, oWithin] [] [] [lpRBs]

theorem enRBs_ok : EnvOK Tryd.prog enRBs := by
  refine envH_ok lksS_ok ty_ok ?_ ?_
  · simp only [List.forall_mem_cons]
    exact ⟨okRM, okWithin, by simp⟩
  · simp

theorem evRBsL (m : Mas) (r : Int) (w : Int) (h : Int) (best : Int) (least : Int) (k : Nat) : ((exec enRBs (loopN Tryd.f7 0) (stRBs m r w h best least k)).bind (lessX ([13, 12, 11, 4, 3, 2, 1], [4]) ([12, 11], []) ([], []))).val =
  bif decide ((↑k : Int) < (↑(List.length (List.map eStrm m.streams)) : Int)) then Option.bind (unenc (List.map eStrm) (List.map eStrm m.streams)) fun (z : List Strm) => bif
  decide (k < List.length z) then bif bif !bif w == (0 : Int) then h == (0 : Int) else false then bif decide (w < (List.getD z k (Strm.mk (ByteArray.mk (Array.mk []))
  (ByteArray.mk (Array.mk [])) (0 : Int) (0 : Int) (0 : Int) (0 : Int) (ByteArray.mk (Array.mk [])))).width) then true else decide (h < (List.getD z k (Strm.mk (ByteArray.mk
  (Array.mk [])) (ByteArray.mk (Array.mk [])) (0 : Int) (0 : Int) (0 : Int) (0 : Int) (ByteArray.mk (Array.mk [])))).height) else false then some (Ex.normal, St.mk [(13, (vI
  (IntKind.wrap IntKind.i64 ((↑k : Int) + (1 : Int))))), (12, (vI least)), (11, (vI best)), (4, .ptr 4 0 0), (3, (vI h)), (2, (vI w)), (1, (vI r))] [(4, Blk.mk true 0 0
  [[AV.sl (List.map eStrm m.streams), AV.sl (List.map eSnd m.sounds)]])]) else bif decide ((List.getD z k (Strm.mk (ByteArray.mk (Array.mk [])) (ByteArray.mk (Array.mk []))
  (0 : Int) (0 : Int) (0 : Int) (0 : Int) (ByteArray.mk (Array.mk [])))).peak ≤ r) && !decide (best < (0 : Int)) then Option.bind (idx best) fun (z_1 : Nat) => Option.bind
  (unenc (List.map eStrm) (List.map eStrm m.streams)) fun (z_2 : List Strm) => bif decide (z_1 < List.length z_2) then bif bif decide ((List.getD z k (Strm.mk (ByteArray.mk
  (Array.mk [])) (ByteArray.mk (Array.mk [])) (0 : Int) (0 : Int) (0 : Int) (0 : Int) (ByteArray.mk (Array.mk [])))).peak ≤ r) then bif decide (best < (0 : Int)) then true
  else decide ((List.getD z_2 z_1 (Strm.mk (ByteArray.mk (Array.mk [])) (ByteArray.mk (Array.mk [])) (0 : Int) (0 : Int) (0 : Int) (0 : Int) (ByteArray.mk (Array.mk
  [])))).mean < (List.getD z k (Strm.mk (ByteArray.mk (Array.mk [])) (ByteArray.mk (Array.mk [])) (0 : Int) (0 : Int) (0 : Int) (0 : Int) (ByteArray.mk (Array.mk
  [])))).mean) else false then bif !decide (least < (0 : Int)) then Option.bind (idx least) fun (z_3 : Nat) => Option.bind (unenc (List.map eStrm) (List.map eStrm
  m.streams)) fun (z_4 : List Strm) => bif decide (z_3 < List.length z_4) then bif bif decide (least < (0 : Int)) then true else decide ((List.getD z k (Strm.mk
  (ByteArray.mk (Array.mk [])) (ByteArray.mk (Array.mk [])) (0 : Int) (0 : Int) (0 : Int) (0 : Int) (ByteArray.mk (Array.mk [])))).peak < (List.getD z_4 z_3 (Strm.mk
  (ByteArray.mk (Array.mk [])) (ByteArray.mk (Array.mk [])) (0 : Int) (0 : Int) (0 : Int) (0 : Int) (ByteArray.mk (Array.mk [])))).peak) then some (Ex.normal, St.mk [(13,
  (vI (IntKind.wrap IntKind.i64 ((↑k : Int) + (1 : Int))))), (12, (vI (↑k : Int))), (11, (vI (↑k : Int))), (4, .ptr 4 0 0), (3, (vI h)), (2, (vI w)), (1, (vI r))] [(4,
  Blk.mk true 0 0 [[AV.sl (List.map eStrm m.streams), AV.sl (List.map eSnd m.sounds)]])]) else some (Ex.normal, St.mk [(13, (vI (IntKind.wrap IntKind.i64 ((↑k : Int) + (1 :
  Int))))), (12, (vI least)), (11, (vI (↑k : Int))), (4, .ptr 4 0 0), (3, (vI h)), (2, (vI w)), (1, (vI r))] [(4, Blk.mk true 0 0 [[AV.sl (List.map eStrm m.streams), AV.sl
  (List.map eSnd m.sounds)]])]) else none else bif !decide (least < (0 : Int)) then none else bif !decide (least < (0 : Int)) then none else bif !decide (least < (0 : Int))
  then none else some (Ex.normal, St.mk [(13, (vI (IntKind.wrap IntKind.i64 ((↑k : Int) + (1 : Int))))), (12, (vI (↑k : Int))), (11, (vI (↑k : Int))), (4, .ptr 4 0 0), (3,
  (vI h)), (2, (vI w)), (1, (vI r))] [(4, Blk.mk true 0 0 [[AV.sl (List.map eStrm m.streams), AV.sl (List.map eSnd m.sounds)]])]) else bif !decide (least < (0 : Int)) then
  Option.bind (idx least) fun (z_3 : Nat) => Option.bind (unenc (List.map eStrm) (List.map eStrm m.streams)) fun (z_4 : List Strm) => bif decide (z_3 < List.length z_4) then
  bif bif decide (least < (0 : Int)) then true else decide ((List.getD z k (Strm.mk (ByteArray.mk (Array.mk [])) (ByteArray.mk (Array.mk [])) (0 : Int) (0 : Int) (0 : Int)
  (0 : Int) (ByteArray.mk (Array.mk [])))).peak < (List.getD z_4 z_3 (Strm.mk (ByteArray.mk (Array.mk [])) (ByteArray.mk (Array.mk [])) (0 : Int) (0 : Int) (0 : Int) (0 :
  Int) (ByteArray.mk (Array.mk [])))).peak) then some (Ex.normal, St.mk [(13, (vI (IntKind.wrap IntKind.i64 ((↑k : Int) + (1 : Int))))), (12, (vI (↑k : Int))), (11, (vI
  best)), (4, .ptr 4 0 0), (3, (vI h)), (2, (vI w)), (1, (vI r))] [(4, Blk.mk true 0 0 [[AV.sl (List.map eStrm m.streams), AV.sl (List.map eSnd m.sounds)]])]) else some
  (Ex.normal, St.mk [(13, (vI (IntKind.wrap IntKind.i64 ((↑k : Int) + (1 : Int))))), (12, (vI least)), (11, (vI best)), (4, .ptr 4 0 0), (3, (vI h)), (2, (vI w)), (1, (vI
  r))] [(4, Blk.mk true 0 0 [[AV.sl (List.map eStrm m.streams), AV.sl (List.map eSnd m.sounds)]])]) else none else bif !decide (least < (0 : Int)) then none else bif !decide
  (least < (0 : Int)) then none else bif !decide (least < (0 : Int)) then none else some (Ex.normal, St.mk [(13, (vI (IntKind.wrap IntKind.i64 ((↑k : Int) + (1 : Int))))),
  (12, (vI (↑k : Int))), (11, (vI best)), (4, .ptr 4 0 0), (3, (vI h)), (2, (vI w)), (1, (vI r))] [(4, Blk.mk true 0 0 [[AV.sl (List.map eStrm m.streams), AV.sl (List.map
  eSnd m.sounds)]])]) else none else bif decide ((List.getD z k (Strm.mk (ByteArray.mk (Array.mk [])) (ByteArray.mk (Array.mk [])) (0 : Int) (0 : Int) (0 : Int) (0 : Int)
  (ByteArray.mk (Array.mk [])))).peak ≤ r) && !decide (best < (0 : Int)) then none else bif decide ((List.getD z k (Strm.mk (ByteArray.mk (Array.mk [])) (ByteArray.mk
  (Array.mk [])) (0 : Int) (0 : Int) (0 : Int) (0 : Int) (ByteArray.mk (Array.mk [])))).peak ≤ r) && !decide (best < (0 : Int)) then none else bif decide ((List.getD z k
  (Strm.mk (ByteArray.mk (Array.mk [])) (ByteArray.mk (Array.mk [])) (0 : Int) (0 : Int) (0 : Int) (0 : Int) (ByteArray.mk (Array.mk [])))).peak ≤ r) && !decide (best < (0 :
  Int)) then none else bif bif decide ((List.getD z k (Strm.mk (ByteArray.mk (Array.mk [])) (ByteArray.mk (Array.mk [])) (0 : Int) (0 : Int) (0 : Int) (0 : Int)
  (ByteArray.mk (Array.mk [])))).peak ≤ r) then true else false then bif !decide (least < (0 : Int)) then Option.bind (idx least) fun (z_1 : Nat) => Option.bind (unenc
  (List.map eStrm) (List.map eStrm m.streams)) fun (z_2 : List Strm) => bif decide (z_1 < List.length z_2) then bif bif decide (least < (0 : Int)) then true else decide
  ((List.getD z k (Strm.mk (ByteArray.mk (Array.mk [])) (ByteArray.mk (Array.mk [])) (0 : Int) (0 : Int) (0 : Int) (0 : Int) (ByteArray.mk (Array.mk [])))).peak < (List.getD
  z_2 z_1 (Strm.mk (ByteArray.mk (Array.mk [])) (ByteArray.mk (Array.mk [])) (0 : Int) (0 : Int) (0 : Int) (0 : Int) (ByteArray.mk (Array.mk [])))).peak) then some
  (Ex.normal, St.mk [(13, (vI (IntKind.wrap IntKind.i64 ((↑k : Int) + (1 : Int))))), (12, (vI (↑k : Int))), (11, (vI (↑k : Int))), (4, .ptr 4 0 0), (3, (vI h)), (2, (vI w)),
  (1, (vI r))] [(4, Blk.mk true 0 0 [[AV.sl (List.map eStrm m.streams), AV.sl (List.map eSnd m.sounds)]])]) else some (Ex.normal, St.mk [(13, (vI (IntKind.wrap IntKind.i64
  ((↑k : Int) + (1 : Int))))), (12, (vI least)), (11, (vI (↑k : Int))), (4, .ptr 4 0 0), (3, (vI h)), (2, (vI w)), (1, (vI r))] [(4, Blk.mk true 0 0 [[AV.sl (List.map eStrm
  m.streams), AV.sl (List.map eSnd m.sounds)]])]) else none else bif !decide (least < (0 : Int)) then none else bif !decide (least < (0 : Int)) then none else bif !decide
  (least < (0 : Int)) then none else some (Ex.normal, St.mk [(13, (vI (IntKind.wrap IntKind.i64 ((↑k : Int) + (1 : Int))))), (12, (vI (↑k : Int))), (11, (vI (↑k : Int))),
  (4, .ptr 4 0 0), (3, (vI h)), (2, (vI w)), (1, (vI r))] [(4, Blk.mk true 0 0 [[AV.sl (List.map eStrm m.streams), AV.sl (List.map eSnd m.sounds)]])]) else bif !decide
  (least < (0 : Int)) then Option.bind (idx least) fun (z_1 : Nat) => Option.bind (unenc (List.map eStrm) (List.map eStrm m.streams)) fun (z_2 : List Strm) => bif decide
  (z_1 < List.length z_2) then bif bif decide (least < (0 : Int)) then true else decide ((List.getD z k (Strm.mk (ByteArray.mk (Array.mk [])) (ByteArray.mk (Array.mk [])) (0
  : Int) (0 : Int) (0 : Int) (0 : Int) (ByteArray.mk (Array.mk [])))).peak < (List.getD z_2 z_1 (Strm.mk (ByteArray.mk (Array.mk [])) (ByteArray.mk (Array.mk [])) (0 : Int)
  (0 : Int) (0 : Int) (0 : Int) (ByteArray.mk (Array.mk [])))).peak) then some (Ex.normal, St.mk [(13, (vI (IntKind.wrap IntKind.i64 ((↑k : Int) + (1 : Int))))), (12, (vI
  (↑k : Int))), (11, (vI best)), (4, .ptr 4 0 0), (3, (vI h)), (2, (vI w)), (1, (vI r))] [(4, Blk.mk true 0 0 [[AV.sl (List.map eStrm m.streams), AV.sl (List.map eSnd
  m.sounds)]])]) else some (Ex.normal, St.mk [(13, (vI (IntKind.wrap IntKind.i64 ((↑k : Int) + (1 : Int))))), (12, (vI least)), (11, (vI best)), (4, .ptr 4 0 0), (3, (vI
  h)), (2, (vI w)), (1, (vI r))] [(4, Blk.mk true 0 0 [[AV.sl (List.map eStrm m.streams), AV.sl (List.map eSnd m.sounds)]])]) else none else bif !decide (least < (0 : Int))
  then none else bif !decide (least < (0 : Int)) then none else bif !decide (least < (0 : Int)) then none else some (Ex.normal, St.mk [(13, (vI (IntKind.wrap IntKind.i64
  ((↑k : Int) + (1 : Int))))), (12, (vI (↑k : Int))), (11, (vI best)), (4, .ptr 4 0 0), (3, (vI h)), (2, (vI w)), (1, (vI r))] [(4, Blk.mk true 0 0 [[AV.sl (List.map eStrm
  m.streams), AV.sl (List.map eSnd m.sounds)]])]) else none else some (Ex.exit (0 : Nat), St.mk [(12, (vI least)), (11, (vI best))] []) := by kernel_rfl

theorem lpRBs_ok (m : Mas) (r : Int) (w : Int) (h : Int) (best : Int) (least : Int) (k : Nat) (hp : prlRBs m r w h best least k = true) : ∀ ex s', (outRBs m r w h best least k).val = some (ex, s') → LoopOK enRBs (loopN Tryd.f7 0) (stRBs m r w h best least k) ex s' := by
  simp only [prlRBs, Bool.and_eq_true, decide_eq_true_eq] at hp
  obtain ⟨⟨⟨⟨⟨⟨⟨h1, h2⟩, h3⟩, h4⟩, h5⟩, h6⟩, h7⟩, h8⟩ := hp
  refine loop_fold (xs := m.streams.zipIdx) (st := fun a k => stRBs m r w h a.1 a.2 k) (f := F.bstS m.streams r w h) (fin := fun a => (.exit 0, ⟨[(12, vI a.2), (11, vI a.1)], []⟩)) (I := F.bstI) (n := ([13, 12, 11, 4, 3, 2, 1], [4])) (e := ([12, 11], [])) (r := ([], [])) ?_ (fun _ => ⟨by simp, rfl⟩) (fun _ _ => rfl) ?_ (best, least) k (by simp; exact h2) ⟨⟨h3, h4⟩, h5, h6⟩
  · rintro ⟨a, c⟩ _
    rw [evRBsL]; simp
  · rintro ⟨a, c⟩ k y hy hI
    obtain ⟨ha, hk⟩ := F.zipIdx_at hy
    have hlt := lt_at ha
    refine ⟨?_, by have := F.bstI_step (l := m.streams) (r := r) (w := w) (h := h) (a := (a, c)) (p := y) (by rw [hk]; exact hI); rw [hk] at this; exact this⟩
    obtain ⟨⟨i1, i2⟩, i3, i4⟩ := hI
    simp only at i1 i2 i3 i4
    have ew : (w == 0) = !decide (0 < w) := by by_cases q : 0 < w <;> simp [q] <;> omega
    have eh : (h == 0) = !decide (0 < h) := by by_cases q : 0 < h <;> simp [q] <;> omega
    rw [evRBsL]
    simp only [unRM, unWithin, unRMw, preRM1, preWithin1, unstRBs, unstRBs0, prlRBs, outRBs, etaEnt, etaLst, etaSnd, etaStrm, etaMas, Option.bind_some, List.length_map, unStrs, unInts, unBools, unEnts, unItms, unTrns, cond_true, cond_false, Bool.and_true, Bool.true_and, unSnds, unStrms, cast_lt hlt, decide_eq_true hlt, next_at hlt h1, getD_at ha, stRBs, F.bstS, F.lt, F.le, hk, eMas, eStrm, ew, eh]
    have fa : ¬ a < 0 → idx a = some a.toNat ∧ decide (a.toNat < m.streams.length) = true := fun h => at_toNat (by omega) (by omega)
    have fc : ¬ c < 0 → idx c = some c.toNat ∧ decide (c.toNat < m.streams.length) = true := fun h => at_toNat (by omega) (by omega)
    have dflt : (default : Strm) = ⟨⟨#[]⟩, ⟨#[]⟩, 0, 0, 0, 0, ⟨#[]⟩⟩ := rfl
    rw [dflt]
    by_cases ga : a < 0 <;> by_cases gc : c < 0
    · simp only [ga, gc, decide_true, Bool.not_true, Bool.not_false, Bool.and_true, Bool.and_false, Bool.true_or, cond_true, cond_false]
      cases decide (0 < w) <;> cases decide (0 < h) <;> cases decide (w < y.1.width) <;> cases decide (h < y.1.height) <;> cases decide (y.1.peak ≤ r) <;> rfl
    · obtain ⟨f1, f2⟩ := fc gc
      simp only [ga, gc, f1, f2, Option.bind_some, decide_true, decide_false, Bool.not_true, Bool.not_false, Bool.and_true, Bool.and_false, Bool.true_or, Bool.false_or, cond_true, cond_false]
      generalize decide (y.1.peak < _) = e1
      cases decide (0 < w) <;> cases decide (0 < h) <;> cases decide (w < y.1.width) <;> cases decide (h < y.1.height) <;> cases decide (y.1.peak ≤ r) <;> cases e1 <;> rfl
    · obtain ⟨f1, f2⟩ := fa ga
      simp only [ga, gc, f1, f2, Option.bind_some, decide_true, decide_false, Bool.not_true, Bool.not_false, Bool.and_true, Bool.and_false, Bool.true_or, Bool.false_or, cond_true, cond_false]
      generalize decide (_ < y.1.mean) = e1
      cases decide (0 < w) <;> cases decide (0 < h) <;> cases decide (w < y.1.width) <;> cases decide (h < y.1.height) <;> cases decide (y.1.peak ≤ r) <;> cases e1 <;> rfl
    · obtain ⟨f1, f2⟩ := fa ga
      obtain ⟨f3, f4⟩ := fc gc
      simp only [ga, gc, f1, f2, f3, f4, Option.bind_some, decide_true, decide_false, Bool.not_true, Bool.not_false, Bool.and_true, Bool.and_false, Bool.true_or, Bool.false_or, cond_true, cond_false]
      generalize decide (_ < y.1.mean) = e1
      generalize decide (y.1.peak < _) = e2
      cases decide (0 < w) <;> cases decide (0 < h) <;> cases decide (w < y.1.width) <;> cases decide (h < y.1.height) <;> cases decide (y.1.peak ≤ r) <;> cases e1 <;> cases e2 <;> rfl

theorem evRBs (m : Mas) (r : Int) (w : Int) (h : Int) : (runF enRBs false Tryd.f7 [.agg (eMas m), vI r, vI w, vI h]).val =
  Option.bind (unenc encRM [AV.agg [AV.sl (List.map eStrm m.streams), AV.sl (List.map eSnd m.sounds)]]) fun (z : Mas) => bif F.chkM z != (0 : Int) then some (AV.tup [(vI (0
  : Int)), (vI (F.chkM z))], []) else Option.bind (unenc encWithin [(vI r), (vI (0 : Int)), (vI (10000000000 : Int))]) fun (z : Int × Int × Int) => bif !!F.within z.fst
  z.snd.fst z.snd.snd then Option.bind (unenc encWithin [(vI w), (vI (0 : Int)), (vI (20000 : Int))]) fun (z_1 : Int × Int × Int) => bif !bif !F.within z.fst z.snd.fst
  z.snd.snd then true else !F.within z_1.fst z_1.snd.fst z_1.snd.snd then Option.bind (unenc encWithin [(vI h), (vI (0 : Int)), (vI (20000 : Int))]) fun (z_2 : Int × Int ×
  Int) => bif bif bif !F.within z.fst z.snd.fst z.snd.snd then true else !F.within z_1.fst z_1.snd.fst z_1.snd.snd then true else !F.within z_2.fst z_2.snd.fst z_2.snd.snd
  then some (AV.tup [(vI (0 : Int)), (vI (1 : Int))], []) else Option.bind (unenc stRBs1 (St.mk [(13, (vI (0 : Int))), (12, (vI (-1 : Int))), (11, (vI (-1 : Int))), (4, .ptr
  4 0 0), (3, (vI h)), (2, (vI w)), (1, (vI r))] [(4, Blk.mk true 0 0 [[AV.sl (List.map eStrm m.streams), AV.sl (List.map eSnd m.sounds)]])])) fun (z : Mas × Int × Int × Int
  × Int × Int × Nat) => bif decide (List.length z.fst.streams ≤ (9223372036854775807 : Nat)) && decide (z.snd.snd.snd.snd.snd.snd ≤ List.length z.fst.streams) && decide ((-1
  : Int) ≤ z.snd.snd.snd.snd.fst) && decide (z.snd.snd.snd.snd.fst < (↑z.snd.snd.snd.snd.snd.snd : Int)) && decide ((-1 : Int) ≤ z.snd.snd.snd.snd.snd.fst) && decide
  (z.snd.snd.snd.snd.snd.fst < (↑z.snd.snd.snd.snd.snd.snd : Int)) && decide ((0 : Int) ≤ z.snd.snd.fst) && decide ((0 : Int) ≤ z.snd.snd.snd.fst) && true then bif decide
  ((F.bst z.fst.streams z.snd.fst z.snd.snd.fst z.snd.snd.snd.fst (z.snd.snd.snd.snd.fst, z.snd.snd.snd.snd.snd.fst) (List.drop z.snd.snd.snd.snd.snd.snd (List.zipIdx
  z.fst.streams))).fst < (0 : Int)) then bif decide ((F.bst z.fst.streams z.snd.fst z.snd.snd.fst z.snd.snd.snd.fst (z.snd.snd.snd.snd.fst, z.snd.snd.snd.snd.snd.fst)
  (List.drop z.snd.snd.snd.snd.snd.snd (List.zipIdx z.fst.streams))).snd < (0 : Int)) then some (AV.tup [(vI (0 : Int)), (vI (9 : Int))], []) else some (AV.tup [(vI (F.bst
  z.fst.streams z.snd.fst z.snd.snd.fst z.snd.snd.snd.fst (z.snd.snd.snd.snd.fst, z.snd.snd.snd.snd.snd.fst) (List.drop z.snd.snd.snd.snd.snd.snd (List.zipIdx
  z.fst.streams))).snd), (vI (0 : Int))], []) else bif decide ((F.bst z.fst.streams z.snd.fst z.snd.snd.fst z.snd.snd.snd.fst (z.snd.snd.snd.snd.fst,
  z.snd.snd.snd.snd.snd.fst) (List.drop z.snd.snd.snd.snd.snd.snd (List.zipIdx z.fst.streams))).fst < (0 : Int)) then some (AV.tup [(vI (0 : Int)), (vI (9 : Int))], []) else
  some (AV.tup [(vI (F.bst z.fst.streams z.snd.fst z.snd.snd.fst z.snd.snd.snd.fst (z.snd.snd.snd.snd.fst, z.snd.snd.snd.snd.snd.fst) (List.drop z.snd.snd.snd.snd.snd.snd
  (List.zipIdx z.fst.streams))).fst), (vI (0 : Int))], []) else none else bif !bif !F.within z.fst z.snd.fst z.snd.snd then true else !F.within z_1.fst z_1.snd.fst
  z_1.snd.snd then none else some (AV.tup [(vI (0 : Int)), (vI (1 : Int))], []) else bif !!F.within z.fst z.snd.fst z.snd.snd then none else some (AV.tup [(vI (0 : Int)),
  (vI (1 : Int))], []) := by kernel_rfl

def encRBs1 (m : Mas) (r : Int) (w : Int) (h : Int) : List AV := [.agg (eMas m), vI r, vI w, vI h]

def encRBs (a : Mas × Int × Int × Int) : List AV := encRBs1 a.1 a.2.1 a.2.2.1 a.2.2.2

theorem encRBs_inj (a a' : Mas × Int × Int × Int) (h : encRBs a = encRBs a') : a = a' := by
  simp only [encRBs, encRBs1] at h
  try simp [strs_inj, ents_inj, eEnt_iff, eLst_iff, eSnds_inj, eSnd_iff, eStrms_inj, eStrm_iff, eMas_iff] at h
  grind

theorem unRBs (m : Mas) (r : Int) (w : Int) (h : Int) : unenc encRBs ([AV.agg [AV.sl (List.map eStrm m.streams), AV.sl (List.map eSnd m.sounds)], (vI r), (vI w), (vI h)]) = some (m, r, w, h) := unenc_of encRBs_inj (m, r, w, h) rfl

theorem unRBsw (m_streams : List Strm) (m_sounds : List Snd) (r : Int) (w : Int) (h : Int) : unenc encRBs ([AV.agg [AV.sl (List.map eStrm m_streams), AV.sl (List.map eSnd m_sounds)], (vI r), (vI w), (vI h)]) = some ((Mas.mk m_streams m_sounds), r, w, h) := unenc_of encRBs_inj ((Mas.mk m_streams m_sounds), r, w, h) rfl

def resRBs1 (m : Mas) (r : Int) (w : Int) (h : Int) : AV × Heap := (.tup [vI (F.best m r w h).1, vI (F.best m r w h).2], [])

def preRBs1 (m : Mas) (r : Int) (w : Int) (h : Int) : Bool := true

noncomputable def oRBs : Orc := orc 7 true encRBs (fun a => preRBs1 a.1 a.2.1 a.2.2.1 a.2.2.2) fun a => resRBs1 a.1 a.2.1 a.2.2.1 a.2.2.2

theorem okRBs : OrcOK Tryd.prog noG oRBs := by
  refine mk_ok Tryd.f7 (keep := false) (by kernel_rfl) (by kernel_rfl) enRBs_ok mixed (one_loop (x0 := loopN Tryd.f7 0) (by kernel_rfl) (lpo_ok ?_)) (by first | exact fun _ _ => ⟨rfl, rfl⟩ | (intro h; cases h)) ?_
  · rintro ⟨m, r, w, h, best, least, k⟩ hp
    exact lpRBs_ok m r w h best least k hp
  rintro ⟨m, r, w, h⟩ hpre hok
  show (runF enRBs false _ (encRBs1 _ _ _ _)).val = some (resRBs1 _ _ _ _)
  unfold encRBs1 resRBs1
  rw [evRBs]
  obtain ⟨h1, h2⟩ := mas_len (hok _ (List.mem_cons_self ..))
  simp only [unRM, unWithin, unRMw, preRM1, preWithin1, unstRBs, unstRBs0, prlRBs, outRBs, etaEnt, etaLst, etaSnd, etaStrm, etaMas, Option.bind_some, List.length_map, unStrs, unInts, unBools, unEnts, unItms, unTrns, cond_true, cond_false, Bool.and_true, Bool.true_and, unSnds, unStrms, h1, List.drop_zero, Nat.zero_le, decide_true, F.best, F.le, F.within_eq]
  cases F.chkM m != 0
  · cases F.out r 0 10000000000
    · cases hw : F.out w 0 20000
      · cases hh : F.out h 0 20000
        · have g1 : decide (0 ≤ w) = true := decide_eq_true (by simp [F.out] at hw; omega)
          have g2 : decide (0 ≤ h) = true := decide_eq_true (by simp [F.out] at hh; omega)
          simp only [g1, g2, Bool.or_self, cond_false, cond_true, Bool.not_false, Bool.not_true, Bool.and_self, (by decide : decide ((-1 : Int) ≤ -1) = true), (by decide : decide ((-1 : Int) < ((0 : Nat) : Int)) = true)]
          generalize F.bst m.streams r w h (-1, -1) m.streams.zipIdx = a
          by_cases q1 : 0 ≤ a.1
          · have p1 : decide (a.1 < 0) = false := decide_eq_false (by omega)
            simp only [q1, p1, decide_true, cond_true, cond_false]
          · have p1 : decide (a.1 < 0) = true := decide_eq_true (by omega)
            by_cases q2 : 0 ≤ a.2
            · have p2 : decide (a.2 < 0) = false := decide_eq_false (by omega)
              simp only [q1, q2, p1, p2, decide_true, decide_false, cond_true, cond_false]
            · have p2 : decide (a.2 < 0) = true := decide_eq_true (by omega)
              simp only [q1, q2, p1, p2, decide_true, decide_false, cond_true, cond_false]
        · rfl
      · rfl
    · rfl
  · rfl

end M
end Go.Proofs.YtkfhfjcgegimbaaDoor
