/- What is proved here: arguments of the program's types read as plain data (no statement of the seat). -/
import Derived.Test.YtlemjphdhapfpaaGreatDoorM8
import Derived.Test.YtlemjphdhapfpaaGreatDoorD0
namespace Go.Proofs.YtlemjphdhapfpaaGreatDoor.M
open Go.ChangeShapes Go.WideShapes Go.ChangeAt Go.RowKit Go.Deep
set_option linter.unusedVariables false

theorem own : ownKnob Tryz.prog.godebug = none := by kernel_rfl

theorem laidOut : laidOutB Tryz.prog = true := by kernel_rfl

def cU8 (n : Int) : List AV := [.v (.int .u8 n)]

theorem opn_u8 {P : Program} {t : TypeId} (ht : P.underlying t = some (.int .u8)) : Opn P t cU8 (fun _ => True) := by
  intro H enc w fuel cs d p h hw
  obtain ⟨n, rfl, _, hn⟩ := DataW.trod_int ht h
  refine ⟨n, ⟨.v ?_, trivial⟩, trivial⟩
  have := bounds_u8 hn
  simp only [okAtom, IntKind.min, IntKind.max, IntKind.signed, IntKind.bits]
  simp
  omega

theorem op_string : OpnU Tryz.prog 9 (cS) (smS) := opnU_str Tryz.underlying9

theorem cells_string : Tryz.prog.cellsOf 9 = 1 := by kernel_rfl

theorem op_int : OpnU Tryz.prog 3 (cI) (fun _ => True) := (opn_int Tryz.underlying3).small

theorem cells_int : Tryz.prog.cellsOf 3 = 1 := by kernel_rfl

theorem op_bool : OpnU Tryz.prog 4 (cB) (fun _ => True) := (opn_bool Tryz.underlying4).small

theorem cells_bool : Tryz.prog.cellsOf 4 = 1 := by kernel_rfl

theorem bytes_string : Tryz.prog.bytesOf 9 = 16 := by kernel_rfl

theorem cells_sstring : Tryz.prog.cellsOf 44 = 1 := by kernel_rfl

theorem op_sstring : OpnU Tryz.prog 44 (cSl (cS)) (KU (smS)) := opnU_slice Tryz.underlying44 cells_string bytes_string (by decide) (fun _ => rfl) op_string

def kEnt (x : Ent) : Prop := (smS) x.uri ∧ (smS) x.key ∧ (KU (smS)) x.extra

theorem cells_Ent : Tryz.prog.cellsOf 46 = 7 := by kernel_rfl

set_option maxRecDepth 100000 in
theorem op_Ent : OpnU Tryz.prog 46 eEnt kEnt := by
  intro H enc w fuel cs d p h hw hbk
  obtain ⟨hl, hf⟩ := opnU_fields Tryz.underlying46 h hw hbk
  obtain ⟨x0, r0, k0⟩ : ∃ x, RL (R0 w (Inn w)) ((cS) x) ((cs.drop 0).take (Tryz.prog.cellsOf 9)) ∧ (smS) x := hf 0 _ rfl op_string
  rw [cells_string] at r0
  obtain ⟨x1, r1, k1⟩ : ∃ x, RL (R0 w (Inn w)) ((cI) x) ((cs.drop 1).take (Tryz.prog.cellsOf 3)) ∧ (fun _ => True) x := hf 1 _ rfl op_int
  rw [cells_int] at r1
  obtain ⟨x2, r2, k2⟩ : ∃ x, RL (R0 w (Inn w)) ((cB) x) ((cs.drop 2).take (Tryz.prog.cellsOf 4)) ∧ (fun _ => True) x := hf 2 _ rfl op_bool
  rw [cells_bool] at r2
  obtain ⟨x3, r3, k3⟩ : ∃ x, RL (R0 w (Inn w)) ((cI) x) ((cs.drop 3).take (Tryz.prog.cellsOf 3)) ∧ (fun _ => True) x := hf 3 _ rfl op_int
  rw [cells_int] at r3
  obtain ⟨x4, r4, k4⟩ : ∃ x, RL (R0 w (Inn w)) ((cS) x) ((cs.drop 4).take (Tryz.prog.cellsOf 9)) ∧ (smS) x := hf 4 _ rfl op_string
  rw [cells_string] at r4
  obtain ⟨x5, r5, k5⟩ : ∃ x, RL (R0 w (Inn w)) ((cB) x) ((cs.drop 5).take (Tryz.prog.cellsOf 4)) ∧ (fun _ => True) x := hf 5 _ rfl op_bool
  rw [cells_bool] at r5
  obtain ⟨x6, r6, k6⟩ : ∃ x, RL (R0 w (Inn w)) ((cSl (cS)) x) ((cs.drop 6).take (Tryz.prog.cellsOf 44)) ∧ (KU (smS)) x := hf 6 _ rfl op_sstring
  rw [cells_sstring] at r6
  rw [cells_Ent] at hl
  match cs, hl with
  | [c0, c1, c2, c3, c4, c5, c6], _ =>
    refine ⟨⟨x0, x1, x2, x3, x4, x5, x6⟩, ?_, k0, k4, k6⟩
    show RL (R0 w (Inn w)) (((cS) x0) ++ (((cI) x1) ++ (((cB) x2) ++ (((cI) x3) ++ (((cS) x4) ++ (((cB) x5) ++ (((cSl (cS)) x6)))))))) ([c0] ++ ([c1] ++ ([c2] ++ ([c3] ++ ([c4] ++ ([c5] ++ ([c6])))))))
    exact RL.append r0 (RL.append r1 (RL.append r2 (RL.append r3 (RL.append r4 (RL.append r5 (r6))))))

theorem bytes_Ent : Tryz.prog.bytesOf 46 = 88 := by kernel_rfl

theorem cells_sEnt : Tryz.prog.cellsOf 22 = 1 := by kernel_rfl

theorem op_sEnt : OpnU Tryz.prog 22 (cSl (eEnt)) (KU (kEnt)) := opnU_slice Tryz.underlying22 cells_Ent bytes_Ent (by decide) (fun _ => rfl) op_Ent

def kLst (x : Lst) : Prop := (KU (kEnt)) x.entries

theorem cells_Lst : Tryz.prog.cellsOf 24 = 5 := by kernel_rfl

set_option maxRecDepth 100000 in
theorem op_Lst : OpnU Tryz.prog 24 eLst kLst := by
  intro H enc w fuel cs d p h hw hbk
  obtain ⟨hl, hf⟩ := opnU_fields Tryz.underlying24 h hw hbk
  obtain ⟨x0, r0, k0⟩ : ∃ x, RL (R0 w (Inn w)) ((cI) x) ((cs.drop 0).take (Tryz.prog.cellsOf 3)) ∧ (fun _ => True) x := hf 0 _ rfl op_int
  rw [cells_int] at r0
  obtain ⟨x1, r1, k1⟩ : ∃ x, RL (R0 w (Inn w)) ((cI) x) ((cs.drop 1).take (Tryz.prog.cellsOf 3)) ∧ (fun _ => True) x := hf 1 _ rfl op_int
  rw [cells_int] at r1
  obtain ⟨x2, r2, k2⟩ : ∃ x, RL (R0 w (Inn w)) ((cI) x) ((cs.drop 2).take (Tryz.prog.cellsOf 3)) ∧ (fun _ => True) x := hf 2 _ rfl op_int
  rw [cells_int] at r2
  obtain ⟨x3, r3, k3⟩ : ∃ x, RL (R0 w (Inn w)) ((cSl (eEnt)) x) ((cs.drop 3).take (Tryz.prog.cellsOf 22)) ∧ (KU (kEnt)) x := hf 3 _ rfl op_sEnt
  rw [cells_sEnt] at r3
  obtain ⟨x4, r4, k4⟩ : ∃ x, RL (R0 w (Inn w)) ((cB) x) ((cs.drop 4).take (Tryz.prog.cellsOf 4)) ∧ (fun _ => True) x := hf 4 _ rfl op_bool
  rw [cells_bool] at r4
  rw [cells_Lst] at hl
  match cs, hl with
  | [c0, c1, c2, c3, c4], _ =>
    refine ⟨⟨x0, x1, x2, x3, x4⟩, ?_, k3⟩
    show RL (R0 w (Inn w)) (((cI) x0) ++ (((cI) x1) ++ (((cI) x2) ++ (((cSl (eEnt)) x3) ++ (((cB) x4)))))) ([c0] ++ ([c1] ++ ([c2] ++ ([c3] ++ ([c4])))))
    exact RL.append r0 (RL.append r1 (RL.append r2 (RL.append r3 (r4))))

def kSeg (x : Seg) : Prop := True

theorem cells_Seg : Tryz.prog.cellsOf 40 = 7 := by kernel_rfl

set_option maxRecDepth 100000 in
theorem op_Seg : OpnU Tryz.prog 40 eSeg kSeg := by
  intro H enc w fuel cs d p h hw hbk
  obtain ⟨hl, hf⟩ := opnU_fields Tryz.underlying40 h hw hbk
  obtain ⟨x0, r0, k0⟩ : ∃ x, RL (R0 w (Inn w)) ((cI) x) ((cs.drop 0).take (Tryz.prog.cellsOf 3)) ∧ (fun _ => True) x := hf 0 _ rfl op_int
  rw [cells_int] at r0
  obtain ⟨x1, r1, k1⟩ : ∃ x, RL (R0 w (Inn w)) ((cI) x) ((cs.drop 1).take (Tryz.prog.cellsOf 3)) ∧ (fun _ => True) x := hf 1 _ rfl op_int
  rw [cells_int] at r1
  obtain ⟨x2, r2, k2⟩ : ∃ x, RL (R0 w (Inn w)) ((cI) x) ((cs.drop 2).take (Tryz.prog.cellsOf 3)) ∧ (fun _ => True) x := hf 2 _ rfl op_int
  rw [cells_int] at r2
  obtain ⟨x3, r3, k3⟩ : ∃ x, RL (R0 w (Inn w)) ((cI) x) ((cs.drop 3).take (Tryz.prog.cellsOf 3)) ∧ (fun _ => True) x := hf 3 _ rfl op_int
  rw [cells_int] at r3
  obtain ⟨x4, r4, k4⟩ : ∃ x, RL (R0 w (Inn w)) ((cI) x) ((cs.drop 4).take (Tryz.prog.cellsOf 3)) ∧ (fun _ => True) x := hf 4 _ rfl op_int
  rw [cells_int] at r4
  obtain ⟨x5, r5, k5⟩ : ∃ x, RL (R0 w (Inn w)) ((cI) x) ((cs.drop 5).take (Tryz.prog.cellsOf 3)) ∧ (fun _ => True) x := hf 5 _ rfl op_int
  rw [cells_int] at r5
  obtain ⟨x6, r6, k6⟩ : ∃ x, RL (R0 w (Inn w)) ((cI) x) ((cs.drop 6).take (Tryz.prog.cellsOf 3)) ∧ (fun _ => True) x := hf 6 _ rfl op_int
  rw [cells_int] at r6
  rw [cells_Seg] at hl
  match cs, hl with
  | [c0, c1, c2, c3, c4, c5, c6], _ =>
    refine ⟨⟨x0, x1, x2, x3, x4, x5, x6⟩, ?_, trivial⟩
    show RL (R0 w (Inn w)) (((cI) x0) ++ (((cI) x1) ++ (((cI) x2) ++ (((cI) x3) ++ (((cI) x4) ++ (((cI) x5) ++ (((cI) x6)))))))) ([c0] ++ ([c1] ++ ([c2] ++ ([c3] ++ ([c4] ++ ([c5] ++ ([c6])))))))
    exact RL.append r0 (RL.append r1 (RL.append r2 (RL.append r3 (RL.append r4 (RL.append r5 (r6))))))

theorem op_uint8 : OpnU Tryz.prog 5 (cU8) (fun _ => True) := (opn_u8 Tryz.underlying5).small

theorem cells_uint8 : Tryz.prog.cellsOf 5 = 1 := by kernel_rfl

theorem bytes_uint8 : Tryz.prog.bytesOf 5 = 1 := by kernel_rfl

theorem cells_suint8 : Tryz.prog.cellsOf 26 = 1 := by kernel_rfl

theorem op_suint8 : OpnU Tryz.prog 26 (cSl (cU8)) (KU (fun _ => True)) := opnU_slice Tryz.underlying26 cells_uint8 bytes_uint8 (by decide) (fun _ => rfl) op_uint8

def kRot (x : Rot) : Prop := (KU (fun _ => True)) x.seed

theorem cells_Rot : Tryz.prog.cellsOf 28 = 4 := by kernel_rfl

set_option maxRecDepth 100000 in
theorem op_Rot : OpnU Tryz.prog 28 eRot kRot := by
  intro H enc w fuel cs d p h hw hbk
  obtain ⟨hl, hf⟩ := opnU_fields Tryz.underlying28 h hw hbk
  obtain ⟨x0, r0, k0⟩ : ∃ x, RL (R0 w (Inn w)) ((cI) x) ((cs.drop 0).take (Tryz.prog.cellsOf 3)) ∧ (fun _ => True) x := hf 0 _ rfl op_int
  rw [cells_int] at r0
  obtain ⟨x1, r1, k1⟩ : ∃ x, RL (R0 w (Inn w)) ((cI) x) ((cs.drop 1).take (Tryz.prog.cellsOf 3)) ∧ (fun _ => True) x := hf 1 _ rfl op_int
  rw [cells_int] at r1
  obtain ⟨x2, r2, k2⟩ : ∃ x, RL (R0 w (Inn w)) ((cI) x) ((cs.drop 2).take (Tryz.prog.cellsOf 3)) ∧ (fun _ => True) x := hf 2 _ rfl op_int
  rw [cells_int] at r2
  obtain ⟨x3, r3, k3⟩ : ∃ x, RL (R0 w (Inn w)) ((cSl (cU8)) x) ((cs.drop 3).take (Tryz.prog.cellsOf 26)) ∧ (KU (fun _ => True)) x := hf 3 _ rfl op_suint8
  rw [cells_suint8] at r3
  rw [cells_Rot] at hl
  match cs, hl with
  | [c0, c1, c2, c3], _ =>
    refine ⟨⟨x0, x1, x2, x3⟩, ?_, k3⟩
    show RL (R0 w (Inn w)) (((cI) x0) ++ (((cI) x1) ++ (((cI) x2) ++ (((cSl (cU8)) x3))))) ([c0] ++ ([c1] ++ ([c2] ++ ([c3]))))
    exact RL.append r0 (RL.append r1 (RL.append r2 (r3)))

def kBeat (x : Beat) : Prop := (smS) x.session

theorem cells_Beat : Tryz.prog.cellsOf 64 = 5 := by kernel_rfl

set_option maxRecDepth 100000 in
theorem op_Beat : OpnU Tryz.prog 64 eBeat kBeat := by
  intro H enc w fuel cs d p h hw hbk
  obtain ⟨hl, hf⟩ := opnU_fields Tryz.underlying64 h hw hbk
  obtain ⟨x0, r0, k0⟩ : ∃ x, RL (R0 w (Inn w)) ((cS) x) ((cs.drop 0).take (Tryz.prog.cellsOf 9)) ∧ (smS) x := hf 0 _ rfl op_string
  rw [cells_string] at r0
  obtain ⟨x1, r1, k1⟩ : ∃ x, RL (R0 w (Inn w)) ((cI) x) ((cs.drop 1).take (Tryz.prog.cellsOf 3)) ∧ (fun _ => True) x := hf 1 _ rfl op_int
  rw [cells_int] at r1
  obtain ⟨x2, r2, k2⟩ : ∃ x, RL (R0 w (Inn w)) ((cI) x) ((cs.drop 2).take (Tryz.prog.cellsOf 3)) ∧ (fun _ => True) x := hf 2 _ rfl op_int
  rw [cells_int] at r2
  obtain ⟨x3, r3, k3⟩ : ∃ x, RL (R0 w (Inn w)) ((cI) x) ((cs.drop 3).take (Tryz.prog.cellsOf 3)) ∧ (fun _ => True) x := hf 3 _ rfl op_int
  rw [cells_int] at r3
  obtain ⟨x4, r4, k4⟩ : ∃ x, RL (R0 w (Inn w)) ((cI) x) ((cs.drop 4).take (Tryz.prog.cellsOf 3)) ∧ (fun _ => True) x := hf 4 _ rfl op_int
  rw [cells_int] at r4
  rw [cells_Beat] at hl
  match cs, hl with
  | [c0, c1, c2, c3, c4], _ =>
    refine ⟨⟨x0, x1, x2, x3, x4⟩, ?_, k0⟩
    show RL (R0 w (Inn w)) (((cS) x0) ++ (((cI) x1) ++ (((cI) x2) ++ (((cI) x3) ++ (((cI) x4)))))) ([c0] ++ ([c1] ++ ([c2] ++ ([c3] ++ ([c4])))))
    exact RL.append r0 (RL.append r1 (RL.append r2 (RL.append r3 (r4))))

def kSpan (x : Span) : Prop := True

def kHole (x : Hole) : Prop := (smS) x.session

theorem cells_Hole : Tryz.prog.cellsOf 68 = 3 := by kernel_rfl

set_option maxRecDepth 100000 in
theorem op_Hole : OpnU Tryz.prog 68 eHole kHole := by
  intro H enc w fuel cs d p h hw hbk
  obtain ⟨hl, hf⟩ := opnU_fields Tryz.underlying68 h hw hbk
  obtain ⟨x0, r0, k0⟩ : ∃ x, RL (R0 w (Inn w)) ((cS) x) ((cs.drop 0).take (Tryz.prog.cellsOf 9)) ∧ (smS) x := hf 0 _ rfl op_string
  rw [cells_string] at r0
  obtain ⟨x1, r1, k1⟩ : ∃ x, RL (R0 w (Inn w)) ((cI) x) ((cs.drop 1).take (Tryz.prog.cellsOf 3)) ∧ (fun _ => True) x := hf 1 _ rfl op_int
  rw [cells_int] at r1
  obtain ⟨x2, r2, k2⟩ : ∃ x, RL (R0 w (Inn w)) ((cI) x) ((cs.drop 2).take (Tryz.prog.cellsOf 3)) ∧ (fun _ => True) x := hf 2 _ rfl op_int
  rw [cells_int] at r2
  rw [cells_Hole] at hl
  match cs, hl with
  | [c0, c1, c2], _ =>
    refine ⟨⟨x0, x1, x2⟩, ?_, k0⟩
    show RL (R0 w (Inn w)) (((cS) x0) ++ (((cI) x1) ++ (((cI) x2)))) ([c0] ++ ([c1] ++ ([c2])))
    exact RL.append r0 (RL.append r1 (r2))

theorem bytes_Seg : Tryz.prog.bytesOf 40 = 56 := by kernel_rfl

theorem cells_sSeg : Tryz.prog.cellsOf 25 = 1 := by kernel_rfl

theorem op_sSeg : OpnU Tryz.prog 25 (cSl (eSeg)) (KU (kSeg)) := opnU_slice Tryz.underlying25 cells_Seg bytes_Seg (by decide) (fun _ => rfl) op_Seg

theorem bytes_Beat : Tryz.prog.bytesOf 64 = 48 := by kernel_rfl

theorem cells_sBeat : Tryz.prog.cellsOf 65 = 1 := by kernel_rfl

theorem op_sBeat : OpnU Tryz.prog 65 (cSl (eBeat)) (KU (kBeat)) := opnU_slice Tryz.underlying65 cells_Beat bytes_Beat (by decide) (fun _ => rfl) op_Beat

end Go.Proofs.YtlemjphdhapfpaaGreatDoor.M
