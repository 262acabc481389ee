/- What is proved here: arguments of the program's types read as plain data (no statement of the seat). -/
import Derived.Test.YthcfbeckhgngiaaGreatDoorM8
import Derived.Test.YthcfbeckhgngiaaGreatDoorC0
namespace Go.Proofs.YthcfbeckhgngiaaGreatDoor.M
open Go.ChangeShapes Go.WideShapes Go.ChangeAt Go.RowKit Go.Deep
set_option linter.unusedVariables false

theorem own : ownKnob Tryz.prog.godebug = none := by kernel_rfl

theorem laidOut : laidOutB Tryz.prog = true := by kernel_rfl

theorem op_int : OpnU Tryz.prog 3 (cI) (fun _ => True) := (opn_int Tryz.underlying3).small

theorem cells_int : Tryz.prog.cellsOf 3 = 1 := by kernel_rfl

theorem op_string : OpnU Tryz.prog 9 (cS) (smS) := opnU_str Tryz.underlying9

theorem cells_string : Tryz.prog.cellsOf 9 = 1 := by kernel_rfl

theorem bytes_string : Tryz.prog.bytesOf 9 = 16 := by kernel_rfl

theorem cells_sstring : Tryz.prog.cellsOf 37 = 1 := by kernel_rfl

theorem op_sstring : OpnU Tryz.prog 37 (cSl (cS)) (KU (smS)) := opnU_slice Tryz.underlying37 cells_string bytes_string (by decide) (fun _ => rfl) op_string

theorem op_bool : OpnU Tryz.prog 4 (cB) (fun _ => True) := (opn_bool Tryz.underlying4).small

theorem cells_bool : Tryz.prog.cellsOf 4 = 1 := by kernel_rfl

def kCap (x : Cap) : Prop := (KU (smS)) x.lines

theorem cells_Cap : Tryz.prog.cellsOf 41 = 6 := by kernel_rfl

set_option maxRecDepth 100000 in
theorem op_Cap : OpnU Tryz.prog 41 eCap kCap := by
  intro H enc w fuel cs d p h hw hbk
  obtain ⟨hl, hf⟩ := opnU_fields Tryz.underlying41 h hw hbk
  obtain ⟨x0, r0, k0⟩ : ∃ x, RL (R0 w (Inn w)) ((cI) x) ((cs.drop 0).take (Tryz.prog.cellsOf 3)) ∧ (fun _ => True) x := hf 0 _ rfl op_int
  rw [cells_int] at r0
  obtain ⟨x1, r1, k1⟩ : ∃ x, RL (R0 w (Inn w)) ((cI) x) ((cs.drop 1).take (Tryz.prog.cellsOf 3)) ∧ (fun _ => True) x := hf 1 _ rfl op_int
  rw [cells_int] at r1
  obtain ⟨x2, r2, k2⟩ : ∃ x, RL (R0 w (Inn w)) ((cSl (cS)) x) ((cs.drop 2).take (Tryz.prog.cellsOf 37)) ∧ (KU (smS)) x := hf 2 _ rfl op_sstring
  rw [cells_sstring] at r2
  obtain ⟨x3, r3, k3⟩ : ∃ x, RL (R0 w (Inn w)) ((cI) x) ((cs.drop 3).take (Tryz.prog.cellsOf 3)) ∧ (fun _ => True) x := hf 3 _ rfl op_int
  rw [cells_int] at r3
  obtain ⟨x4, r4, k4⟩ : ∃ x, RL (R0 w (Inn w)) ((cB) x) ((cs.drop 4).take (Tryz.prog.cellsOf 4)) ∧ (fun _ => True) x := hf 4 _ rfl op_bool
  rw [cells_bool] at r4
  obtain ⟨x5, r5, k5⟩ : ∃ x, RL (R0 w (Inn w)) ((cB) x) ((cs.drop 5).take (Tryz.prog.cellsOf 4)) ∧ (fun _ => True) x := hf 5 _ rfl op_bool
  rw [cells_bool] at r5
  rw [cells_Cap] at hl
  match cs, hl with
  | [c0, c1, c2, c3, c4, c5], _ =>
    refine ⟨⟨x0, x1, x2, x3, x4, x5⟩, ?_, k2⟩
    show RL (R0 w (Inn w)) (((cI) x0) ++ (((cI) x1) ++ (((cSl (cS)) x2) ++ (((cI) x3) ++ (((cB) x4) ++ (((cB) x5))))))) ([c0] ++ ([c1] ++ ([c2] ++ ([c3] ++ ([c4] ++ ([c5]))))))
    exact RL.append r0 (RL.append r1 (RL.append r2 (RL.append r3 (RL.append r4 (r5)))))

def kMch (x : Mch) : Prop := True

def kWrd (x : Wrd) : Prop := (smS) x.text

def kFnd (x : Fnd) : Prop := True

def kRatio (x : Ratio) : Prop := True

def kWay (x : Way) : Prop := True

theorem cells_Way : Tryz.prog.cellsOf 89 = 3 := by kernel_rfl

set_option maxRecDepth 100000 in
theorem op_Way : OpnU Tryz.prog 89 eWay kWay := by
  intro H enc w fuel cs d p h hw hbk
  obtain ⟨hl, hf⟩ := opnU_fields Tryz.underlying89 h hw hbk
  obtain ⟨x0, r0, k0⟩ : ∃ x, RL (R0 w (Inn w)) ((cI) x) ((cs.drop 0).take (Tryz.prog.cellsOf 3)) ∧ (fun _ => True) x := hf 0 _ rfl op_int
  rw [cells_int] at r0
  obtain ⟨x1, r1, k1⟩ : ∃ x, RL (R0 w (Inn w)) ((cI) x) ((cs.drop 1).take (Tryz.prog.cellsOf 3)) ∧ (fun _ => True) x := hf 1 _ rfl op_int
  rw [cells_int] at r1
  obtain ⟨x2, r2, k2⟩ : ∃ x, RL (R0 w (Inn w)) ((cI) x) ((cs.drop 2).take (Tryz.prog.cellsOf 3)) ∧ (fun _ => True) x := hf 2 _ rfl op_int
  rw [cells_int] at r2
  rw [cells_Way] at hl
  match cs, hl with
  | [c0, c1, c2], _ =>
    refine ⟨⟨x0, x1, x2⟩, ?_, trivial⟩
    show RL (R0 w (Inn w)) (((cI) x0) ++ (((cI) x1) ++ (((cI) x2)))) ([c0] ++ ([c1] ++ ([c2])))
    exact RL.append r0 (RL.append r1 (r2))

theorem bytes_Cap : Tryz.prog.bytesOf 41 = 56 := by kernel_rfl

theorem cells_sCap : Tryz.prog.cellsOf 22 = 1 := by kernel_rfl

theorem op_sCap : OpnU Tryz.prog 22 (cSl (eCap)) (KU (kCap)) := opnU_slice Tryz.underlying22 cells_Cap bytes_Cap (by decide) (fun _ => rfl) op_Cap

theorem bytes_sCap : Tryz.prog.bytesOf 22 = 24 := by kernel_rfl

theorem bytes_int : Tryz.prog.bytesOf 3 = 8 := by kernel_rfl

end Go.Proofs.YthcfbeckhgngiaaGreatDoor.M
