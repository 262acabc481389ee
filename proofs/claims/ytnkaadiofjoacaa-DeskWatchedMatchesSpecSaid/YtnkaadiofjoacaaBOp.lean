/- What is proved here: arguments of the program's types read as plain data (no statement of the seat). -/
import Derived.Test.YtnkaadiofjoacaaM7
import Derived.Test.YtnkaadiofjoacaaB0
namespace Go.Proofs.Ytnkaadiofjoacaa.M
open Go.ChangeShapes Go.WideShapes Go.ChangeAt Go.RowKit Go.Deep
set_option linter.unusedVariables false

theorem own : ownKnob Try.prog.godebug = none := by kernel_rfl

theorem laidOut : laidOutB Try.prog = true := by kernel_rfl

theorem op_string : Opn Try.prog 9 (cS) (fun _ => True) := opn_str Try.underlying9

theorem cells_string : Try.prog.cellsOf 9 = 1 := by kernel_rfl

theorem op_int : Opn Try.prog 3 (cI) (fun _ => True) := opn_int Try.underlying3

theorem cells_int : Try.prog.cellsOf 3 = 1 := by kernel_rfl

def kBeat (x : Beat) : Prop := True

theorem cells_Beat : Try.prog.cellsOf 38 = 5 := by kernel_rfl

set_option maxRecDepth 100000 in
theorem op_Beat : Opn Try.prog 38 eBeat kBeat := by
  intro H enc w fuel cs d p h hw
  obtain ⟨hl, hf⟩ := opn_fields Try.underlying38 h hw
  obtain ⟨x0, r0, k0⟩ : ∃ x, RL (R0 w (Inn w)) ((cS) x) ((cs.drop 0).take (Try.prog.cellsOf 9)) ∧ (fun _ => True) x := hf 0 _ rfl op_string
  rw [cells_string] at r0
  obtain ⟨x1, r1, k1⟩ : ∃ x, RL (R0 w (Inn w)) ((cI) x) ((cs.drop 1).take (Try.prog.cellsOf 3)) ∧ (fun _ => True) x := hf 1 _ rfl op_int
  rw [cells_int] at r1
  obtain ⟨x2, r2, k2⟩ : ∃ x, RL (R0 w (Inn w)) ((cI) x) ((cs.drop 2).take (Try.prog.cellsOf 3)) ∧ (fun _ => True) x := hf 2 _ rfl op_int
  rw [cells_int] at r2
  obtain ⟨x3, r3, k3⟩ : ∃ x, RL (R0 w (Inn w)) ((cI) x) ((cs.drop 3).take (Try.prog.cellsOf 3)) ∧ (fun _ => True) x := hf 3 _ rfl op_int
  rw [cells_int] at r3
  obtain ⟨x4, r4, k4⟩ : ∃ x, RL (R0 w (Inn w)) ((cI) x) ((cs.drop 4).take (Try.prog.cellsOf 3)) ∧ (fun _ => True) x := hf 4 _ rfl op_int
  rw [cells_int] at r4
  rw [cells_Beat] at hl
  match cs, hl with
  | [c0, c1, c2, c3, c4], _ =>
    refine ⟨⟨x0, x1, x2, x3, x4⟩, ?_, trivial⟩
    show RL (R0 w (Inn w)) (((cS) x0) ++ (((cI) x1) ++ (((cI) x2) ++ (((cI) x3) ++ (((cI) x4)))))) ([c0] ++ ([c1] ++ ([c2] ++ ([c3] ++ ([c4])))))
    exact RL.append r0 (RL.append r1 (RL.append r2 (RL.append r3 (r4))))

def kSpan (x : Span) : Prop := True

theorem cells_Span : Try.prog.cellsOf 24 = 2 := by kernel_rfl

set_option maxRecDepth 100000 in
theorem op_Span : Opn Try.prog 24 eSpan kSpan := by
  intro H enc w fuel cs d p h hw
  obtain ⟨hl, hf⟩ := opn_fields Try.underlying24 h hw
  obtain ⟨x0, r0, k0⟩ : ∃ x, RL (R0 w (Inn w)) ((cI) x) ((cs.drop 0).take (Try.prog.cellsOf 3)) ∧ (fun _ => True) x := hf 0 _ rfl op_int
  rw [cells_int] at r0
  obtain ⟨x1, r1, k1⟩ : ∃ x, RL (R0 w (Inn w)) ((cI) x) ((cs.drop 1).take (Try.prog.cellsOf 3)) ∧ (fun _ => True) x := hf 1 _ rfl op_int
  rw [cells_int] at r1
  rw [cells_Span] at hl
  match cs, hl with
  | [c0, c1], _ =>
    refine ⟨⟨x0, x1⟩, ?_, trivial⟩
    show RL (R0 w (Inn w)) (((cI) x0) ++ (((cI) x1))) ([c0] ++ ([c1]))
    exact RL.append r0 (r1)

def kHole (x : Hole) : Prop := True

theorem cells_Hole : Try.prog.cellsOf 64 = 3 := by kernel_rfl

set_option maxRecDepth 100000 in
theorem op_Hole : Opn Try.prog 64 eHole kHole := by
  intro H enc w fuel cs d p h hw
  obtain ⟨hl, hf⟩ := opn_fields Try.underlying64 h hw
  obtain ⟨x0, r0, k0⟩ : ∃ x, RL (R0 w (Inn w)) ((cS) x) ((cs.drop 0).take (Try.prog.cellsOf 9)) ∧ (fun _ => True) x := hf 0 _ rfl op_string
  rw [cells_string] at r0
  obtain ⟨x1, r1, k1⟩ : ∃ x, RL (R0 w (Inn w)) ((cI) x) ((cs.drop 1).take (Try.prog.cellsOf 3)) ∧ (fun _ => True) x := hf 1 _ rfl op_int
  rw [cells_int] at r1
  obtain ⟨x2, r2, k2⟩ : ∃ x, RL (R0 w (Inn w)) ((cI) x) ((cs.drop 2).take (Try.prog.cellsOf 3)) ∧ (fun _ => True) x := hf 2 _ rfl op_int
  rw [cells_int] at r2
  rw [cells_Hole] at hl
  match cs, hl with
  | [c0, c1, c2], _ =>
    refine ⟨⟨x0, x1, x2⟩, ?_, trivial⟩
    show RL (R0 w (Inn w)) (((cS) x0) ++ (((cI) x1) ++ (((cI) x2)))) ([c0] ++ ([c1] ++ ([c2])))
    exact RL.append r0 (RL.append r1 (r2))

def kLevel (x : Level) : Prop := True

theorem cells_Level : Try.prog.cellsOf 30 = 2 := by kernel_rfl

set_option maxRecDepth 100000 in
theorem op_Level : Opn Try.prog 30 eLevel kLevel := by
  intro H enc w fuel cs d p h hw
  obtain ⟨hl, hf⟩ := opn_fields Try.underlying30 h hw
  obtain ⟨x0, r0, k0⟩ : ∃ x, RL (R0 w (Inn w)) ((cI) x) ((cs.drop 0).take (Try.prog.cellsOf 3)) ∧ (fun _ => True) x := hf 0 _ rfl op_int
  rw [cells_int] at r0
  obtain ⟨x1, r1, k1⟩ : ∃ x, RL (R0 w (Inn w)) ((cI) x) ((cs.drop 1).take (Try.prog.cellsOf 3)) ∧ (fun _ => True) x := hf 1 _ rfl op_int
  rw [cells_int] at r1
  rw [cells_Level] at hl
  match cs, hl with
  | [c0, c1], _ =>
    refine ⟨⟨x0, x1⟩, ?_, trivial⟩
    show RL (R0 w (Inn w)) (((cI) x0) ++ (((cI) x1))) ([c0] ++ ([c1]))
    exact RL.append r0 (r1)

theorem op_bool : Opn Try.prog 4 (cB) (fun _ => True) := opn_bool Try.underlying4

theorem cells_bool : Try.prog.cellsOf 4 = 1 := by kernel_rfl

def kFigs (x : Figs) : Prop := True

theorem cells_Figs : Try.prog.cellsOf 46 = 8 := by kernel_rfl

set_option maxRecDepth 100000 in
theorem op_Figs : Opn Try.prog 46 eFigs kFigs := by
  intro H enc w fuel cs d p h hw
  obtain ⟨hl, hf⟩ := opn_fields Try.underlying46 h hw
  obtain ⟨x0, r0, k0⟩ : ∃ x, RL (R0 w (Inn w)) ((cI) x) ((cs.drop 0).take (Try.prog.cellsOf 3)) ∧ (fun _ => True) x := hf 0 _ rfl op_int
  rw [cells_int] at r0
  obtain ⟨x1, r1, k1⟩ : ∃ x, RL (R0 w (Inn w)) ((cI) x) ((cs.drop 1).take (Try.prog.cellsOf 3)) ∧ (fun _ => True) x := hf 1 _ rfl op_int
  rw [cells_int] at r1
  obtain ⟨x2, r2, k2⟩ : ∃ x, RL (R0 w (Inn w)) ((cI) x) ((cs.drop 2).take (Try.prog.cellsOf 3)) ∧ (fun _ => True) x := hf 2 _ rfl op_int
  rw [cells_int] at r2
  obtain ⟨x3, r3, k3⟩ : ∃ x, RL (R0 w (Inn w)) ((cI) x) ((cs.drop 3).take (Try.prog.cellsOf 3)) ∧ (fun _ => True) x := hf 3 _ rfl op_int
  rw [cells_int] at r3
  obtain ⟨x4, r4, k4⟩ : ∃ x, RL (R0 w (Inn w)) ((cI) x) ((cs.drop 4).take (Try.prog.cellsOf 3)) ∧ (fun _ => True) x := hf 4 _ rfl op_int
  rw [cells_int] at r4
  obtain ⟨x5, r5, k5⟩ : ∃ x, RL (R0 w (Inn w)) ((cI) x) ((cs.drop 5).take (Try.prog.cellsOf 3)) ∧ (fun _ => True) x := hf 5 _ rfl op_int
  rw [cells_int] at r5
  obtain ⟨x6, r6, k6⟩ : ∃ x, RL (R0 w (Inn w)) ((cI) x) ((cs.drop 6).take (Try.prog.cellsOf 3)) ∧ (fun _ => True) x := hf 6 _ rfl op_int
  rw [cells_int] at r6
  obtain ⟨x7, r7, k7⟩ : ∃ x, RL (R0 w (Inn w)) ((cB) x) ((cs.drop 7).take (Try.prog.cellsOf 4)) ∧ (fun _ => True) x := hf 7 _ rfl op_bool
  rw [cells_bool] at r7
  rw [cells_Figs] at hl
  match cs, hl with
  | [c0, c1, c2, c3, c4, c5, c6, c7], _ =>
    refine ⟨⟨x0, x1, x2, x3, x4, x5, x6, x7⟩, ?_, trivial⟩
    show RL (R0 w (Inn w)) (((cI) x0) ++ (((cI) x1) ++ (((cI) x2) ++ (((cI) x3) ++ (((cI) x4) ++ (((cI) x5) ++ (((cI) x6) ++ (((cB) x7))))))))) ([c0] ++ ([c1] ++ ([c2] ++ ([c3] ++ ([c4] ++ ([c5] ++ ([c6] ++ ([c7]))))))))
    exact RL.append r0 (RL.append r1 (RL.append r2 (RL.append r3 (RL.append r4 (RL.append r5 (RL.append r6 (r7)))))))

def kRatio (x : Ratio) : Prop := True

theorem cells_Ratio : Try.prog.cellsOf 50 = 2 := by kernel_rfl

set_option maxRecDepth 100000 in
theorem op_Ratio : Opn Try.prog 50 eRatio kRatio := by
  intro H enc w fuel cs d p h hw
  obtain ⟨hl, hf⟩ := opn_fields Try.underlying50 h hw
  obtain ⟨x0, r0, k0⟩ : ∃ x, RL (R0 w (Inn w)) ((cI) x) ((cs.drop 0).take (Try.prog.cellsOf 3)) ∧ (fun _ => True) x := hf 0 _ rfl op_int
  rw [cells_int] at r0
  obtain ⟨x1, r1, k1⟩ : ∃ x, RL (R0 w (Inn w)) ((cI) x) ((cs.drop 1).take (Try.prog.cellsOf 3)) ∧ (fun _ => True) x := hf 1 _ rfl op_int
  rw [cells_int] at r1
  rw [cells_Ratio] at hl
  match cs, hl with
  | [c0, c1], _ =>
    refine ⟨⟨x0, x1⟩, ?_, trivial⟩
    show RL (R0 w (Inn w)) (((cI) x0) ++ (((cI) x1))) ([c0] ++ ([c1]))
    exact RL.append r0 (r1)

def kRep (x : Rep) : Prop := (kRatio) x.stalled ∧ (kRatio) x.mean

theorem cells_Rep : Try.prog.cellsOf 52 = 8 := by kernel_rfl

set_option maxRecDepth 100000 in
theorem op_Rep : Opn Try.prog 52 eRep kRep := by
  intro H enc w fuel cs d p h hw
  obtain ⟨hl, hf⟩ := opn_fields Try.underlying52 h hw
  obtain ⟨x0, r0, k0⟩ : ∃ x, RL (R0 w (Inn w)) ((cI) x) ((cs.drop 0).take (Try.prog.cellsOf 3)) ∧ (fun _ => True) x := hf 0 _ rfl op_int
  rw [cells_int] at r0
  obtain ⟨x1, r1, k1⟩ : ∃ x, RL (R0 w (Inn w)) ((cI) x) ((cs.drop 1).take (Try.prog.cellsOf 3)) ∧ (fun _ => True) x := hf 1 _ rfl op_int
  rw [cells_int] at r1
  obtain ⟨x2, r2, k2⟩ : ∃ x, RL (R0 w (Inn w)) ((cI) x) ((cs.drop 2).take (Try.prog.cellsOf 3)) ∧ (fun _ => True) x := hf 2 _ rfl op_int
  rw [cells_int] at r2
  obtain ⟨x3, r3, k3⟩ : ∃ x, RL (R0 w (Inn w)) ((cI) x) ((cs.drop 3).take (Try.prog.cellsOf 3)) ∧ (fun _ => True) x := hf 3 _ rfl op_int
  rw [cells_int] at r3
  obtain ⟨x4, r4, k4⟩ : ∃ x, RL (R0 w (Inn w)) ((eRatio) x) ((cs.drop 4).take (Try.prog.cellsOf 50)) ∧ (kRatio) x := hf 4 _ rfl op_Ratio
  rw [cells_Ratio] at r4
  obtain ⟨x5, r5, k5⟩ : ∃ x, RL (R0 w (Inn w)) ((eRatio) x) ((cs.drop 6).take (Try.prog.cellsOf 50)) ∧ (kRatio) x := hf 5 _ rfl op_Ratio
  rw [cells_Ratio] at r5
  rw [cells_Rep] at hl
  match cs, hl with
  | [c0, c1, c2, c3, c4, c5, c6, c7], _ =>
    refine ⟨⟨x0, x1, x2, x3, x4, x5⟩, ?_, k4, k5⟩
    show RL (R0 w (Inn w)) (((cI) x0) ++ (((cI) x1) ++ (((cI) x2) ++ (((cI) x3) ++ (((eRatio) x4) ++ (((eRatio) x5))))))) ([c0] ++ ([c1] ++ ([c2] ++ ([c3] ++ ([c4, c5] ++ ([c6, c7]))))))
    exact RL.append r0 (RL.append r1 (RL.append r2 (RL.append r3 (RL.append r4 (r5)))))

def kStay (x : Stay) : Prop := (kBeat) x.beat ∧ (kSpan) x.sp

theorem cells_Stay : Try.prog.cellsOf 70 = 7 := by kernel_rfl

set_option maxRecDepth 100000 in
theorem op_Stay : Opn Try.prog 70 eStay kStay := by
  intro H enc w fuel cs d p h hw
  obtain ⟨hl, hf⟩ := opn_fields Try.underlying70 h hw
  obtain ⟨x0, r0, k0⟩ : ∃ x, RL (R0 w (Inn w)) ((eBeat) x) ((cs.drop 0).take (Try.prog.cellsOf 38)) ∧ (kBeat) x := hf 0 _ rfl op_Beat
  rw [cells_Beat] at r0
  obtain ⟨x1, r1, k1⟩ : ∃ x, RL (R0 w (Inn w)) ((eSpan) x) ((cs.drop 5).take (Try.prog.cellsOf 24)) ∧ (kSpan) x := hf 1 _ rfl op_Span
  rw [cells_Span] at r1
  rw [cells_Stay] at hl
  match cs, hl with
  | [c0, c1, c2, c3, c4, c5, c6], _ =>
    refine ⟨⟨x0, x1⟩, ?_, k0, k1⟩
    show RL (R0 w (Inn w)) (((eBeat) x0) ++ (((eSpan) x1))) ([c0, c1, c2, c3, c4] ++ ([c5, c6]))
    exact RL.append r0 (r1)

theorem bytes_Beat : Try.prog.bytesOf 38 = 48 := by kernel_rfl

theorem cells_sBeat : Try.prog.cellsOf 22 = 1 := by kernel_rfl

theorem op_sBeat : Opn Try.prog 22 (cSl (eBeat)) (KS 48 (kBeat)) := opn_slice Try.underlying22 cells_Beat bytes_Beat (by decide) (fun _ => rfl) op_Beat

end Go.Proofs.Ytnkaadiofjoacaa.M
