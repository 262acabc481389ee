/- What is proved here: arguments of the program's types read as plain data (no statement of the seat). -/
import Derived.Test.YtkfhfjcgegimbaaM7
import Derived.Test.YtkfhfjcgegimbaaE0
namespace Go.Proofs.Ytkfhfjcgegimbaa.M
open Go.ChangeShapes Go.WideShapes Go.ChangeAt Go.RowKit Go.Deep
set_option linter.unusedVariables false

theorem own : ownKnob Try.prog.godebug = none := by kernel_rfl

theorem laidOut : laidOutB Try.prog = true := by kernel_rfl

theorem op_string : Opn Try.prog 9 (cS) (fun _ => True) := opn_str Try.underlying9

theorem cells_string : Try.prog.cellsOf 9 = 1 := by kernel_rfl

theorem op_int : Opn Try.prog 3 (cI) (fun _ => True) := opn_int Try.underlying3

theorem cells_int : Try.prog.cellsOf 3 = 1 := by kernel_rfl

theorem op_bool : Opn Try.prog 4 (cB) (fun _ => True) := opn_bool Try.underlying4

theorem cells_bool : Try.prog.cellsOf 4 = 1 := by kernel_rfl

theorem bytes_string : Try.prog.bytesOf 9 = 16 := by kernel_rfl

theorem cells_sstring : Try.prog.cellsOf 30 = 1 := by kernel_rfl

theorem op_sstring : Opn Try.prog 30 (cSl (cS)) (KS 16 (fun _ => True)) := opn_slice Try.underlying30 cells_string bytes_string (by decide) (fun _ => rfl) op_string

def kEnt (x : Ent) : Prop := (KS 16 (fun _ => True)) x.extra

theorem cells_Ent : Try.prog.cellsOf 32 = 7 := by kernel_rfl

set_option maxRecDepth 100000 in
theorem op_Ent : Opn Try.prog 32 eEnt kEnt := by
  intro H enc w fuel cs d p h hw
  obtain ⟨hl, hf⟩ := opn_fields Try.underlying32 h hw
  obtain ⟨x0, r0, k0⟩ : ∃ x, RL (R0 w (Inn w)) ((cS) x) ((cs.drop 0).take (Try.prog.cellsOf 9)) ∧ (fun _ => True) x := hf 0 _ rfl op_string
  rw [cells_string] at r0
  obtain ⟨x1, r1, k1⟩ : ∃ x, RL (R0 w (Inn w)) ((cI) x) ((cs.drop 1).take (Try.prog.cellsOf 3)) ∧ (fun _ => True) x := hf 1 _ rfl op_int
  rw [cells_int] at r1
  obtain ⟨x2, r2, k2⟩ : ∃ x, RL (R0 w (Inn w)) ((cB) x) ((cs.drop 2).take (Try.prog.cellsOf 4)) ∧ (fun _ => True) x := hf 2 _ rfl op_bool
  rw [cells_bool] at r2
  obtain ⟨x3, r3, k3⟩ : ∃ x, RL (R0 w (Inn w)) ((cI) x) ((cs.drop 3).take (Try.prog.cellsOf 3)) ∧ (fun _ => True) x := hf 3 _ rfl op_int
  rw [cells_int] at r3
  obtain ⟨x4, r4, k4⟩ : ∃ x, RL (R0 w (Inn w)) ((cS) x) ((cs.drop 4).take (Try.prog.cellsOf 9)) ∧ (fun _ => True) x := hf 4 _ rfl op_string
  rw [cells_string] at r4
  obtain ⟨x5, r5, k5⟩ : ∃ x, RL (R0 w (Inn w)) ((cB) x) ((cs.drop 5).take (Try.prog.cellsOf 4)) ∧ (fun _ => True) x := hf 5 _ rfl op_bool
  rw [cells_bool] at r5
  obtain ⟨x6, r6, k6⟩ : ∃ x, RL (R0 w (Inn w)) ((cSl (cS)) x) ((cs.drop 6).take (Try.prog.cellsOf 30)) ∧ (KS 16 (fun _ => True)) x := hf 6 _ rfl op_sstring
  rw [cells_sstring] at r6
  rw [cells_Ent] at hl
  match cs, hl with
  | [c0, c1, c2, c3, c4, c5, c6], _ =>
    refine ⟨⟨x0, x1, x2, x3, x4, x5, x6⟩, ?_, k6⟩
    show RL (R0 w (Inn w)) (((cS) x0) ++ (((cI) x1) ++ (((cB) x2) ++ (((cI) x3) ++ (((cS) x4) ++ (((cB) x5) ++ (((cSl (cS)) x6)))))))) ([c0] ++ ([c1] ++ ([c2] ++ ([c3] ++ ([c4] ++ ([c5] ++ ([c6])))))))
    exact RL.append r0 (RL.append r1 (RL.append r2 (RL.append r3 (RL.append r4 (RL.append r5 (r6))))))

theorem bytes_Ent : Try.prog.bytesOf 32 = 88 := by kernel_rfl

theorem cells_sEnt : Try.prog.cellsOf 22 = 1 := by kernel_rfl

theorem op_sEnt : Opn Try.prog 22 (cSl (eEnt)) (KS 88 (kEnt)) := opn_slice Try.underlying22 cells_Ent bytes_Ent (by decide) (fun _ => rfl) op_Ent

def kLst (x : Lst) : Prop := (KS 88 (kEnt)) x.entries

theorem cells_Lst : Try.prog.cellsOf 24 = 5 := by kernel_rfl

set_option maxRecDepth 100000 in
theorem op_Lst : Opn Try.prog 24 eLst kLst := by
  intro H enc w fuel cs d p h hw
  obtain ⟨hl, hf⟩ := opn_fields Try.underlying24 h hw
  obtain ⟨x0, r0, k0⟩ : ∃ x, RL (R0 w (Inn w)) ((cI) x) ((cs.drop 0).take (Try.prog.cellsOf 3)) ∧ (fun _ => True) x := hf 0 _ rfl op_int
  rw [cells_int] at r0
  obtain ⟨x1, r1, k1⟩ : ∃ x, RL (R0 w (Inn w)) ((cI) x) ((cs.drop 1).take (Try.prog.cellsOf 3)) ∧ (fun _ => True) x := hf 1 _ rfl op_int
  rw [cells_int] at r1
  obtain ⟨x2, r2, k2⟩ : ∃ x, RL (R0 w (Inn w)) ((cI) x) ((cs.drop 2).take (Try.prog.cellsOf 3)) ∧ (fun _ => True) x := hf 2 _ rfl op_int
  rw [cells_int] at r2
  obtain ⟨x3, r3, k3⟩ : ∃ x, RL (R0 w (Inn w)) ((cSl (eEnt)) x) ((cs.drop 3).take (Try.prog.cellsOf 22)) ∧ (KS 88 (kEnt)) x := hf 3 _ rfl op_sEnt
  rw [cells_sEnt] at r3
  obtain ⟨x4, r4, k4⟩ : ∃ x, RL (R0 w (Inn w)) ((cB) x) ((cs.drop 4).take (Try.prog.cellsOf 4)) ∧ (fun _ => True) x := hf 4 _ rfl op_bool
  rw [cells_bool] at r4
  rw [cells_Lst] at hl
  match cs, hl with
  | [c0, c1, c2, c3, c4], _ =>
    refine ⟨⟨x0, x1, x2, x3, x4⟩, ?_, k3⟩
    show RL (R0 w (Inn w)) (((cI) x0) ++ (((cI) x1) ++ (((cI) x2) ++ (((cSl (eEnt)) x3) ++ (((cB) x4)))))) ([c0] ++ ([c1] ++ ([c2] ++ ([c3] ++ ([c4])))))
    exact RL.append r0 (RL.append r1 (RL.append r2 (RL.append r3 (r4))))

def kItm (x : Itm) : Prop := (kEnt) x.entry

theorem cells_Itm : Try.prog.cellsOf 61 = 8 := by kernel_rfl

set_option maxRecDepth 100000 in
theorem op_Itm : Opn Try.prog 61 eItm kItm := by
  intro H enc w fuel cs d p h hw
  obtain ⟨hl, hf⟩ := opn_fields Try.underlying61 h hw
  obtain ⟨x0, r0, k0⟩ : ∃ x, RL (R0 w (Inn w)) ((cI) x) ((cs.drop 0).take (Try.prog.cellsOf 3)) ∧ (fun _ => True) x := hf 0 _ rfl op_int
  rw [cells_int] at r0
  obtain ⟨x1, r1, k1⟩ : ∃ x, RL (R0 w (Inn w)) ((eEnt) x) ((cs.drop 1).take (Try.prog.cellsOf 32)) ∧ (kEnt) x := hf 1 _ rfl op_Ent
  rw [cells_Ent] at r1
  rw [cells_Itm] at hl
  match cs, hl with
  | [c0, c1, c2, c3, c4, c5, c6, c7], _ =>
    refine ⟨⟨x0, x1⟩, ?_, k1⟩
    show RL (R0 w (Inn w)) (((cI) x0) ++ (((eEnt) x1))) ([c0] ++ ([c1, c2, c3, c4, c5, c6, c7]))
    exact RL.append r0 (r1)

theorem bytes_Itm : Try.prog.bytesOf 61 = 96 := by kernel_rfl

theorem cells_sItm : Try.prog.cellsOf 54 = 1 := by kernel_rfl

theorem op_sItm : Opn Try.prog 54 (cSl (eItm)) (KS 96 (kItm)) := opn_slice Try.underlying54 cells_Itm bytes_Itm (by decide) (fun _ => rfl) op_Itm

def kCli (x : Cli) : Prop := (kLst) x.last ∧ (KS 96 (kItm)) x.queue

theorem cells_Cli : Try.prog.cellsOf 56 = 9 := by kernel_rfl

set_option maxRecDepth 100000 in
theorem op_Cli : Opn Try.prog 56 eCli kCli := by
  intro H enc w fuel cs d p h hw
  obtain ⟨hl, hf⟩ := opn_fields Try.underlying56 h hw
  obtain ⟨x0, r0, k0⟩ : ∃ x, RL (R0 w (Inn w)) ((cB) x) ((cs.drop 0).take (Try.prog.cellsOf 4)) ∧ (fun _ => True) x := hf 0 _ rfl op_bool
  rw [cells_bool] at r0
  obtain ⟨x1, r1, k1⟩ : ∃ x, RL (R0 w (Inn w)) ((cI) x) ((cs.drop 1).take (Try.prog.cellsOf 3)) ∧ (fun _ => True) x := hf 1 _ rfl op_int
  rw [cells_int] at r1
  obtain ⟨x2, r2, k2⟩ : ∃ x, RL (R0 w (Inn w)) ((eLst) x) ((cs.drop 2).take (Try.prog.cellsOf 24)) ∧ (kLst) x := hf 2 _ rfl op_Lst
  rw [cells_Lst] at r2
  obtain ⟨x3, r3, k3⟩ : ∃ x, RL (R0 w (Inn w)) ((cSl (eItm)) x) ((cs.drop 7).take (Try.prog.cellsOf 54)) ∧ (KS 96 (kItm)) x := hf 3 _ rfl op_sItm
  rw [cells_sItm] at r3
  obtain ⟨x4, r4, k4⟩ : ∃ x, RL (R0 w (Inn w)) ((cI) x) ((cs.drop 8).take (Try.prog.cellsOf 3)) ∧ (fun _ => True) x := hf 4 _ rfl op_int
  rw [cells_int] at r4
  rw [cells_Cli] at hl
  match cs, hl with
  | [c0, c1, c2, c3, c4, c5, c6, c7, c8], _ =>
    refine ⟨⟨x0, x1, x2, x3, x4⟩, ?_, k2, k3⟩
    show RL (R0 w (Inn w)) (((cB) x0) ++ (((cI) x1) ++ (((eLst) x2) ++ (((cSl (eItm)) x3) ++ (((cI) x4)))))) ([c0] ++ ([c1] ++ ([c2, c3, c4, c5, c6] ++ ([c7] ++ ([c8])))))
    exact RL.append r0 (RL.append r1 (RL.append r2 (RL.append r3 (r4))))

def kTrn (x : Trn) : Prop := (kEnt) x.entry

theorem cells_Trn : Try.prog.cellsOf 52 = 9 := by kernel_rfl

set_option maxRecDepth 100000 in
theorem op_Trn : Opn Try.prog 52 eTrn kTrn := by
  intro H enc w fuel cs d p h hw
  obtain ⟨hl, hf⟩ := opn_fields Try.underlying52 h hw
  obtain ⟨x0, r0, k0⟩ : ∃ x, RL (R0 w (Inn w)) ((cI) x) ((cs.drop 0).take (Try.prog.cellsOf 3)) ∧ (fun _ => True) x := hf 0 _ rfl op_int
  rw [cells_int] at r0
  obtain ⟨x1, r1, k1⟩ : ∃ x, RL (R0 w (Inn w)) ((eEnt) x) ((cs.drop 1).take (Try.prog.cellsOf 32)) ∧ (kEnt) x := hf 1 _ rfl op_Ent
  rw [cells_Ent] at r1
  obtain ⟨x2, r2, k2⟩ : ∃ x, RL (R0 w (Inn w)) ((cI) x) ((cs.drop 8).take (Try.prog.cellsOf 3)) ∧ (fun _ => True) x := hf 2 _ rfl op_int
  rw [cells_int] at r2
  rw [cells_Trn] at hl
  match cs, hl with
  | [c0, c1, c2, c3, c4, c5, c6, c7, c8], _ =>
    refine ⟨⟨x0, x1, x2⟩, ?_, k1⟩
    show RL (R0 w (Inn w)) (((cI) x0) ++ (((eEnt) x1) ++ (((cI) x2)))) ([c0] ++ ([c1, c2, c3, c4, c5, c6, c7] ++ ([c8])))
    exact RL.append r0 (RL.append r1 (r2))

theorem bytes_Trn : Try.prog.bytesOf 52 = 104 := by kernel_rfl

theorem cells_sTrn : Try.prog.cellsOf 48 = 1 := by kernel_rfl

theorem op_sTrn : Opn Try.prog 48 (cSl (eTrn)) (KS 104 (kTrn)) := opn_slice Try.underlying48 cells_Trn bytes_Trn (by decide) (fun _ => rfl) op_Trn

theorem bytes_bool : Try.prog.bytesOf 4 = 1 := by kernel_rfl

theorem cells_sbool : Try.prog.cellsOf 66 = 1 := by kernel_rfl

theorem op_sbool : Opn Try.prog 66 (cSl (cB)) (KS 1 (fun _ => True)) := opn_slice Try.underlying66 cells_bool bytes_bool (by decide) (fun _ => rfl) op_bool

end Go.Proofs.Ytkfhfjcgegimbaa.M
