/- What is proved here: arguments of the program's types read as plain data (no statement of the seat). -/
import Derived.Test.YtipngpndgniagaaGreatDoorM8
import Derived.Test.YtipngpndgniagaaGreatDoorE0
import Derived.Test.YtipngpndgniagaaGreatDoorE30
namespace Go.Proofs.YtipngpndgniagaaGreatDoor.M
open Go.ChangeShapes Go.WideShapes Go.ChangeAt Go.RowKit Go.Deep
set_option linter.unusedVariables false

theorem own : ownKnob Tryz.prog.godebug = none := by kernel_rfl

theorem laidOut : laidOutB Tryz.prog = true := by kernel_rfl

theorem op_string : OpnU Tryz.prog 9 (cS) (smS) := opnU_str Tryz.underlying9

theorem cells_string : Tryz.prog.cellsOf 9 = 1 := by kernel_rfl

theorem op_int : OpnU Tryz.prog 3 (cI) (fun _ => True) := (opn_int Tryz.underlying3).small

theorem cells_int : Tryz.prog.cellsOf 3 = 1 := by kernel_rfl

theorem op_bool : OpnU Tryz.prog 4 (cB) (fun _ => True) := (opn_bool Tryz.underlying4).small

theorem cells_bool : Tryz.prog.cellsOf 4 = 1 := by kernel_rfl

theorem bytes_string : Tryz.prog.bytesOf 9 = 16 := by kernel_rfl

theorem cells_sstring : Tryz.prog.cellsOf 42 = 1 := by kernel_rfl

theorem op_sstring : OpnU Tryz.prog 42 (cSl (cS)) (KU (smS)) := opnU_slice Tryz.underlying42 cells_string bytes_string (by decide) (fun _ => rfl) op_string

def kEnt (x : Ent) : Prop := (smS) x.uri ∧ (smS) x.key ∧ (KU (smS)) x.extra

theorem cells_Ent : Tryz.prog.cellsOf 61 = 7 := by kernel_rfl

set_option maxRecDepth 100000 in
theorem op_Ent : OpnU Tryz.prog 61 eEnt kEnt := by
  intro H enc w fuel cs d p h hw hbk
  obtain ⟨hl, hf⟩ := opnU_fields Tryz.underlying61 h hw hbk
  obtain ⟨x0, r0, k0⟩ : ∃ x, RL (R0 w (Inn w)) ((cS) x) ((cs.drop 0).take (Tryz.prog.cellsOf 9)) ∧ (smS) x := hf 0 _ rfl op_string
  rw [cells_string] at r0
  obtain ⟨x1, r1, k1⟩ : ∃ x, RL (R0 w (Inn w)) ((cI) x) ((cs.drop 1).take (Tryz.prog.cellsOf 3)) ∧ (fun _ => True) x := hf 1 _ rfl op_int
  rw [cells_int] at r1
  obtain ⟨x2, r2, k2⟩ : ∃ x, RL (R0 w (Inn w)) ((cB) x) ((cs.drop 2).take (Tryz.prog.cellsOf 4)) ∧ (fun _ => True) x := hf 2 _ rfl op_bool
  rw [cells_bool] at r2
  obtain ⟨x3, r3, k3⟩ : ∃ x, RL (R0 w (Inn w)) ((cI) x) ((cs.drop 3).take (Tryz.prog.cellsOf 3)) ∧ (fun _ => True) x := hf 3 _ rfl op_int
  rw [cells_int] at r3
  obtain ⟨x4, r4, k4⟩ : ∃ x, RL (R0 w (Inn w)) ((cS) x) ((cs.drop 4).take (Tryz.prog.cellsOf 9)) ∧ (smS) x := hf 4 _ rfl op_string
  rw [cells_string] at r4
  obtain ⟨x5, r5, k5⟩ : ∃ x, RL (R0 w (Inn w)) ((cB) x) ((cs.drop 5).take (Tryz.prog.cellsOf 4)) ∧ (fun _ => True) x := hf 5 _ rfl op_bool
  rw [cells_bool] at r5
  obtain ⟨x6, r6, k6⟩ : ∃ x, RL (R0 w (Inn w)) ((cSl (cS)) x) ((cs.drop 6).take (Tryz.prog.cellsOf 42)) ∧ (KU (smS)) x := hf 6 _ rfl op_sstring
  rw [cells_sstring] at r6
  rw [cells_Ent] at hl
  match cs, hl with
  | [c0, c1, c2, c3, c4, c5, c6], _ =>
    refine ⟨⟨x0, x1, x2, x3, x4, x5, x6⟩, ?_, k0, k4, k6⟩
    show RL (R0 w (Inn w)) (((cS) x0) ++ (((cI) x1) ++ (((cB) x2) ++ (((cI) x3) ++ (((cS) x4) ++ (((cB) x5) ++ (((cSl (cS)) x6)))))))) ([c0] ++ ([c1] ++ ([c2] ++ ([c3] ++ ([c4] ++ ([c5] ++ ([c6])))))))
    exact RL.append r0 (RL.append r1 (RL.append r2 (RL.append r3 (RL.append r4 (RL.append r5 (r6))))))

theorem bytes_Ent : Tryz.prog.bytesOf 61 = 88 := by kernel_rfl

theorem cells_sEnt : Tryz.prog.cellsOf 62 = 1 := by kernel_rfl

theorem op_sEnt : OpnU Tryz.prog 62 (cSl (eEnt)) (KU (kEnt)) := opnU_slice Tryz.underlying62 cells_Ent bytes_Ent (by decide) (fun _ => rfl) op_Ent

def kLst (x : Lst) : Prop := (KU (kEnt)) x.entries

theorem cells_Lst : Tryz.prog.cellsOf 64 = 5 := by kernel_rfl

set_option maxRecDepth 100000 in
theorem op_Lst : OpnU Tryz.prog 64 eLst kLst := by
  intro H enc w fuel cs d p h hw hbk
  obtain ⟨hl, hf⟩ := opnU_fields Tryz.underlying64 h hw hbk
  obtain ⟨x0, r0, k0⟩ : ∃ x, RL (R0 w (Inn w)) ((cI) x) ((cs.drop 0).take (Tryz.prog.cellsOf 3)) ∧ (fun _ => True) x := hf 0 _ rfl op_int
  rw [cells_int] at r0
  obtain ⟨x1, r1, k1⟩ : ∃ x, RL (R0 w (Inn w)) ((cI) x) ((cs.drop 1).take (Tryz.prog.cellsOf 3)) ∧ (fun _ => True) x := hf 1 _ rfl op_int
  rw [cells_int] at r1
  obtain ⟨x2, r2, k2⟩ : ∃ x, RL (R0 w (Inn w)) ((cI) x) ((cs.drop 2).take (Tryz.prog.cellsOf 3)) ∧ (fun _ => True) x := hf 2 _ rfl op_int
  rw [cells_int] at r2
  obtain ⟨x3, r3, k3⟩ : ∃ x, RL (R0 w (Inn w)) ((cSl (eEnt)) x) ((cs.drop 3).take (Tryz.prog.cellsOf 62)) ∧ (KU (kEnt)) x := hf 3 _ rfl op_sEnt
  rw [cells_sEnt] at r3
  obtain ⟨x4, r4, k4⟩ : ∃ x, RL (R0 w (Inn w)) ((cB) x) ((cs.drop 4).take (Tryz.prog.cellsOf 4)) ∧ (fun _ => True) x := hf 4 _ rfl op_bool
  rw [cells_bool] at r4
  rw [cells_Lst] at hl
  match cs, hl with
  | [c0, c1, c2, c3, c4], _ =>
    refine ⟨⟨x0, x1, x2, x3, x4⟩, ?_, k3⟩
    show RL (R0 w (Inn w)) (((cI) x0) ++ (((cI) x1) ++ (((cI) x2) ++ (((cSl (eEnt)) x3) ++ (((cB) x4)))))) ([c0] ++ ([c1] ++ ([c2] ++ ([c3] ++ ([c4])))))
    exact RL.append r0 (RL.append r1 (RL.append r2 (RL.append r3 (r4))))

def kItm (x : Itm) : Prop := (kEnt) x.entry

def kCli (x : Cli) : Prop := (kLst) x.last ∧ (KU (kItm)) x.queue

def kTrn (x : Trn) : Prop := (kEnt) x.entry

theorem bytes_bool : Tryz.prog.bytesOf 4 = 1 := by kernel_rfl

def kSnd (x : Snd) : Prop := (smS) x.group ∧ (smS) x.name ∧ (smS) x.lang ∧ (smS) x.uri

theorem cells_Snd : Tryz.prog.cellsOf 48 = 5 := by kernel_rfl

set_option maxRecDepth 100000 in
theorem op_Snd : OpnU Tryz.prog 48 eSnd kSnd := by
  intro H enc w fuel cs d p h hw hbk
  obtain ⟨hl, hf⟩ := opnU_fields Tryz.underlying48 h hw hbk
  obtain ⟨x0, r0, k0⟩ : ∃ x, RL (R0 w (Inn w)) ((cS) x) ((cs.drop 0).take (Tryz.prog.cellsOf 9)) ∧ (smS) x := hf 0 _ rfl op_string
  rw [cells_string] at r0
  obtain ⟨x1, r1, k1⟩ : ∃ x, RL (R0 w (Inn w)) ((cS) x) ((cs.drop 1).take (Tryz.prog.cellsOf 9)) ∧ (smS) x := hf 1 _ rfl op_string
  rw [cells_string] at r1
  obtain ⟨x2, r2, k2⟩ : ∃ x, RL (R0 w (Inn w)) ((cS) x) ((cs.drop 2).take (Tryz.prog.cellsOf 9)) ∧ (smS) x := hf 2 _ rfl op_string
  rw [cells_string] at r2
  obtain ⟨x3, r3, k3⟩ : ∃ x, RL (R0 w (Inn w)) ((cB) x) ((cs.drop 3).take (Tryz.prog.cellsOf 4)) ∧ (fun _ => True) x := hf 3 _ rfl op_bool
  rw [cells_bool] at r3
  obtain ⟨x4, r4, k4⟩ : ∃ x, RL (R0 w (Inn w)) ((cS) x) ((cs.drop 4).take (Tryz.prog.cellsOf 9)) ∧ (smS) x := hf 4 _ rfl op_string
  rw [cells_string] at r4
  rw [cells_Snd] at hl
  match cs, hl with
  | [c0, c1, c2, c3, c4], _ =>
    refine ⟨⟨x0, x1, x2, x3, x4⟩, ?_, k0, k1, k2, k4⟩
    show RL (R0 w (Inn w)) (((cS) x0) ++ (((cS) x1) ++ (((cS) x2) ++ (((cB) x3) ++ (((cS) x4)))))) ([c0] ++ ([c1] ++ ([c2] ++ ([c3] ++ ([c4])))))
    exact RL.append r0 (RL.append r1 (RL.append r2 (RL.append r3 (r4))))

def kStrm (x : Strm) : Prop := (smS) x.name ∧ (smS) x.uri ∧ (smS) x.sound

theorem cells_Strm : Tryz.prog.cellsOf 52 = 7 := by kernel_rfl

set_option maxRecDepth 100000 in
theorem op_Strm : OpnU Tryz.prog 52 eStrm kStrm := by
  intro H enc w fuel cs d p h hw hbk
  obtain ⟨hl, hf⟩ := opnU_fields Tryz.underlying52 h hw hbk
  obtain ⟨x0, r0, k0⟩ : ∃ x, RL (R0 w (Inn w)) ((cS) x) ((cs.drop 0).take (Tryz.prog.cellsOf 9)) ∧ (smS) x := hf 0 _ rfl op_string
  rw [cells_string] at r0
  obtain ⟨x1, r1, k1⟩ : ∃ x, RL (R0 w (Inn w)) ((cS) x) ((cs.drop 1).take (Tryz.prog.cellsOf 9)) ∧ (smS) x := hf 1 _ rfl op_string
  rw [cells_string] at r1
  obtain ⟨x2, r2, k2⟩ : ∃ x, RL (R0 w (Inn w)) ((cI) x) ((cs.drop 2).take (Tryz.prog.cellsOf 3)) ∧ (fun _ => True) x := hf 2 _ rfl op_int
  rw [cells_int] at r2
  obtain ⟨x3, r3, k3⟩ : ∃ x, RL (R0 w (Inn w)) ((cI) x) ((cs.drop 3).take (Tryz.prog.cellsOf 3)) ∧ (fun _ => True) x := hf 3 _ rfl op_int
  rw [cells_int] at r3
  obtain ⟨x4, r4, k4⟩ : ∃ x, RL (R0 w (Inn w)) ((cI) x) ((cs.drop 4).take (Tryz.prog.cellsOf 3)) ∧ (fun _ => True) x := hf 4 _ rfl op_int
  rw [cells_int] at r4
  obtain ⟨x5, r5, k5⟩ : ∃ x, RL (R0 w (Inn w)) ((cI) x) ((cs.drop 5).take (Tryz.prog.cellsOf 3)) ∧ (fun _ => True) x := hf 5 _ rfl op_int
  rw [cells_int] at r5
  obtain ⟨x6, r6, k6⟩ : ∃ x, RL (R0 w (Inn w)) ((cS) x) ((cs.drop 6).take (Tryz.prog.cellsOf 9)) ∧ (smS) x := hf 6 _ rfl op_string
  rw [cells_string] at r6
  rw [cells_Strm] at hl
  match cs, hl with
  | [c0, c1, c2, c3, c4, c5, c6], _ =>
    refine ⟨⟨x0, x1, x2, x3, x4, x5, x6⟩, ?_, k0, k1, k6⟩
    show RL (R0 w (Inn w)) (((cS) x0) ++ (((cS) x1) ++ (((cI) x2) ++ (((cI) x3) ++ (((cI) x4) ++ (((cI) x5) ++ (((cS) x6)))))))) ([c0] ++ ([c1] ++ ([c2] ++ ([c3] ++ ([c4] ++ ([c5] ++ ([c6])))))))
    exact RL.append r0 (RL.append r1 (RL.append r2 (RL.append r3 (RL.append r4 (RL.append r5 (r6))))))

theorem bytes_Strm : Tryz.prog.bytesOf 52 = 80 := by kernel_rfl

theorem cells_sStrm : Tryz.prog.cellsOf 22 = 1 := by kernel_rfl

theorem op_sStrm : OpnU Tryz.prog 22 (cSl (eStrm)) (KU (kStrm)) := opnU_slice Tryz.underlying22 cells_Strm bytes_Strm (by decide) (fun _ => rfl) op_Strm

theorem bytes_Snd : Tryz.prog.bytesOf 48 = 72 := by kernel_rfl

theorem cells_sSnd : Tryz.prog.cellsOf 23 = 1 := by kernel_rfl

theorem op_sSnd : OpnU Tryz.prog 23 (cSl (eSnd)) (KU (kSnd)) := opnU_slice Tryz.underlying23 cells_Snd bytes_Snd (by decide) (fun _ => rfl) op_Snd

def kMas (x : Mas) : Prop := (KU (kStrm)) x.streams ∧ (KU (kSnd)) x.sounds

theorem cells_Mas : Tryz.prog.cellsOf 25 = 2 := by kernel_rfl

set_option maxRecDepth 100000 in
theorem op_Mas : OpnU Tryz.prog 25 eMas kMas := by
  intro H enc w fuel cs d p h hw hbk
  obtain ⟨hl, hf⟩ := opnU_fields Tryz.underlying25 h hw hbk
  obtain ⟨x0, r0, k0⟩ : ∃ x, RL (R0 w (Inn w)) ((cSl (eStrm)) x) ((cs.drop 0).take (Tryz.prog.cellsOf 22)) ∧ (KU (kStrm)) x := hf 0 _ rfl op_sStrm
  rw [cells_sStrm] at r0
  obtain ⟨x1, r1, k1⟩ : ∃ x, RL (R0 w (Inn w)) ((cSl (eSnd)) x) ((cs.drop 1).take (Tryz.prog.cellsOf 23)) ∧ (KU (kSnd)) x := hf 1 _ rfl op_sSnd
  rw [cells_sSnd] at r1
  rw [cells_Mas] at hl
  match cs, hl with
  | [c0, c1], _ =>
    refine ⟨⟨x0, x1⟩, ?_, k0, k1⟩
    show RL (R0 w (Inn w)) (((cSl (eStrm)) x0) ++ (((cSl (eSnd)) x1))) ([c0] ++ ([c1]))
    exact RL.append r0 (r1)

end Go.Proofs.YtipngpndgniagaaGreatDoor.M
