/- What is proved here: arguments of the program's types read as plain data (no statement of the seat). -/
import Derived.Test.YtgkjfochkhiojaaDoorM8
import Derived.Test.YtgkjfochkhiojaaDoorE0
import Derived.Test.YtgkjfochkhiojaaDoorE30
namespace Go.Proofs.YtgkjfochkhiojaaDoor.M
open Go.ChangeShapes Go.WideShapes Go.ChangeAt Go.RowKit Go.Deep
set_option linter.unusedVariables false

theorem own : ownKnob Tryd.prog.godebug = none := by kernel_rfl

theorem laidOut : laidOutB Tryd.prog = true := by kernel_rfl

theorem op_string : OpnU Tryd.prog 9 (cS) (smS) := opnU_str Tryd.underlying9

theorem cells_string : Tryd.prog.cellsOf 9 = 1 := by kernel_rfl

theorem op_int : OpnU Tryd.prog 3 (cI) (fun _ => True) := (opn_int Tryd.underlying3).small

theorem cells_int : Tryd.prog.cellsOf 3 = 1 := by kernel_rfl

theorem op_bool : OpnU Tryd.prog 4 (cB) (fun _ => True) := (opn_bool Tryd.underlying4).small

theorem cells_bool : Tryd.prog.cellsOf 4 = 1 := by kernel_rfl

theorem bytes_string : Tryd.prog.bytesOf 9 = 16 := by kernel_rfl

theorem cells_sstring : Tryd.prog.cellsOf 42 = 1 := by kernel_rfl

theorem op_sstring : OpnU Tryd.prog 42 (cSl (cS)) (KU (smS)) := opnU_slice Tryd.underlying42 cells_string bytes_string (by decide) (fun _ => rfl) op_string

def kEnt (x : Ent) : Prop := (smS) x.uri ∧ (smS) x.key ∧ (KU (smS)) x.extra

theorem cells_Ent : Tryd.prog.cellsOf 44 = 7 := by kernel_rfl

set_option maxRecDepth 100000 in
theorem op_Ent : OpnU Tryd.prog 44 eEnt kEnt := by
  intro H enc w fuel cs d p h hw hbk
  obtain ⟨hl, hf⟩ := opnU_fields Tryd.underlying44 h hw hbk
  obtain ⟨x0, r0, k0⟩ : ∃ x, RL (R0 w (Inn w)) ((cS) x) ((cs.drop 0).take (Tryd.prog.cellsOf 9)) ∧ (smS) x := hf 0 _ rfl op_string
  rw [cells_string] at r0
  obtain ⟨x1, r1, k1⟩ : ∃ x, RL (R0 w (Inn w)) ((cI) x) ((cs.drop 1).take (Tryd.prog.cellsOf 3)) ∧ (fun _ => True) x := hf 1 _ rfl op_int
  rw [cells_int] at r1
  obtain ⟨x2, r2, k2⟩ : ∃ x, RL (R0 w (Inn w)) ((cB) x) ((cs.drop 2).take (Tryd.prog.cellsOf 4)) ∧ (fun _ => True) x := hf 2 _ rfl op_bool
  rw [cells_bool] at r2
  obtain ⟨x3, r3, k3⟩ : ∃ x, RL (R0 w (Inn w)) ((cI) x) ((cs.drop 3).take (Tryd.prog.cellsOf 3)) ∧ (fun _ => True) x := hf 3 _ rfl op_int
  rw [cells_int] at r3
  obtain ⟨x4, r4, k4⟩ : ∃ x, RL (R0 w (Inn w)) ((cS) x) ((cs.drop 4).take (Tryd.prog.cellsOf 9)) ∧ (smS) x := hf 4 _ rfl op_string
  rw [cells_string] at r4
  obtain ⟨x5, r5, k5⟩ : ∃ x, RL (R0 w (Inn w)) ((cB) x) ((cs.drop 5).take (Tryd.prog.cellsOf 4)) ∧ (fun _ => True) x := hf 5 _ rfl op_bool
  rw [cells_bool] at r5
  obtain ⟨x6, r6, k6⟩ : ∃ x, RL (R0 w (Inn w)) ((cSl (cS)) x) ((cs.drop 6).take (Tryd.prog.cellsOf 42)) ∧ (KU (smS)) x := hf 6 _ rfl op_sstring
  rw [cells_sstring] at r6
  rw [cells_Ent] at hl
  match cs, hl with
  | [c0, c1, c2, c3, c4, c5, c6], _ =>
    refine ⟨⟨x0, x1, x2, x3, x4, x5, x6⟩, ?_, k0, k4, k6⟩
    show RL (R0 w (Inn w)) (((cS) x0) ++ (((cI) x1) ++ (((cB) x2) ++ (((cI) x3) ++ (((cS) x4) ++ (((cB) x5) ++ (((cSl (cS)) x6)))))))) ([c0] ++ ([c1] ++ ([c2] ++ ([c3] ++ ([c4] ++ ([c5] ++ ([c6])))))))
    exact RL.append r0 (RL.append r1 (RL.append r2 (RL.append r3 (RL.append r4 (RL.append r5 (r6))))))

theorem bytes_Ent : Tryd.prog.bytesOf 44 = 88 := by kernel_rfl

theorem cells_sEnt : Tryd.prog.cellsOf 22 = 1 := by kernel_rfl

theorem op_sEnt : OpnU Tryd.prog 22 (cSl (eEnt)) (KU (kEnt)) := opnU_slice Tryd.underlying22 cells_Ent bytes_Ent (by decide) (fun _ => rfl) op_Ent

def kLst (x : Lst) : Prop := (KU (kEnt)) x.entries

theorem cells_Lst : Tryd.prog.cellsOf 24 = 5 := by kernel_rfl

set_option maxRecDepth 100000 in
theorem op_Lst : OpnU Tryd.prog 24 eLst kLst := by
  intro H enc w fuel cs d p h hw hbk
  obtain ⟨hl, hf⟩ := opnU_fields Tryd.underlying24 h hw hbk
  obtain ⟨x0, r0, k0⟩ : ∃ x, RL (R0 w (Inn w)) ((cI) x) ((cs.drop 0).take (Tryd.prog.cellsOf 3)) ∧ (fun _ => True) x := hf 0 _ rfl op_int
  rw [cells_int] at r0
  obtain ⟨x1, r1, k1⟩ : ∃ x, RL (R0 w (Inn w)) ((cI) x) ((cs.drop 1).take (Tryd.prog.cellsOf 3)) ∧ (fun _ => True) x := hf 1 _ rfl op_int
  rw [cells_int] at r1
  obtain ⟨x2, r2, k2⟩ : ∃ x, RL (R0 w (Inn w)) ((cI) x) ((cs.drop 2).take (Tryd.prog.cellsOf 3)) ∧ (fun _ => True) x := hf 2 _ rfl op_int
  rw [cells_int] at r2
  obtain ⟨x3, r3, k3⟩ : ∃ x, RL (R0 w (Inn w)) ((cSl (eEnt)) x) ((cs.drop 3).take (Tryd.prog.cellsOf 22)) ∧ (KU (kEnt)) x := hf 3 _ rfl op_sEnt
  rw [cells_sEnt] at r3
  obtain ⟨x4, r4, k4⟩ : ∃ x, RL (R0 w (Inn w)) ((cB) x) ((cs.drop 4).take (Tryd.prog.cellsOf 4)) ∧ (fun _ => True) x := hf 4 _ rfl op_bool
  rw [cells_bool] at r4
  rw [cells_Lst] at hl
  match cs, hl with
  | [c0, c1, c2, c3, c4], _ =>
    refine ⟨⟨x0, x1, x2, x3, x4⟩, ?_, k3⟩
    show RL (R0 w (Inn w)) (((cI) x0) ++ (((cI) x1) ++ (((cI) x2) ++ (((cSl (eEnt)) x3) ++ (((cB) x4)))))) ([c0] ++ ([c1] ++ ([c2] ++ ([c3] ++ ([c4])))))
    exact RL.append r0 (RL.append r1 (RL.append r2 (RL.append r3 (r4))))

def kItm (x : Itm) : Prop := (kEnt) x.entry

def kCli (x : Cli) : Prop := (kLst) x.last ∧ (KU (kItm)) x.queue

def kTrn (x : Trn) : Prop := (kEnt) x.entry

theorem bytes_bool : Tryd.prog.bytesOf 4 = 1 := by kernel_rfl

def kSnd (x : Snd) : Prop := (smS) x.group ∧ (smS) x.name ∧ (smS) x.lang ∧ (smS) x.uri

def kStrm (x : Strm) : Prop := (smS) x.name ∧ (smS) x.uri ∧ (smS) x.sound

def kMas (x : Mas) : Prop := (KU (kStrm)) x.streams ∧ (KU (kSnd)) x.sounds

end Go.Proofs.YtgkjfochkhiojaaDoor.M
