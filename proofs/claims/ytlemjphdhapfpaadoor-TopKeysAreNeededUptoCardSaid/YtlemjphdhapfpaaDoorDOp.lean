/- What is proved here: arguments of the program's types read as plain data (no statement of the seat). -/
import Derived.Test.YtlemjphdhapfpaaDoorM8
import Derived.Test.YtlemjphdhapfpaaDoorD0
namespace Go.Proofs.YtlemjphdhapfpaaDoor.M
open Go.ChangeShapes Go.WideShapes Go.ChangeAt Go.RowKit Go.Deep
set_option linter.unusedVariables false

theorem own : ownKnob Tryd.prog.godebug = none := by kernel_rfl

theorem laidOut : laidOutB Tryd.prog = true := by kernel_rfl

def cU8 (n : Int) : List AV := [.v (.int .u8 n)]

theorem opn_u8 {P : Program} {t : TypeId} (ht : P.underlying t = some (.int .u8)) : Opn P t cU8 (fun _ => True) := by
  intro H enc w fuel cs d p h hw
  obtain ⟨n, rfl, _, hn⟩ := DataW.trod_int ht h
  refine ⟨n, ⟨.v ?_, trivial⟩, trivial⟩
  have := bounds_u8 hn
  simp only [okAtom, IntKind.min, IntKind.max, IntKind.signed, IntKind.bits]
  simp
  omega

theorem op_string : OpnU Tryd.prog 9 (cS) (smS) := opnU_str Tryd.underlying9

theorem cells_string : Tryd.prog.cellsOf 9 = 1 := by kernel_rfl

theorem op_int : OpnU Tryd.prog 3 (cI) (fun _ => True) := (opn_int Tryd.underlying3).small

theorem cells_int : Tryd.prog.cellsOf 3 = 1 := by kernel_rfl

theorem op_bool : OpnU Tryd.prog 4 (cB) (fun _ => True) := (opn_bool Tryd.underlying4).small

theorem cells_bool : Tryd.prog.cellsOf 4 = 1 := by kernel_rfl

theorem bytes_string : Tryd.prog.bytesOf 9 = 16 := by kernel_rfl

theorem cells_sstring : Tryd.prog.cellsOf 45 = 1 := by kernel_rfl

theorem op_sstring : OpnU Tryd.prog 45 (cSl (cS)) (KU (smS)) := opnU_slice Tryd.underlying45 cells_string bytes_string (by decide) (fun _ => rfl) op_string

def kEnt (x : Ent) : Prop := (smS) x.uri ∧ (smS) x.key ∧ (KU (smS)) x.extra

theorem cells_Ent : Tryd.prog.cellsOf 47 = 7 := by kernel_rfl

set_option maxRecDepth 100000 in
theorem op_Ent : OpnU Tryd.prog 47 eEnt kEnt := by
  intro H enc w fuel cs d p h hw hbk
  obtain ⟨hl, hf⟩ := opnU_fields Tryd.underlying47 h hw hbk
  obtain ⟨x0, r0, k0⟩ : ∃ x, RL (R0 w (Inn w)) ((cS) x) ((cs.drop 0).take (Tryd.prog.cellsOf 9)) ∧ (smS) x := hf 0 _ rfl op_string
  rw [cells_string] at r0
  obtain ⟨x1, r1, k1⟩ : ∃ x, RL (R0 w (Inn w)) ((cI) x) ((cs.drop 1).take (Tryd.prog.cellsOf 3)) ∧ (fun _ => True) x := hf 1 _ rfl op_int
  rw [cells_int] at r1
  obtain ⟨x2, r2, k2⟩ : ∃ x, RL (R0 w (Inn w)) ((cB) x) ((cs.drop 2).take (Tryd.prog.cellsOf 4)) ∧ (fun _ => True) x := hf 2 _ rfl op_bool
  rw [cells_bool] at r2
  obtain ⟨x3, r3, k3⟩ : ∃ x, RL (R0 w (Inn w)) ((cI) x) ((cs.drop 3).take (Tryd.prog.cellsOf 3)) ∧ (fun _ => True) x := hf 3 _ rfl op_int
  rw [cells_int] at r3
  obtain ⟨x4, r4, k4⟩ : ∃ x, RL (R0 w (Inn w)) ((cS) x) ((cs.drop 4).take (Tryd.prog.cellsOf 9)) ∧ (smS) x := hf 4 _ rfl op_string
  rw [cells_string] at r4
  obtain ⟨x5, r5, k5⟩ : ∃ x, RL (R0 w (Inn w)) ((cB) x) ((cs.drop 5).take (Tryd.prog.cellsOf 4)) ∧ (fun _ => True) x := hf 5 _ rfl op_bool
  rw [cells_bool] at r5
  obtain ⟨x6, r6, k6⟩ : ∃ x, RL (R0 w (Inn w)) ((cSl (cS)) x) ((cs.drop 6).take (Tryd.prog.cellsOf 45)) ∧ (KU (smS)) x := hf 6 _ rfl op_sstring
  rw [cells_sstring] at r6
  rw [cells_Ent] at hl
  match cs, hl with
  | [c0, c1, c2, c3, c4, c5, c6], _ =>
    refine ⟨⟨x0, x1, x2, x3, x4, x5, x6⟩, ?_, k0, k4, k6⟩
    show RL (R0 w (Inn w)) (((cS) x0) ++ (((cI) x1) ++ (((cB) x2) ++ (((cI) x3) ++ (((cS) x4) ++ (((cB) x5) ++ (((cSl (cS)) x6)))))))) ([c0] ++ ([c1] ++ ([c2] ++ ([c3] ++ ([c4] ++ ([c5] ++ ([c6])))))))
    exact RL.append r0 (RL.append r1 (RL.append r2 (RL.append r3 (RL.append r4 (RL.append r5 (r6))))))

theorem bytes_Ent : Tryd.prog.bytesOf 47 = 88 := by kernel_rfl

theorem cells_sEnt : Tryd.prog.cellsOf 22 = 1 := by kernel_rfl

theorem op_sEnt : OpnU Tryd.prog 22 (cSl (eEnt)) (KU (kEnt)) := opnU_slice Tryd.underlying22 cells_Ent bytes_Ent (by decide) (fun _ => rfl) op_Ent

def kLst (x : Lst) : Prop := (KU (kEnt)) x.entries

theorem cells_Lst : Tryd.prog.cellsOf 24 = 5 := by kernel_rfl

set_option maxRecDepth 100000 in
theorem op_Lst : OpnU Tryd.prog 24 eLst kLst := by
  intro H enc w fuel cs d p h hw hbk
  obtain ⟨hl, hf⟩ := opnU_fields Tryd.underlying24 h hw hbk
  obtain ⟨x0, r0, k0⟩ : ∃ x, RL (R0 w (Inn w)) ((cI) x) ((cs.drop 0).take (Tryd.prog.cellsOf 3)) ∧ (fun _ => True) x := hf 0 _ rfl op_int
  rw [cells_int] at r0
  obtain ⟨x1, r1, k1⟩ : ∃ x, RL (R0 w (Inn w)) ((cI) x) ((cs.drop 1).take (Tryd.prog.cellsOf 3)) ∧ (fun _ => True) x := hf 1 _ rfl op_int
  rw [cells_int] at r1
  obtain ⟨x2, r2, k2⟩ : ∃ x, RL (R0 w (Inn w)) ((cI) x) ((cs.drop 2).take (Tryd.prog.cellsOf 3)) ∧ (fun _ => True) x := hf 2 _ rfl op_int
  rw [cells_int] at r2
  obtain ⟨x3, r3, k3⟩ : ∃ x, RL (R0 w (Inn w)) ((cSl (eEnt)) x) ((cs.drop 3).take (Tryd.prog.cellsOf 22)) ∧ (KU (kEnt)) x := hf 3 _ rfl op_sEnt
  rw [cells_sEnt] at r3
  obtain ⟨x4, r4, k4⟩ : ∃ x, RL (R0 w (Inn w)) ((cB) x) ((cs.drop 4).take (Tryd.prog.cellsOf 4)) ∧ (fun _ => True) x := hf 4 _ rfl op_bool
  rw [cells_bool] at r4
  rw [cells_Lst] at hl
  match cs, hl with
  | [c0, c1, c2, c3, c4], _ =>
    refine ⟨⟨x0, x1, x2, x3, x4⟩, ?_, k3⟩
    show RL (R0 w (Inn w)) (((cI) x0) ++ (((cI) x1) ++ (((cI) x2) ++ (((cSl (eEnt)) x3) ++ (((cB) x4)))))) ([c0] ++ ([c1] ++ ([c2] ++ ([c3] ++ ([c4])))))
    exact RL.append r0 (RL.append r1 (RL.append r2 (RL.append r3 (r4))))

def kSeg (x : Seg) : Prop := True

theorem cells_Seg : Tryd.prog.cellsOf 35 = 7 := by kernel_rfl

set_option maxRecDepth 100000 in
theorem op_Seg : OpnU Tryd.prog 35 eSeg kSeg := by
  intro H enc w fuel cs d p h hw hbk
  obtain ⟨hl, hf⟩ := opnU_fields Tryd.underlying35 h hw hbk
  obtain ⟨x0, r0, k0⟩ : ∃ x, RL (R0 w (Inn w)) ((cI) x) ((cs.drop 0).take (Tryd.prog.cellsOf 3)) ∧ (fun _ => True) x := hf 0 _ rfl op_int
  rw [cells_int] at r0
  obtain ⟨x1, r1, k1⟩ : ∃ x, RL (R0 w (Inn w)) ((cI) x) ((cs.drop 1).take (Tryd.prog.cellsOf 3)) ∧ (fun _ => True) x := hf 1 _ rfl op_int
  rw [cells_int] at r1
  obtain ⟨x2, r2, k2⟩ : ∃ x, RL (R0 w (Inn w)) ((cI) x) ((cs.drop 2).take (Tryd.prog.cellsOf 3)) ∧ (fun _ => True) x := hf 2 _ rfl op_int
  rw [cells_int] at r2
  obtain ⟨x3, r3, k3⟩ : ∃ x, RL (R0 w (Inn w)) ((cI) x) ((cs.drop 3).take (Tryd.prog.cellsOf 3)) ∧ (fun _ => True) x := hf 3 _ rfl op_int
  rw [cells_int] at r3
  obtain ⟨x4, r4, k4⟩ : ∃ x, RL (R0 w (Inn w)) ((cI) x) ((cs.drop 4).take (Tryd.prog.cellsOf 3)) ∧ (fun _ => True) x := hf 4 _ rfl op_int
  rw [cells_int] at r4
  obtain ⟨x5, r5, k5⟩ : ∃ x, RL (R0 w (Inn w)) ((cI) x) ((cs.drop 5).take (Tryd.prog.cellsOf 3)) ∧ (fun _ => True) x := hf 5 _ rfl op_int
  rw [cells_int] at r5
  obtain ⟨x6, r6, k6⟩ : ∃ x, RL (R0 w (Inn w)) ((cI) x) ((cs.drop 6).take (Tryd.prog.cellsOf 3)) ∧ (fun _ => True) x := hf 6 _ rfl op_int
  rw [cells_int] at r6
  rw [cells_Seg] at hl
  match cs, hl with
  | [c0, c1, c2, c3, c4, c5, c6], _ =>
    refine ⟨⟨x0, x1, x2, x3, x4, x5, x6⟩, ?_, trivial⟩
    show RL (R0 w (Inn w)) (((cI) x0) ++ (((cI) x1) ++ (((cI) x2) ++ (((cI) x3) ++ (((cI) x4) ++ (((cI) x5) ++ (((cI) x6)))))))) ([c0] ++ ([c1] ++ ([c2] ++ ([c3] ++ ([c4] ++ ([c5] ++ ([c6])))))))
    exact RL.append r0 (RL.append r1 (RL.append r2 (RL.append r3 (RL.append r4 (RL.append r5 (r6))))))

theorem op_uint8 : OpnU Tryd.prog 5 (cU8) (fun _ => True) := (opn_u8 Tryd.underlying5).small

theorem cells_uint8 : Tryd.prog.cellsOf 5 = 1 := by kernel_rfl

theorem bytes_uint8 : Tryd.prog.bytesOf 5 = 1 := by kernel_rfl

theorem cells_suint8 : Tryd.prog.cellsOf 26 = 1 := by kernel_rfl

theorem op_suint8 : OpnU Tryd.prog 26 (cSl (cU8)) (KU (fun _ => True)) := opnU_slice Tryd.underlying26 cells_uint8 bytes_uint8 (by decide) (fun _ => rfl) op_uint8

def kRot (x : Rot) : Prop := (KU (fun _ => True)) x.seed

theorem cells_Rot : Tryd.prog.cellsOf 28 = 4 := by kernel_rfl

set_option maxRecDepth 100000 in
theorem op_Rot : OpnU Tryd.prog 28 eRot kRot := by
  intro H enc w fuel cs d p h hw hbk
  obtain ⟨hl, hf⟩ := opnU_fields Tryd.underlying28 h hw hbk
  obtain ⟨x0, r0, k0⟩ : ∃ x, RL (R0 w (Inn w)) ((cI) x) ((cs.drop 0).take (Tryd.prog.cellsOf 3)) ∧ (fun _ => True) x := hf 0 _ rfl op_int
  rw [cells_int] at r0
  obtain ⟨x1, r1, k1⟩ : ∃ x, RL (R0 w (Inn w)) ((cI) x) ((cs.drop 1).take (Tryd.prog.cellsOf 3)) ∧ (fun _ => True) x := hf 1 _ rfl op_int
  rw [cells_int] at r1
  obtain ⟨x2, r2, k2⟩ : ∃ x, RL (R0 w (Inn w)) ((cI) x) ((cs.drop 2).take (Tryd.prog.cellsOf 3)) ∧ (fun _ => True) x := hf 2 _ rfl op_int
  rw [cells_int] at r2
  obtain ⟨x3, r3, k3⟩ : ∃ x, RL (R0 w (Inn w)) ((cSl (cU8)) x) ((cs.drop 3).take (Tryd.prog.cellsOf 26)) ∧ (KU (fun _ => True)) x := hf 3 _ rfl op_suint8
  rw [cells_suint8] at r3
  rw [cells_Rot] at hl
  match cs, hl with
  | [c0, c1, c2, c3], _ =>
    refine ⟨⟨x0, x1, x2, x3⟩, ?_, k3⟩
    show RL (R0 w (Inn w)) (((cI) x0) ++ (((cI) x1) ++ (((cI) x2) ++ (((cSl (cU8)) x3))))) ([c0] ++ ([c1] ++ ([c2] ++ ([c3]))))
    exact RL.append r0 (RL.append r1 (RL.append r2 (r3)))

def kBeat (x : Beat) : Prop := (smS) x.session

theorem cells_Beat : Tryd.prog.cellsOf 68 = 5 := by kernel_rfl

set_option maxRecDepth 100000 in
theorem op_Beat : OpnU Tryd.prog 68 eBeat kBeat := by
  intro H enc w fuel cs d p h hw hbk
  obtain ⟨hl, hf⟩ := opnU_fields Tryd.underlying68 h hw hbk
  obtain ⟨x0, r0, k0⟩ : ∃ x, RL (R0 w (Inn w)) ((cS) x) ((cs.drop 0).take (Tryd.prog.cellsOf 9)) ∧ (smS) x := hf 0 _ rfl op_string
  rw [cells_string] at r0
  obtain ⟨x1, r1, k1⟩ : ∃ x, RL (R0 w (Inn w)) ((cI) x) ((cs.drop 1).take (Tryd.prog.cellsOf 3)) ∧ (fun _ => True) x := hf 1 _ rfl op_int
  rw [cells_int] at r1
  obtain ⟨x2, r2, k2⟩ : ∃ x, RL (R0 w (Inn w)) ((cI) x) ((cs.drop 2).take (Tryd.prog.cellsOf 3)) ∧ (fun _ => True) x := hf 2 _ rfl op_int
  rw [cells_int] at r2
  obtain ⟨x3, r3, k3⟩ : ∃ x, RL (R0 w (Inn w)) ((cI) x) ((cs.drop 3).take (Tryd.prog.cellsOf 3)) ∧ (fun _ => True) x := hf 3 _ rfl op_int
  rw [cells_int] at r3
  obtain ⟨x4, r4, k4⟩ : ∃ x, RL (R0 w (Inn w)) ((cI) x) ((cs.drop 4).take (Tryd.prog.cellsOf 3)) ∧ (fun _ => True) x := hf 4 _ rfl op_int
  rw [cells_int] at r4
  rw [cells_Beat] at hl
  match cs, hl with
  | [c0, c1, c2, c3, c4], _ =>
    refine ⟨⟨x0, x1, x2, x3, x4⟩, ?_, k0⟩
    show RL (R0 w (Inn w)) (((cS) x0) ++ (((cI) x1) ++ (((cI) x2) ++ (((cI) x3) ++ (((cI) x4)))))) ([c0] ++ ([c1] ++ ([c2] ++ ([c3] ++ ([c4])))))
    exact RL.append r0 (RL.append r1 (RL.append r2 (RL.append r3 (r4))))

def kSpan (x : Span) : Prop := True

theorem cells_Span : Tryd.prog.cellsOf 42 = 2 := by kernel_rfl

set_option maxRecDepth 100000 in
theorem op_Span : OpnU Tryd.prog 42 eSpan kSpan := by
  intro H enc w fuel cs d p h hw hbk
  obtain ⟨hl, hf⟩ := opnU_fields Tryd.underlying42 h hw hbk
  obtain ⟨x0, r0, k0⟩ : ∃ x, RL (R0 w (Inn w)) ((cI) x) ((cs.drop 0).take (Tryd.prog.cellsOf 3)) ∧ (fun _ => True) x := hf 0 _ rfl op_int
  rw [cells_int] at r0
  obtain ⟨x1, r1, k1⟩ : ∃ x, RL (R0 w (Inn w)) ((cI) x) ((cs.drop 1).take (Tryd.prog.cellsOf 3)) ∧ (fun _ => True) x := hf 1 _ rfl op_int
  rw [cells_int] at r1
  rw [cells_Span] at hl
  match cs, hl with
  | [c0, c1], _ =>
    refine ⟨⟨x0, x1⟩, ?_, trivial⟩
    show RL (R0 w (Inn w)) (((cI) x0) ++ (((cI) x1))) ([c0] ++ ([c1]))
    exact RL.append r0 (r1)

def kHole (x : Hole) : Prop := (smS) x.session

theorem cells_Hole : Tryd.prog.cellsOf 72 = 3 := by kernel_rfl

set_option maxRecDepth 100000 in
theorem op_Hole : OpnU Tryd.prog 72 eHole kHole := by
  intro H enc w fuel cs d p h hw hbk
  obtain ⟨hl, hf⟩ := opnU_fields Tryd.underlying72 h hw hbk
  obtain ⟨x0, r0, k0⟩ : ∃ x, RL (R0 w (Inn w)) ((cS) x) ((cs.drop 0).take (Tryd.prog.cellsOf 9)) ∧ (smS) x := hf 0 _ rfl op_string
  rw [cells_string] at r0
  obtain ⟨x1, r1, k1⟩ : ∃ x, RL (R0 w (Inn w)) ((cI) x) ((cs.drop 1).take (Tryd.prog.cellsOf 3)) ∧ (fun _ => True) x := hf 1 _ rfl op_int
  rw [cells_int] at r1
  obtain ⟨x2, r2, k2⟩ : ∃ x, RL (R0 w (Inn w)) ((cI) x) ((cs.drop 2).take (Tryd.prog.cellsOf 3)) ∧ (fun _ => True) x := hf 2 _ rfl op_int
  rw [cells_int] at r2
  rw [cells_Hole] at hl
  match cs, hl with
  | [c0, c1, c2], _ =>
    refine ⟨⟨x0, x1, x2⟩, ?_, k0⟩
    show RL (R0 w (Inn w)) (((cS) x0) ++ (((cI) x1) ++ (((cI) x2)))) ([c0] ++ ([c1] ++ ([c2])))
    exact RL.append r0 (RL.append r1 (r2))

theorem bytes_Seg : Tryd.prog.bytesOf 35 = 56 := by kernel_rfl

theorem cells_sSeg : Tryd.prog.cellsOf 25 = 1 := by kernel_rfl

theorem op_sSeg : OpnU Tryd.prog 25 (cSl (eSeg)) (KU (kSeg)) := opnU_slice Tryd.underlying25 cells_Seg bytes_Seg (by decide) (fun _ => rfl) op_Seg

theorem bytes_Beat : Tryd.prog.bytesOf 68 = 48 := by kernel_rfl

theorem cells_sBeat : Tryd.prog.cellsOf 69 = 1 := by kernel_rfl

theorem op_sBeat : OpnU Tryd.prog 69 (cSl (eBeat)) (KU (kBeat)) := opnU_slice Tryd.underlying69 cells_Beat bytes_Beat (by decide) (fun _ => rfl) op_Beat

end Go.Proofs.YtlemjphdhapfpaaDoor.M
