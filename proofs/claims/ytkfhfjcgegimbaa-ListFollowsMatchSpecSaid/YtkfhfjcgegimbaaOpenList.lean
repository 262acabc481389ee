/- What is proved here: arguments of chapter 6 (entries, lists) read in the words of this proof. -/
import Derived.Test.YtkfhfjcgegimbaaOpen
import Derived.Test.YtkfhfjcgegimbaaList
namespace Go.Proofs.Ytkfhfjcgegimbaa
open Go.ChangeShapes Go.WideShapes Go.ChangeAt Go.RowKit Go.Deep
set_option linter.unusedVariables false

theorem own : ownKnob Try.prog.godebug = none := by kernel_rfl
theorem laidOut : laidOutB Try.prog = true := by kernel_rfl
theorem cells_int : Try.prog.cellsOf 3 = 1 := by kernel_rfl
theorem cells_bool : Try.prog.cellsOf 4 = 1 := by kernel_rfl
theorem cells_string : Try.prog.cellsOf 9 = 1 := by kernel_rfl
theorem bytes_string : Try.prog.bytesOf 9 = 16 := by kernel_rfl
theorem opI : Opens Try.prog 3 intR := opens_int Try.underlying3
theorem opB : Opens Try.prog 4 boolR := opens_bool Try.underlying4
theorem opS : Opens Try.prog 9 strR := opens_str Try.underlying9

theorem cells_strings : Try.prog.cellsOf 30 = 1 := by kernel_rfl
theorem opSs : Opens Try.prog 30 (slR 1 16 strR) := opens_slice Try.underlying30 cells_string bytes_string (by decide) opS

theorem cells_ent : Try.prog.cellsOf 32 = 7 := by kernel_rfl
theorem bytes_ent : Try.prog.bytesOf 32 = 88 := by kernel_rfl
theorem opEnt : Opens Try.prog 32 entR := by
  intro H enc w fuel cs d p h hw
  obtain ⟨hl, hf⟩ := open_fields Try.underlying32 h hw
  obtain ⟨u, hu⟩ : ∃ x, strR w (In w) x ((cs.drop 0).take (Try.prog.cellsOf 9)) := hf 0 _ rfl opS
  obtain ⟨m, hm⟩ : ∃ x, intR w (In w) x ((cs.drop 1).take (Try.prog.cellsOf 3)) := hf 1 _ rfl opI
  obtain ⟨b, hb⟩ : ∃ x, boolR w (In w) x ((cs.drop 2).take (Try.prog.cellsOf 4)) := hf 2 _ rfl opB
  obtain ⟨e, he⟩ : ∃ x, intR w (In w) x ((cs.drop 3).take (Try.prog.cellsOf 3)) := hf 3 _ rfl opI
  obtain ⟨k, hk⟩ : ∃ x, strR w (In w) x ((cs.drop 4).take (Try.prog.cellsOf 9)) := hf 4 _ rfl opS
  obtain ⟨g, hg⟩ : ∃ x, boolR w (In w) x ((cs.drop 5).take (Try.prog.cellsOf 4)) := hf 5 _ rfl opB
  obtain ⟨x, hx⟩ : ∃ x, (slR 1 16 strR) w (In w) x ((cs.drop 6).take (Try.prog.cellsOf 30)) := hf 6 _ rfl opSs
  simp only [cells_int, cells_bool, cells_string, cells_strings] at hu hm hb he hk hg hx
  rw [cells_ent] at hl
  match cs, hl with
  | [c0, c1, c2, c3, c4, c5, c6], _ =>
    simp only [List.drop_zero, List.drop_succ_cons, List.take_succ_cons, List.take_zero] at hu hm hb he hk hg hx
    obtain ⟨hu1, hu2⟩ := hu
    obtain ⟨hm1, hm2⟩ := hm
    obtain ⟨he1, he2⟩ := he
    obtain ⟨hk1, hk2⟩ := hk
    obtain ⟨v, hv, hx⟩ := hx
    unfold boolR at hb hg
    simp only [List.cons.injEq, and_true] at hu1 hm1 hb he1 hk1 hg hv
    subst hu1 hm1 hb he1 hk1 hg hv
    exact ⟨⟨u, m, b, e, k, g, x⟩, _, rfl, hu2, hk2, hm2, he2, hx⟩

theorem cells_ents : Try.prog.cellsOf 22 = 1 := by kernel_rfl
theorem opEnts : Opens Try.prog 22 (slR 7 88 entR) := opens_slice Try.underlying22 cells_ent bytes_ent (by decide) opEnt

/-- A list. -/
def lstR : Rd Lst := fun w S l cs => ∃ v, cs = [.int .i64 l.target, .int .i64 l.first, .int .i64 l.breaks, v, .bool l.ended] ∧ I64 l.target ∧ I64 l.first ∧ I64 l.breaks ∧ SlV 7 88 entR w S l.entries v
theorem keeps_lst : Keeps lstR := by
  rintro w w' S S' x cs hw hS ⟨v, rfl, h1, h2, h3, h4⟩
  exact ⟨v, rfl, h1, h2, h3, h4.keep keeps_ent hw hS⟩
theorem cells_lst : Try.prog.cellsOf 24 = 5 := by kernel_rfl
theorem opLst : Opens Try.prog 24 lstR := by
  intro H enc w fuel cs d p h hw
  obtain ⟨hl, hf⟩ := open_fields Try.underlying24 h hw
  obtain ⟨u, hu⟩ : ∃ x, intR w (In w) x ((cs.drop 0).take (Try.prog.cellsOf 3)) := hf 0 _ rfl opI
  obtain ⟨m, hm⟩ : ∃ x, intR w (In w) x ((cs.drop 1).take (Try.prog.cellsOf 3)) := hf 1 _ rfl opI
  obtain ⟨b, hb⟩ : ∃ x, intR w (In w) x ((cs.drop 2).take (Try.prog.cellsOf 3)) := hf 2 _ rfl opI
  obtain ⟨x, hx⟩ : ∃ x, (slR 7 88 entR) w (In w) x ((cs.drop 3).take (Try.prog.cellsOf 22)) := hf 3 _ rfl opEnts
  obtain ⟨g, hg⟩ : ∃ x, boolR w (In w) x ((cs.drop 4).take (Try.prog.cellsOf 4)) := hf 4 _ rfl opB
  simp only [cells_int, cells_bool, cells_ents] at hu hm hb hg hx
  rw [cells_lst] at hl
  match cs, hl with
  | [c0, c1, c2, c3, c4], _ =>
    simp only [List.drop_zero, List.drop_succ_cons, List.take_succ_cons, List.take_zero] at hu hm hb hg hx
    obtain ⟨hu1, hu2⟩ := hu
    obtain ⟨hm1, hm2⟩ := hm
    obtain ⟨hb1, hb2⟩ := hb
    obtain ⟨v, hv, hx⟩ := hx
    unfold boolR at hg
    simp only [List.cons.injEq, and_true] at hu1 hm1 hb1 hg hv
    subst hu1 hm1 hb1 hg hv
    exact ⟨⟨u, m, b, x, g⟩, _, rfl, hu2, hm2, hb2, hx⟩
end Go.Proofs.Ytkfhfjcgegimbaa
