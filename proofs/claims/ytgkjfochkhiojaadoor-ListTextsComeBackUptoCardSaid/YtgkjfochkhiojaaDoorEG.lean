/- What is proved here: the listed variables hold what the machine's functions read of them (no statement of the seat). -/
import Derived.Test.YtgkjfochkhiojaaDoorM8
import Derived.Test.YtgkjfochkhiojaaDoorE0
import Derived.Lib.LaidU8
import Derived.MakeChecks
import Derived.Shelf.Vars
namespace Go.Proofs.YtgkjfochkhiojaaDoor.M
open Go.ChangeShapes Go.WideShapes Go.ChangeAt Go.RowKit Go.Deep
set_option linter.unusedVariables false

theorem noG_at {W : World} {laid : List (String × DataW Unit)} (hsh : W.ShapedOpen Tryd.prog) (hL : laidMetH Tryd.prog laid W)
    (hp : (laid.all fun x => x.2.handleName?.isNone) = true := by kernel_rfl)
    (m3 : ∃ i : Nat, laid[i]? = some ("internal/strconv.uint64pow10", Rows.laid_internal_strconv_uint64pow10) := by first | exact ⟨0, rfl⟩ | exact ⟨1, rfl⟩ | exact ⟨2, rfl⟩ | exact ⟨3, rfl⟩ | exact ⟨4, rfl⟩ | exact ⟨5, rfl⟩ | exact ⟨6, rfl⟩ | exact ⟨7, rfl⟩) :
    ∀ g r, noG g = some r → GlobAt W (Inn W) g r := by
  obtain ⟨_, m3⟩ := m3
  rw [MakeChecks.laidMetH_plain _ _ _ hp] at hL
  have hr : Lib.VarReads Tryd.prog W "internal/strconv.uint64pow10" Rows.laid_internal_strconv_uint64pow10 := Lib.laidMet.reads hL (List.mem_of_getElem? m3)
  have cellAt : ∀ {g : Nat} {cs : Array Value} {ty : TypeId} {o : Nat × Nat} (_ : W.heap[g]? = some (.cells cs ty o)) (j : Nat), W.cell? ⟨g, j, none⟩ = cs[j]? := fun h j => by simp [World.cell?, h]
  intro g r hg
  unfold noG at hg
  split at hg
  · rename_i hb
    have e : g = 3 := beq_true.1 hb
    subst e
    cases hg
    have hz : ((begin Tryd.prog (fun _ _ => 0) default).world.heap[3]?).bind Obj.row? = some (#[.int .i64 0], 3) := by kernel_rfl
    obtain ⟨cs, hh, hs, hr2⟩ := hsh.1 3 _ _ (of_decide_eq_true (by kernel_rfl)) hz
    obtain ⟨m, hm⟩ := cell_of_shapedOpen_int hsh (g := 3) (of_decide_eq_true (by kernel_rfl)) hz rfl (by kernel_rfl) (by kernel_rfl) Tryd.underlying3
    exact glob_mk hh ⟨m, by rw [← cellAt hh 0]; exact hm⟩
  · split at hg
    · rename_i hb
      have e : g = 2 := beq_true.1 hb
      subst e
      cases hg
      obtain ⟨g', t, cs, fuel, p, h1, h2, h3, h4⟩ := hr
      have hn : Tryd.prog.globalNamed "internal/strconv.uint64pow10" = some 2 := by kernel_rfl
      obtain rfl := Option.some.inj (hn.symm.trans h1)
      obtain rfl := Option.some.inj ((show (Tryd.prog.globals[2]?).map (·.type) = some 110 by kernel_rfl).symm.trans h2)
      have hd : (Rows.laid_internal_strconv_uint64pow10 : DataW Unit) = Lib.tabData .u64 Lib.pow10Tab := by kernel_rfl
      rw [hd] at h4
      have hcs := Lib.cells_of_tab Tryd.underlying110 Tryd.underlying94 (by kernel_rfl) (by kernel_rfl) h4
      obtain ⟨ty, o, hh⟩ := var_cells hn h3
      exact glob_mk hh (by rw [← hcs])
    · cases hg

end Go.Proofs.YtgkjfochkhiojaaDoor.M
