/- What is proved here: the listed variables hold what the machine's functions read of them (no statement of the seat). -/
import Derived.Test.YtlemjphdhapfpaaDoorM8
import Derived.Test.YtlemjphdhapfpaaDoorD0
import Derived.Lib.LaidU8
import Derived.MakeChecks
namespace Go.Proofs.YtlemjphdhapfpaaDoor.M
open Go.ChangeShapes Go.WideShapes Go.ChangeAt Go.RowKit Go.Deep
set_option linter.unusedVariables false

theorem noG_at {W : World} (hsh : W.ShapedOpen Tryd.prog) (hL : laidMetH Tryd.prog [("math/bits.deBruijn32tab", Rows.laid_math_bits_deBruijn32tab), ("math/bits.deBruijn64tab", Rows.laid_math_bits_deBruijn64tab), ("internal/strconv.uint64pow10", Rows.laid_internal_strconv_uint64pow10)] W) :
    ∀ g r, noG g = some r → GlobAt W (Inn W) g r := by
  rw [MakeChecks.laidMetH_plain _ _ _ (by kernel_rfl)] at hL
  have hr : Lib.VarReads Tryd.prog W "internal/strconv.uint64pow10" Rows.laid_internal_strconv_uint64pow10 := Lib.laidMet.reads hL (by simp)
  intro g r hg
  unfold noG at hg
  split at hg
  · rename_i hb
    have e : g = 2 := beq_true.1 hb
    subst e
    cases hg
    obtain ⟨g', t, cs, fuel, p, h1, h2, h3, h4⟩ := hr
    have hn : Tryd.prog.globalNamed "internal/strconv.uint64pow10" = some 2 := by kernel_rfl
    obtain rfl := Option.some.inj (hn.symm.trans h1)
    obtain rfl := Option.some.inj ((show (Tryd.prog.globals[2]?).map (·.type) = some 127 by kernel_rfl).symm.trans h2)
    have hd : (Rows.laid_internal_strconv_uint64pow10 : DataW Unit) = Lib.tabData .u64 Lib.pow10Tab := by kernel_rfl
    rw [hd] at h4
    have hcs := Lib.cells_of_tab Tryd.underlying127 Tryd.underlying79 (by kernel_rfl) (by kernel_rfl) h4
    obtain ⟨ty, o, hh⟩ := var_cells hn h3
    exact glob_mk hh (by rw [← hcs])
  · cases hg

end Go.Proofs.YtlemjphdhapfpaaDoor.M
