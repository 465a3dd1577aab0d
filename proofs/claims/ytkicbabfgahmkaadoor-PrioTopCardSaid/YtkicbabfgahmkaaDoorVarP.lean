/- What the rows of names list: a world in which it reads so; what the walk asks. -/
import Derived.Test.YtkicbabfgahmkaaDoorVarW
set_option linter.all false
namespace Go.Proofs.YtkicbabfgahmkaaDoor
open Go.ChangeShapes Go.WideShapes
def prioList : List (String × DataW Unit) := [("math/bits.deBruijn32tab", Rows.laid_math_bits_deBruijn32tab), ("math/bits.deBruijn64tab", Rows.laid_math_bits_deBruijn64tab), ("internal/strconv.uint64pow10", Rows.laid_internal_strconv_uint64pow10), ("unicode/utf8.acceptRanges", Rows.laid_unicode_utf8_acceptRanges), ("strconv.ErrRange", Rows.laid_strconv_ErrRange), ("strconv.ErrSyntax", Rows.laid_strconv_ErrSyntax), ("unicode/utf8.first", Rows.laid_unicode_utf8_first)]
noncomputable def prioWorld (os : Os) : World := World.laidAll Tryd.prog os prioList
theorem prio_part : (prioList.filter fun x => x.2.handleName?.isNone) = prioList := rfl
theorem prio_fits (os : Os) : (World.holding Tryd.prog os ⟨#[], #[], []⟩).layFits Tryd.prog prioList [] = true := by kernel_rfl
theorem prio_ifaces (os : Os) : (World.holding Tryd.prog os ⟨#[], #[], []⟩).layIfaces Tryd.prog prioList (World.laidAll Tryd.prog os prioList) = true := by kernel_rfl
theorem prioWorld_met (os : Os) (args : Array Value) : laidMetH Tryd.prog prioList ((prioWorld os).forCall (fun _ _ => 0) ⟨#[], args, []⟩).memory :=
  laidMetH_of_parts (by rw [prio_part]; exact laidMet_laidAll args (prio_fits os) (prio_ifaces os)) (by kernel_rfl)
theorem vars_of_prio {w : World} (hL : laidMetH Tryd.prog prioList w) (h : w.ShapedOpen Tryd.prog) : Vars w := by
  have hL2 : laidMet Tryd.prog prioList w := hL
  have h3 := hL2.tail.tail
  rw [pow_is] at h3
  exact ⟨maxl_of h, errv_of hL2.tail.tail.tail.tail.tail (by kernel_rfl) (by kernel_rfl), errv_of hL2.tail.tail.tail.tail (by kernel_rfl) (by kernel_rfl), Lib.tabIs_of_head (g := 3) (t := 139) (e := 105) (n := 20) (by kernel_rfl) (by kernel_rfl) (by kernel_rfl) (by kernel_rfl) (by kernel_rfl) (by kernel_rfl) h3⟩
end Go.Proofs.YtkicbabfgahmkaaDoor
