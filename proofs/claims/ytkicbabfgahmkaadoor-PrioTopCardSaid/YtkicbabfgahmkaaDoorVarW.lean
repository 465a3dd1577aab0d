/- What the rows of tags and names list: a world in which it reads so; from the list and the world's shape to what the walk asks. -/
import Derived.Test.YtkicbabfgahmkaaDoorRows
import Derived.Test.YtkicbabfgahmkaaDoorVars
import Derived.ChangeSame
import Derived.ChangeVars
import Derived.LaidLaws
import Derived.LaidHandle
import Derived.Lay
import Derived.Lib.LaidTab
import Derived.Stop.LaidErr
set_option linter.all false
namespace Go.Proofs.YtkicbabfgahmkaaDoor
open Go.ChangeShapes Go.WideShapes
theorem es_star : "*" ++ "errors.errorString" = "*errors.errorString" := by decide
/-- The one row of that name. -/
theorem es_row (u : TypeId) (h : Tryd.prog.typeName? 3 u = some "*errors.errorString") : u = 146 :=
  typeName_ptr_named (nm := "errors.errorString") (by rw [es_star]; kernel_rfl) (by kernel_rfl) (by decide) u (by rw [es_star]; exact h)
theorem es_cells : Tryd.prog.cellsOf 148 = 1 := by kernel_rfl
theorem str_cells : Tryd.prog.cellsOf 9 = 1 := by kernel_rfl
theorem errv_of {n : String} {g : Nat} {text : List UInt8} {r : List (String × DataW Unit)} {w : World} (h : laidMet Tryd.prog ((n, .iface "*errors.errorString" (.ptr (.agg [.lit (.string text)]))) :: r) w)
    (hg : Tryd.prog.globalNamed n = some g) (ht : (Tryd.prog.globals[g]?).map (·.type) = some 26) : ErrV g w := by
  obtain ⟨a, s, hv, -, -, -⟩ := laid_sentinel h hg ht Tryd.underlying26 es_row Tryd.underlying146 Tryd.underlying148 rfl rfl Tryd.underlying9 es_cells str_cells
  exact ⟨_, by have h0 := World.var?_cell hg hv 0; simpa using h0, .inr ⟨_, _, rfl⟩⟩
def tagList : List (String × DataW Unit) := [("math/bits.deBruijn32tab", Rows.laid_math_bits_deBruijn32tab), ("math/bits.deBruijn64tab", Rows.laid_math_bits_deBruijn64tab), ("internal/strconv.uint64pow10", Rows.laid_internal_strconv_uint64pow10), ("strconv.ErrRange", Rows.laid_strconv_ErrRange), ("strconv.ErrSyntax", Rows.laid_strconv_ErrSyntax)]
noncomputable def tagWorld (os : Os) : World := World.laidAll Tryd.prog os tagList
theorem tag_part : (tagList.filter fun x => x.2.handleName?.isNone) = tagList := rfl
theorem tag_fits (os : Os) : (World.holding Tryd.prog os ⟨#[], #[], []⟩).layFits Tryd.prog tagList [] = true := by kernel_rfl
theorem tag_ifaces (os : Os) : (World.holding Tryd.prog os ⟨#[], #[], []⟩).layIfaces Tryd.prog tagList (World.laidAll Tryd.prog os tagList) = true := by kernel_rfl
theorem tagWorld_met (os : Os) (args : Array Value) : laidMetH Tryd.prog tagList ((tagWorld os).forCall (fun _ _ => 0) ⟨#[], args, []⟩).memory :=
  laidMetH_of_parts (by rw [tag_part]; exact laidMet_laidAll args (tag_fits os) (tag_ifaces os)) (by kernel_rfl)
theorem pow_is : (Rows.laid_internal_strconv_uint64pow10 : DataW Unit) = Lib.tabData .u64 Lib.pow10Tab := rfl
theorem vars_of_tag {w : World} (hL : laidMetH Tryd.prog tagList w) (h : w.ShapedOpen Tryd.prog) : Vars w := by
  have hL2 : laidMet Tryd.prog tagList w := hL
  have h3 := hL2.tail.tail
  rw [pow_is] at h3
  exact ⟨maxl_of h, errv_of hL2.tail.tail.tail.tail (by kernel_rfl) (by kernel_rfl), errv_of hL2.tail.tail.tail (by kernel_rfl) (by kernel_rfl), Lib.tabIs_of_head (g := 3) (t := 139) (e := 105) (n := 20) (by kernel_rfl) (by kernel_rfl) (by kernel_rfl) (by kernel_rfl) (by kernel_rfl) (by kernel_rfl) h3⟩
end Go.Proofs.YtkicbabfgahmkaaDoor
