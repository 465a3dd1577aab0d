/- 'wired', a fact that each law of wire asks first. -/
import Derived.Test.YtdeaednccdoklaaDoorPut
import Derived.Test.YtdeaednccdoklaaDoorReader3
namespace Go.Proofs.YtdeaednccdoklaaDoor
open Go.RowKit
theorem wired_any (w : World) : Calls Tryd.prog 7 #[] w fun e w' => e = .returned (.bool true) ∧ Below w.heap.size w w' := by
  go_enter Tryd.func7, Tryd.ntmps7
  go_wp2_with fail
  refine (put_ok 258 3 (by decide) (by decide) (by decide) (by decide) _).mono ?_
  rintro e w1 ⟨rfl, hb1⟩
  rw [show beBytes 258 3 = [0, 1, 2] by decide]
  go_wp2_with fail
  refine (new_any [1, 2, 3] 7 _).mono ?_
  rintro e w2 ⟨rfl, hr2, hb2, hlt2⟩
  have Hr2 := Lib.hid hr2
  clear hr2
  go_wp2_with fail
  refine (num_ok Hr2.out 2 (by decide) (by decide) (by decide) (by decide)).mono ?_
  rintro e w3 ⟨rfl, hr3, hu3⟩
  rw [show beNum ((([1, 2, 3] : List UInt8).drop 0).take 2) = 258 by decide]
  have Hr3 := Lib.hid hr3
  clear hr3
  go_wp2_with fail
  refine (at_any Hr3.out (by decide)).mono ?_
  rintro e w4 ⟨rfl, hb4⟩
  have Hr4 := Lib.hid (Hr3.out.keep hb4)
  go_wp2_with fail
  refine (left_any Hr4.out (by decide) (by decide)).mono ?_
  rintro e w5 ⟨rfl, hb5⟩
  have Hr5 := Lib.hid (Hr4.out.keep hb5)
  go_wp2_with fail
  refine (err_any Hr5.out).mono ?_
  rintro e w6 ⟨rfl, rfl⟩
  go_wp2_with fail
  go_ret
  have hb12 := hb1.trans (hb2.mono hb1.size)
  have hb13 := hb12.trans (hu3.below hb1.size hb12.size)
  have hb14 := hb13.trans (hb4.mono hb13.size)
  exact ⟨rfl, hb14.trans (hb5.mono hb14.size)⟩
end Go.Proofs.YtdeaednccdoklaaDoor
