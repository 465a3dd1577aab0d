/- tag: Text. -/
import Derived.Test.YtkicbabfgahmkaaDoorTg1
import Derived.Test.YtkicbabfgahmkaaDoorVars
set_option linter.all false
namespace Go.Proofs.YtkicbabfgahmkaaDoor
open Go.RowKit
set_option maxRecDepth 100000 in
set_option maxHeartbeats 2000000 in
theorem tkText_any (t : Tk) (w : World) (hV : Vars w) :
    Calls Tryd.prog 26 #[.agg t.vals.toArray] w fun e w' => e = .returned (if t.okB then .tuple #[.string ⟨t.text.toArray⟩, .nilIface] else .tuple #[.string ⟨#[]⟩, .iface 80 (.int .i64 1)]) ∧ Below w.heap.size w w' := by
  have H0 := Lib.hid ((St.init w).alloc t.vals 39)
  cases hto : t.okB
  · have HT : Hid (∀ W, Calls Tryd.prog 23 #[.agg t.vals.toArray] W fun e w' => e = .returned (.bool false) ∧ Below W.heap.size W w') := Lib.hid fun W => by rw [← hto]; exact tkRight_any t W
    clear hto hV
    go_enter Tryd.func26, Tryd.ntmps26
    go_upto_region 1 with (fail)
    generalize World.alloc _ _ = w1 at *
    go_wp2_with (first
      | (with_reducible refine wpList_load_rng (ty := 39) t.vals (by with_unfolding_all rfl) (Blk.box (H0.out.at 0 rfl)).range Tryd.underlying39 (by with_unfolding_all rfl) (by with_unfolding_all exact info39) ?_)
      | ((with_reducible refine (HT.out _).mono ?_)
         rintro e w2 ⟨rfl, hb2⟩
         have H2 := Lib.hid (H0.out.ext hb2)
         clear hb2))
    go_ret2
    exact ⟨rfl, H2.out.below⟩
  · have HT : Hid (∀ W, Calls Tryd.prog 23 #[.agg t.vals.toArray] W fun e w' => e = .returned (.bool true) ∧ Below W.heap.size W w') := Lib.hid fun W => by rw [← hto]; exact tkRight_any t W
    have HV := Lib.hid (hV.ext H0.out.below).t
    have hlen := Tk.text_len hto
    obtain ⟨h1, h2, h3, h4⟩ := Tk.ok_iff.1 hto
    have d1 := dec_len t.pcp.toNat (by omega)
    have d2 := dec_len t.vid.toNat (by omega)
    have HI1 : Hid (∀ W, Lib.TabIs Tryd.prog W "internal/strconv.uint64pow10" .u64 Lib.pow10Tab → Calls Tryd.prog 48 #[.int .i64 t.pcp] W fun e w' => e = .returned (.string ⟨(Lib.decDigits t.pcp.toNat).toArray⟩) ∧ Below W.heap.size W w') := Lib.hid (fun W h => by
      have := itoa_v t.pcp.toNat (by omega) W h
      rwa [show ((t.pcp.toNat : Nat) : Int) = t.pcp by omega] at this)
    have HI2 : Hid (∀ W, Lib.TabIs Tryd.prog W "internal/strconv.uint64pow10" .u64 Lib.pow10Tab → Calls Tryd.prog 48 #[.int .i64 t.vid] W fun e w' => e = .returned (.string ⟨(Lib.decDigits t.vid.toNat).toArray⟩) ∧ Below W.heap.size W w') := Lib.hid (fun W h => by
      have := itoa_v t.vid.toNat (by omega) W h
      rwa [show ((t.vid.toNat : Nat) : Int) = t.vid by omega] at this)
    have htx : t.text = (if t.s then 115 else 99) :: (Lib.decDigits t.pcp.toNat ++ ((if t.dei then [33] else []) ++ 46 :: Lib.decDigits t.vid.toNat)) := rfl
    have Htx := Lib.hid htx
    clear hto hV hlen h1 h2 h3 h4 htx
    generalize t.text = T at *
    obtain ⟨s, p, d, v⟩ := t
    simp only [] at HI1 HI2 d1 d2 Htx
    generalize Lib.decDigits p.toNat = D1 at *
    generalize Lib.decDigits v.toNat = D2 at *
    cases s <;> cases d
    all_goals
      go_enter Tryd.func26, Tryd.ntmps26
      go_upto_region 1 with (fail)
      generalize World.alloc _ _ = w1 at *
      go_upto_region 4 with (first
        | (with_reducible refine wpList_load_rng (ty := 39) (Tk.vals ⟨_, p, _, v⟩) (by with_unfolding_all rfl) (Blk.box (H0.out.at 0 rfl)).range Tryd.underlying39 (by with_unfolding_all rfl) (by with_unfolding_all exact info39) ?_)
        | ((with_reducible refine (HT.out _).mono ?_)
           rintro e w2 ⟨rfl, hb2⟩
           have H2 := Lib.hid (H0.out.ext hb2)
           have V2 := Lib.hid (tab_ext HV.out hb2)
           clear hb2))
      have c0 : w2.cell? ⟨w.heap.size, 0, none⟩ = some (.bool _) := (Blk.box (H2.out.at 0 rfl)).cell 0
      have c1 : w2.cell? ⟨w.heap.size, 1, none⟩ = some (.int .i64 p) := (Blk.box (H2.out.at 0 rfl)).cell 1
      go_upto_region 7 with (first
        | ((with_reducible refine (HI1.out w2 V2.out).mono ?_)
           rintro e w3 ⟨rfl, hb3⟩
           have H3 := Lib.hid (H2.out.ext hb3)
           have V3 := Lib.hid (tab_ext V2.out hb3)
           clear hb3 V2))
      have c2 : w3.cell? ⟨w.heap.size, 2, none⟩ = some (.bool _) := (Blk.box (H3.out.at 0 rfl)).cell 2
      have c3 : w3.cell? ⟨w.heap.size, 3, none⟩ = some (.int .i64 v) := (Blk.box (H3.out.at 0 rfl)).cell 3
      go_wp2_with (first
        | ((with_reducible refine (HI2.out w3 V3.out).mono ?_)
           rintro e w4 ⟨rfl, hb4⟩
           have H4 := Lib.hid (H3.out.ext hb4)
           clear hb4))
      go_ret2
      exact ⟨by rw [Htx.out]; rfl, H4.out.below⟩
end Go.Proofs.YtkicbabfgahmkaaDoor
