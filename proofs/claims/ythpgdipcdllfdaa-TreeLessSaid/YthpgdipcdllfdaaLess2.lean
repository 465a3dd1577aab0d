/- slices.Equal at vectors; the rows of roles of a net without its Alternate ports. -/
import Derived.Test.YthpgdipcdllfdaaBut
import Derived.Test.YthpgdipcdllfdaaLess1
import Derived.Test.YthpgdipcdllfdaaScale1
namespace Go.Proofs.Ythpgdipcdllfdaa
open Go.RowKit
theorem less_roles {l : List Node} {V : List Vec} (hv : validNet l = true) (h : Sol l V) {i : Nat} (hi : i < l.length) : (rolesM (lessNet l V)).getD i [] = (keeps l V i).map (roleAt l V i) := by
  have hi' : i < (lessNet l V).length := by rw [less_len]; exact hi
  have hp : (nodeAt (lessNet l V) i).ports.length = (keeps l V i).length := by rw [less_at hi, lessN_len]
  have h2 := rolesM_len (lessNet l V) hi'
  refine ints_ext (by rw [h2, hp, List.length_map]) fun k hk => ?_
  rw [h2, hp] at hk
  rw [rolesM_get _ hi' (by rw [hp]; exact hk), less_role hv h hi (by rw [hp]; exact hk)]
  rw [List.getD_eq_getElem?_getD, List.getD_eq_getElem?_getD, List.getElem?_map, List.getElem?_eq_getElem hk]; rfl
set_option maxRecDepth 100000 in
set_option maxHeartbeats 4000000 in
theorem equal_vecs (V : List Vec) (A1 A2 : Option Addr) (n c1 c2 : Nat) (h12 : n ≤ 1000) (w : World) (h1 : VecsAt w (.slice A1 n c1) V n) (h2 : VecsAt w (.slice A2 n c2) V n) :
    Calls Try.prog 26 #[.slice A1 n c1, .slice A2 n c2] w fun e w' => e = .returned (.bool true) ∧ Below w.heap.size w w' := by
  have H1 := Lib.hid h1
  have H2 := Lib.hid h2
  obtain ⟨A3, c3, e3, hc3, _⟩ := h1
  injection e3 with e31 _ e33
  subst e31 e33
  obtain ⟨A4, c4, e4, hc4, _⟩ := h2
  injection e4 with e41 _ e43
  subst e41 e43
  go_enter Try.func26, Try.ntmps26
  go_wp2_with fail
  go_loopw [5, 13] (fun _ i wr => ∃ q : Nat, q ≤ n ∧ i = .int .i64 q ∧ Hid (Below w.heap.size w wr)) (fun _ i _ => n - (intOf i).toNat)
  case atStart => exact ⟨0, by omega, rfl, Lib.hid (Below.refl _ _)⟩
  case round =>
    obtain ⟨q, hq, rfl, HB⟩ := hrel
    by_cases hlq : q < n
    · obtain ⟨A9, c9, e9, _, hv9⟩ := H1.out.below HB.out
      injection e9 with e91 _ e93
      subst e91 e93
      obtain ⟨gV, rfl, hgV, hrV⟩ := hv9 (by omega)
      obtain ⟨A10, c10, e10, _, hv10⟩ := H2.out.below HB.out
      injection e10 with e101 _ e103
      subst e101 e103
      obtain ⟨gW, rfl, hgW, hrW⟩ := hv10 (by omega)
      have HrV := Lib.hid (hrV q hlq)
      have HrW := Lib.hid (hrW q hlq)
      generalize vecAt V q = x1 at *
      have E1 : ∀ (W : World), (binOp .neq 48 (.agg x1.vals.toArray) (.agg x1.vals.toArray)).run Try.prog W = .ok (.bool false) W := fun W => by
        have := vec_neq x1 x1 W
        simpa using this
      have G1 : ∀ (x y : Operand) (W : World), (eqGuard .neq 48 x y (.agg x1.vals.toArray) (.agg x1.vals.toArray)).run Try.prog W = .ok () W := fun x y W => vec_guard .neq _ _ x y W
      clear hv9 hv10 hrV hrW
      go_upto_region 6 with (fail)
      refine wp_region_ext (by kernel_rfl) (by kernel_rfl) ?_
      repeat (go_big_quiet_step (fail))
      go_big_quiet_want
      with_reducible refine quiet_load_rng (b := ?b1) (off := ?o1) (ds := ?ds1) x1.vals ?hx1 ?hr1 ?hu1 ?hd1 ?hi1 ?hk1
      case hx1 => rfl
      case hr1 => rintro _ ⟨y, rfl⟩; exact rangeAt_below HrV.out y.below hgV
      case hu1 => exact Try.underlying48
      case hd1 => rfl
      case hi1 => exact info48
      go_simp
      go_big_quiet_on
      repeat (go_big_quiet_step (fail))
      go_big_quiet_want
      with_reducible refine quiet_load_rng (b := ?b2) (off := ?o2) (ds := ?ds2) x1.vals ?hx2 ?hr2 ?hu2 ?hd2 ?hi2 ?hk2
      case hx2 => rfl
      case hr2 => rintro _ ⟨y, rfl⟩; exact rangeAt_below HrW.out y.below hgW
      case hu2 => exact Try.underlying48
      case hd2 => rfl
      case hi2 => exact info48
      go_simp
      go_big_quiet_on
      repeat (go_big_quiet_step (fail))
      refine wpQuiet_nil ?_
      rintro Y ⟨⟨_, hb20⟩, rfl⟩
      try simp only [] at *
      have HB3 := Lib.hid (HB.out.trans (hb20.mono HB.out.size))
      clear HB hb20 E1 G1 HrV HrW
      go_wp2_with fail
      go_roundw
      case rel => exact ⟨q + 1, by omega, by go_num, HB3⟩
      case measure => simp [intOf]; omega
    · obtain rfl : n = q := by omega
      go_wp2_with fail
      go_ret
      exact ⟨rfl, HB.out⟩
end Go.Proofs.Ythpgdipcdllfdaa
