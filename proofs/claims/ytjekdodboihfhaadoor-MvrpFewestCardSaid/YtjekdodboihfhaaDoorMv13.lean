/- Pairs compared, joined. -/
import Derived.Test.YtjekdodboihfhaaDoorMv12
import Derived.Test.YtjekdodboihfhaaDoorQuietTail
set_option linter.all false
namespace Go.Proofs.YtjekdodboihfhaaDoor
open Go.RowKit Go.ChangeShapes Go.WideShapes
theorem info44 : (Tryd.prog.info? 44).map (·.size) = some 2 := by kernel_rfl
theorem pr_eqIn (x : Pr) (d : Nat) (W : World) : (Op.equalIn (d + 1 + 1) 44 (.agg x.vals.toArray) (.agg x.vals.toArray)).run Tryd.prog W = .ok true W := by
  have u3 := Tryd.underlying3
  have a3 := Tryd.isAgg3
  have z3 := Tryd.sizeOf3
  have hS : Tryd.prog.underlying 44 = some (.struct (Tryd.prog.fieldsOf 44)) := by kernel_rfl
  have hp : Tryd.prog.stoodInHeld 44 = false := by kernel_rfl
  obtain ⟨a, b⟩ := x
  simp only [Pr.vals]
  rw [run_equalIn_agg W (d + 1) 44 _ _ hS hp]
  simp only [Program.fieldsOf, Tryd.underlying44]
  go_simp
theorem pr_neq (x : Pr) (W : World) : (binOp .neq 44 (.agg x.vals.toArray) (.agg x.vals.toArray)).run Tryd.prog W = .ok (.bool false) W := by
  rw [run_neq_struct, show (10000 : Nat) = 9998 + 1 + 1 from rfl, pr_eqIn]; rfl
theorem pr_guard (x : Pr) (p q : Operand) (W : World) : (eqGuard .neq 44 p q (.agg x.vals.toArray) (.agg x.vals.toArray)).run Tryd.prog W = .ok () W := run_eqGuard_agg W .neq _ p q _ _ (by kernel_rfl)
set_option maxRecDepth 100000 in
set_option maxHeartbeats 2000000 in
theorem prEq_any (l : List Pr) (n : Nat) (hlen : l.length = n) (A A' : Option Addr) (c c' : Nat) (w : World) (hn : n ≤ 9223372036854775807) (hr : SlRow w w.heap.size 2 A (l.map Pr.vals)) (hr' : SlRow w w.heap.size 2 A' (l.map Pr.vals)) :
    Calls Tryd.prog 16 #[.slice A n c, .slice A' n c'] w fun e w' => e = .returned (.bool true) ∧ Below w.heap.size w w' := by
  have Hr := Lib.hid hr
  have Hr' := Lib.hid hr'
  have Hlen := Lib.hid hlen
  have htl : (l.map Pr.vals).length = n := by rw [List.length_map]; exact hlen
  have Htl := Lib.hid htl
  clear hr hr' hlen htl
  go_enter Tryd.func16, Tryd.ntmps16
  go_wp2_with fail
  go_loopw [5, 13] (fun _ i wr => ∃ k : Nat, k ≤ n ∧ i = .int .i64 k ∧ Hid (Below w.heap.size w wr)) (fun _ i _ => n - (intOf i).toNat)
  case atStart => exact ⟨0, by omega, rfl, Lib.hid (Below.refl _ _)⟩
  case round =>
    obtain ⟨k, hk, rfl, Hb⟩ := hrel
    by_cases hlt : k < n
    · have hkx : k < l.length := by rw [Hlen.out]; exact hlt
      have hkt : k < (l.map Pr.vals).length := by rw [Htl.out]; exact hlt
      obtain ⟨g, o, rfl, hg, hc⟩ := Hr.out (by omega)
      obtain ⟨g', o', rfl, hg', hc'⟩ := Hr'.out (by omega)
      have e : (l.map Pr.vals)[k]'hkt = l[k].vals := by simp only [List.getElem_map]
      have h1 := hc k hkt
      have h2 := hc' k hkt
      rw [e] at h1 h2
      clear hc hc' e
      generalize l[k] = x at *
      have E : ∀ (W : World), (binOp .neq 44 (.agg x.vals.toArray) (.agg x.vals.toArray)).run Tryd.prog W = .ok (.bool false) W := fun W => pr_neq x W
      have G : ∀ (p q : Operand) (W : World), (eqGuard .neq 44 p q (.agg x.vals.toArray) (.agg x.vals.toArray)).run Tryd.prog W = .ok () W := fun p q W => pr_guard x p q W
      have H1 := Lib.hid (rangeAt_below h1 Hb.out hg)
      have H2 := Lib.hid (rangeAt_below h2 Hb.out hg')
      have lg1 := Nat.lt_of_lt_of_le hg Hb.out.size
      have lg2 := Nat.lt_of_lt_of_le hg' Hb.out.size
      clear h1 h2
      go_upto_region 6 with (fail)
      refine wp_region_ext (by kernel_rfl) (by kernel_rfl) ?_
      repeat (go_big_quiet_step (fail))
      go_big_quiet_want
      with_reducible refine quiet_load_rng (b := ?b1) (off := ?o1) (ds := ?ds1) x.vals ?hx1 ?hr1 ?hu1 ?hd1 ?hi1 ?hk1
      case hx1 => rfl
      case hr1 => rintro _ ⟨y, rfl⟩; exact rangeAt_below H1.out y.below lg1
      case hu1 => exact Tryd.underlying44
      case hd1 => rfl
      case hi1 => exact info44
      go_simp
      go_big_quiet_on
      repeat (go_big_quiet_step (fail))
      go_big_quiet_want
      with_reducible refine quiet_load_rng (b := ?b2) (off := ?o2) (ds := ?ds2) x.vals ?hx2 ?hr2 ?hu2 ?hd2 ?hi2 ?hk2
      case hx2 => rfl
      case hr2 => rintro _ ⟨y, rfl⟩; exact rangeAt_below H2.out y.below lg2
      case hu2 => exact Tryd.underlying44
      case hd2 => rfl
      case hi2 => exact info44
      go_simp
      go_big_quiet_on
      repeat (go_big_quiet_step (fail))
      refine wpQuiet_nil ?_
      rintro w4 ⟨⟨_, hb4⟩, rfl⟩
      try simp only [] at *
      have Hb4 := Lib.hid (Hb.out.trans (hb4.mono Hb.out.size))
      go_wp2_with fail
      go_roundw
      case rel => exact ⟨k + 1, by omega, by go_num, Hb4⟩
      case measure => simp [intOf]; omega
    · go_wp2_with fail
      go_ret
      exact ⟨rfl, Hb.out⟩
end Go.Proofs.YtjekdodboihfhaaDoor
