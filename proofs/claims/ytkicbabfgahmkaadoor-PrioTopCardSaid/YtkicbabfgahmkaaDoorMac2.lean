/- mac: Text.  -/
import Derived.Test.YtkicbabfgahmkaaDoorMac1
import Derived.Test.YtkicbabfgahmkaaDoorItems
import Derived.Deep.DeepMust
import Derived.Test.YtkicbabfgahmkaaDoorShelf
set_option linter.all false
namespace Go.Proofs.YtkicbabfgahmkaaDoor
open Go.RowKit
def strC (l : List (List UInt8)) : List Value := l.map fun x => .string ⟨x.toArray⟩
theorem strC_len (l : List (List UInt8)) : (strC l).length = l.length := by simp [strC]
theorem strC_app (l m : List (List UInt8)) : strC (l ++ m) = strC l ++ strC m := by simp [strC]
theorem strC_one (l : List (List UInt8)) : ∀ v ∈ strC l, v.oneCell' = true := fun v hv => by
  obtain ⟨x, _, rfl⟩ := List.mem_map.1 hv; rfl
theorem elemStr : ElemOk Tryd.prog 78 9 1 16 := by
  have h : (Tryd.prog.info? 9).map (fun i => (i.zero, i.size, i.bytes)) = some (some (.string ByteArray.empty), 1, 16) := by kernel_rfl
  obtain ⟨i, hi, hz, hs, hb⟩ := info_parts h
  exact ⟨Tryd.underlying78, i, _, hi, hz, hs, hb, rfl, by decide⟩
set_option maxRecDepth 100000 in
theorem and15_all : ((List.range 256).all fun n => bits .and .u8 ((n : Nat) : Int) 15 == ((n % 16 : Nat) : Int)) = true := by kernel_rfl
theorem and15 (c : UInt8) : bits .and .u8 (c.toNat : Int) 15 = ((c.toNat % 16 : Nat) : Int) := by
  have := List.all_eq_true.1 and15_all c.toNat (List.mem_range.2 c.toNat_lt)
  exact eq_of_beq this
theorem ixd0 (W : World) : (Instr.index 9 (.string ⟨#[48, 49, 50, 51, 52, 53, 54, 55, 56, 57, 97, 98, 99, 100, 101, 102]⟩) (.int .u8 0)).run Tryd.prog W = .ok (.int .u8 (dig 0).toNat) W := by kernel_rfl
theorem ixd1 (W : World) : (Instr.index 9 (.string ⟨#[48, 49, 50, 51, 52, 53, 54, 55, 56, 57, 97, 98, 99, 100, 101, 102]⟩) (.int .u8 1)).run Tryd.prog W = .ok (.int .u8 (dig 1).toNat) W := by kernel_rfl
theorem ixd2 (W : World) : (Instr.index 9 (.string ⟨#[48, 49, 50, 51, 52, 53, 54, 55, 56, 57, 97, 98, 99, 100, 101, 102]⟩) (.int .u8 2)).run Tryd.prog W = .ok (.int .u8 (dig 2).toNat) W := by kernel_rfl
theorem ixd3 (W : World) : (Instr.index 9 (.string ⟨#[48, 49, 50, 51, 52, 53, 54, 55, 56, 57, 97, 98, 99, 100, 101, 102]⟩) (.int .u8 3)).run Tryd.prog W = .ok (.int .u8 (dig 3).toNat) W := by kernel_rfl
theorem ixd4 (W : World) : (Instr.index 9 (.string ⟨#[48, 49, 50, 51, 52, 53, 54, 55, 56, 57, 97, 98, 99, 100, 101, 102]⟩) (.int .u8 4)).run Tryd.prog W = .ok (.int .u8 (dig 4).toNat) W := by kernel_rfl
theorem ixd5 (W : World) : (Instr.index 9 (.string ⟨#[48, 49, 50, 51, 52, 53, 54, 55, 56, 57, 97, 98, 99, 100, 101, 102]⟩) (.int .u8 5)).run Tryd.prog W = .ok (.int .u8 (dig 5).toNat) W := by kernel_rfl
theorem ixd6 (W : World) : (Instr.index 9 (.string ⟨#[48, 49, 50, 51, 52, 53, 54, 55, 56, 57, 97, 98, 99, 100, 101, 102]⟩) (.int .u8 6)).run Tryd.prog W = .ok (.int .u8 (dig 6).toNat) W := by kernel_rfl
theorem ixd7 (W : World) : (Instr.index 9 (.string ⟨#[48, 49, 50, 51, 52, 53, 54, 55, 56, 57, 97, 98, 99, 100, 101, 102]⟩) (.int .u8 7)).run Tryd.prog W = .ok (.int .u8 (dig 7).toNat) W := by kernel_rfl
theorem ixd8 (W : World) : (Instr.index 9 (.string ⟨#[48, 49, 50, 51, 52, 53, 54, 55, 56, 57, 97, 98, 99, 100, 101, 102]⟩) (.int .u8 8)).run Tryd.prog W = .ok (.int .u8 (dig 8).toNat) W := by kernel_rfl
theorem ixd9 (W : World) : (Instr.index 9 (.string ⟨#[48, 49, 50, 51, 52, 53, 54, 55, 56, 57, 97, 98, 99, 100, 101, 102]⟩) (.int .u8 9)).run Tryd.prog W = .ok (.int .u8 (dig 9).toNat) W := by kernel_rfl
theorem ixd10 (W : World) : (Instr.index 9 (.string ⟨#[48, 49, 50, 51, 52, 53, 54, 55, 56, 57, 97, 98, 99, 100, 101, 102]⟩) (.int .u8 10)).run Tryd.prog W = .ok (.int .u8 (dig 10).toNat) W := by kernel_rfl
theorem ixd11 (W : World) : (Instr.index 9 (.string ⟨#[48, 49, 50, 51, 52, 53, 54, 55, 56, 57, 97, 98, 99, 100, 101, 102]⟩) (.int .u8 11)).run Tryd.prog W = .ok (.int .u8 (dig 11).toNat) W := by kernel_rfl
theorem ixd12 (W : World) : (Instr.index 9 (.string ⟨#[48, 49, 50, 51, 52, 53, 54, 55, 56, 57, 97, 98, 99, 100, 101, 102]⟩) (.int .u8 12)).run Tryd.prog W = .ok (.int .u8 (dig 12).toNat) W := by kernel_rfl
theorem ixd13 (W : World) : (Instr.index 9 (.string ⟨#[48, 49, 50, 51, 52, 53, 54, 55, 56, 57, 97, 98, 99, 100, 101, 102]⟩) (.int .u8 13)).run Tryd.prog W = .ok (.int .u8 (dig 13).toNat) W := by kernel_rfl
theorem ixd14 (W : World) : (Instr.index 9 (.string ⟨#[48, 49, 50, 51, 52, 53, 54, 55, 56, 57, 97, 98, 99, 100, 101, 102]⟩) (.int .u8 14)).run Tryd.prog W = .ok (.int .u8 (dig 14).toNat) W := by kernel_rfl
theorem ixd15 (W : World) : (Instr.index 9 (.string ⟨#[48, 49, 50, 51, 52, 53, 54, 55, 56, 57, 97, 98, 99, 100, 101, 102]⟩) (.int .u8 15)).run Tryd.prog W = .ok (.int .u8 (dig 15).toNat) W := by kernel_rfl
theorem ixd (n : Nat) (h : n < 16) (W : World) : (Instr.index 9 (.string ⟨#[48, 49, 50, 51, 52, 53, 54, 55, 56, 57, 97, 98, 99, 100, 101, 102]⟩) (.int .u8 (n : Int))).run Tryd.prog W = .ok (.int .u8 (dig n).toNat) W := by
  match n, h with
  | 0, _ => exact ixd0 W
  | 1, _ => exact ixd1 W
  | 2, _ => exact ixd2 W
  | 3, _ => exact ixd3 W
  | 4, _ => exact ixd4 W
  | 5, _ => exact ixd5 W
  | 6, _ => exact ixd6 W
  | 7, _ => exact ixd7 W
  | 8, _ => exact ixd8 W
  | 9, _ => exact ixd9 W
  | 10, _ => exact ixd10 W
  | 11, _ => exact ixd11 W
  | 12, _ => exact ixd12 W
  | 13, _ => exact ixd13 W
  | 14, _ => exact ixd14 W
  | 15, _ => exact ixd15 W
  | n + 16, h => exact absurd h (by omega)
theorem ix0 (a : Ad) (W : World) : (Instr.index 23 (.agg a.vals.toArray) (.int .i64 0)).run Tryd.prog W = .ok (.int .u8 a.a.toNat) W := by kernel_rfl
theorem ix1 (a : Ad) (W : World) : (Instr.index 23 (.agg a.vals.toArray) (.int .i64 1)).run Tryd.prog W = .ok (.int .u8 a.b.toNat) W := by kernel_rfl
theorem ix2 (a : Ad) (W : World) : (Instr.index 23 (.agg a.vals.toArray) (.int .i64 2)).run Tryd.prog W = .ok (.int .u8 a.c.toNat) W := by kernel_rfl
theorem ix3 (a : Ad) (W : World) : (Instr.index 23 (.agg a.vals.toArray) (.int .i64 3)).run Tryd.prog W = .ok (.int .u8 a.d.toNat) W := by kernel_rfl
theorem ix4 (a : Ad) (W : World) : (Instr.index 23 (.agg a.vals.toArray) (.int .i64 4)).run Tryd.prog W = .ok (.int .u8 a.e.toNat) W := by kernel_rfl
theorem ix5 (a : Ad) (W : World) : (Instr.index 23 (.agg a.vals.toArray) (.int .i64 5)).run Tryd.prog W = .ok (.int .u8 a.f.toNat) W := by kernel_rfl
theorem ixa (a : Ad) (k : Nat) (h : k < 6) (W : World) : (Instr.index 23 (.agg a.vals.toArray) (.int .i64 (k : Int))).run Tryd.prog W = .ok (.int .u8 (a.list.getD k 0).toNat) W := by
  match k, h with
  | 0, _ => exact ix0 a W
  | 1, _ => exact ix1 a W
  | 2, _ => exact ix2 a W
  | 3, _ => exact ix3 a W
  | 4, _ => exact ix4 a W
  | 5, _ => exact ix5 a W
  | n + 6, h => exact absurd h (by omega)
theorem take_two (a : Ad) (k : Nat) (h : k < 6) : (a.list.map two).take (k + 1) = (a.list.map two).take k ++ [two (a.list.getD k 0)] := by
  match k, h with
  | 0, _ | 1, _ | 2, _ | 3, _ | 4, _ | 5, _ => rfl
  | n + 6, h => exact absurd h (by omega)
theorem join_any (g cap : Nat) (L : List (List UInt8)) (w : World) (hc : ∀ j v, (strC L)[j]? = some v → w.cell? ⟨g, j, none⟩ = some v) (hg : g < w.heap.size) (hl : L.length ≤ cap) (h1 : L.length ≤ 1000) (h2 : (Lib.join L [58]).length ≤ 100000) :
    Calls Tryd.prog 47 #[.slice (some ⟨g, 0, none⟩) L.length cap, .string ⟨#[58]⟩] w fun e w' => e = .returned (.string ⟨(Lib.join L [58]).toArray⟩) ∧ Below w.heap.size w w' := by
  have e : (L.map fun x => (⟨x.toArray⟩ : ByteArray)).map (·.data.toList) = L := by
    rw [List.map_map]
    conv => rhs; rw [← List.map_id L]
    exact List.map_congr_left (fun x _ => rfl)
  have := Tryd.strings_Join g 0 cap (L.map fun x => ⟨x.toArray⟩) ⟨#[58]⟩ w (fun j x hx => by
    rw [Nat.zero_add]
    refine hc j _ ?_
    rw [List.getElem?_map, Option.map_eq_some_iff] at hx
    obtain ⟨y, hy, rfl⟩ := hx
    rw [strC, List.getElem?_map, hy]; rfl) hg (by rw [List.length_map]; omega) (by rw [List.length_map]; exact hl) (by rw [e]; exact Nat.le_trans h2 (by decide))
  rw [e, List.length_map] at this
  exact this
set_option maxRecDepth 100000 in
set_option maxHeartbeats 2000000 in
theorem mtext_any (a : Ad) (w : World) : Calls Tryd.prog 16 #[.agg a.vals.toArray] w fun e w' => e = .returned (.string ⟨a.text.toArray⟩) ∧ Below w.heap.size w w' := by
  have H0 := Lib.hid ((St.init w).alloc a.vals 23)
  go_enter Tryd.func16, Tryd.ntmps16
  go_upto_region 1 with (fail)
  generalize World.alloc _ _ = w1 at *
  go_upto_region 2 with (fail)
  have R0 := Lib.hid (Blk.box (H0.out.at 0 rfl)).range
  go_wp2_with (first
    | (with_reducible refine wpList_load_rng (ty := 23) a.vals (by with_unfolding_all rfl) R0.out Tryd.underlying23 (by with_unfolding_all rfl) (by with_unfolding_all exact info23) ?_))
  go_loopw [3, 7] (fun s3 s7 wr => ∃ (k cap : Nat) (A : Option Addr), k ≤ 6 ∧ s7 = .int .i64 (k : Int) ∧ s3 = .slice A k cap ∧ Hid (St w.heap.size w wr (ownI 9 1 (.slice A k cap) k (strC ((a.list.map two).take k)) :: bk w.heap.size 23 a.vals :: []))) (fun _ i _ => 6 - (intOf i).toNat)
  case atStart => exact ⟨0, 0, none, by omega, rfl, rfl, Lib.hid (H0.out.own0 9 1)⟩
  case round =>
    obtain ⟨k, cap, A, hk0, rfl, rfl, HR⟩ := hrel
    by_cases hlt : k < 6
    · have hix := ixa a k hlt
      have Htk := Lib.hid (take_two a k hlt)
      generalize a.list.getD k 0 = c at hix Htk
      have h1 := c.toNat_lt
      have hI : (k : Int) < 6 := by omega
      have hixA : ∀ W, (Instr.index 9 (.string ⟨#[48, 49, 50, 51, 52, 53, 54, 55, 56, 57, 97, 98, 99, 100, 101, 102]⟩) (.int .u8 ((c.toNat : Int) / 16))).run Tryd.prog W = .ok (.int .u8 (dig (c.toNat / 16)).toNat) W := fun W => by
        rw [show ((c.toNat : Int) / 16) = ((c.toNat / 16 : Nat) : Int) by omega]
        exact ixd (c.toNat / 16) (by omega) W
      have hixB := ixd (c.toNat % 16) (by omega)
      have hand := and15 c
      have htwo : two c = [dig (c.toNat / 16), dig (c.toNat % 16)] := rfl
      rw [htwo] at Htk
      clear h1 htwo
      generalize dig (c.toNat / 16) = D1 at *
      generalize dig (c.toNat % 16) = D2 at *
      generalize c.toNat % 16 = m at *
      go_upto_region 5 with (fail)
      refine wp_region_ext_tailm 7 rfl (by kernel_rfl) (by kernel_rfl) (fun _ _ _ h => h) ?_
      simp only [List.take_succ_cons, List.take_zero, List.drop_succ_cons, List.drop_zero]
      repeat (go_big_quiet_step (fail))
      refine wpQuiet_nil ?_
      rintro w8 ⟨⟨_, hb8⟩, rfl⟩
      try simp only [] at *
      have H8 := Lib.hid (HR.out.ext hb8)
      clear HR hb8
      have hcv : ∀ w : World, ∀ t : TypeId, (convert 83 9 (.slice (some ⟨w.heap.size, 0, none⟩) 2 2)).run Tryd.prog (w.alloc (.cells #[.int .u8 D1.toNat, .int .u8 D2.toNat] t)) = .ok (.string ⟨#[D1, D2]⟩) (w.alloc (.cells #[.int .u8 D1.toNat, .int .u8 D2.toNat] t)) := fun w t =>
        run_convert_bytes_back (P := Tryd.prog) _ 83 9 5 ⟨w.heap.size, 0, none⟩ 2 [D1, D2] Tryd.underlying83 Tryd.underlying5 Tryd.underlying9 (fun j hj => by
          rw [Addr.add_lit, Nat.zero_add, World.cell?_alloc_mark]
          match j, hj with
          | 0, _ | 1, _ => rfl)
      go_wp2_with (first
        | (at_builtin; go_must (refine wpList_append_st (t := 78) (e := 9) (size := 1) (bytes := 16) (n := k) (m := 1) (c := 1) (strC ((a.list.map two).take k)) [.string ⟨#[D1, D2]⟩] elemStr ((H8.out.ext ((Below.refl _ _).alloc (Nat.le_refl _) _)).ext ((Below.refl _ _).alloc (Nat.le_refl _) _)) (by with_unfolding_all rfl) (show Value.slice (some ⟨w8.heap.size + 1, 0, none⟩) 1 1 = Value.slice (some ⟨(w8.alloc (.cells #[.int .u8 D1.toNat, .int .u8 D2.toNat] 5)).heap.size, 0, none⟩) 1 1 from congrArg (fun q => Value.slice (some ⟨q, 0, none⟩) 1 1) (Eq.symm (Array.size_push _))) (World.news_of_block (heap_alloc_new _ _)) rfl (strC_one [[D1, D2]]) (by decide) (by unfold maxLen; omega) (by omega) (fun g2 cap2 W2 H2 => ?_))))
      have hs2 : strC ((a.list.map two).take k) ++ [.string ⟨#[D1, D2]⟩] = strC ((a.list.map two).take (k + 1)) := by rw [Htk.out, strC_app]; rfl
      rw [hs2] at H2
      have HR2 := Lib.hid H2
      clear H2 hs2 hix hixA hixB hand hcv Htk H8
      go_wp2_with fail
      go_roundw
      case rel => exact ⟨k + 1, cap2, some ⟨g2, 0, none⟩, by omega, by go_num, rfl, HR2⟩
      case measure => simp [intOf]; omega
    · obtain rfl : k = 6 := by omega
      have HO := Lib.hid HR.out.head
      obtain ⟨g, rfl⟩ : ∃ g, A = some ⟨g, 0, none⟩ := by
        obtain ⟨hl, h' | ⟨g', cap', cur, e1, _⟩⟩ := HR.out.head
        · cases h'.1
        · injection e1 with e1 _ _
          exact ⟨g', e1⟩
      have hle : 6 ≤ cap := by
        obtain ⟨_, h' | ⟨g', cap', cur, e1, _, _, hle, hmx, hlen, _⟩⟩ := HO.out
        · cases h'.1
        · injection e1 with _ _ e3
          omega
      have HJ := Lib.hid (join_any g cap ((a.list.map two).take 6) wr (fun j v hv => own_at HO.out j v hv) (own_lt' HO.out) (by rw [show ((a.list.map two).take 6).length = 6 from rfl]; exact hle) (by rw [show ((a.list.map two).take 6).length = 6 from rfl]; omega) (by rw [show (Lib.join ((a.list.map two).take 6) [58]).length = 17 from rfl]; omega))
      have hT : Lib.join ((a.list.map two).take 6) [58] = a.text := rfl
      rw [hT] at HJ
      go_wp2_with fail
      refine HJ.out.mono ?_
      rintro e w9 ⟨rfl, hb9⟩
      go_wp2_with fail
      go_ret
      exact ⟨rfl, HR.out.below.trans (hb9.mono HR.out.below.size)⟩
end Go.Proofs.YtkicbabfgahmkaaDoor
