/- Frames of one tag at most, plain: they may be. -/
import Derived.Test.YtoenlcmngdpkmaaBr4
namespace Go.Proofs.Ytoenlcmngdpkmaa
open Go.RowKit
theorem info75 : (Try.prog.info? 75).map (·.size) = some 4 := by kernel_rfl
theorem info58 : (Try.prog.info? 58).map (·.size) = some 21 := by kernel_rfl
def zTg : List Value := [.bool false, .int .i64 0, .bool false, .int .i64 0]
structure TagOk (t : Tg) : Prop where
  pcp : 0 ≤ t.pcp ∧ t.pcp ≤ 7
  vid : 0 ≤ t.vid ∧ t.vid ≤ 4094
theorem tagv_len (l : List Tg) : (tagv l).length = l.length := by simp [tagv]
set_option maxRecDepth 100000 in
theorem tagr_any (t : Tg) (ht : TagOk t) (w : World) :
    Calls Try.prog 67 #[.agg t.vals.toArray] w fun e w' => e = .returned (.bool true) ∧ Below w.heap.size w w' := by
  obtain ⟨⟨h1, h2⟩, ⟨h3, h4⟩⟩ := ht
  obtain ⟨ts, tp, td, tv⟩ := t
  simp only [Tg.vals] at *
  go_enter Try.func67, Try.ntmps67
  go_wp2_with fail
  go_ret
  exact ⟨rfl, (Below.refl _ _).alloc (Nat.le_refl _) _⟩
set_option maxRecDepth 100000 in
set_option maxHeartbeats 2000000 in
theorem stack_any (l : List Tg) (sv : Value) (w : World) (hn : l.length ≤ 1) (hl : ∀ t ∈ l, TagOk t) (hs : SlAt w 4 sv (tagv l)) :
    Calls Try.prog 60 #[sv] w fun e w' => e = .returned (.bool true) ∧ Below w.heap.size w w' := by
  obtain ⟨A, cap, rfl, hc, hr⟩ := hs.row
  rw [tagv_len] at *
  obtain ⟨n, hlen⟩ : ∃ n, l.length = n := ⟨_, rfl⟩
  rw [hlen] at hn hc ⊢
  have Hr := Lib.hid hr
  have Hlen := Lib.hid hlen
  have Hl := Lib.hid hl
  clear hr hlen hs hc hl
  go_enter Try.func60, Try.ntmps60
  go_wp2_with fail
  go_loopw [3, 4, 7] (fun _ _ i wr => ∃ k : Nat, k ≤ n ∧ i = .int .i64 k ∧ Hid (Below w.heap.size w wr)) (fun _ _ i _ => n - (intOf i).toNat)
  case atStart => exact ⟨0, by omega, rfl, Lib.hid (Below.refl _ _)⟩
  case round =>
    obtain ⟨k, hk, rfl, Hb⟩ := hrel
    by_cases hlt : k < n
    · have hkx : k < l.length := by rw [Hlen.out]; exact hlt
      obtain ⟨g, o, rfl, hg, hc⟩ := Hr.out (by rw [tagv_len]; omega)
      have hc1 := hc k (by rw [tagv_len]; exact hkx)
      have e1 : (tagv l)[k]'(by rw [tagv_len]; exact hkx) = l[k].vals := by simp [tagv]
      rw [e1] at hc1
      have Hc1 := Lib.hid (rangeAt_below hc1 Hb.out hg)
      have Hok := Lib.hid (Hl.out l[k] (List.getElem_mem hkx))
      clear hc hc1 e1
      generalize l[k] = t at *
      have HT : Hid (∀ W, Calls Try.prog 67 #[.agg t.vals.toArray] W fun e w' => e = .returned (.bool true) ∧ Below W.heap.size W w') := Lib.hid fun W => tagr_any t Hok.out W
      go_upto_region 4 with (first
        | ((with_reducible refine wpList_load_rng (ty := 75) (b := ?b1) (o := ?o1) (ds := ?ds1) t.vals ?hx1 ?hB1 ?hu1 ?hd1 ?hi1 ?hk1)
           case hx1 => rfl
           case hB1 => exact Hc1.out
           case hu1 => exact Try.underlying75
           case hd1 => rfl
           case hi1 => exact info75)
        | ((with_reducible refine wpList_store_blk (ty := 75) (b := ?b2) (o := ?o2) (t := 75) zTg t.vals ?hx2 ?hy2 ?hB2 ?ho2 ?hi2 ?h12 ?hk2)
           case hx2 => rfl
           case hy2 => rfl
           case hB2 => exact Blk.new wr zTg 75
           case ho2 => exact Nat.le_refl _
           case hi2 => exact info75
           case h12 => exact (Tg.one _)
           intro W4 hBW4 hoW4))
      obtain ⟨hb8, lPE⟩ := Only.fresh hoW4
      have HB4 := Lib.hid (Hb.out.trans (hb8.mono Hb.out.size))
      have HX := Lib.hid hBW4
      clear hBW4 hoW4 hb8 Hb Hc1
      have hn2 : ((n : Int) == 2) = false := beq_eq_false_iff_ne.2 (by omega)
      go_wp2_with (first
        | ((with_reducible refine wpList_load_box (ty := 75) (b := ?b3) (ds := ?ds3) t.vals ?hx3 ?hB3 ?hu3 ?hd3 ?hi3 ?hk3)
           case hx3 => rfl
           case hB3 => exact (Blk.box HX.out)
           case hu3 => exact Try.underlying75
           case hd3 => rfl
           case hi3 => exact info75)
        | ((with_reducible refine (HT.out _).mono ?_)
           rintro e w5 ⟨rfl, hb5⟩
           have HB5 := Lib.hid (HB4.out.trans (hb5.mono HB4.out.size))
           clear hb5)
        )
      go_roundw
      case rel => exact ⟨k + 1, by omega, by go_num, HB5⟩
      case measure => simp [intOf]; omega
    · go_wp2_with fail
      go_ret
      exact ⟨by simp; omega, Hb.out⟩
set_option maxRecDepth 100000 in
theorem head_any (f : Fm) (tv : Value) (w : World) (hn : f.tags.length ≤ 1) (hs : SlAt w 4 tv (tagv f.tags)) :
    Calls Try.prog 61 #[.agg (f.vals tv).toArray] w fun e w' => e = .returned (.int .i64 (14 + 4 * (f.tags.length : Int))) ∧ Below w.heap.size w w' := by
  obtain ⟨A, cap, e, _, _⟩ := hs.row
  rw [tagv_len] at e
  clear hs
  have hBx := Blk.new w (f.vals tv) 58
  have c2 : (w.alloc (.cells (f.vals tv).toArray 58)).cell? ⟨w.heap.size, 12, none⟩ = some tv := hBx.box.cell 12
  have c3 : (w.alloc (.cells (f.vals tv).toArray 58)).cell? ⟨w.heap.size, 13, none⟩ = some (.int .i64 1) := hBx.box.cell 13
  have Hb0 : Hid (Below w.heap.size w (w.alloc (.cells (f.vals tv).toArray 58))) := Lib.hid ((Below.refl _ _).alloc (Nat.le_refl _) _)
  clear hBx
  have e' : tv = .slice A f.tags.length cap := e
  clear e
  generalize hfv : (f.vals tv) = fv at *
  clear hfv
  rw [e'] at c2
  clear e'
  generalize f.tags.length = n at *
  go_enter Try.func61, Try.ntmps61
  go_upto_region 1 with (fail)
  generalize w.alloc (.cells fv.toArray 58) = W1 at *
  go_wp2_with fail
  go_ret
  exact ⟨by first | rfl | (congr 2; omega), Hb0.out⟩
set_option maxRecDepth 100000 in
theorem fright1_any (PB : Nat) (w : World) (h5 : w.cell? ⟨PB, 15, none⟩ = some (.int .i64 0)) (h6 : w.cell? ⟨PB, 16, none⟩ = some (.int .i64 0)) (h7 : w.cell? ⟨PB, 17, none⟩ = some (.int .i64 0)) :
    Calls Try.prog 62 #[.int .i64 0, .int .i64 0, .int .i64 0, .pointer (some ⟨PB, 0, none⟩)] w fun e w' => e = .returned (.bool true) ∧ Below w.heap.size w w' := by
  go_enter Try.func62, Try.ntmps62
  go_wp2_with fail
  go_ret
  exact ⟨rfl, Below.refl _ _⟩
set_option maxRecDepth 100000 in
set_option maxHeartbeats 4000000 in
theorem fright_any (f : Fm) (tv : Value) (w : World) (hn : f.tags.length ≤ 1) (hl : ∀ t ∈ f.tags, TagOk t) (hb : f.body.length ≤ 100) (hs : SlAt w 4 tv (tagv f.tags)) :
    Calls Try.prog 41 #[.agg (f.vals tv).toArray] w fun e w' => e = .returned (.bool true) ∧ Below w.heap.size w w' := by
  have hff : ∀ (args : Array Value) (W : World), (callFunc 62 args).run Try.prog W = .ok (.enter 62 args) W := fun args W => by kernel_rfl
  have hBx := Blk.new w (f.vals tv) 58
  have hb0 : Below w.heap.size w (w.alloc (.cells (f.vals tv).toArray 58)) := (Below.refl _ _).alloc (Nat.le_refl _) _
  have hlt : w.heap.size < (w.alloc (.cells (f.vals tv).toArray 58)).heap.size := by simp
  have c2 : (w.alloc (.cells (f.vals tv).toArray 58)).cell? ⟨w.heap.size, 12, none⟩ = some tv := hBx.box.cell 12
  have c3 : (w.alloc (.cells (f.vals tv).toArray 58)).cell? ⟨w.heap.size, 13, none⟩ = some (.int .i64 1) := hBx.box.cell 13
  have c4 : (w.alloc (.cells (f.vals tv).toArray 58)).cell? ⟨w.heap.size, 14, none⟩ = some (.int .i64 2048) := hBx.box.cell 14
  have c8 : (w.alloc (.cells (f.vals tv).toArray 58)).cell? ⟨w.heap.size, 18, none⟩ = some (.int .i64 0) := hBx.box.cell 18
  have c9 : (w.alloc (.cells (f.vals tv).toArray 58)).cell? ⟨w.heap.size, 19, none⟩ = some (.int .i64 0) := hBx.box.cell 19
  have c10 : (w.alloc (.cells (f.vals tv).toArray 58)).cell? ⟨w.heap.size, 20, none⟩ = some (.string ⟨f.body.toArray⟩) := hBx.box.cell 20
  have HS : Hid (∀ W, Below (w.alloc (.cells (f.vals tv).toArray 58)).heap.size (w.alloc (.cells (f.vals tv).toArray 58)) W → Calls Try.prog 60 #[tv] W fun e w' => e = .returned (.bool true) ∧ Below W.heap.size W w') :=
    Lib.hid fun W hW => stack_any f.tags tv W hn hl (hs.below (hb0.trans (hW.mono hb0.size)))
  have HH : Hid (∀ W, Below (w.alloc (.cells (f.vals tv).toArray 58)).heap.size (w.alloc (.cells (f.vals tv).toArray 58)) W → Calls Try.prog 61 #[.agg (f.vals tv).toArray] W fun e w' => e = .returned (.int .i64 (14 + 4 * (f.tags.length : Int))) ∧ Below W.heap.size W w') :=
    Lib.hid fun W hW => head_any f tv W hn (hs.below (hb0.trans (hW.mono hb0.size)))
  have HF : Hid (∀ W, Below (w.alloc (.cells (f.vals tv).toArray 58)).heap.size (w.alloc (.cells (f.vals tv).toArray 58)) W → Calls Try.prog 62 #[.int .i64 0, .int .i64 0, .int .i64 0, .pointer (some ⟨w.heap.size, 0, none⟩)] W fun e w' => e = .returned (.bool true) ∧ Below W.heap.size W w') :=
    Lib.hid fun W hW => fright1_any w.heap.size W (laterc (hBx.box.cell 15) hW hlt) (laterc (hBx.box.cell 16) hW hlt) (laterc (hBx.box.cell 17) hW hlt)
  have HRF : Hid ((w.alloc (.cells (f.vals tv).toArray 58)).rangeAt w.heap.size 0 (f.vals tv)) := Lib.hid hBx.box.range
  have Hb0 := Lib.hid hb0
  obtain ⟨A, cap, e, _, _⟩ := hs.row
  rw [tagv_len] at e
  have e' : tv = .slice A f.tags.length cap := e
  clear hBx hb0 hs hl e
  have info58 : (Try.prog.info? 58).map (·.size) = some (f.vals tv).length := info58
  generalize hfv : (f.vals tv) = fv at *
  clear hfv
  have c2' := c2
  rw [e'] at c2'
  rw [e'] at HS
  clear c2 e'
  generalize f.tags.length = n at *
  have hg1 : decide ((2000 : Int) < (f.body.length : Int)) = false := decide_eq_false (by omega)
  have hg2 : decide ((2000 : Int) < 14 + 4 * (n : Int) + (f.body.length : Int)) = false := decide_eq_false (by omega)
  go_enter Try.func41, Try.ntmps41
  go_upto_region 1 with (fail)
  generalize w.alloc (.cells fv.toArray 58) = W1 at *
  refine wp_region_ext (by kernel_rfl) (by kernel_rfl) ?_
  repeat (go_big_quiet_step ((first
    | (go_at_call 60; exact Calls.ext _ (HS.out _ (Ext.below _)))
    | (go_at_call 61; exact Calls.ext _ (HH.out _ (Ext.below _))))))
  go_big_quiet_want
  with_reducible refine quiet_load_rng (b := ?b5) (off := ?o5) (ds := ?ds5) fv ?hx5 ?hr5 ?hu5 ?hd5 ?hi5 ?hk5
  case hx5 => rfl
  case hr5 => rintro _ ⟨y, rfl⟩; exact rangeAt_below HRF.out y.below hlt
  case hu5 => exact Try.underlying58
  case hd5 => rfl
  case hi5 => exact info58
  go_simp
  go_big_quiet_on
  repeat (go_big_quiet_step ((first
    | (go_at_call 60; exact Calls.ext _ (HS.out _ (Ext.below _)))
    | (go_at_call 61; exact Calls.ext _ (HH.out _ (Ext.below _))))))
  refine wpQuiet_nil ?_
  rintro w3 ⟨⟨_, hb3⟩, rfl⟩
  try simp only [] at *
  have HB3 := Lib.hid hb3
  have l3 : w.heap.size < w3.heap.size := Nat.lt_of_lt_of_le hlt hb3.size
  have d2 := laterc c2' hb3 hlt
  have d3 := laterc c3 hb3 hlt
  have d4 := laterc c4 hb3 hlt
  have d8 := laterc c8 hb3 hlt
  have d9 := laterc c9 hb3 hlt
  have d10 := laterc c10 hb3 hlt
  have HR3 := Lib.hid (rangeAt_below HRF.out hb3 hlt)
  clear c2' c3 c4 c8 c9 c10 hb3 HRF HS
  go_upto_region 4 with (fail)
  refine wp_region_ext (by kernel_rfl) (by kernel_rfl) ?_
  repeat (go_big_quiet_step (fail))
  go_big_quiet_want
  with_reducible refine quiet_load_rng (b := ?b6) (off := ?o6) (ds := ?ds6) fv ?hx6 ?hr6 ?hu6 ?hd6 ?hi6 ?hk6
  case hx6 => rfl
  case hr6 => rintro _ ⟨y, rfl⟩; exact rangeAt_below HR3.out y.below l3
  case hu6 => exact Try.underlying58
  case hd6 => rfl
  case hi6 => exact info58
  go_simp
  go_big_quiet_on
  repeat (go_big_quiet_step ((go_at_call 61; exact Calls.ext _ (HH.out _ (HB3.out.trans ((Ext.below _).mono HB3.out.size))))))
  refine wpQuiet_nil ?_
  rintro w5 ⟨⟨_, hb5⟩, rfl⟩
  try simp only [] at *
  have HB5 := Lib.hid (HB3.out.trans (hb5.mono HB3.out.size))
  have l5 : w.heap.size < w5.heap.size := Nat.lt_of_lt_of_le l3 hb5.size
  have e3 := laterc d3 hb5 l3
  have e4 := laterc d4 hb5 l3
  have e8 := laterc d8 hb5 l3
  have e9 := laterc d9 hb5 l3
  clear d2 d3 d4 d8 d9 d10 hb5 HR3 HH
  go_wp2_with (first
    | ((with_reducible refine (HF.out _ HB5.out).mono ?_)
       rintro e w6 ⟨rfl, hb6⟩
       have f8 := laterc e8 hb6 l5
       have f9 := laterc e9 hb6 l5
       have HB6 := Lib.hid (HB5.out.trans (hb6.mono HB5.out.size))
       clear hb6)
    )
  go_ret
  exact ⟨rfl, Hb0.out.trans (HB6.out.mono Hb0.out.size)⟩
end Go.Proofs.Ytoenlcmngdpkmaa
