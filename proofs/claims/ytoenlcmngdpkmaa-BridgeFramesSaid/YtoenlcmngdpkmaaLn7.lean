/- The table of addresses: lessons; school, learned. -/
import Derived.Test.YtoenlcmngdpkmaaLn6
namespace Go.Proofs.Ytoenlcmngdpkmaa
open Go.RowKit
def Less.vals (x : Less) : List Value := [.int .i64 x.vid, .int .i64 x.ad, .int .i64 x.port, .int .i64 x.after]
theorem Less.one (x : Less) : ∀ v ∈ x.vals, v.oneCell' = true := fun v hv => by
  simp only [Less.vals, List.mem_cons, List.not_mem_nil, or_false] at hv
  rcases hv with rfl | rfl | rfl | rfl <;> rfl
theorem info80 : (Try.prog.info? 80).map (·.size) = some 4 := by kernel_rfl
def zLess : List Value := [.int .i64 0, .int .i64 0, .int .i64 0, .int .i64 0]
section
variable {B : Nat} {w0 w : World} {A : List It}
theorem St.tab {T : Nat} {age now : Int} {sv : Value} {es : List Ent} (H : St B w0 w (bk T 86 [.int .i64 age, .int .i64 now, sv] :: rowI sv es :: A)) : TabIn w 0 T age now sv es :=
  ⟨H.head, H.item (k := rowI sv es) (List.mem_of_getElem? (i := 1) rfl)⟩
theorem look_st {T : Nat} {age now : Int} {sv : Value} {es : List Ent} (H : St B w0 w (bk T 86 [.int .i64 age, .int .i64 now, sv] :: rowI sv es :: A)) (hok : TabOk es now) (hnow : now ≤ 1099511627776) (vid : Int) (a : Ad) (t : Int) (ht : 0 ≤ t) (ht2 : t ≤ 1099511627776) :
    Calls Try.prog 17 #[.pointer (some ⟨T, 0, none⟩), .int .i64 vid, .agg a.vals.toArray, .int .i64 t] w fun e w' => e = .returned (.int .i64 (lookM es vid a t age)) ∧ St B w0 w' (bk T 86 [.int .i64 age, .int .i64 now, sv] :: rowI sv es :: A) := by
  refine (look_any es T 0 age now sv vid a t w H.tab hok.len (fun e he => ⟨(hok.time e he).1, Int.le_trans (hok.time e he).2 hnow⟩) ht ht2).mono ?_
  rintro e w1 ⟨rfl, hb⟩
  exact ⟨rfl, H.ext hb⟩
theorem len_st {T : Nat} {age now : Int} {sv : Value} {es : List Ent} (H : St B w0 w (bk T 86 [.int .i64 age, .int .i64 now, sv] :: rowI sv es :: A)) (hok : TabOk es now) (hnow : now ≤ 1099511627776) (t : Int) (ht : 0 ≤ t) (ht2 : t ≤ 1099511627776) :
    Calls Try.prog 19 #[.pointer (some ⟨T, 0, none⟩), .int .i64 t] w fun e w' => e = .returned (.int .i64 (lenM es t age : Nat)) ∧ St B w0 w' (bk T 86 [.int .i64 age, .int .i64 now, sv] :: rowI sv es :: A) := by
  refine (len_any es T 0 age now sv t w H.tab hok.len (fun e he => ⟨(hok.time e he).1, Int.le_trans (hok.time e he).2 hnow⟩) ht ht2).mono ?_
  rintro e w1 ⟨rfl, hb⟩
  exact ⟨rfl, H.ext hb⟩
/-- A table behind lessons. -/
def School (B : Nat) (w0 : World) (A : List It) (l : List Less) (e : Ending) (w' : World) : Prop := ∃ T sv, e = .returned (.tuple #[.pointer (some ⟨T, 0, none⟩), .int .i64 (taughtM [] 0 l).2]) ∧
  St B w0 w' (bk T 86 [.int .i64 100, .int .i64 (taughtM [] 0 l).2, sv] :: rowI sv (taughtM [] 0 l).1 :: A)
theorem taught_take {l : List Less} {k : Nat} (hk : k < l.length) : taughtM [] 0 (l.take (k + 1)) = (learnM (taughtM [] 0 (l.take k)).1 (1 + (pickN l[k].vid 3 : Nat)) (adOf (pickN l[k].ad 60)) (pickN l[k].port 8 : Nat) ((taughtM [] 0 (l.take k)).2 + (pickN l[k].after 30 : Nat)) 100, (taughtM [] 0 (l.take k)).2 + (pickN l[k].after 30 : Nat)) := by
  rw [List.take_succ_eq_append_getElem hk, taught_append]; rfl
set_option maxRecDepth 100000 in
set_option maxHeartbeats 4000000 in
theorem school_st (l : List Less) (Al : Option Addr) (n cap : Nat) (hl : l.length = n) (h100 : n ≤ 100) (H : St B w0 w A) (hr : SlRow w0 B 4 Al (l.map Less.vals)) :
    Calls Try.prog 15 #[.slice Al n cap] w (School B w0 A l) := by
  have H0 := Lib.hid H
  have Hr := Lib.hid hr
  have Hl := Lib.hid hl
  clear H hr hl
  go_enter Try.func15, Try.ntmps15
  go_upto_region 5 with (first
    | ((with_reducible refine (newt_st H0.out 100 (by omega) (by omega)).mono ?_)
       rintro e w1 ⟨rfl, h1⟩
       have H1 := Lib.hid h1
       clear h1 H0)
    )
  generalize w.heap.size = T at *
  go_wp2_with fail
  go_loopw [6, 8, 21] (fun nw _ i wr => ∃ (k : Nat) (now : Int) (es : List Ent) (sv : Value), k ≤ n ∧ i = .int .i64 k ∧ nw = .int .i64 now ∧ Hid (taughtM [] 0 (l.take k) = (es, now)) ∧ Hid (St B w0 wr (bk T 86 [.int .i64 100, .int .i64 now, sv] :: rowI sv es :: A))) (fun _ _ i _ => n - (intOf i).toNat)
  case atStart => exact ⟨0, 0, [], .slice none 0 0, by omega, rfl, rfl, Lib.hid rfl, H1⟩
  case round =>
    obtain ⟨k, now, es, sv, hk, rfl, rfl, Ht, HR⟩ := hrel
    clear H1
    by_cases hlk : k < n
    · have hkx : k < l.length := by rw [Hl.out]; exact hlk
      have hst := taught_take hkx
      rw [Ht.out] at hst
      obtain ⟨hok, hn0, hn1, _⟩ := taught_ok (l.take k) [] 0 (by omega) (TabOk.nil 0)
      rw [Ht.out] at hok hn0 hn1
      simp only [] at hst hok hn0 hn1
      have hlk2 : (l.take k).length ≤ 100 := by rw [List.length_take]; omega
      have hn2 : now ≤ 2900 := by omega
      clear hn1 hlk2
      obtain ⟨g, o, rfl, hg, hc⟩ := Hr.out (by rw [List.length_map]; omega)
      have hc1 := hc k (by rw [List.length_map]; exact hkx)
      rw [List.getElem_map] at hc1
      have Hc1 := Lib.hid (rangeAt_below hc1 HR.out.below hg)
      generalize l[k] = x at *
      obtain ⟨xv, xa, xp, xt⟩ := x
      simp only [] at *
      have p1 := pickN_lt xv 3 (by omega)
      have p3 := pickN_lt xp 8 (by omega)
      have p4 := pickN_lt xt 30 (by omega)
      have HP1 : Hid (∀ W, Calls Try.prog 16 #[.int .i64 xv, .int .i64 3] W fun e w' => e = .returned (.int .i64 (pickN xv 3 : Nat)) ∧ W = w') := Lib.hid fun W => pick_any xv 3 W (by omega) (by omega)
      have HP3 : Hid (∀ W, Calls Try.prog 16 #[.int .i64 xp, .int .i64 8] W fun e w' => e = .returned (.int .i64 (pickN xp 8 : Nat)) ∧ W = w') := Lib.hid fun W => pick_any xp 8 W (by omega) (by omega)
      have HP4 : Hid (∀ W, Calls Try.prog 16 #[.int .i64 xt, .int .i64 30] W fun e w' => e = .returned (.int .i64 (pickN xt 30 : Nat)) ∧ W = w') := Lib.hid fun W => pick_any xt 30 W (by omega) (by omega)
      have HA : Hid (∀ W, Calls Try.prog 18 #[.int .i64 xa] W fun e w' => e = .returned (.agg (adOf (pickN xa 60)).vals.toArray) ∧ Below W.heap.size W w') := Lib.hid fun W => address_any xa W
      have hga : (adOf (pickN xa 60)).a.toNat % 2 ≠ 1 := by rw [adOf_a]; decide
      generalize pickN xv 3 = pv at *
      generalize pickN xp 8 = pp at *
      generalize pickN xt 30 = pt at *
      generalize adOf (pickN xa 60) = aa at *
      have Hga := Lib.hid hga
      have Hst := Lib.hid hst
      have Hok := Lib.hid hok
      clear hc hc1 hst hga hok
      go_upto_region 8 with (first
        | ((with_reducible refine wpList_load_rng (ty := 80) (b := ?b2) (o := ?o2) (ds := ?ds2) (Less.vals ⟨xv, xa, xp, xt⟩) ?hx2 ?hB2 ?hu2 ?hd2 ?hi2 ?hk2)
           case hx2 => rfl
           case hB2 => exact Hc1.out
           case hu2 => exact Try.underlying80
           case hd2 => rfl
           case hi2 => exact info80)
        | ((with_reducible refine wpList_store_blk (ty := 80) (b := ?b3) (o := ?o3) (t := 80) zLess (Less.vals ⟨xv, xa, xp, xt⟩) ?hx3 ?hy3 ?hB3 ?ho3 ?hi3 ?h13 ?hk3)
           case hx3 => rfl
           case hy3 => rfl
           case hB3 => exact Blk.new wr zLess 80
           case ho3 => exact Nat.le_refl _
           case hi3 => exact info80
           case h13 => exact (Less.one _)
           intro W4 hBW4 hoW4))
      obtain ⟨hb8, lPE⟩ := Only.fresh hoW4
      have hX : Blk W4 wr.heap.size 80 [.int .i64 xv, .int .i64 xa, .int .i64 xp, .int .i64 xt] := hBW4
      have x0 : W4.cell? ⟨wr.heap.size, 0, none⟩ = some (.int .i64 xv) := hX.box.cell 0
      have x1 : W4.cell? ⟨wr.heap.size, 1, none⟩ = some (.int .i64 xa) := hX.box.cell 1
      have x2 : W4.cell? ⟨wr.heap.size, 2, none⟩ = some (.int .i64 xp) := hX.box.cell 2
      have x3 : W4.cell? ⟨wr.heap.size, 3, none⟩ = some (.int .i64 xt) := hX.box.cell 3
      have H4 := Lib.hid (HR.out.ext hb8)
      clear hBW4 hoW4 hb8 hX HR Hc1
      generalize wr.heap.size = PE at *
      go_upto_region 9 with (first
        | ((with_reducible refine (HP4.out _).mono ?_)
           rintro e w5 ⟨rfl, rfl⟩
           skip)
        )
      have hw : IntKind.i64.wrap (1 + (pv : Int)) = 1 + (pv : Int) := IntWalk.i64_in _ (by omega)
      refine wp_region_ext_tail 12 (by kernel_rfl) (by kernel_rfl) ?_
      simp only [List.take_succ_cons, List.take_zero, List.drop_succ_cons, List.drop_zero]
      repeat (go_big_quiet_step ((first
        | (go_at_call_of 16 (Value.int IntKind.i64 xv); exact Calls.ext_same _ (HP1.out _))
        | (go_at_call_of 16 (Value.int IntKind.i64 xp); exact Calls.ext_same _ (HP3.out _))
        | (go_at_call 18; exact Calls.ext _ (HA.out _)))))
      refine wpQuiet_nil ?_
      rintro w6 ⟨⟨_, hb6⟩, rfl⟩
      try simp only [] at *
      have H6 := Lib.hid (H4.out.ext hb6)
      clear x0 x1 x2 x3 hb6 hw H4
      go_wp2_with (first
        | ((with_reducible refine (learn_st H6.out Hok.out.len _ _ _ _ (fun e he => ⟨(Hok.out.time e he).1, Int.le_trans (Hok.out.time e he).2 (by omega)⟩) Hga.out (by omega) (by omega) (by omega) (by omega) (by omega) (by omega) (by omega)).mono ?_)
           rintro e w7 ⟨rfl, sv7, h7⟩
           have H7 := Lib.hid h7
           clear h7 H6)
        )
      go_roundw
      case rel => exact ⟨k + 1, _, _, _, by omega, by go_num, rfl, Hst, H7⟩
      case measure => simp [intOf]; omega
    · obtain rfl : n = k := by omega
      have ht := Ht.out
      rw [List.take_of_length_le (by rw [Hl.out]; exact Nat.le_refl _)] at ht
      have Ht2 := Lib.hid ht
      clear ht
      go_wp2_with fail
      go_ret2
      exact ⟨T, sv, by rw [Ht2.out]; rfl, by rw [Ht2.out]; exact HR.out⟩
end
end Go.Proofs.Ytoenlcmngdpkmaa
