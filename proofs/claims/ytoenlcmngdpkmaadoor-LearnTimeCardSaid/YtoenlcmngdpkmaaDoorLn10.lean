/- LearnTime: earlier times are refused, without effect. -/
import Derived.Test.YtoenlcmngdpkmaaDoorLn8
import Derived.Test.YtoenlcmngdpkmaaDoorTell2
namespace Go.Proofs.YtoenlcmngdpkmaaDoor
open Go.RowKit
theorem pick_hid (x : Int) (n : Nat) (hn : 1 ≤ n) (hn2 : n ≤ 1000000) : Hid (∀ W, Calls Tryd.prog 6 #[.int .i64 x, .int .i64 (n : Int)] W fun e w' => e = .returned (.int .i64 (pickN x n : Nat)) ∧ W = w') := Lib.hid fun W => pick_any x n W hn (by omega)
theorem addr_hid (x : Int) : Hid (∀ W, Calls Tryd.prog 8 #[.int .i64 x] W fun e w' => e = .returned (.agg (adOf (pickN x 60)).vals.toArray) ∧ Below W.heap.size W w') := Lib.hid fun W => address_any x W
section
variable {B : Nat} {w0 w : World} {A : List It}
set_option maxRecDepth 100000 in
set_option maxHeartbeats 4000000 in
theorem late_st {T : Nat} {age now : Int} {sv : Value} {es : List Ent} (H : St B w0 w (bk T 46 [.int .i64 age, .int .i64 now, sv] :: rowI sv es :: A)) (vid : Int) (a : Ad) (port t : Int)
    (hg : a.a.toNat % 2 ≠ 1) (hv1 : 1 ≤ vid) (hv2 : vid ≤ 4094) (hp1 : 0 ≤ port) (hp2 : port ≤ 7) (ht0 : 0 ≤ t) (ht1 : t ≤ 1099511627776) (hto : t < now) :
    Calls Tryd.prog 9 #[.pointer (some ⟨T, 0, none⟩), .int .i64 vid, .agg a.vals.toArray, .int .i64 port, .int .i64 t] w fun e w' => e = .returned (.iface 35 (.int .i64 10)) ∧ St B w0 w' (bk T 46 [.int .i64 age, .int .i64 now, sv] :: rowI sv es :: A) := by
  have h1 := H.alloc4 [.pointer (some ⟨T, 0, none⟩)] [.int .i64 vid] a.vals [.int .i64 t] 24 3 30 3
  have H1 := Lib.hid h1
  clear h1 H
  go_enter Tryd.func9, Tryd.ntmps9
  go_upto_region 1 with (fail)
  generalize World.alloc _ _ = W1 at *
  generalize w.heap.size = PT at *
  generalize PT + 1 + 1 + 1 = PN at *
  generalize PT + 1 + 1 = PA at *
  generalize PT + 1 = PV at *
  have hgf : decide (a.a.toNat % 2 = 1) = false := decide_eq_false hg
  have HG : Hid (∀ W, Calls Tryd.prog 13 #[.agg a.vals.toArray] W fun e w' => e = .returned (.bool false) ∧ Below W.heap.size W w') := Lib.hid (fun W => by
    have := group_any a W
    rw [hgf] at this
    exact this)
  have HPA := Lib.hid (H1.out.at 1 rfl)
  have c2 : W1.cell? ⟨PV, 0, none⟩ = some (.int .i64 vid) := (H1.out.at 2 rfl).box.cell 0
  clear hgf hg
  go_upto_region 5 with (first
    | ((with_reducible refine wpList_load_box (ty := 30) (b := ?b1) (ds := ?ds1) a.vals ?hx1 ?hB1 ?hu1 ?hd1 ?hi1 ?hk1)
       case hx1 => rfl
       case hB1 => exact HPA.out.box
       case hu1 => exact Tryd.underlying30
       case hd1 => rfl
       case hi1 => exact info30)
    | ((with_reducible refine (HG.out _).mono ?_)
       rintro e w2 ⟨rfl, hb2⟩
       have H2 := Lib.hid (H1.out.ext hb2)
       have hp2 : w2.cell? ⟨PV, 0, none⟩ = some (.int .i64 vid) := (H2.out.at 2 rfl).box.cell 0
       have hn2 : w2.cell? ⟨PN, 0, none⟩ = some (.int .i64 t) := (H2.out.at 0 rfl).box.cell 0
       have hpt2 : w2.cell? ⟨PT, 0, none⟩ = some (.pointer (some ⟨T, 0, none⟩)) := (H2.out.at 3 rfl).box.cell 0
       have hw2 : w2.cell? ⟨T, 1, none⟩ = some (.int .i64 now) := (H2.out.at 4 rfl).box.cell 1
       have l1 := (H2.out.at 0 rfl).lt
       have l2 := (H2.out.at 3 rfl).lt
       have l3 := (H2.out.at 4 rfl).lt
       clear c2)
    )
  refine wp_region_ext (by kernel_rfl) (by kernel_rfl) ?_
  repeat (go_big_quiet_step (fail))
  refine wpQuiet_nil ?_
  rintro w3 ⟨⟨_, hb3⟩, rfl⟩
  try simp only [] at *
  have H3 := Lib.hid (H2.out.ext hb3)
  clear hp2 hn2 hpt2 hw2 l1 l2 l3 hb3 hb2 H2 H1 HPA HG
  go_wp2_with fail
  go_ret
  exact ⟨rfl, H3.out.tail.tail.tail.tail⟩
end
set_option maxRecDepth 100000 in
set_option maxHeartbeats 4000000 in
theorem law_LearnTime (v : Value) (l : List Less) (back vid a look : Int) (_ : (Lit.int .i64 back).wf = true) (_ : (Lit.int .i64 vid).wf = true) (_ : (Lit.int .i64 a).wf = true) (_ : (Lit.int .i64 look).wf = true) (w : World) (h : IsLessons w v l) (hE : ErrVar w) :
    Calls Tryd.prog 3 #[v, .int .i64 back, .int .i64 vid, .int .i64 a, .int .i64 look] w fun e w' => e = .returned (.bool true) ∧ Below w.heap.size w w' := by
  obtain ⟨A, n, cap, rfl, hl, hn, hr⟩ := h
  have Hr := Lib.hid hr
  have Hl := Lib.hid hl
  have HE := Lib.hid hE
  clear hr hl hE
  by_cases h100 : 100 < n
  · go_enter Tryd.func3, Tryd.ntmps3
    go_wp2_with (first
      | ((with_reducible refine (learned_any _).mono ?_)
         rintro e w1 ⟨rfl, hb1⟩
         skip)
      )
    go_ret
    exact ⟨rfl, hb1⟩
  · have hv3 : Hid (∀ W, Calls Tryd.prog 6 #[.int .i64 vid, .int .i64 3] W fun e w' => e = .returned (.int .i64 (pickN vid 3 : Nat)) ∧ W = w') := pick_hid vid 3 (by omega) (by omega)
    have hp8 : Hid (∀ W, Calls Tryd.prog 6 #[.int .i64 back, .int .i64 50] W fun e w' => e = .returned (.int .i64 (pickN back 50 : Nat)) ∧ W = w') := pick_hid back 50 (by omega) (by omega)
    have ha := addr_hid a
    have ho := addr_hid look
    have p1 := pickN_lt vid 3 (by omega)
    have p2 := pickN_lt back 50 (by omega)
    have hga : (adOf (pickN a 60)).a.toNat % 2 ≠ 1 := by rw [adOf_a]; decide
    have Hga := Lib.hid hga
    obtain ⟨hok, hn0, hn1, _⟩ := taught_ok l [] 0 (by omega) (TabOk.nil 0)
    rw [Hl.out] at hn1
    have hS := fun W (hb : Below w.heap.size w W) => school_st l A n cap Hl.out (by omega) (St.init W) (fun h0 => by
      obtain ⟨g, o, e, hg, hk⟩ := Hr.out h0
      exact ⟨g, o, e, Nat.lt_of_lt_of_le hg hb.size, fun k hk' => rangeAt_below (hk k hk') hb hg⟩)
    unfold School at hS
    generalize (taughtM [] 0 l).1 = es at *
    generalize (taughtM [] 0 l).2 = now at *
    have hn2 : now ≤ 2900 := by omega
    generalize pickN vid 3 = pv at *
    generalize pickN back 50 = pp at *
    generalize adOf (pickN a 60) = aa at *
    generalize adOf (pickN look 60) = bb at *
    have HS := Lib.hid hS
    have Hok := Lib.hid hok
    clear hS hok hga hn1
    go_enter Tryd.func3, Tryd.ntmps3
    go_upto_region 8 with (first
      | ((with_reducible refine (learned_any _).mono ?_)
         rintro e w1 ⟨rfl, hb1⟩
         skip)
      | ((with_reducible refine (HS.out _ hb1).mono ?_)
         rintro e w2 ⟨T, sv, rfl, h2⟩
         skip)
      )
    have Hb0 := Lib.hid hb1
    have H3 := Lib.hid (show St w1.heap.size w1 w2 _ from h2)
    have hend : ∀ X, St w1.heap.size w1 X (bk T 46 [.int .i64 100, .int .i64 now, sv] :: rowI sv es :: []) → Below w.heap.size w X := fun X hX =>
      (show Below w.heap.size w w1 from Hb0.out).trans (hX.below.mono Hb0.out.size)
    have Hend := Lib.hid hend
    clear HS Hr hb1 h2 hend
    by_cases hlt : now < 1 + (pp : Int)
    · go_wp2_with (first
        | ((with_reducible refine (hv3.out _).mono ?_)
           rintro e w9 ⟨rfl, rfl⟩
           skip)
        | ((with_reducible refine (hp8.out _).mono ?_)
           rintro e w9 ⟨rfl, rfl⟩
           skip)
        )
      go_ret
      exact ⟨rfl, Hend.out _ H3.out⟩
    · have hge : 1 + (pp : Int) ≤ now := by omega
      clear hlt
      go_wp2_with (first
        | ((with_reducible refine (hv3.out _).mono ?_)
           rintro e w9 ⟨rfl, rfl⟩
           skip)
        | ((with_reducible refine (hp8.out _).mono ?_)
           rintro e w9 ⟨rfl, rfl⟩
           skip)
        | ((with_reducible refine (ha.out _).mono ?_)
           rintro e w9 ⟨rfl, hb⟩
           have H3 := Lib.hid (H3.out.ext hb)
           clear hb)
        | ((with_reducible refine (ho.out _).mono ?_)
           rintro e w9 ⟨rfl, hb⟩
           have H3 := Lib.hid (H3.out.ext hb)
           clear hb)
        | ((with_reducible refine (look_st H3.out Hok.out (by omega) _ _ _ (by omega) (by omega)).mono ?_)
           rintro e w9 ⟨rfl, h9⟩
           have H3 := Lib.hid h9
           clear h9)
        | ((with_reducible refine (late_st H3.out _ _ _ _ Hga.out (by omega) (by omega) (by omega) (by omega) (by omega) (by omega) (by omega)).mono ?_)
           rintro e w9 ⟨rfl, h9⟩
           have H3 := Lib.hid h9
           clear h9)
        | ((with_reducible refine (tell_errno 10 _ (HE.out.keep (Hend.out _ H3.out))).mono ?_)
           rintro e w9 ⟨rfl, hb⟩
           have H3 := Lib.hid (H3.out.ext hb)
           clear hb)
        )
      go_ret
      exact ⟨rfl, Hend.out _ H3.out⟩
end Go.Proofs.YtoenlcmngdpkmaaDoor
