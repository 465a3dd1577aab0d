/- slices.Delete of the first entry; Learn's and Forget's closures; New. -/
import Derived.Test.YtoenlcmngdpkmaaLn4
namespace Go.Proofs.Ytoenlcmngdpkmaa
open Go.RowKit
theorem wpList_append_into {P : Program} {ops : Array Oper} {rest : List Oper} {d s x : Tmp} {t t' : TypeId} {pos : String} {after : Array Edge} {a : Act} {w : World} {Q : Exit → Act → World → Prop} {e : TypeId} {size bytes base n m c g cap : Nat} {from_ : Addr} (xs news : List Value)
    (E : ElemOk P t e size bytes) (hs : a.eval (.tmp s) = .slice (some ⟨g, 0, none⟩) n cap) (hx : a.eval (.tmp x) = .slice (some from_) m c) (hown : w.ownsRow base e size (.slice (some ⟨g, 0, none⟩) n cap) n xs) (hr : ∀ j u, news[j]? = some u → w.cell? (from_.add j) = some u) (hl : news.length = m * size) (h1 : ∀ u ∈ news, u.oneCell' = true)
    (hroom : n + m ≤ cap)
    (h : ∀ W, W.ownsRow base e size (.slice (some ⟨g, 0, none⟩) (n + m) cap) (n + m) (xs ++ news) → But g w W → wpList P ops Q rest (a.put (some d) (.slice (some ⟨g, 0, none⟩) (n + m) cap)) W) :
    wpList P ops Q (⟨some d, .call { callee := .builtin .append, args := #[.tmp s, .tmp x], argTypes := #[t, t] }, t', pos, after, none⟩ :: rest) a w := by
  obtain ⟨ht, i, z, hi, hz, hsz, hby, hzs, hpos⟩ := E
  obtain ⟨w', hr', ho', hg'⟩ := run_append_fits (P := P) w base t t' e i size ht hi hsz g n cap xs hown from_ m c news hl hr h1 hroom
  have hbut : But g w w' := ⟨hg'.os, hg'.tape, hg'.output, hg'.size, fun k hk hne => hg'.block k hk (fun e => hne (by injection e))⟩
  have H := h w' ho' hbut
  refine wpList_plain rfl fun _ hK => ?_
  unfold Oper.wp execOp
  simp only [resolve, invoke, builtin, Sem.run_bind, Sem.run_pure, Result.andThen_ok, List.map_toArray, List.map_cons, List.map_nil, hs, hx, hr']
  exact hK _ _ H
theorem own_there {w : World} {base n cap g size : Nat} {e : TypeId} {xs : List Value} (h : w.ownsRow base e size (.slice (some ⟨g, 0, none⟩) n cap) n xs) {o len : Nat} (ho : o + len ≤ cap * size) : w.there g o len := by
  rcases h.2 with ⟨h0, _⟩ | ⟨g', cap', cur, e1, hb, hh, hcc, hm, hs, ht⟩
  · cases h0
  · injection e1 with e1 e2 e3
    injection e1 with e1
    injection e1 with e1
    subst e1 e3
    have hB : Blk w g e cur.toList := by unfold Blk; simpa using hh
    exact hB.box.there o (by simp; omega)
theorem own_beyond {w : World} {base n cap g size : Nat} {e : TypeId} {xs : List Value} (h : w.ownsRow base e size (.slice (some ⟨g, 0, none⟩) n cap) n xs) {o : Nat} (cs : List Value) (h1 : n * size ≤ o) (ho : o + cs.length ≤ cap * size) : (w.setCells g o cs).ownsRow base e size (.slice (some ⟨g, 0, none⟩) n cap) n xs := by
  have hx : xs.length = n * size := h.1
  rcases h.2 with ⟨h0, _⟩ | ⟨g', cap', cur, e1, hb, hh, hcc, hm, hs, ht⟩
  · cases h0
  · injection e1 with e1 e2 e3
    injection e1 with e1
    injection e1 with e1
    subst e1 e3
    have hB : Blk w g e cur.toList := by unfold Blk; simpa using hh
    have hB2 := hB.set cs o (by simp; omega)
    refine ⟨hx, .inr ⟨g, cap, (cur.toList.take o ++ (cs ++ cur.toList.drop (o + cs.length))).toArray, rfl, hb, hB2, hcc, hm, by simp; omega, ?_⟩⟩
    rw [← ht]
    simp only [List.toList_toArray]
    rw [List.take_append_of_le_length (by rw [List.length_take]; simp; omega), List.take_take, Nat.min_eq_left h1]
set_option maxRecDepth 100000 in
set_option maxHeartbeats 4000000 in
theorem delete_first (es : List Ent) (n g cap base : Nat) (hlen : es.length = n) (h0 : 2 ≤ n) (hn : n ≤ 32) (hcap : n ≤ cap) (hcap2 : cap ≤ 9223372036854775807) (w : World)
    (hown : w.ownsRow base 88 9 (.slice (some ⟨g, 0, none⟩) n cap) n (erows es)) :
    Calls Try.prog 49 #[.slice (some ⟨g, 0, none⟩) n cap, .int .i64 0, .int .i64 1] w (DelPost w base g cap es.tail) := by
  obtain ⟨m, rfl⟩ : ∃ m, n = m + 1 := ⟨n - 1, by omega⟩
  have htl : es.tail.length = m := by rw [List.length_tail, hlen]; rfl
  have hw0 : w.ownsRow base 88 9 (.slice (some ⟨g, 0, none⟩) 0 cap) 0 [] := by
    have := own_take hown (Nat.zero_le (m + 1))
    simpa using this
  have hnews : ∀ j u, (erows es.tail)[j]? = some u → w.cell? ((⟨g, 9, none⟩ : Addr).add j) = some u := fun j u hj => by
    have hj2 : j < (erows es.tail).length := (List.getElem?_eq_some_iff.1 hj).1
    rw [erows_len, htl] at hj2
    rw [Addr.add_mid, hown.cellAt (9 + j) (by omega)]
    cases es with
    | nil => simp at hlen
    | cons e r =>
      show (e.vals ++ erows r)[9 + j]? = some u
      rw [List.getElem?_append_right (by rw [Ent.len]; omega), Ent.len, Nat.add_sub_cancel_left]
      exact hj
  have Htl := Lib.hid htl
  have Hw0 := Lib.hid hw0
  have Hnews := Lib.hid hnews
  have Hlen := Lib.hid hlen
  have hq1 : cap ≠ 0 := by omega
  have hq2 : cap ≠ 1 := by omega
  have hq3 : m ≠ cap := by omega
  have hq4 : cap ≠ m := by omega
  have i3 : ((m + 1 : Nat) : Int) ≤ (cap : Int) := by omega
  clear htl hw0 hnews hlen hown
  go_enter Try.func49, Try.ntmps49
  go_upto_region 5 with (fail)
  refine wp_region_ext_tail 6 (by kernel_rfl) (by kernel_rfl) ?_
  simp only [List.take_succ_cons, List.take_zero, List.drop_succ_cons, List.drop_zero]
  repeat (go_big_quiet_step (fail))
  refine wpQuiet_nil ?_
  rintro W1 ⟨⟨_, hb1⟩, rfl⟩
  try simp only [] at *
  have HO1 := Lib.hid (own_below Hw0.out hb1 (Nat.le_refl _))
  have hlt1 : ∀ j u, (erows es.tail)[j]? = some u → W1.cell? ((⟨g, 9, none⟩ : Addr).add j) = some u := fun j u hj => by
    have h1 := Hnews.out j u hj
    rw [Addr.add_mid] at h1 ⊢
    have hgl : g < w.heap.size := (own_lt Hw0.out).2
    exact laterc h1 hb1 hgl
  refine wpList_append_into (from_ := ⟨g, 9, none⟩) (m := m) (c := cap - 1) [] (erows es.tail) elemEnt ?hsa ?hxa HO1.out hlt1 (by rw [erows_len, Htl.out]) (erows_one _) (by omega) ?_
  case hsa => rfl
  case hxa => rfl
  intro W2 hown2 hbut2
  rw [Nat.zero_add, List.nil_append] at hown2
  simp only [Nat.zero_add]
  have HO2 := Lib.hid hown2
  have HB2 : Hid (But g w W2) := Lib.hid (by
    have h1 := (But.refl g w).add hb1
    exact ⟨hbut2.os.trans h1.os, hbut2.tape.trans h1.tape, hbut2.output.trans h1.output, Nat.le_trans h1.size hbut2.size, fun k hk hne => (hbut2.block k (Nat.lt_of_lt_of_le hk h1.size) hne).trans (h1.block k hk hne)⟩)
  clear hown2 hbut2 hlt1 HO1 hb1
  have hth : W2.there g (m * 9) (1 * 9) := own_there HO2.out (by omega)
  obtain ⟨Lz, hLz, _, hclr⟩ := run_clear_rows elemEnt oneEnt 0 W2 g (m * 9) 1 (cap - m) (by omega) hth
  have hclr' : ∀ ty, (Builtin.clear_ #[84] ty #[.slice (some ⟨g, m * 9, none⟩) 1 (cap - m)]).run Try.prog W2 = .ok (.tuple #[]) (W2.setCells g (m * 9) Lz) := fun ty => hclr
  have HO3 := Lib.hid (own_beyond HO2.out Lz (Nat.le_refl _) (by omega))
  have HB3 := Lib.hid (HB2.out.only (Only.setCells Lz (m * 9) ⟨rfl, rfl, rfl, rfl, fun _ _ => rfl⟩))
  have HC := Lib.hid hclr'
  have i1 : (0 : Int) ≤ (m : Int) := by omega
  have i2 : (m : Int) ≤ (m : Int) + 1 := by omega
  have i4 : (m : Int) + 1 ≤ (cap : Int) := by omega
  clear hclr hclr' hth
  go_upto_region 6 with (fail)
  have hcl2 := HC.out
  go_upto_region 7 with (fail)
  clear hcl2 HC
  generalize W2.setCells g (m * 9) Lz = W9 at *
  go_wp2_with fail
  go_ret
  exact ⟨by rw [Htl.out]; rfl, by rw [Htl.out]; exact HO3.out, HB3.out⟩
set_option maxRecDepth 100000 in
set_option maxHeartbeats 1000000 in
theorem learn1_any (e : Ent) (vid : Int) (a : Ad) (t age now : Int) (sv : Value) (T PN PT PV PA : Nat) (w : World) (htm : 0 ≤ e.tm) (htm2 : e.tm ≤ 1099511627776) (ht : 0 ≤ t) (ht2 : t ≤ 1099511627776)
    (hT : Blk w T 86 [.int .i64 age, .int .i64 now, sv]) (hN : Blk w PN 3 [.int .i64 t]) (hPT : Blk w PT 24 [.pointer (some ⟨T, 0, none⟩)]) (hV : Blk w PV 3 [.int .i64 vid]) (hA : Blk w PA 30 a.vals) :
    Calls Try.prog 48 #[.agg e.vals.toArray, .pointer (some ⟨PN, 0, none⟩), .pointer (some ⟨PT, 0, none⟩), .pointer (some ⟨PV, 0, none⟩), .pointer (some ⟨PA, 0, none⟩)] w fun e' w' => e' = .returned (.bool (goneM vid a t age e)) ∧ Below w.heap.size w w' := by
  have hBE := Blk.new w e.vals 88
  have hb0 : Below w.heap.size w (w.alloc (.cells e.vals.toArray 88)) := (Below.refl _ _).alloc (Nat.le_refl _) _
  have hlt : w.heap.size < (w.alloc (.cells e.vals.toArray 88)).heap.size := by simp
  have c1 : (w.alloc (.cells e.vals.toArray 88)).cell? ⟨PN, 0, none⟩ = some (.int .i64 t) := laterc (hN.box.cell 0) hb0 hN.lt
  have c2 : (w.alloc (.cells e.vals.toArray 88)).cell? ⟨PT, 0, none⟩ = some (.pointer (some ⟨T, 0, none⟩)) := laterc (hPT.box.cell 0) hb0 hPT.lt
  have c3 : (w.alloc (.cells e.vals.toArray 88)).cell? ⟨PV, 0, none⟩ = some (.int .i64 vid) := laterc (hV.box.cell 0) hb0 hV.lt
  have c4 : (w.alloc (.cells e.vals.toArray 88)).cell? ⟨T, 0, none⟩ = some (.int .i64 age) := laterc (hT.box.cell 0) hb0 hT.lt
  have c5 : (w.alloc (.cells e.vals.toArray 88)).cell? ⟨w.heap.size, 0, none⟩ = some (.int .i64 e.vid) := hBE.box.cell 0
  have c6 : (w.alloc (.cells e.vals.toArray 88)).cell? ⟨w.heap.size, 8, none⟩ = some (.int .i64 e.tm) := hBE.box.cell 8
  have HRA : Hid ((w.alloc (.cells e.vals.toArray 88)).rangeAt PA 0 a.vals) := Lib.hid (rangeAt_below hA.box.range hb0 hA.lt)
  have HRE : Hid ((w.alloc (.cells e.vals.toArray 88)).rangeAt w.heap.size 1 e.ad.vals) := Lib.hid (rng_left (a := e.ad.vals) (b := [.int .i64 e.port, .int .i64 e.tm]) (rng_right (a := [.int .i64 e.vid]) (b := e.ad.vals ++ [.int .i64 e.port, .int .i64 e.tm]) hBE.box.range))
  have l1 : PN < (w.alloc (.cells e.vals.toArray 88)).heap.size := Nat.lt_of_lt_of_le hN.lt hb0.size
  have l2 : PT < (w.alloc (.cells e.vals.toArray 88)).heap.size := Nat.lt_of_lt_of_le hPT.lt hb0.size
  have l3 : PV < (w.alloc (.cells e.vals.toArray 88)).heap.size := Nat.lt_of_lt_of_le hV.lt hb0.size
  have l4 : T < (w.alloc (.cells e.vals.toArray 88)).heap.size := Nat.lt_of_lt_of_le hT.lt hb0.size
  have l5 : PA < (w.alloc (.cells e.vals.toArray 88)).heap.size := Nat.lt_of_lt_of_le hA.lt hb0.size
  have hm : goneM vid a t age e = (!decide (t - e.tm ≤ age) || (decide (e.vid = vid) && decide (e.ad = a))) := rfl
  have hb1 : (e.vid == vid) = decide (e.vid = vid) := rfl
  have E2 : ∀ (W : World), (binOp .eql 30 (.agg e.ad.vals.toArray) (.agg a.vals.toArray)).run Try.prog W = .ok (.bool (decide (e.ad = a))) W := fun W => ad_eq e.ad a W
  have G2 : ∀ (x y : Operand) (W : World), (eqGuard .eql 30 x y (.agg e.ad.vals.toArray) (.agg a.vals.toArray)).run Try.prog W = .ok () W := fun x y W => ad_guard .eql _ _ x y W
  generalize hd1 : decide (e.vid = vid) = b1 at *
  generalize hd2 : decide (e.ad = a) = b2 at *
  have Hm := Lib.hid hm
  have Hb0 := Lib.hid hb0
  clear hd1 hd2 hm hBE hb0 hT hN hPT hV hA
  go_enter Try.func48, Try.ntmps48
  go_upto_region 1 with (fail)
  generalize w.alloc (.cells e.vals.toArray 88) = W1 at *
  have hPEe : Hid (w.heap.size = w.heap.size) := Lib.hid rfl
  have HbX : ∀ X, Below W1.heap.size W1 X → Below w.heap.size w X := fun X hX => Hb0.out.trans (hX.mono Hb0.out.size)
  have HBX := Lib.hid HbX
  clear HbX Hb0 hPEe
  by_cases h3 : t - e.tm ≤ age
  · have h3d : decide (t - e.tm ≤ age) = true := decide_eq_true h3
    have hg : decide (age < t - e.tm) = false := decide_eq_false (by omega)
    rw [h3d] at Hm
    clear h3d h3
    cases b1
    · refine wp_region_ext (by kernel_rfl) (by kernel_rfl) ?_
      repeat (go_big_quiet_step (fail))
      refine wpQuiet_nil ?_
      rintro W5 ⟨⟨_, hb9⟩, rfl⟩
      try simp only [] at *
      go_wp2_with fail
      go_ret
      exact ⟨by rw [Hm.out]; rfl, HBX.out _ hb9⟩
    · refine wp_region_ext (by kernel_rfl) (by kernel_rfl) ?_
      repeat (go_big_quiet_step (fail))
      go_big_quiet_want
      with_reducible refine quiet_load_rng (b := ?b1) (off := ?o1) (ds := ?ds1) e.ad.vals ?hx1 ?hr1 ?hu1 ?hd1 ?hi1 ?hk1
      case hx1 => rfl
      case hr1 => rintro _ ⟨y, rfl⟩; exact rangeAt_below HRE.out y.below hlt
      case hu1 => exact Try.underlying30
      case hd1 => rfl
      case hi1 => exact info30
      go_simp
      go_big_quiet_on
      repeat (go_big_quiet_step (fail))
      go_big_quiet_want
      with_reducible refine quiet_load_rng (b := ?b2) (off := ?o2) (ds := ?ds2) a.vals ?hx2 ?hr2 ?hu2 ?hd2 ?hi2 ?hk2
      case hx2 => rfl
      case hr2 => rintro _ ⟨y, rfl⟩; exact rangeAt_below HRA.out y.below l5
      case hu2 => exact Try.underlying30
      case hd2 => rfl
      case hi2 => exact info30
      go_simp
      go_big_quiet_on
      repeat (go_big_quiet_step (fail))
      refine wpQuiet_nil ?_
      rintro W5 ⟨⟨_, hb9⟩, rfl⟩
      try simp only [] at *
      go_wp2_with fail
      go_ret
      exact ⟨by rw [Hm.out]; rfl, HBX.out _ hb9⟩
  · have h3d : decide (t - e.tm ≤ age) = false := decide_eq_false h3
    have h4 : age < t - e.tm := by omega
    rw [h3d] at Hm
    clear h3d h3
    refine wp_region_ext (by kernel_rfl) (by kernel_rfl) ?_
    repeat (go_big_quiet_step (fail))
    refine wpQuiet_nil ?_
    rintro W5 ⟨⟨_, hb9⟩, rfl⟩
    try simp only [] at *
    go_wp2_with fail
    go_ret
    exact ⟨by rw [Hm.out]; rfl, HBX.out _ hb9⟩
set_option maxRecDepth 100000 in
theorem forget1_any (e : Ent) (port : Int) (PP : Nat) (w : World) (hP : Blk w PP 3 [.int .i64 port]) :
    Calls Try.prog 50 #[.agg e.vals.toArray, .pointer (some ⟨PP, 0, none⟩)] w fun e' w' => e' = .returned (.bool (decide (e.port = port))) ∧ Below w.heap.size w w' := by
  have hBE := Blk.new w e.vals 88
  have hb0 : Below w.heap.size w (w.alloc (.cells e.vals.toArray 88)) := (Below.refl _ _).alloc (Nat.le_refl _) _
  have c1 : (w.alloc (.cells e.vals.toArray 88)).cell? ⟨PP, 0, none⟩ = some (.int .i64 port) := laterc (hP.box.cell 0) hb0 hP.lt
  have c5 : (w.alloc (.cells e.vals.toArray 88)).cell? ⟨w.heap.size, 7, none⟩ = some (.int .i64 e.port) := hBE.box.cell 7
  have hb1 : (e.port == port) = decide (e.port = port) := rfl
  have l1 : PP < (w.alloc (.cells e.vals.toArray 88)).heap.size := Nat.lt_of_lt_of_le hP.lt hb0.size
  have hlt : w.heap.size < (w.alloc (.cells e.vals.toArray 88)).heap.size := by simp
  generalize decide (e.port = port) = b1 at *
  have Hb0 := Lib.hid hb0
  clear hBE hb0 hP
  go_enter Try.func50, Try.ntmps50
  go_wp2_with fail
  go_ret
  exact ⟨rfl, Hb0.out⟩
end Go.Proofs.Ytoenlcmngdpkmaa
