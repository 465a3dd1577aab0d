/- Bridges in memory: Where, Vid, leaves. -/
import Derived.Test.YtoenlcmngdpkmaaBr5
namespace Go.Proofs.Ytoenlcmngdpkmaa
open Go.RowKit
def zPS : List Value := [.int .i64 0, .slice none 0 0, .slice none 0 0, .int .i64 0]
/-- What a bridge reads of itself. -/
structure PortsIn (w : World) (Bp T : Nat) (sv : Value) (L : List PRow) : Prop where
  blk : Blk w Bp 96 [sv, .pointer (some ⟨T, 0, none⟩)]
  row : (portsI sv L).P w
theorem PortsIn.ext {w W : World} {Bp T : Nat} {sv : Value} {L : List PRow} (h : PortsIn w Bp T sv L) (hb : Below w.heap.size w W) : PortsIn W Bp T sv L :=
  ⟨h.blk.below hb h.blk.lt, (portsI sv L).loc w W (fun g hg => hb.block g ((portsI sv L).lt w h.row g hg)) hb.size h.row⟩
theorem PortsIn.rows {w : World} {Bp T : Nat} {sv : Value} {L : List PRow} (h : PortsIn w Bp T sv L) :
    ∃ A cap, sv = .slice A L.length cap ∧ L.length ≤ cap ∧ (0 < L.length → ∃ g, A = some ⟨g, 0, none⟩ ∧ g < w.heap.size ∧ ∀ k (hk : k < L.length), w.rangeAt g (k * 4) L[k].vals) := by
  obtain ⟨A, cap, e, hc, hr⟩ := own_row (C := L.map PRow.vals) h.row.1 (fun c hc => by obtain ⟨v, _, rfl⟩ := List.mem_map.1 hc; rfl) (by rw [List.length_map])
  refine ⟨A, cap, e, hc, fun h0 => ?_⟩
  obtain ⟨g, e1, _, e3, hk⟩ := hr h0
  refine ⟨g, e1, e3, fun k hk' => ?_⟩
  have := hk k (by rw [List.length_map]; exact hk')
  rw [List.getElem_map] at this
  exact this
theorem PRow.In.one' {w : World} {q : PRow} (h : q.In w) : ∀ v ∈ q.vals, v.oneCell' = true := PRow.one h
set_option maxRecDepth 100000 in
set_option maxHeartbeats 1000000 in
theorem where_any {Bp T : Nat} {sv tv : Value} {now : Int} {es : List Ent} (vid : Int) (a : Ad) (t : Int) (w : World) (hB : Blk w Bp 96 [sv, .pointer (some ⟨T, 0, none⟩)]) (hT : TabIn w 0 T 100 now tv es)
    (hok : TabOk es now) (hnow : now ≤ 1099511627776) (ht : 0 ≤ t) (ht2 : t ≤ 1099511627776) :
    Calls Try.prog 28 #[.pointer (some ⟨Bp, 0, none⟩), .int .i64 vid, .agg a.vals.toArray, .int .i64 t] w fun e w' => e = .returned (.int .i64 (lookM es vid a t 100)) ∧ Below w.heap.size w w' := by
  have hBx := Blk.new w a.vals 30
  have hb0 : Below w.heap.size w (w.alloc (.cells a.vals.toArray 30)) := (Below.refl _ _).alloc (Nat.le_refl _) _
  have hlt : w.heap.size < (w.alloc (.cells a.vals.toArray 30)).heap.size := by simp
  have cB : (w.alloc (.cells a.vals.toArray 30)).cell? ⟨Bp, 1, none⟩ = some (.pointer (some ⟨T, 0, none⟩)) := laterc (hB.box.cell 1) hb0 hB.lt
  have lB : Bp < (w.alloc (.cells a.vals.toArray 30)).heap.size := Nat.lt_of_lt_of_le hB.lt hb0.size
  have HRA : Hid ((w.alloc (.cells a.vals.toArray 30)).rangeAt w.heap.size 0 a.vals) := Lib.hid hBx.box.range
  have HL : Hid (∀ W, Below (w.alloc (.cells a.vals.toArray 30)).heap.size (w.alloc (.cells a.vals.toArray 30)) W → Calls Try.prog 17 #[.pointer (some ⟨T, 0, none⟩), .int .i64 vid, .agg a.vals.toArray, .int .i64 t] W fun e w' => e = .returned (.int .i64 (lookM es vid a t 100)) ∧ Below W.heap.size W w') :=
    Lib.hid fun W hW => look_any es T 0 100 now tv vid a t W (hT.below (hb0.trans (hW.mono hb0.size)) (Nat.le_refl _)) hok.len (fun e he => ⟨(hok.time e he).1, Int.le_trans (hok.time e he).2 hnow⟩) ht ht2
  have Hb0 := Lib.hid hb0
  clear hBx hb0 hB hT
  generalize lookM es vid a t 100 = R at *
  go_enter Try.func28, Try.ntmps28
  go_upto_region 1 with (fail)
  generalize w.alloc (.cells a.vals.toArray 30) = W1 at *
  refine wp_region_ext (by kernel_rfl) (by kernel_rfl) ?_
  repeat (go_big_quiet_step (fail))
  go_big_quiet_want
  with_reducible refine quiet_load_rng (b := ?b1) (off := ?o1) (ds := ?ds1) a.vals ?hx1 ?hr1 ?hu1 ?hd1 ?hi1 ?hk1
  case hx1 => rfl
  case hr1 => rintro _ ⟨y, rfl⟩; exact rangeAt_below HRA.out y.below hlt
  case hu1 => exact Try.underlying30
  case hd1 => rfl
  case hi1 => exact info30
  go_simp
  go_big_quiet_on
  repeat (go_big_quiet_step ((go_at_call 17; exact Calls.ext _ (HL.out _ (Ext.below _)))))
  refine wpQuiet_nil ?_
  rintro w3 ⟨⟨_, hb3⟩, rfl⟩
  try simp only [] at *
  go_wp2_with fail
  go_ret
  exact ⟨rfl, Hb0.out.trans (hb3.mono Hb0.out.size)⟩
theorem slice_lt {s : List Tg} {w : World} {sv : Value} (h : SlAt w 4 sv (tagv s)) : ∃ A cap, sv = .slice A s.length cap ∧ s.length ≤ cap ∧ (∀ t r, s = t :: r → ∃ g o, A = some ⟨g, o, none⟩ ∧ g < w.heap.size ∧ w.rangeAt g o t.vals) := by
  obtain ⟨A, cap, e, hc, hr⟩ := h
  rw [tagv_len] at *
  refine ⟨A, cap, e, hc, fun t r hs => ?_⟩
  obtain ⟨g, o, e1, h1, h2⟩ := hr (by rw [hs]; exact Nat.succ_pos _)
  have := h2 0 (by rw [tagv_len, hs]; exact Nat.succ_pos _)
  rw [Nat.zero_mul, Nat.add_zero] at this
  subst hs
  exact ⟨g, o, e1, h1, this⟩
set_option maxRecDepth 100000 in
set_option maxHeartbeats 4000000 in
theorem vid_any {Bp T : Nat} {sv : Value} {L : List PRow} (port : Nat) (hp : port < L.length) (f : Fm) (tgv : Value) (w : World) (h : PortsIn w Bp T sv L) (hs : SlAt w 4 tgv (tagv f.tags)) (hL : L.length ≤ 1000) (hi : L[port].p.ins.length ≤ 9223372036854775807) :
    Calls Try.prog 32 #[.pointer (some ⟨Bp, 0, none⟩), .int .i64 (port : Int), .agg (f.vals tgv).toArray] w fun e w' => e = .returned (.int .i64 (vidM L[port].p f.tags)) ∧ Below w.heap.size w w' := by
  have hBx := Blk.new w (f.vals tgv) 58
  have hb0 : Below w.heap.size w (w.alloc (.cells (f.vals tgv).toArray 58)) := (Below.refl _ _).alloc (Nat.le_refl _) _
  have lF : w.heap.size < (w.alloc (.cells (f.vals tgv).toArray 58)).heap.size := by simp
  have lB : Bp < (w.alloc (.cells (f.vals tgv).toArray 58)).heap.size := Nat.lt_of_lt_of_le h.blk.lt hb0.size
  have cB : (w.alloc (.cells (f.vals tgv).toArray 58)).cell? ⟨Bp, 0, none⟩ = some sv := laterc (h.blk.box.cell 0) hb0 h.blk.lt
  have cT : (w.alloc (.cells (f.vals tgv).toArray 58)).cell? ⟨w.heap.size, 12, none⟩ = some tgv := hBx.box.cell 12
  obtain ⟨A, cap, e, hcap, hr⟩ := h.rows
  obtain ⟨gp, e1, lgp, hk⟩ := hr (by omega)
  have hq := h.row.2 L[port] (List.getElem_mem hp)
  have HQ : Hid ((w.alloc (.cells (f.vals tgv).toArray 58)).rangeAt gp (port * 4) L[port].vals) := Lib.hid (rangeAt_below (hk port hp) hb0 lgp)
  subst e
  subst e1
  clear hr hk h
  generalize L[port] = q at *
  have hI := hq.1.below hb0
  have HM : Hid (∀ v W, Below (w.alloc (.cells (f.vals tgv).toArray 58)).heap.size (w.alloc (.cells (f.vals tgv).toArray 58)) W → Calls Try.prog 34 #[q.iv, .int .i64 v] W fun e w' => e = .returned (.bool (decide (v ∈ q.p.ins))) ∧ Below W.heap.size W w') := Lib.hid fun v W hW => has_int _ v _ W hi (hI.below hW)
  have Hq1 := Lib.hid (PRow.one hq)
  have Hb0 := Lib.hid hb0
  have Hs := Lib.hid hs
  obtain ⟨Ai, ci, ei, _, _⟩ := hq.1
  rw [intv_len] at ei
  have hpn : ¬ L.length ≤ port := by omega
  have hp0 : decide ((port : Int) < 0) = false := decide_eq_false (by omega)
  have HTG : Hid (∀ t r, f.tags = t :: r → ∃ g o ct, tgv = .slice (some ⟨g, o, none⟩) f.tags.length ct ∧ g < w.heap.size ∧ w.rangeAt g o t.vals) := Lib.hid fun t r htr => by
    obtain ⟨At, ct, e3, _, htg⟩ := slice_lt hs
    obtain ⟨g, o, e4, h1, h2⟩ := htg t r htr
    exact ⟨g, o, ct, by rw [e3, e4], h1, h2⟩
  have HTL : Hid (∃ A ct, tgv = .slice A f.tags.length ct) := Lib.hid (by
    obtain ⟨At, ct, e3, _, _⟩ := slice_lt hs
    exact ⟨At, ct, e3⟩)
  clear hI hq hBx hb0 hs
  generalize f.vals tgv = fv at *
  generalize f.tags = tg at *
  generalize L.length = n at *
  go_enter Try.func32, Try.ntmps32
  go_upto_region 1 with (fail)
  generalize hW1 : w.alloc (.cells fv.toArray 58) = W1 at *
  go_upto_region 4 with (first
    | ((with_reducible refine wpList_load_rng (ty := 44) (b := ?b2) (o := ?o2) (ds := ?ds2) q.vals ?hx2 ?hB2 ?hu2 ?hd2 ?hi2 ?hk2)
       case hx2 => rfl
       case hB2 => exact HQ.out
       case hu2 => exact Try.underlying44
       case hd2 => rfl
       case hi2 => exact info44)
    | ((with_reducible refine wpList_store_blk (ty := 44) (b := ?b3) (o := ?o3) (t := 44) zPS q.vals ?hx3 ?hy3 ?hB3 ?ho3 ?hi3 ?h13 ?hk3)
       case hx3 => rfl
       case hy3 => rfl
       case hB3 => exact Blk.new W1 zPS 44
       case ho3 => exact Nat.le_refl _
       case hi3 => exact info44
       case h13 => exact Hq1.out
       intro W4 hBW4 hoW4))
  obtain ⟨hb8, lP⟩ := Only.fresh hoW4
  have hX : Blk W4 W1.heap.size 44 q.vals := hBW4
  have x0 : W4.cell? ⟨W1.heap.size, 0, none⟩ = some (.int .i64 q.p.pvid) := hX.box.cell 0
  have x1 : W4.cell? ⟨W1.heap.size, 1, none⟩ = some q.iv := hX.box.cell 1
  have HB4 := Lib.hid hb8
  have y12 := laterc cT hb8 lF
  have HbX : Hid (∀ X, Below W4.heap.size W4 X → Below w.heap.size w X) := Lib.hid fun X hX => Hb0.out.trans ((hb8.trans (hX.mono hb8.size)).mono Hb0.out.size)
  have HbY : Hid (Below w.heap.size w W4) := Lib.hid (Hb0.out.trans (hb8.mono Hb0.out.size))
  rw [ei] at x1 HM
  clear hX hBW4 hoW4 hb8 cT cB HQ hW1 Hb0 ei
  generalize W1.heap.size = PB at *
  have HB0 : Hid (Below w.heap.size w W4) := HbY
  have HV : Hid (vidM q.p tg = if sayM q.p tg ∈ q.p.ins then sayM q.p tg else 0) := Lib.hid rfl
  cases tg with
  | nil =>
    obtain ⟨A3, ct, e3⟩ := HTL.out
    rw [e3] at y12
    have HS : Hid (∀ W, Below PB W1 W → Calls Try.prog 34 #[.slice Ai q.p.ins.length ci, .int .i64 q.p.pvid] W fun e w' => e = .returned (.bool (decide (q.p.pvid ∈ q.p.ins))) ∧ Below W.heap.size W w') := Lib.hid (HM.out q.p.pvid)
    have HR : Hid (vidM q.p [] = if decide (q.p.pvid ∈ q.p.ins) = true then q.p.pvid else 0) := Lib.hid (by rw [HV.out]; by_cases hm : q.p.pvid ∈ q.p.ins <;> simp [sayM, hm])
    generalize decide (q.p.pvid ∈ q.p.ins) = b at *
    clear HM
    cases b
    · go_wp2_with (first
        | ((with_reducible refine (HS.out _ HB4.out).mono ?_)
           rintro e w6 ⟨rfl, hb6⟩
           skip)
        )
      go_ret
      exact ⟨by rw [HR.out]; rfl, HbX.out _ hb6⟩
    · go_wp2_with (first
        | ((with_reducible refine (HS.out _ HB4.out).mono ?_)
           rintro e w6 ⟨rfl, hb6⟩
           skip)
        )
      go_ret
      exact ⟨by rw [HR.out]; rfl, HbX.out _ hb6⟩
  | cons t r =>
    obtain ⟨g, o, ct, e3, lg, hrt⟩ := HTG.out t r rfl
    rw [e3] at y12
    have hr4 := rangeAt_below hrt HbY.out lg
    have lg4 : g < W4.heap.size := Nat.lt_of_lt_of_le lg HbY.out.size
    have d0 : W4.cell? ⟨g, o, none⟩ = some (.bool t.s) := hr4 0 _ rfl
    have d3 : W4.cell? ⟨g, o + 3, none⟩ = some (.int .i64 t.vid) := hr4 3 _ rfl
    clear hrt hr4 e3 HTG HTL
    obtain ⟨ts, tp, td, tv⟩ := t
    simp only [List.length_cons] at *
    generalize r.length = m at *
    cases ts
    · by_cases h0 : 0 < tv
      · skip
        have HS : Hid (∀ W, Below PB W1 W → Calls Try.prog 34 #[.slice Ai q.p.ins.length ci, .int .i64 tv] W fun e w' => e = .returned (.bool (decide (tv ∈ q.p.ins))) ∧ Below W.heap.size W w') := Lib.hid (HM.out tv)
        have HR : Hid (vidM q.p (⟨false, tp, td, tv⟩ :: r) = if decide (tv ∈ q.p.ins) = true then tv else 0) := Lib.hid (by rw [HV.out]; by_cases hm : tv ∈ q.p.ins <;> simp [sayM, hm, h0])
        generalize decide (tv ∈ q.p.ins) = b at *
        clear HM
        cases b
        · go_wp2_with (first
            | ((with_reducible refine (HS.out _ HB4.out).mono ?_)
               rintro e w6 ⟨rfl, hb6⟩
               skip)
            )
          go_ret
          exact ⟨by rw [HR.out]; rfl, HbX.out _ hb6⟩
        · go_wp2_with (first
            | ((with_reducible refine (HS.out _ HB4.out).mono ?_)
               rintro e w6 ⟨rfl, hb6⟩
               skip)
            )
          go_ret
          exact ⟨by rw [HR.out]; rfl, HbX.out _ hb6⟩
      · skip
        have HS : Hid (∀ W, Below PB W1 W → Calls Try.prog 34 #[.slice Ai q.p.ins.length ci, .int .i64 q.p.pvid] W fun e w' => e = .returned (.bool (decide (q.p.pvid ∈ q.p.ins))) ∧ Below W.heap.size W w') := Lib.hid (HM.out q.p.pvid)
        have HR : Hid (vidM q.p (⟨false, tp, td, tv⟩ :: r) = if decide (q.p.pvid ∈ q.p.ins) = true then q.p.pvid else 0) := Lib.hid (by rw [HV.out]; by_cases hm : q.p.pvid ∈ q.p.ins <;> simp [sayM, hm, h0])
        generalize decide (q.p.pvid ∈ q.p.ins) = b at *
        clear HM
        cases b
        · go_wp2_with (first
            | ((with_reducible refine (HS.out _ HB4.out).mono ?_)
               rintro e w6 ⟨rfl, hb6⟩
               skip)
            )
          go_ret
          exact ⟨by rw [HR.out]; rfl, HbX.out _ hb6⟩
        · go_wp2_with (first
            | ((with_reducible refine (HS.out _ HB4.out).mono ?_)
               rintro e w6 ⟨rfl, hb6⟩
               skip)
            )
          go_ret
          exact ⟨by rw [HR.out]; rfl, HbX.out _ hb6⟩
    · have HR : Hid (vidM q.p (⟨true, tp, td, tv⟩ :: r) = 0) := Lib.hid (by rw [HV.out]; simp [sayM])
      go_wp2_with fail
      go_ret
      exact ⟨by rw [HR.out]; rfl, HbY.out⟩
end Go.Proofs.Ytoenlcmngdpkmaa
