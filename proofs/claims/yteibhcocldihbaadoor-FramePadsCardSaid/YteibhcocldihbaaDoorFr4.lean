/- frame.Same at frames that are the same. -/
import Derived.Test.YteibhcocldihbaaDoorFr1
set_option linter.all false
namespace Go.Proofs.YteibhcocldihbaaDoor
open Go.RowKit Go.ChangeShapes Go.WideShapes
theorem tk_eqIn (x : Tk) (d : Nat) (W : World) : (Op.equalIn (d + 1 + 1) 124 (.agg x.vals.toArray) (.agg x.vals.toArray)).run Tryd.prog W = .ok true W := by
  have u3 := Tryd.underlying3
  have a3 := Tryd.isAgg3
  have z3 := Tryd.sizeOf3
  have u4 := Tryd.underlying4
  have a4 := Tryd.isAgg4
  have z4 := Tryd.sizeOf4
  have hS : Tryd.prog.underlying 124 = some (.struct (Tryd.prog.fieldsOf 124)) := by kernel_rfl
  have hp : Tryd.prog.stoodInHeld 124 = false := by kernel_rfl
  obtain ⟨a, b, c, e⟩ := x
  simp only [Tk.vals]
  rw [run_equalIn_agg W (d + 1) 124 _ _ hS hp]
  simp only [Program.fieldsOf, Tryd.underlying124]
  go_simp
theorem tk_neq (x : Tk) (W : World) : (binOp .neq 124 (.agg x.vals.toArray) (.agg x.vals.toArray)).run Tryd.prog W = .ok (.bool false) W := by
  rw [run_neq_struct, show (10000 : Nat) = 9998 + 1 + 1 from rfl, tk_eqIn]; rfl
theorem tk_guard (x : Tk) (p q : Operand) (W : World) : (eqGuard .neq 124 p q (.agg x.vals.toArray) (.agg x.vals.toArray)).run Tryd.prog W = .ok () W := run_eqGuard_agg W .neq _ p q _ _ (by kernel_rfl)
set_option maxRecDepth 100000 in
set_option maxHeartbeats 2000000 in
theorem tkEq_any (l : List Tk) (n : Nat) (hlen : l.length = n) (A A' : Option Addr) (c c' : Nat) (w : World) (hn : n ≤ 9223372036854775807) (hr : SlRow w w.heap.size 4 A (l.map Tk.vals)) (hr' : SlRow w w.heap.size 4 A' (l.map Tk.vals)) :
    Calls Tryd.prog 80 #[.slice A n c, .slice A' n c'] w fun e w' => e = .returned (.bool true) ∧ Below w.heap.size w w' := by
  have Hr := Lib.hid hr
  have Hr' := Lib.hid hr'
  have Hlen := Lib.hid hlen
  have htl : (l.map Tk.vals).length = n := by rw [List.length_map]; exact hlen
  have Htl := Lib.hid htl
  clear hr hr' hlen htl
  go_enter Tryd.func80, Tryd.ntmps80
  go_wp2_with fail
  go_loopw [5, 13] (fun _ i wr => ∃ k : Nat, k ≤ n ∧ i = .int .i64 k ∧ Hid (Below w.heap.size w wr)) (fun _ i _ => n - (intOf i).toNat)
  case atStart => exact ⟨0, by omega, rfl, Lib.hid (Below.refl _ _)⟩
  case round =>
    obtain ⟨k, hk, rfl, Hb⟩ := hrel
    by_cases hlt : k < n
    · have hkx : k < l.length := by rw [Hlen.out]; exact hlt
      have hkt : k < (l.map Tk.vals).length := by rw [Htl.out]; exact hlt
      obtain ⟨g, o, rfl, hg, hc⟩ := Hr.out (by omega)
      obtain ⟨g', o', rfl, hg', hc'⟩ := Hr'.out (by omega)
      have e : (l.map Tk.vals)[k]'hkt = l[k].vals := by simp only [List.getElem_map]
      have h1 := hc k hkt
      have h2 := hc' k hkt
      rw [e] at h1 h2
      clear hc hc' e
      generalize l[k] = x at *
      have E : ∀ (W : World), (binOp .neq 124 (.agg x.vals.toArray) (.agg x.vals.toArray)).run Tryd.prog W = .ok (.bool false) W := fun W => tk_neq x W
      have G : ∀ (p q : Operand) (W : World), (eqGuard .neq 124 p q (.agg x.vals.toArray) (.agg x.vals.toArray)).run Tryd.prog W = .ok () W := fun p q W => tk_guard x p q W
      have H1 := Lib.hid (rangeAt_below h1 Hb.out hg)
      have H2 := Lib.hid (rangeAt_below h2 Hb.out hg')
      have lg1 := Nat.lt_of_lt_of_le hg Hb.out.size
      have lg2 := Nat.lt_of_lt_of_le hg' Hb.out.size
      clear h1 h2
      go_upto_region 6 with (fail)
      refine wp_region_ext (by kernel_rfl) (by kernel_rfl) ?_
      repeat (go_big_quiet_step (fail))
      go_big_quiet_want
      with_reducible refine quiet_load_rng (b := ?b1) (off := ?o1) (ds := ?ds1) x.vals ?hx1 ?hr1 ?hu1 ?hd1 ?hi1 ?hk1
      case hx1 => rfl
      case hr1 => rintro _ ⟨y, rfl⟩; exact rangeAt_below H1.out y.below lg1
      case hu1 => exact Tryd.underlying124
      case hd1 => rfl
      case hi1 => exact info124
      go_simp
      go_big_quiet_on
      repeat (go_big_quiet_step (fail))
      go_big_quiet_want
      with_reducible refine quiet_load_rng (b := ?b2) (off := ?o2) (ds := ?ds2) x.vals ?hx2 ?hr2 ?hu2 ?hd2 ?hi2 ?hk2
      case hx2 => rfl
      case hr2 => rintro _ ⟨y, rfl⟩; exact rangeAt_below H2.out y.below lg2
      case hu2 => exact Tryd.underlying124
      case hd2 => rfl
      case hi2 => exact info124
      go_simp
      go_big_quiet_on
      repeat (go_big_quiet_step (fail))
      refine wpQuiet_nil ?_
      rintro w4 ⟨⟨_, hb4⟩, rfl⟩
      try simp only [] at *
      have Hb4 := Lib.hid (Hb.out.trans (hb4.mono Hb.out.size))
      go_wp2_with fail
      go_roundw
      case rel => exact ⟨k + 1, by omega, by go_num, Hb4⟩
      case measure => simp [intOf]; omega
    · go_wp2_with fail
      go_ret
      exact ⟨rfl, Hb.out⟩
set_option maxRecDepth 100000 in
set_option maxHeartbeats 4000000 in
theorem frSame_yes (f : Fu) (A1 A2 : Option Addr) (k1 k2 : Nat) (w : World) (hl : f.tags.length ≤ 100000) (h1 : SlRow w w.heap.size 4 A1 (f.tags.map Tk.vals)) (h2 : SlRow w w.heap.size 4 A2 (f.tags.map Tk.vals)) :
    Calls Tryd.prog 29 #[.agg (f.vals (.slice A1 f.tags.length k1)).toArray, .agg (f.vals (.slice A2 f.tags.length k2)).toArray] w fun e w' => e = .returned (.bool true) ∧ Below w.heap.size w w' := by
  obtain ⟨⟨a0, a1, a2, a3, a4, a5⟩, ⟨b0, b1, b2, b3, b4, b5⟩, tags, kd, ty, ds, ss, ct, ou, pi, body⟩ := f
  generalize hfe : (⟨⟨a0, a1, a2, a3, a4, a5⟩, ⟨b0, b1, b2, b3, b4, b5⟩, tags, kd, ty, ds, ss, ct, ou, pi, body⟩ : Fu) = f at *
  have Hfe := Lib.hid hfe
  clear hfe
  obtain ⟨n, hn⟩ : ∃ n, f.tags.length = n := ⟨_, rfl⟩
  rw [hn] at hl ⊢
  have H1 := Lib.hid ((St.init w).alloc2 (f.vals (.slice A1 n k1)) (f.vals (.slice A2 n k2)) 57 57)
  have HEq : Hid (∀ W, Below w.heap.size w W → Calls Tryd.prog 80 #[.slice A1 n k1, .slice A2 n k2] W fun e w' => e = .returned (.bool true) ∧ Below W.heap.size W w') := Lib.hid fun W hW =>
    tkEq_any f.tags n hn _ _ k1 k2 W (by omega) ((h1.below hW (Nat.le_refl _)).more hW.size) ((h2.below hW (Nat.le_refl _)).more hW.size)
  clear hn h1 h2
  go_enter Tryd.func29, Tryd.ntmps29
  go_upto_region 1 with (fail)
  generalize w.heap.size + 1 = PG at *
  generalize World.alloc _ _ = W1 at *
  have cF : W1.cell? ⟨w.heap.size, 12, none⟩ = some (.slice A1 n k1) := (H1.out.at 1 rfl : Blk W1 w.heap.size 57 (f.vals (.slice A1 n k1))).box.cell 12
  have cG : W1.cell? ⟨PG, 12, none⟩ = some (.slice A2 n k2) := (H1.out.at 0 rfl : Blk W1 PG 57 (f.vals (.slice A2 n k2))).box.cell 12
  refine wp_region_ext (by kernel_rfl) (by kernel_rfl) ?_
  have l1 := (H1.out.at 1 rfl : Blk W1 w.heap.size 57 (f.vals (.slice A1 n k1))).lt
  have l2 := (H1.out.at 0 rfl : Blk W1 PG 57 (f.vals (.slice A2 n k2))).lt
  repeat (go_big_quiet_step (fail))
  refine wpQuiet_nil ?_
  rintro w4 ⟨⟨_, hb4⟩, rfl⟩
  try simp only [] at *
  have H1 := Lib.hid (H1.out.ext hb4)
  clear hb4 cF cG l1 l2
  generalize w4 = W1 at *
  have cF : W1.cell? ⟨w.heap.size, 12, none⟩ = some (.slice A1 n k1) := (H1.out.at 1 rfl : Blk W1 w.heap.size 57 (f.vals (.slice A1 n k1))).box.cell 12
  have cG : W1.cell? ⟨PG, 12, none⟩ = some (.slice A2 n k2) := (H1.out.at 0 rfl : Blk W1 PG 57 (f.vals (.slice A2 n k2))).box.cell 12
  have zF : W1.frozen? ⟨w.heap.size, 12, none⟩ = false := (H1.out.at 1 rfl : Blk W1 w.heap.size 57 (f.vals (.slice A1 n k1))).box.frozen 12
  have zG : W1.frozen? ⟨PG, 12, none⟩ = false := (H1.out.at 0 rfl : Blk W1 PG 57 (f.vals (.slice A2 n k2))).box.frozen 12
  have H2 : Hid (St w.heap.size w ((W1.setCell ⟨w.heap.size, 12, none⟩ (.slice none 0 0)).setCell ⟨PG, 12, none⟩ (.slice none 0 0)) (bk PG 57 (f.vals (.slice none 0 0)) :: bk w.heap.size 57 (f.vals (.slice none 0 0)) :: [])) := Lib.hid ((((H1.out.pull 1 rfl).set 12 (.slice none 0 0) (by rw [Fu.len]; decide)).swap).set 12 (.slice none 0 0) (by rw [Fu.len]; decide))
  have hmid := ((H1.out.pull 1 rfl).set 12 (.slice none 0 0) (by rw [Fu.len]; decide)).swap
  have cM : (W1.setCell ⟨w.heap.size, 12, none⟩ (.slice none 0 0)).cell? ⟨PG, 12, none⟩ = some (.slice A2 n k2) := (hmid.at 0 rfl : Blk (W1.setCell ⟨w.heap.size, 12, none⟩ (.slice none 0 0)) PG 57 (f.vals (.slice A2 n k2))).box.cell 12
  have zM : (W1.setCell ⟨w.heap.size, 12, none⟩ (.slice none 0 0)).frozen? ⟨PG, 12, none⟩ = false := (hmid.at 0 rfl : Blk (W1.setCell ⟨w.heap.size, 12, none⟩ (.slice none 0 0)) PG 57 (f.vals (.slice A2 n k2))).box.frozen 12
  clear hmid
  have HX : Hid (∀ W, St w.heap.size w W (bk PG 57 (f.vals (.slice none 0 0)) :: bk w.heap.size 57 (f.vals (.slice none 0 0)) :: []) → W.cell? ⟨w.heap.size, 13, none⟩ = some (.int .i64 kd) ∧ W.cell? ⟨PG, 13, none⟩ = some (.int .i64 kd) ∧ W.cell? ⟨w.heap.size, 14, none⟩ = some (.int .i64 ty) ∧ W.cell? ⟨PG, 14, none⟩ = some (.int .i64 ty) ∧ W.cell? ⟨w.heap.size, 15, none⟩ = some (.int .i64 ds) ∧ W.cell? ⟨PG, 15, none⟩ = some (.int .i64 ds) ∧ W.cell? ⟨w.heap.size, 16, none⟩ = some (.int .i64 ss) ∧ W.cell? ⟨PG, 16, none⟩ = some (.int .i64 ss) ∧ W.cell? ⟨w.heap.size, 17, none⟩ = some (.int .i64 ct) ∧ W.cell? ⟨PG, 17, none⟩ = some (.int .i64 ct) ∧ W.cell? ⟨w.heap.size, 18, none⟩ = some (.int .i64 ou) ∧ W.cell? ⟨PG, 18, none⟩ = some (.int .i64 ou) ∧ W.cell? ⟨w.heap.size, 19, none⟩ = some (.int .i64 pi) ∧ W.cell? ⟨PG, 19, none⟩ = some (.int .i64 pi) ∧ W.cell? ⟨w.heap.size, 20, none⟩ = some (.string ⟨body.toArray⟩) ∧ W.cell? ⟨PG, 20, none⟩ = some (.string ⟨body.toArray⟩) ∧ W.cell? ⟨w.heap.size, 0, none⟩ = some (.int .u8 a0.toNat) ∧ W.cell? ⟨PG, 0, none⟩ = some (.int .u8 a0.toNat) ∧ W.cell? ⟨w.heap.size, 1, none⟩ = some (.int .u8 a1.toNat) ∧ W.cell? ⟨PG, 1, none⟩ = some (.int .u8 a1.toNat) ∧ W.cell? ⟨w.heap.size, 2, none⟩ = some (.int .u8 a2.toNat) ∧ W.cell? ⟨PG, 2, none⟩ = some (.int .u8 a2.toNat) ∧ W.cell? ⟨w.heap.size, 3, none⟩ = some (.int .u8 a3.toNat) ∧ W.cell? ⟨PG, 3, none⟩ = some (.int .u8 a3.toNat) ∧ W.cell? ⟨w.heap.size, 4, none⟩ = some (.int .u8 a4.toNat) ∧ W.cell? ⟨PG, 4, none⟩ = some (.int .u8 a4.toNat) ∧ W.cell? ⟨w.heap.size, 5, none⟩ = some (.int .u8 a5.toNat) ∧ W.cell? ⟨PG, 5, none⟩ = some (.int .u8 a5.toNat) ∧ W.cell? ⟨w.heap.size, 6, none⟩ = some (.int .u8 b0.toNat) ∧ W.cell? ⟨PG, 6, none⟩ = some (.int .u8 b0.toNat) ∧ W.cell? ⟨w.heap.size, 7, none⟩ = some (.int .u8 b1.toNat) ∧ W.cell? ⟨PG, 7, none⟩ = some (.int .u8 b1.toNat) ∧ W.cell? ⟨w.heap.size, 8, none⟩ = some (.int .u8 b2.toNat) ∧ W.cell? ⟨PG, 8, none⟩ = some (.int .u8 b2.toNat) ∧ W.cell? ⟨w.heap.size, 9, none⟩ = some (.int .u8 b3.toNat) ∧ W.cell? ⟨PG, 9, none⟩ = some (.int .u8 b3.toNat) ∧ W.cell? ⟨w.heap.size, 10, none⟩ = some (.int .u8 b4.toNat) ∧ W.cell? ⟨PG, 10, none⟩ = some (.int .u8 b4.toNat) ∧ W.cell? ⟨w.heap.size, 11, none⟩ = some (.int .u8 b5.toNat) ∧ W.cell? ⟨PG, 11, none⟩ = some (.int .u8 b5.toNat)) := Lib.hid fun W hW => by
    have B1 := (hW.at 1 rfl : Blk W w.heap.size 57 (f.vals (.slice none 0 0))).box
    have B2 := (hW.at 0 rfl : Blk W PG 57 (f.vals (.slice none 0 0))).box
    have hfe := Hfe.out
    subst hfe
    exact ⟨B1.cell 13, B2.cell 13, B1.cell 14, B2.cell 14, B1.cell 15, B2.cell 15, B1.cell 16, B2.cell 16, B1.cell 17, B2.cell 17, B1.cell 18, B2.cell 18, B1.cell 19, B2.cell 19, B1.cell 20, B2.cell 20, B1.cell 0, B2.cell 0, B1.cell 1, B2.cell 1, B1.cell 2, B2.cell 2, B1.cell 3, B2.cell 3, B1.cell 4, B2.cell 4, B1.cell 5, B2.cell 5, B1.cell 6, B2.cell 6, B1.cell 7, B2.cell 7, B1.cell 8, B2.cell 8, B1.cell 9, B2.cell 9, B1.cell 10, B2.cell 10, B1.cell 11, B2.cell 11⟩
  have E1 : ∀ (W : World), (binOp .eql 23 (.agg #[.int .u8 a0.toNat, .int .u8 a1.toNat, .int .u8 a2.toNat, .int .u8 a3.toNat, .int .u8 a4.toNat, .int .u8 a5.toNat]) (.agg #[.int .u8 a0.toNat, .int .u8 a1.toNat, .int .u8 a2.toNat, .int .u8 a3.toNat, .int .u8 a4.toNat, .int .u8 a5.toNat])).run Tryd.prog W = .ok (.bool true) W := fun W => by
    have := ad_eq ⟨a0, a1, a2, a3, a4, a5⟩ ⟨a0, a1, a2, a3, a4, a5⟩ W
    simpa [Ad.vals] using this
  have G1 : ∀ (x y : Operand) (W : World), (eqGuard .eql 23 x y (.agg #[.int .u8 a0.toNat, .int .u8 a1.toNat, .int .u8 a2.toNat, .int .u8 a3.toNat, .int .u8 a4.toNat, .int .u8 a5.toNat]) (.agg #[.int .u8 a0.toNat, .int .u8 a1.toNat, .int .u8 a2.toNat, .int .u8 a3.toNat, .int .u8 a4.toNat, .int .u8 a5.toNat])).run Tryd.prog W = .ok () W := fun x y W => ad_guard .eql ⟨a0, a1, a2, a3, a4, a5⟩ ⟨a0, a1, a2, a3, a4, a5⟩ x y W
  have E2 : ∀ (W : World), (binOp .eql 23 (.agg #[.int .u8 b0.toNat, .int .u8 b1.toNat, .int .u8 b2.toNat, .int .u8 b3.toNat, .int .u8 b4.toNat, .int .u8 b5.toNat]) (.agg #[.int .u8 b0.toNat, .int .u8 b1.toNat, .int .u8 b2.toNat, .int .u8 b3.toNat, .int .u8 b4.toNat, .int .u8 b5.toNat])).run Tryd.prog W = .ok (.bool true) W := fun W => by
    have := ad_eq ⟨b0, b1, b2, b3, b4, b5⟩ ⟨b0, b1, b2, b3, b4, b5⟩ W
    simpa [Ad.vals] using this
  have G2 : ∀ (x y : Operand) (W : World), (eqGuard .eql 23 x y (.agg #[.int .u8 b0.toNat, .int .u8 b1.toNat, .int .u8 b2.toNat, .int .u8 b3.toNat, .int .u8 b4.toNat, .int .u8 b5.toNat]) (.agg #[.int .u8 b0.toNat, .int .u8 b1.toNat, .int .u8 b2.toNat, .int .u8 b3.toNat, .int .u8 b4.toNat, .int .u8 b5.toNat])).run Tryd.prog W = .ok () W := fun x y W => ad_guard .eql ⟨b0, b1, b2, b3, b4, b5⟩ ⟨b0, b1, b2, b3, b4, b5⟩ x y W
  go_upto_region 3 with (fail)
  go_wp2_with (first
    | ((with_reducible refine (HEq.out _ H2.out.below).mono ?_)
       rintro e w2 ⟨rfl, hb2⟩
       have H3 := Lib.hid (H2.out.ext hb2)
       obtain ⟨x0, y0, x1, y1, x2, y2, x3, y3, x4, y4, x5, y5, x6, y6, x7, y7, p0, q0, p1, q1, p2, q2, p3, q3, p4, q4, p5, q5, p6, q6, p7, q7, p8, q8, p9, q9, p10, q10, p11, q11⟩ := HX.out _ H3.out
       clear hb2)
    )
  go_ret
  exact ⟨rfl, H3.out.below⟩
end Go.Proofs.YteibhcocldihbaaDoor
