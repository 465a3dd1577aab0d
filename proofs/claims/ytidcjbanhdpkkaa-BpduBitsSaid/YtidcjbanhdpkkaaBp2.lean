/- bpdu: times, Right, head. -/
import Derived.Test.YtidcjbanhdpkkaaBpE
import Derived.Test.YtidcjbanhdpkkaaLacp9
import Derived.Deep.CutBlock
namespace Go.Proofs.Ytidcjbanhdpkkaa
open Go.RowKit
theorem info94 : (Try.prog.info? 94).map (·.size) = some 31 := by kernel_rfl
theorem notice_built : Try.prog.built 94 [(0, .int .i64 2)] = some Bp.notice.vals.toArray := by kernel_rfl
theorem two_built (f : Fl) : Try.prog.built 46 [(0, .bool f.change), (6, .bool f.ack)] = some f.two.vals.toArray := by kernel_rfl
@[reducible] def zFl : List Value := [.bool false, .bool false, .int .i64 0, .bool false, .bool false, .bool false, .bool false]
structure BpIn (w : World) (g : Nat) (b : Bp) : Prop where
  kind : w.cell? ⟨g, 0, none⟩ = some (.int .i64 b.kind)
  fl : w.rangeAt g 1 b.fl.vals
  root : w.rangeAt g 8 b.root.vals
  cost : w.cell? ⟨g, 16, none⟩ = some (.int .i64 b.cost)
  sender : w.rangeAt g 17 b.sender.vals
  port : w.rangeAt g 25 b.port.vals
  age : w.cell? ⟨g, 27, none⟩ = some (.int .i64 b.age)
  max : w.cell? ⟨g, 28, none⟩ = some (.int .i64 b.max)
  hello : w.cell? ⟨g, 29, none⟩ = some (.int .i64 b.hello)
  wait : w.cell? ⟨g, 30, none⟩ = some (.int .i64 b.wait)
theorem bp_in {w : World} {g : Nat} {b : Bp} (h : Box w g b.vals) : BpIn w g b := by
  have h0 := h.range
  have h1 : w.rangeAt g 1 (b.fl.vals ++ (b.root.vals ++ (.int .i64 b.cost :: (b.sender.vals ++ (b.port.vals ++ [.int .i64 b.age, .int .i64 b.max, .int .i64 b.hello, .int .i64 b.wait]))))) := by
    have := rng_right (a := [.int .i64 b.kind]) h0
    exact this
  have h2 : w.rangeAt g 8 (b.root.vals ++ (.int .i64 b.cost :: (b.sender.vals ++ (b.port.vals ++ [.int .i64 b.age, .int .i64 b.max, .int .i64 b.hello, .int .i64 b.wait])))) := rng_right (a := b.fl.vals) h1
  have h3 : w.rangeAt g 16 ([.int .i64 b.cost] ++ (b.sender.vals ++ (b.port.vals ++ [.int .i64 b.age, .int .i64 b.max, .int .i64 b.hello, .int .i64 b.wait]))) := rng_right (a := b.root.vals) h2
  have h4 : w.rangeAt g 17 (b.sender.vals ++ (b.port.vals ++ [.int .i64 b.age, .int .i64 b.max, .int .i64 b.hello, .int .i64 b.wait])) := rng_right h3
  have h5 : w.rangeAt g 25 (b.port.vals ++ [.int .i64 b.age, .int .i64 b.max, .int .i64 b.hello, .int .i64 b.wait]) := rng_right (a := b.sender.vals) h4
  exact ⟨h.cell 0, rng_left h1, rng_left h2, h.cell 16, rng_left h4, rng_left h5, h.cell 27, h.cell 28, h.cell 29, h.cell 30⟩
set_option maxRecDepth 100000 in
set_option maxHeartbeats 1000000 in
theorem times_any (l : List Int) (g cap n : Nat) (hn : l.length = n) (hm : n ≤ 100) (w : World) (h : ∀ i (hi : i < l.length), w.cell? ⟨g, i, none⟩ = some (.int .i64 l[i])) :
    Calls Try.prog 69 #[.slice (some ⟨g, 0, none⟩) n cap] w fun e w' => e = .returned (.bool (l.all sh)) ∧ w = w' := by
  have H := Lib.hid h
  have Hn := Lib.hid hn
  clear h hn
  go_enter Try.func69, Try.ntmps69
  go_wp2_with fail
  go_loop [7] (fun i => ∃ k : Nat, k ≤ n ∧ i = .int .i64 k ∧ Hid (∀ j (hj : j < l.length), j < k → sh l[j] = true)) (fun i => n - (intOf i).toNat)
  case atStart => exact ⟨0, by omega, rfl, Lib.hid (fun j _ h => by omega)⟩
  case round =>
    obtain ⟨k, hk, rfl, HA⟩ := hrel
    by_cases hlt : k < n
    · have hkl : k < l.length := by rw [Hn.out]; exact hlt
      have hc := H.out k hkl
      have Hs : Hid (∀ x, l[k] = x → sh x = true → ∀ j (hj : j < l.length), j < k + 1 → sh l[j] = true) := Lib.hid (fun x hx hs j hj hjk => by
        by_cases e : j = k
        · subst e; rw [hx]; exact hs
        · exact HA.out j hj (by omega))
      have Ha : Hid (∀ x, l[k] = x → sh x = false → l.all sh = false) := Lib.hid (fun x hx hs => by
        rw [List.all_eq_false]
        exact ⟨l[k], List.getElem_mem hkl, by rw [hx, hs]; exact Bool.false_ne_true⟩)
      generalize hx : l[k] = x at hc
      have Hx := Lib.hid hx
      clear hx
      by_cases h0 : x < 0
      · go_wp2_with fail
        go_ret
        exact ⟨by rw [Ha.out x Hx.out (by simp [sh]; omega)]; rfl, rfl⟩
      · by_cases h1 : 65535 < x
        · go_wp2_with fail
          go_ret
          exact ⟨by rw [Ha.out x Hx.out (by simp [sh]; omega)]; rfl, rfl⟩
        · go_wp2_with fail
          go_round
          case rel => exact ⟨k + 1, by omega, by go_num, Lib.hid (Hs.out x Hx.out (by simp [sh]; omega))⟩
          case measure => simp [intOf]; omega
    · go_wp2_with fail
      go_ret
      exact ⟨by rw [List.all_eq_true.2 (fun x hx => by
        obtain ⟨j, hj, rfl⟩ := List.getElem_of_mem hx
        exact HA.out j hj (by have := Hn.out; omega))]; rfl, rfl⟩
set_option maxRecDepth 100000 in
set_option maxHeartbeats 2000000 in
theorem bpRight_any (b : Bp) (w : World) :
    Calls Try.prog 56 #[.agg b.vals.toArray] w fun e w' => e = .returned (.bool b.okB) ∧ Below w.heap.size w w' := by
  have H0 := Lib.hid ((St.init w).alloc b.vals 94)
  go_enter Try.func56, Try.ntmps56
  go_upto_region 1 with (fail)
  generalize World.alloc _ _ = W0 at *
  have I0 := bp_in (Blk.box (H0.out.at 0 rfl))
  have R0 := Lib.hid I0.fl
  clear I0
  go_upto_region 2 with (first
    | (with_reducible refine wpList_load_rng (ty := 46) b.fl.vals (by with_unfolding_all rfl) R0.out Try.underlying46 (by with_unfolding_all rfl) (by with_unfolding_all exact info46) ?_)
    | (with_reducible refine wpList_store_blk (ty := 46) (o := 0) _ b.fl.vals (by with_unfolding_all rfl) (by with_unfolding_all rfl) (Blk.new W0 zFl 46) (by with_unfolding_all exact Nat.le_refl _) (by with_unfolding_all exact info46) (Fl.one _) (fun W1 hBW1 hoW1 => ?_)))
  have H1 : Hid (St w.heap.size w W1 [bk W0.heap.size 46 b.fl.vals, bk w.heap.size 94 b.vals]) := Lib.hid ((H0.out.alloc zFl 46).sets (L' := b.fl.vals) hBW1 hoW1)
  clear hBW1 hoW1 H0 R0
  generalize W0.heap.size = P at *
  have I1 := Lib.hid (bp_in (Blk.box (H1.out.at 1 rfl)))
  have c0 := I1.out.kind
  go_upto_block 0 with (fail)
  go_cut [] (fun wx => Hid (St w.heap.size w wx [bk P 46 b.fl.vals, bk w.heap.size 94 b.vals]) ∧ Hid (b.okB = b.restB))
  case first =>
    by_cases k2 : b.kind = 2
    · have hb2 : (b.kind == 2) = true := by simp [k2]
      have Hr : Hid (b.okB = decide (b = Bp.notice)) := Lib.hid (by unfold Bp.okB; rw [if_pos k2])
      have EN := bp_eq b Bp.notice
      have GN := fun p q => bp_guard .eql b Bp.notice p q
      have PB := Lib.hid notice_built
      clear k2
      generalize decide (b = Bp.notice) = q at *
      generalize Bp.notice = N at *
      go_wp2_with (first
        | (with_reducible refine wpList_load_rng (ty := 94) b.vals (by with_unfolding_all rfl) (Blk.box (H1.out.at 1 rfl)).range Try.underlying94 (by with_unfolding_all rfl) (by with_unfolding_all exact info94) ?_)
        | (with_reducible refine wpList_buildA (t := 94) [(0, .int .i64 2)] N.vals (by with_unfolding_all rfl) PB.out ?_))
      go_ret
      exact ⟨by rw [Hr.out]; rfl, H1.out.below⟩
    · have hb2 : (b.kind == 2) = false := by simp [k2]
      by_cases k1 : b.kind = 1
      · have hb1 : (b.kind == 1) = true := by simp [k1]
        have Hr : Hid (b.okB = (decide (b.fl = b.fl.two) && b.restB)) := Lib.hid (by unfold Bp.okB; rw [if_neg k2, if_pos k1])
        have d0 : W1.cell? ⟨P, 0, none⟩ = some (.bool b.fl.change) := (Blk.box (H1.out.at 0 rfl)).cell 0
        have d6 : W1.cell? ⟨P, 6, none⟩ = some (.bool b.fl.ack) := (Blk.box (H1.out.at 0 rfl)).cell 6
        have EN := fl_neq b.fl b.fl.two
        have GN := fun p q => fl_guard .neq b.fl b.fl.two p q
        have PB := Lib.hid (two_built b.fl)
        clear k1 k2
        cases hd : decide (b.fl = b.fl.two)
        · rw [hd] at EN Hr
          clear hd
          go_wp2_with (first
            | (with_reducible refine wpList_load_rng (ty := 46) b.fl.vals (by with_unfolding_all rfl) (Blk.box (H1.out.at 0 rfl)).range Try.underlying46 (by with_unfolding_all rfl) (by with_unfolding_all exact info46) ?_)
            | (with_reducible refine wpList_buildA (t := 46) [(0, .bool b.fl.change), (6, .bool b.fl.ack)] b.fl.two.vals (by with_unfolding_all rfl) PB.out ?_))
          go_ret
          exact ⟨by rw [Hr.out]; rfl, H1.out.below⟩
        · rw [hd] at EN Hr
          clear hd
          go_wp2_with (first
            | (with_reducible refine wpList_load_rng (ty := 46) b.fl.vals (by with_unfolding_all rfl) (Blk.box (H1.out.at 0 rfl)).range Try.underlying46 (by with_unfolding_all rfl) (by with_unfolding_all exact info46) ?_)
            | (with_reducible refine wpList_buildA (t := 46) [(0, .bool b.fl.change), (6, .bool b.fl.ack)] b.fl.two.vals (by with_unfolding_all rfl) PB.out ?_))
          go_meet
          exact ⟨H1, Lib.hid Hr.out⟩
      · have hb1 : (b.kind == 1) = false := by simp [k1]
        by_cases k3 : b.kind = 3
        · have hb3 : (b.kind == 3) = true := by simp [k3]
          have Hr : Hid (b.okB = (b.fl.okB && b.restB)) := Lib.hid (by unfold Bp.okB; rw [if_neg k2, if_neg k1, if_pos k3])
          clear k1 k2 k3
          cases hd : b.fl.okB
          · rw [hd] at Hr
            have Hd := Lib.hid hd
            clear hd
            go_wp2_with (first
              | (with_reducible refine wpList_load_rng (ty := 46) b.fl.vals (by with_unfolding_all rfl) (Blk.box (H1.out.at 0 rfl)).range Try.underlying46 (by with_unfolding_all rfl) (by with_unfolding_all exact info46) ?_)
              | ((with_reducible refine (flagsF_any b.fl _).mono ?_)
                 rintro e w2 ⟨rfl, hb2⟩
                 rw [Hd.out]
                 have H2 := Lib.hid (H1.out.ext hb2)))
            go_ret
            exact ⟨by rw [Hr.out]; rfl, H2.out.below⟩
          · rw [hd] at Hr
            have Hd := Lib.hid hd
            clear hd
            go_wp2_with (first
              | (with_reducible refine wpList_load_rng (ty := 46) b.fl.vals (by with_unfolding_all rfl) (Blk.box (H1.out.at 0 rfl)).range Try.underlying46 (by with_unfolding_all rfl) (by with_unfolding_all exact info46) ?_)
              | ((with_reducible refine (flagsF_any b.fl _).mono ?_)
                 rintro e w2 ⟨rfl, hb2⟩
                 rw [Hd.out]
                 have H2 := Lib.hid (H1.out.ext hb2)))
            go_meet
            exact ⟨H2, Lib.hid Hr.out⟩
        · have hb3 : (b.kind == 3) = false := by simp [k3]
          have Hr : Hid (b.okB = false) := Lib.hid (by unfold Bp.okB; rw [if_neg k2, if_neg k1, if_neg k3])
          clear k1 k2 k3
          go_wp2_with fail
          go_ret
          exact ⟨by rw [Hr.out]; rfl, H1.out.below⟩
  case rest =>
  obtain ⟨HS, HR⟩ := hcut
  clear H1 I1 c0
  generalize wc = w3 at *
  have HC : Hid (∀ W, St w.heap.size w W [bk P 46 b.fl.vals, bk w.heap.size 94 b.vals] → W.cell? ⟨w.heap.size, 16, none⟩ = some (.int .i64 b.cost) ∧ W.cell? ⟨w.heap.size, 17, none⟩ = some (.int .i64 b.sender.prio) ∧ W.cell? ⟨w.heap.size, 18, none⟩ = some (.int .i64 b.sender.ext) ∧ W.cell? ⟨w.heap.size, 19, none⟩ = some (.int .u8 b.sender.ad.a.toNat) ∧ W.cell? ⟨w.heap.size, 20, none⟩ = some (.int .u8 b.sender.ad.b.toNat) ∧ W.cell? ⟨w.heap.size, 21, none⟩ = some (.int .u8 b.sender.ad.c.toNat) ∧ W.cell? ⟨w.heap.size, 22, none⟩ = some (.int .u8 b.sender.ad.d.toNat) ∧ W.cell? ⟨w.heap.size, 23, none⟩ = some (.int .u8 b.sender.ad.e.toNat) ∧ W.cell? ⟨w.heap.size, 24, none⟩ = some (.int .u8 b.sender.ad.f.toNat) ∧ W.cell? ⟨w.heap.size, 25, none⟩ = some (.int .i64 b.port.prio) ∧ W.cell? ⟨w.heap.size, 26, none⟩ = some (.int .i64 b.port.no) ∧ W.cell? ⟨w.heap.size, 27, none⟩ = some (.int .i64 b.age) ∧ W.cell? ⟨w.heap.size, 28, none⟩ = some (.int .i64 b.max) ∧ W.cell? ⟨w.heap.size, 29, none⟩ = some (.int .i64 b.hello) ∧ W.cell? ⟨w.heap.size, 30, none⟩ = some (.int .i64 b.wait)) := Lib.hid (fun W h => by
    have B := Blk.box (h.at 1 rfl)
    exact ⟨B.cell 16, B.cell 17, B.cell 18, B.cell 19, B.cell 20, B.cell 21, B.cell 22, B.cell 23, B.cell 24, B.cell 25, B.cell 26, B.cell 27, B.cell 28, B.cell 29, B.cell 30⟩)
  have HSn : Hid (∀ W, Calls Try.prog 67 #[.agg #[.int .i64 b.sender.prio, .int .i64 b.sender.ext, .int .u8 b.sender.ad.a.toNat, .int .u8 b.sender.ad.b.toNat, .int .u8 b.sender.ad.c.toNat, .int .u8 b.sender.ad.d.toNat, .int .u8 b.sender.ad.e.toNat, .int .u8 b.sender.ad.f.toNat]] W fun e w' => e = .returned (.bool b.sender.okB) ∧ Below W.heap.size W w') := Lib.hid (fun W => prioRight_any b.sender W)
  have HPt : Hid (∀ W, Calls Try.prog 68 #[.agg #[.int .i64 b.port.prio, .int .i64 b.port.no]] W fun e w' => e = .returned (.bool b.port.okB) ∧ Below W.heap.size W w') := Lib.hid (fun W => prioPort_any b.port W)
  have hT : b.restB = (b.root.okB && (b.sender.okB && (b.port.okB && (decide (0 ≤ b.cost) && (decide (b.cost < 4294967296) && [b.age, b.max, b.hello, b.wait].all sh))))) := by simp [Bp.restB, tm, sh]
  have RT := Lib.hid (bp_in (Blk.box (HS.out.at 1 rfl))).root
  have HE := Lib.hid (HR.out.trans hT)
  clear hT HR
  cases hx : b.root.okB
  · rw [hx] at HE
    have Hx := Lib.hid hx
    clear hx
    go_wp2_with (first
      | (with_reducible refine wpList_load_rng (ty := 92) b.root.vals (by with_unfolding_all rfl) RT.out Try.underlying92 (by with_unfolding_all rfl) (by with_unfolding_all exact info92) ?_)
      | ((with_reducible refine (prioRight_any b.root w3).mono ?_)
         rintro e w4 ⟨rfl, hb4⟩
         rw [Hx.out]
         have H4 := Lib.hid (HS.out.ext hb4)
         obtain ⟨k16, k17, k18, k19, k20, k21, k22, k23, k24, k25, k26, k27, k28, k29, k30⟩ := HC.out _ H4.out
         clear hb4)
      | ((with_reducible refine (HSn.out _).mono ?_)
         rintro e w5 ⟨rfl, hb5⟩
         rw [Hy.out]
         have H5 := Lib.hid (H4.out.ext hb5)
         obtain ⟨k16, k17, k18, k19, k20, k21, k22, k23, k24, k25, k26, k27, k28, k29, k30⟩ := HC.out _ H5.out
         clear hb5)
      | ((with_reducible refine (HPt.out _).mono ?_)
         rintro e w6 ⟨rfl, hb6⟩
         rw [Hz.out]
         have H6 := Lib.hid (H5.out.ext hb6)
         obtain ⟨k16, k17, k18, k19, k20, k21, k22, k23, k24, k25, k26, k27, k28, k29, k30⟩ := HC.out _ H6.out
         clear hb6)
      | ((with_reducible refine (times_any [b.age, b.max, b.hello, b.wait] _ _ 4 rfl (by decide) _ (four_cells b.age b.max b.hello b.wait rfl)).mono ?_)
         rintro e w7 ⟨rfl, rfl⟩
         rw [Ht.out]))
    go_ret
    exact ⟨by rw [HE.out]; rfl, H4.out.below⟩
  · rw [hx] at HE
    have Hx := Lib.hid hx
    clear hx
    cases hy : b.sender.okB
    · rw [hy] at HE
      have Hy := Lib.hid hy
      clear hy
      go_wp2_with (first
        | (with_reducible refine wpList_load_rng (ty := 92) b.root.vals (by with_unfolding_all rfl) RT.out Try.underlying92 (by with_unfolding_all rfl) (by with_unfolding_all exact info92) ?_)
        | ((with_reducible refine (prioRight_any b.root w3).mono ?_)
           rintro e w4 ⟨rfl, hb4⟩
           rw [Hx.out]
           have H4 := Lib.hid (HS.out.ext hb4)
           obtain ⟨k16, k17, k18, k19, k20, k21, k22, k23, k24, k25, k26, k27, k28, k29, k30⟩ := HC.out _ H4.out
           clear hb4)
        | ((with_reducible refine (HSn.out _).mono ?_)
           rintro e w5 ⟨rfl, hb5⟩
           rw [Hy.out]
           have H5 := Lib.hid (H4.out.ext hb5)
           obtain ⟨k16, k17, k18, k19, k20, k21, k22, k23, k24, k25, k26, k27, k28, k29, k30⟩ := HC.out _ H5.out
           clear hb5)
        | ((with_reducible refine (HPt.out _).mono ?_)
           rintro e w6 ⟨rfl, hb6⟩
           rw [Hz.out]
           have H6 := Lib.hid (H5.out.ext hb6)
           obtain ⟨k16, k17, k18, k19, k20, k21, k22, k23, k24, k25, k26, k27, k28, k29, k30⟩ := HC.out _ H6.out
           clear hb6)
        | ((with_reducible refine (times_any [b.age, b.max, b.hello, b.wait] _ _ 4 rfl (by decide) _ (four_cells b.age b.max b.hello b.wait rfl)).mono ?_)
           rintro e w7 ⟨rfl, rfl⟩
           rw [Ht.out]))
      go_ret
      exact ⟨by rw [HE.out]; rfl, H5.out.below⟩
    · rw [hy] at HE
      have Hy := Lib.hid hy
      clear hy
      cases hz : b.port.okB
      · rw [hz] at HE
        have Hz := Lib.hid hz
        clear hz
        go_wp2_with (first
          | (with_reducible refine wpList_load_rng (ty := 92) b.root.vals (by with_unfolding_all rfl) RT.out Try.underlying92 (by with_unfolding_all rfl) (by with_unfolding_all exact info92) ?_)
          | ((with_reducible refine (prioRight_any b.root w3).mono ?_)
             rintro e w4 ⟨rfl, hb4⟩
             rw [Hx.out]
             have H4 := Lib.hid (HS.out.ext hb4)
             obtain ⟨k16, k17, k18, k19, k20, k21, k22, k23, k24, k25, k26, k27, k28, k29, k30⟩ := HC.out _ H4.out
             clear hb4)
          | ((with_reducible refine (HSn.out _).mono ?_)
             rintro e w5 ⟨rfl, hb5⟩
             rw [Hy.out]
             have H5 := Lib.hid (H4.out.ext hb5)
             obtain ⟨k16, k17, k18, k19, k20, k21, k22, k23, k24, k25, k26, k27, k28, k29, k30⟩ := HC.out _ H5.out
             clear hb5)
          | ((with_reducible refine (HPt.out _).mono ?_)
             rintro e w6 ⟨rfl, hb6⟩
             rw [Hz.out]
             have H6 := Lib.hid (H5.out.ext hb6)
             obtain ⟨k16, k17, k18, k19, k20, k21, k22, k23, k24, k25, k26, k27, k28, k29, k30⟩ := HC.out _ H6.out
             clear hb6)
          | ((with_reducible refine (times_any [b.age, b.max, b.hello, b.wait] _ _ 4 rfl (by decide) _ (four_cells b.age b.max b.hello b.wait rfl)).mono ?_)
             rintro e w7 ⟨rfl, rfl⟩
             rw [Ht.out]))
        go_ret
        exact ⟨by rw [HE.out]; rfl, H6.out.below⟩
      · rw [hz] at HE
        have Hz := Lib.hid hz
        clear hz
        by_cases hc0 : 0 ≤ b.cost
        · by_cases hc1 : b.cost < 4294967296
          · cases ht : [b.age, b.max, b.hello, b.wait].all sh
            all_goals
              rw [ht, decide_eq_true hc0, decide_eq_true hc1] at HE
              have Ht := Lib.hid ht
              clear ht
              go_wp2_with (first
                | (with_reducible refine wpList_load_rng (ty := 92) b.root.vals (by with_unfolding_all rfl) RT.out Try.underlying92 (by with_unfolding_all rfl) (by with_unfolding_all exact info92) ?_)
                | ((with_reducible refine (prioRight_any b.root w3).mono ?_)
                   rintro e w4 ⟨rfl, hb4⟩
                   rw [Hx.out]
                   have H4 := Lib.hid (HS.out.ext hb4)
                   obtain ⟨k16, k17, k18, k19, k20, k21, k22, k23, k24, k25, k26, k27, k28, k29, k30⟩ := HC.out _ H4.out
                   clear hb4)
                | ((with_reducible refine (HSn.out _).mono ?_)
                   rintro e w5 ⟨rfl, hb5⟩
                   rw [Hy.out]
                   have H5 := Lib.hid (H4.out.ext hb5)
                   obtain ⟨k16, k17, k18, k19, k20, k21, k22, k23, k24, k25, k26, k27, k28, k29, k30⟩ := HC.out _ H5.out
                   clear hb5)
                | ((with_reducible refine (HPt.out _).mono ?_)
                   rintro e w6 ⟨rfl, hb6⟩
                   rw [Hz.out]
                   have H6 := Lib.hid (H5.out.ext hb6)
                   obtain ⟨k16, k17, k18, k19, k20, k21, k22, k23, k24, k25, k26, k27, k28, k29, k30⟩ := HC.out _ H6.out
                   clear hb6)
                | ((with_reducible refine (times_any [b.age, b.max, b.hello, b.wait] _ _ 4 rfl (by decide) _ (four_cells b.age b.max b.hello b.wait rfl)).mono ?_)
                   rintro e w7 ⟨rfl, rfl⟩
                   rw [Ht.out]))
              go_ret
              exact ⟨by rw [HE.out]; rfl, H6.out.below.alloc H6.out.below.size _⟩
          · rw [decide_eq_true hc0, decide_eq_false hc1] at HE
            go_wp2_with (first
              | (with_reducible refine wpList_load_rng (ty := 92) b.root.vals (by with_unfolding_all rfl) RT.out Try.underlying92 (by with_unfolding_all rfl) (by with_unfolding_all exact info92) ?_)
              | ((with_reducible refine (prioRight_any b.root w3).mono ?_)
                 rintro e w4 ⟨rfl, hb4⟩
                 rw [Hx.out]
                 have H4 := Lib.hid (HS.out.ext hb4)
                 obtain ⟨k16, k17, k18, k19, k20, k21, k22, k23, k24, k25, k26, k27, k28, k29, k30⟩ := HC.out _ H4.out
                 clear hb4)
              | ((with_reducible refine (HSn.out _).mono ?_)
                 rintro e w5 ⟨rfl, hb5⟩
                 rw [Hy.out]
                 have H5 := Lib.hid (H4.out.ext hb5)
                 obtain ⟨k16, k17, k18, k19, k20, k21, k22, k23, k24, k25, k26, k27, k28, k29, k30⟩ := HC.out _ H5.out
                 clear hb5)
              | ((with_reducible refine (HPt.out _).mono ?_)
                 rintro e w6 ⟨rfl, hb6⟩
                 rw [Hz.out]
                 have H6 := Lib.hid (H5.out.ext hb6)
                 obtain ⟨k16, k17, k18, k19, k20, k21, k22, k23, k24, k25, k26, k27, k28, k29, k30⟩ := HC.out _ H6.out
                 clear hb6)
              | ((with_reducible refine (times_any [b.age, b.max, b.hello, b.wait] _ _ 4 rfl (by decide) _ (four_cells b.age b.max b.hello b.wait rfl)).mono ?_)
                 rintro e w7 ⟨rfl, rfl⟩
                 rw [Ht.out]))
            go_ret
            exact ⟨by rw [HE.out]; rfl, H6.out.below⟩
        · rw [decide_eq_false hc0] at HE
          go_wp2_with (first
            | (with_reducible refine wpList_load_rng (ty := 92) b.root.vals (by with_unfolding_all rfl) RT.out Try.underlying92 (by with_unfolding_all rfl) (by with_unfolding_all exact info92) ?_)
            | ((with_reducible refine (prioRight_any b.root w3).mono ?_)
               rintro e w4 ⟨rfl, hb4⟩
               rw [Hx.out]
               have H4 := Lib.hid (HS.out.ext hb4)
               obtain ⟨k16, k17, k18, k19, k20, k21, k22, k23, k24, k25, k26, k27, k28, k29, k30⟩ := HC.out _ H4.out
               clear hb4)
            | ((with_reducible refine (HSn.out _).mono ?_)
               rintro e w5 ⟨rfl, hb5⟩
               rw [Hy.out]
               have H5 := Lib.hid (H4.out.ext hb5)
               obtain ⟨k16, k17, k18, k19, k20, k21, k22, k23, k24, k25, k26, k27, k28, k29, k30⟩ := HC.out _ H5.out
               clear hb5)
            | ((with_reducible refine (HPt.out _).mono ?_)
               rintro e w6 ⟨rfl, hb6⟩
               rw [Hz.out]
               have H6 := Lib.hid (H5.out.ext hb6)
               obtain ⟨k16, k17, k18, k19, k20, k21, k22, k23, k24, k25, k26, k27, k28, k29, k30⟩ := HC.out _ H6.out
               clear hb6)
            | ((with_reducible refine (times_any [b.age, b.max, b.hello, b.wait] _ _ 4 rfl (by decide) _ (four_cells b.age b.max b.hello b.wait rfl)).mono ?_)
               rintro e w7 ⟨rfl, rfl⟩
               rw [Ht.out]))
          go_ret
          exact ⟨by rw [HE.out]; rfl, H6.out.below⟩
end Go.Proofs.Ytidcjbanhdpkkaa
