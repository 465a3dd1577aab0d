/- served. -/
import Derived.Test.YtoenlcmngdpkmaaBr13
namespace Go.Proofs.Ytoenlcmngdpkmaa
open Go.RowKit
theorem info52 : (Try.prog.info? 52).map (·.size) = some 6 := by kernel_rfl
def zTrp : List Value := [.int .i64 0, .int .i64 0, .int .i64 0, .int .i64 0, .int .i64 0, .bool false]
/-- What a trip's call reads of it. -/
structure TrS (PB : Nat) (c : List Value) (X : World) : Prop where
  p : X.cell? ⟨PB, 0, none⟩ = some (c.getD 0 default)
  r : X.rangeAt PB 0 c
theorem trS {PB : Nat} {x : Trp} {X : World} (h : Blk X PB 52 x.vals) : TrS PB x.vals X := ⟨h.box.cell 0, h.box.range⟩
theorem brd_drop {B : Nat} {w0 w : World} {A : List It} {Bp T : Nat} {now : Int} {sv tv : Value} {L : List PRow} {es : List Ent} (H : St B w0 w (brd Bp T now sv tv L es A)) : St B w0 w (brd Bp T now sv tv L es []) :=
  H.sub (show List.Sublist (brd Bp T now sv tv L es [] ++ []) (brd Bp T now sv tv L es [] ++ A) from (List.Sublist.refl _).append (List.nil_sublist A))
def Served (w : World) (P : List PSet) (X : List Trp) (e : Ending) (w' : World) : Prop :=
  ∃ Bp T sv tb L', e = .returned (.tuple #[.pointer (some ⟨Bp, 0, none⟩), .int .i64 (servedM P ([], 0) 0 X).2]) ∧ L'.map PRow.p = P ∧ St w.heap.size w w' (brd Bp T (servedM P ([], 0) 0 X).1.2 sv tb L' (servedM P ([], 0) 0 X).1.1 [])
set_option maxRecDepth 100000 in
set_option maxHeartbeats 8000000 in
theorem served_any (L : List PRow) (v : Value) (w : World) (hv : SlAt w 4 v (L.map PRow.vals)) (hq : ∀ q ∈ L, q.In w) (hg : goodL (L.map PRow.p) = true) (h0 : 0 < L.length) (X : List Trp) (tvv : Value) (hX : SlAt w 6 tvv (X.map Trp.vals)) (h60 : X.length ≤ 60) :
    Calls Try.prog 30 #[v, tvv] w (Served w (L.map PRow.p) X) := by
  have h8 := (good_ok rfl hg).1
  have hlens : ∀ q ∈ L, q.p.ins.length ≤ 9223372036854775807 ∧ q.p.bare.length ≤ 9223372036854775807 := fun q hq => by
    unfold goodL at hg
    simp only [Bool.and_eq_true, decide_eq_true_eq, List.all_eq_true] at hg
    have := rightP_len (hg.2 _ (List.mem_map.2 ⟨q, hq, rfl⟩))
    omega
  have hN := new_any L v w hv hq (by omega) hlens
  obtain ⟨A, cap, e, _, _⟩ := hv.row
  rw [List.length_map] at e
  obtain ⟨At, ct, e2, _, hrt⟩ := hX.row
  rw [List.length_map] at e2
  have HN : Hid (Calls Try.prog 25 #[v, .int .i64 100] w fun e w' => ∃ Bp T sv L', e = .returned (.tuple #[.pointer (some ⟨Bp, 0, none⟩), .nilIface]) ∧ L'.map PRow.p = L.map PRow.p ∧ St w.heap.size w w' (brd Bp T 0 sv (.slice none 0 0) L' [] [])) := Lib.hid (by
    refine hN.mono fun e w' h => ?_
    unfold NewPost at h
    rw [if_pos hg] at h
    exact h)
  have Hg := Lib.hid hg
  have Hrt := Lib.hid hrt
  have hPl : (L.map PRow.p).length = L.length := List.length_map ..
  subst e
  subst e2
  obtain ⟨n, hn⟩ : ∃ n, L.length = n := ⟨_, rfl⟩
  rw [hn] at HN hPl h0 h8 ⊢
  clear hN hlens hg hrt hv hq hX hn
  generalize L.map PRow.p = P at *
  obtain ⟨m, hm⟩ : ∃ m, X.length = m := ⟨_, rfl⟩
  have Hm := Lib.hid hm
  rw [hm] at h60 ⊢
  have HPl := Lib.hid hPl
  have hn0 : ((n : Int) == 0) = false := beq_eq_false_iff_ne.2 (by omega)
  clear hm hPl
  go_enter Try.func30, Try.ntmps30
  go_upto_region 5 with (first
    | ((with_reducible refine HN.out.mono ?_)
       rintro e w1 ⟨Bp, T, sv, L', rfl, hL', h1⟩
       have H1 := Lib.hid h1
       have HL := Lib.hid hL'
       clear h1 hL' HN)
    )
  have hpo := good_ok HL.out Hg.out
  have Hpo := Lib.hid hpo
  have hLl : L'.length = n := by
    have := congrArg List.length HL.out
    rw [List.length_map] at this
    rw [this, HPl.out]
  have HLl := Lib.hid hLl
  clear hpo hLl
  go_wp2_with fail
  go_loopw [8, 10, 11, 12, 31] (fun nw _ _ _ i wr => ∃ (k : Nat) (now : Int) (KN : List Ent × Int) (tb : Value), k ≤ m ∧ i = .int .i64 k ∧ nw = .int .i64 now ∧ Hid (servedM P ([], 0) 0 (X.take k) = (KN, now)) ∧ Hid (St w.heap.size w wr (brd Bp T KN.2 sv tb L' KN.1 []))) (fun _ _ _ _ i _ => m - (intOf i).toNat)
  case atStart => exact ⟨0, 0, ([], 0), .slice none 0 0, by omega, rfl, rfl, Lib.hid rfl, H1⟩
  case round =>
    obtain ⟨k, now, KN, tb, hk, rfl, rfl, Ht, HR⟩ := hrel
    clear H1
    by_cases hlk : k < m
    · have hkx : k < X.length := by rw [Hm.out]; exact hlk
      have hst := served_take hkx Ht.out
      obtain ⟨hok, hn1, hn2⟩ := served_ok P (by rw [HPl.out]; exact h8) (by rw [HPl.out]; exact h0) (X.take k) ([], 0) 0 (by omega) KnowOk.nil
      rw [Ht.out] at hok hn1 hn2
      simp only [] at hok hn1 hn2
      have hlk2 : (X.take k).length ≤ 60 := by rw [List.length_take]; omega
      have hn3 : now ≤ 1140 := by omega
      clear hn2 hlk2
      obtain ⟨g, o, rfl, hgl, hc⟩ := Hrt.out (by rw [List.length_map]; omega)
      have hc1 := hc k (by rw [List.length_map]; exact hkx)
      rw [List.getElem_map] at hc1
      have Hc1 := Lib.hid (rangeAt_below hc1 HR.out.below hgl)
      have hport := pickN_lt X[k].port n h0
      have hg1 : P.getD (pickN X[k].port P.length) default = (L'[pickN X[k].port n]'(by rw [HLl.out]; exact hport)).p := by
        rw [HPl.out, List.getD_eq_getElem?_getD, List.getElem?_eq_getElem (by rw [HPl.out]; exact hport), Option.getD_some]
        have h1 : P[pickN X[k].port n]? = (L'.map PRow.p)[pickN X[k].port n]? := by rw [HL.out]
        rw [List.getElem?_eq_getElem (by rw [HPl.out]; exact hport), List.getElem?_eq_getElem (by rw [List.length_map, HLl.out]; exact hport)] at h1
        rw [Option.some.inj h1, List.getElem_map]
      rw [hg1, HPl.out] at hst
      clear hc hc1 hg1
      generalize X[k] = x at *
      have HP4 : Hid (∀ W, Calls Try.prog 16 #[.int .i64 x.after, .int .i64 20] W fun e w' => e = .returned (.int .i64 (pickN x.after 20 : Nat)) ∧ W = w') := Lib.hid fun W => pick_any x.after 20 W (by omega) (by omega)
      have HP1 : Hid (∀ W, Calls Try.prog 16 #[.int .i64 x.port, .int .i64 (n : Int)] W fun e w' => e = .returned (.int .i64 (pickN x.port n : Nat)) ∧ W = w') := Lib.hid fun W => pick_any x.port n W (by omega) (by omega)
      have p4 := pickN_lt x.after 20 (by omega)
      have Hst := Lib.hid hst
      have Hok := Lib.hid hok
      clear hst hok
      go_upto_region 8 with (first
        | ((with_reducible refine wpList_load_rng (ty := 52) (b := ?b2) (o := ?o2) (ds := ?ds2) x.vals ?hx2 ?hB2 ?hu2 ?hd2 ?hi2 ?hk2)
           case hx2 => rfl
           case hB2 => exact Hc1.out
           case hu2 => exact Try.underlying52
           case hd2 => rfl
           case hi2 => exact info52)
        | ((with_reducible refine wpList_store_blk (ty := 52) (b := ?b3) (o := ?o3) (t := 52) zTrp x.vals ?hx3 ?hy3 ?hB3 ?ho3 ?hi3 ?h13 ?hk3)
           case hx3 => rfl
           case hy3 => rfl
           case hB3 => exact Blk.new wr zTrp 52
           case ho3 => exact Nat.le_refl _
           case hi3 => exact info52
           case h13 => exact (Trp.one _)
           intro W4 hBW4 hoW4))
      obtain ⟨hb8, lPB⟩ := Only.fresh hoW4
      have h4 := HR.out.add (k := bk wr.heap.size 52 x.vals) hb8 hBW4 (fun g hg => by rw [List.mem_singleton.1 hg]; exact Nat.le_refl _)
      have H4 := Lib.hid h4
      have x4 : W4.cell? ⟨wr.heap.size, 4, none⟩ = some (.int .i64 x.after) := (h4.at 0 rfl).box.cell 4
      clear h4 hBW4 hoW4 hb8 lPB HR Hc1
      generalize wr.heap.size = PB at *
      go_upto_region 9 with (first
        | ((with_reducible refine (HP4.out _).mono ?_)
           rintro e w5 ⟨rfl, rfl⟩
           skip)
        )
      have hX0 : Blk W4 PB 52 x.vals := H4.out.at 0 rfl
      have hS0 : TrS PB x.vals W4.drew := trS hX0
      have cP : ∀ X, TrS PB x.vals X → X.cell? ⟨PB, 0, none⟩ = some (.int .i64 x.port) := fun X h => h.p
      have cR : Hid (∀ X, TrS PB x.vals X → X.rangeAt PB 0 x.vals) := Lib.hid fun X h => h.r
      have H5 := Lib.hid H4.out.drew
      clear hX0 x4 H4
      refine wp_region_last (TrS PB x.vals) 14 (by kernel_rfl) hS0 (fun hHeld => ?_)
      refine wpAnyG_take 0 (oi := ?o6) ?v6 ?hi6 (by kernel_rfl) (by kernel_rfl) (by decide) (by kernel_rfl) (by kernel_rfl) ?hq6 ?hg6 ?hy6 (by assumption) ?hk6
      case hi6 => (simp only [List.getElem?_toArray, List.getElem?_cons_succ, List.getElem?_cons_zero]; rfl)
      case hq6 => exact fun _ _ _ h => h
      case hg6 => rfl
      case hy6 => (intro X hX; go_simp; try with_reducible rfl)
      try simp only [Act.put, List.setIfInBounds_toArray, List.set_cons_zero, List.set_cons_succ]
      refine wpAnyG_take 1 (oi := ?o7) ?v7 ?hi7 (by kernel_rfl) (by kernel_rfl) (by decide) (by kernel_rfl) (by kernel_rfl) ?hq7 ?hg7 ?hy7 (by assumption) ?hk7
      case hi7 => (simp only [List.getElem?_toArray, List.getElem?_cons_succ, List.getElem?_cons_zero]; rfl)
      case hq7 => exact fun _ _ _ h => h
      case hg7 => rfl
      case hy7 => (intro X hX; go_simp; try with_reducible rfl)
      try simp only [Act.put, List.setIfInBounds_toArray, List.set_cons_zero, List.set_cons_succ]
      refine wpAnyG_take 2 (oi := ?o8) ?v8 ?hi8 (by kernel_rfl) (by kernel_rfl) (by decide) (by kernel_rfl) (by kernel_rfl) ?hq8 ?hg8 ?hy8 (by assumption) ?hk8
      case hi8 => (simp only [List.getElem?_toArray, List.getElem?_cons_succ, List.getElem?_cons_zero]; rfl)
      case hq8 => exact fun _ _ _ h => h
      case hg8 => rfl
      case hy8 => (intro X hX; go_simp; try with_reducible rfl)
      try simp only [Act.put, List.setIfInBounds_toArray, List.set_cons_zero, List.set_cons_succ]
      refine wpAnyG_take 3 (oi := ?o9) ?v9 ?hi9 (by kernel_rfl) (by kernel_rfl) (by decide) (by kernel_rfl) (by kernel_rfl) ?hq9 ?hg9 ?hy9 (by assumption) ?hk9
      case hi9 => (simp only [List.getElem?_toArray, List.getElem?_cons_succ, List.getElem?_cons_zero]; rfl)
      case hq9 => exact fun _ _ _ h => h
      case hg9 => rfl
      case hy9 => (intro X hX; go_simp; try with_reducible rfl)
      try simp only [Act.put, List.setIfInBounds_toArray, List.set_cons_zero, List.set_cons_succ]
      refine wpAnyG_take 4 (oi := ?o10) ?v10 ?hi10 (by kernel_rfl) (by kernel_rfl) (by decide) (by kernel_rfl) (by kernel_rfl) ?hq10 ?hg10 ?hy10 (by assumption) ?hk10
      case hi10 => (simp only [List.getElem?_toArray, List.getElem?_cons_succ, List.getElem?_cons_zero]; rfl)
      case hq10 => exact fun _ _ _ h => h
      case hg10 => rfl
      case hy10 => (intro X hX; go_simp; try with_reducible rfl)
      try simp only [Act.put, List.setIfInBounds_toArray, List.set_cons_zero, List.set_cons_succ]
      refine wpAnyG_take 8 (oi := ?o11) ?v11 ?hi11 (by kernel_rfl) (by kernel_rfl) (by decide) (by kernel_rfl) (by kernel_rfl) ?hq11 ?hg11 ?hy11 (by assumption) ?hk11
      case hi11 => (simp only [List.getElem?_toArray, List.getElem?_cons_succ, List.getElem?_cons_zero]; rfl)
      case hq11 => exact fun _ _ _ h => h
      case hg11 => rfl
      case hy11 => (intro X hX; go_simp; try with_reducible rfl)
      try simp only [Act.put, List.setIfInBounds_toArray, List.set_cons_zero, List.set_cons_succ]
      refine wpAnyG_take 6 (oi := ?o12) (.agg (x.vals).toArray) ?hi12 (by kernel_rfl) (by kernel_rfl) (by decide) (by kernel_rfl) (by kernel_rfl) ?hq12 ?hg12 ?hy12 (by assumption) ?hk12
      case hi12 => (simp only [List.getElem?_toArray, List.getElem?_cons_succ, List.getElem?_cons_zero]; rfl)
      case hq12 => exact fun _ _ _ h => h
      case hg12 => rfl
      case hy12 => exact fun X hX => exec_load_rng (ty := 52) (x.vals) rfl (cR.out X hX) Try.underlying52 rfl info52
      try simp only [Act.put, List.setIfInBounds_toArray, List.set_cons_zero, List.set_cons_succ]
      refine wpAnyG_one 5 (o := ?o13) (by kernel_rfl) ?hi13 ?hg13 ?hk13
      case hi13 => (simp only [List.getElem?_toArray, List.getElem?_cons_succ, List.getElem?_cons_zero]; rfl)
      case hg13 => rfl
      intro K hK
      go_simp
      refine (HP1.out _).mono ?_
      rintro e w5 ⟨rfl, rfl⟩
      refine hK.out _ _ (fun _ => hHeld) (fun _ => ?_)
      clear hK K
      try simp only [Act.put, List.setIfInBounds_toArray, List.set_cons_zero, List.set_cons_succ]
      refine wpAnyG_one 7 (o := ?o14) (by kernel_rfl) ?hi14 ?hg14 ?hk14
      case hi14 => (simp only [List.getElem?_toArray, List.getElem?_cons_succ, List.getElem?_cons_zero]; rfl)
      case hg14 => rfl
      intro K hK
      go_simp
      refine (carried_any x _).mono ?_
      rintro e w6 ⟨tg, rfl, h6⟩
      have h7 := H5.out.add (k := slI 4 tg (tagv (carryM x).tags)) h6.below h6.head (fun g hg => h6.low _ (List.mem_cons_self ..) g hg)
      have hHeld' : TrS PB x.vals w6 := trS (h7.at 1 rfl)
      refine hK.out _ _ (fun _ => hHeld') (fun _ => ?_)
      have hHeld := hHeld'
      have H7 : Hid (St w.heap.size w w6 (brd Bp T KN.2 sv tb L' KN.1 (slI 4 tg (tagv (carryM x).tags) :: bk PB 52 x.vals :: []))) := Lib.hid (h7.perm (brd_under Bp T KN.2 sv tb L' KN.1 [slI 4 tg (tagv (carryM x).tags), bk PB 52 x.vals] []))
      clear hK h6 h7 hHeld' H5 hS0
      try simp only [Act.put, List.setIfInBounds_toArray, List.set_cons_zero, List.set_cons_succ]
      refine wpAnyG_one 9 (o := ?o15) (by kernel_rfl) ?hi15 ?hg15 ?hk15
      case hi15 => (simp only [List.getElem?_toArray, List.getElem?_cons_succ, List.getElem?_cons_zero]; rfl)
      case hg15 => rfl
      intro K hK
      go_simp
      refine (in_st H7.out (pickN x.port n) (by rw [HLl.out]; exact hport) Hpo.out.1 Hpo.out.2.1 Hok.out.1 Hok.out.2.1 (now + (pickN x.after 20 : Nat)) (by have := Hok.out.2.2; omega) (by omega) (carry_ok x) Hpo.out.2.2).mono ?_
      rintro e w8 ⟨ov, R, tb8, rfl, _, h8⟩
      have hHeld' : TrS PB x.vals w8 := trS (h8.at 8 rfl)
      refine hK.out _ _ (fun _ => hHeld') (fun _ => ?_)
      have hHeld := hHeld'
      have H8 := Lib.hid h8
      clear hK h8 hHeld' H7
      try simp only [Act.put, List.setIfInBounds_toArray, List.set_cons_zero, List.set_cons_succ]
      refine wpAnyG_take 10 (oi := ?o17) ?v17 ?hi17 (by kernel_rfl) (by kernel_rfl) (by decide) (by kernel_rfl) (by kernel_rfl) ?hq17 ?hg17 ?hy17 (by assumption) ?hk17
      case hi17 => (simp only [List.getElem?_toArray, List.getElem?_cons_succ, List.getElem?_cons_zero]; rfl)
      case hq17 => exact fun _ _ _ h => h
      case hg17 => rfl
      case hy17 => (intro X hX; go_simp; try with_reducible rfl)
      try simp only [Act.put, List.setIfInBounds_toArray, List.set_cons_zero, List.set_cons_succ]
      refine wpAnyG_take 11 (oi := ?o18) ?v18 ?hi18 (by kernel_rfl) (by kernel_rfl) (by decide) (by kernel_rfl) (by kernel_rfl) ?hq18 ?hg18 ?hy18 (by assumption) ?hk18
      case hi18 => (simp only [List.getElem?_toArray, List.getElem?_cons_succ, List.getElem?_cons_zero]; rfl)
      case hq18 => exact fun _ _ _ h => h
      case hg18 => rfl
      case hy18 => (intro X hX; go_simp; try with_reducible rfl)
      try simp only [Act.put, List.setIfInBounds_toArray, List.set_cons_zero, List.set_cons_succ]
      refine wpAnyG_take 12 (oi := ?o19) ?v19 ?hi19 (by kernel_rfl) (by kernel_rfl) (by decide) (by kernel_rfl) (by kernel_rfl) ?hq19 ?hg19 ?hy19 (by assumption) ?hk19
      case hi19 => (simp only [List.getElem?_toArray, List.getElem?_cons_succ, List.getElem?_cons_zero]; rfl)
      case hq19 => exact fun _ _ _ h => h
      case hg19 => rfl
      case hy19 => (intro X hX; go_simp; try with_reducible rfl)
      try simp only [Act.put, List.setIfInBounds_toArray, List.set_cons_zero, List.set_cons_succ]
      refine wpAnyG_take 13 (oi := ?o20) ?v20 ?hi20 (by kernel_rfl) (by kernel_rfl) (by decide) (by kernel_rfl) (by kernel_rfl) ?hq20 ?hg20 ?hy20 (by assumption) ?hk20
      case hi20 => (simp only [List.getElem?_toArray, List.getElem?_cons_succ, List.getElem?_cons_zero]; rfl)
      case hq20 => exact fun _ _ _ h => h
      case hg20 => rfl
      case hy20 => (intro X hX; go_simp; try with_reducible rfl)
      try simp only [Act.put, List.setIfInBounds_toArray, List.set_cons_zero, List.set_cons_succ]
      refine wpAnyG_one 14 (o := ?o21) (by kernel_rfl) ?hi21 ?hg21 ?hk21
      case hi21 => (simp only [List.getElem?_toArray, List.getElem?_cons_succ, List.getElem?_cons_zero]; rfl)
      case hg21 => rfl
      intro K hK
      go_simp
      refine hK.out _ _ (fun h => absurd rfl h) (fun _ => ?_)
      refine wpAnyG_done (by kernel_rfl) ?_ _
      have H9 := Lib.hid (brd_drop H8.out.tail.tail)
      clear hK hHeld H8 cP cR
      go_wp2_with fail
      go_roundw
      case rel => exact ⟨k + 1, _, _, tb8, by omega, by go_num, rfl, Hst, H9⟩
      case measure => simp [intOf]; omega
    · obtain rfl : m = k := by omega
      have ht := Ht.out
      rw [List.take_of_length_le (by rw [Hm.out]; exact Nat.le_refl _)] at ht
      have Ht2 := Lib.hid ht
      clear ht
      go_wp2_with fail
      go_ret2
      exact ⟨Bp, T, sv, tb, L', by rw [Ht2.out]; rfl, HL.out, by rw [Ht2.out]; exact HR.out⟩
end Go.Proofs.Ytoenlcmngdpkmaa
