/- The law of BridgeBlocked. -/
import Derived.Test.YtoenlcmngdpkmaaBr18
import Derived.Test.YtoenlcmngdpkmaaHeldG
namespace Go.Proofs.Ytoenlcmngdpkmaa
open Go.RowKit Go.ChangeShapes Go.WideShapes Go.Deep
structure BlS (PP PT : Nat) (pt dt : Int) (X : World) : Prop where
  p : X.cell? ⟨PP, 0, none⟩ = some (.int .i64 pt)
  t : X.cell? ⟨PT, 2, none⟩ = some (.int .i64 dt)
theorem blS {B PP PT : Nat} {w0 w : World} {A : List It} {pt : Int} {t : Trp} (H : St B w0 w A) (h1 : bk PP 3 [.int .i64 pt] ∈ A) (h2 : bk PT 52 t.vals ∈ A) : BlS PP PT pt t.dst w :=
  ⟨(show Blk w PP 3 [.int .i64 pt] from H.own _ h1).box.cell 0, (show Blk w PT 52 t.vals from H.own _ h2).box.cell 2⟩
set_option maxRecDepth 100000 in
theorem blocked1_any (r : SRow) (port : Int) (PP : Nat) (w : World) (hP : w.cell? ⟨PP, 0, none⟩ = some (.int .i64 port)) (hl : PP < w.heap.size) :
    Calls Try.prog 40 #[.agg r.vals.toArray, .pointer (some ⟨PP, 0, none⟩)] w fun e w' => e = .returned (.bool (decide ((r.i : Int) = port))) ∧ Below w.heap.size w w' := by
  have hBx := Blk.new w r.vals 65
  have hb0 : Below w.heap.size w (w.alloc (.cells r.vals.toArray 65)) := (Below.refl _ _).alloc (Nat.le_refl _) _
  have c0 : (w.alloc (.cells r.vals.toArray 65)).cell? ⟨w.heap.size, 0, none⟩ = some (.int .i64 (r.i : Int)) := hBx.box.cell 0
  have cp := laterc hP hb0 hl
  have hbe : ((r.i : Int) == port) = decide ((r.i : Int) = port) := rfl
  have lp := Nat.lt_of_lt_of_le hl hb0.size
  have lr : w.heap.size < (w.alloc (.cells r.vals.toArray 65)).heap.size := by simp
  generalize decide ((r.i : Int) = port) = b at *
  have Hb0 := Lib.hid hb0
  clear hBx hb0 hP hl
  go_enter Try.func40, Try.ntmps40
  go_upto_region 1 with (fail)
  generalize w.alloc (.cells r.vals.toArray 65) = W1 at *
  go_wp2_with fail
  go_ret
  exact ⟨rfl, Hb0.out⟩
theorem forget_not {es : List Ent} {kt : Int} (h : TabOk es kt) (pt : Nat) (vid : Int) (a : Ad) (now : Int) : lookM (forgetM es pt) vid a now 100 ≠ (pt : Int) := by
  have hf : ∀ e ∈ forgetM es pt, e.port ≠ (pt : Int) := fun e he => by
    unfold forgetM at he
    have := (List.mem_filter.1 he).2
    simpa using this
  unfold lookM
  cases hx : (forgetM es pt).find? (fun e => e.is vid a && e.on now 100) with
  | none => simp only []; omega
  | some e => exact hf e (List.mem_of_find?_eq_some hx)
theorem brd_past {B : Nat} {w0 w : World} {A : List It} {Bp T : Nat} {now : Int} {sv tv : Value} {L : List PRow} {es : List Ent} {x y : It} (H : St B w0 w (x :: y :: brd Bp T now sv tv L es A)) : St B w0 w (x :: y :: A) :=
  H.sub (show List.Sublist (x :: y :: A) (x :: y :: (brd Bp T now sv tv L es [] ++ A)) from ((List.sublist_append_right _ _).cons_cons _).cons_cons _)
theorem res_known (n : Nat) (h : n < 16) : resM (knownM (UInt8.ofNat n)) = true := by
  have h2 : (UInt8.ofNat n).toNat = n := by
    rw [UInt8.toNat_ofNat']; exact Nat.mod_eq_of_lt (by omega)
  unfold resM knownM
  simp only [and_self, decide_true, Bool.true_and, decide_eq_true_eq]
  rw [UInt8.le_iff_toNat_le, h2]
  show n ≤ 15
  omega
theorem heard0 {p : PSet} {port : Nat} {f : Fm} {t : Int} {k : List Ent × Int} (h : hearsM p f = false) : tabM p port f t k = k := by
  unfold tabM; rw [h]; rfl
theorem inM_deaf {p : PSet} {port : Nat} {f : Fm} {t : Int} {L : List PSet} (h : hearsM p f = false) (K : List Ent) : inM L p port f t K = [] := by
  unfold inM; rw [h]; rfl
set_option maxRecDepth 100000 in
set_option maxHeartbeats 16000000 in
theorem law_BridgeBlocked (v0 : Value) (X : List Trp) (v1 : Value) (t : Trp) (port : Int) (_ : (Lit.int .i64 port).wf = true) (w : World) (hv0 : IsTrips w v0 X) (hv1 : IsTrip w v1 t) :
    Calls Try.prog 11 #[v0, v1, .int .i64 port] w fun e w' => e = .returned (.bool true) ∧ Below w.heap.size w w' := by
  unfold IsTrip at hv1
  subst hv1
  obtain ⟨hs1, hlen1⟩ := hv0
  obtain ⟨A1, k1, e1, _, _⟩ := hs1.row
  rw [List.length_map] at e1
  have HTr : Hid (∀ W, Below w.heap.size w W → SlAt W 6 v0 (X.map Trp.vals)) := Lib.hid fun W hW => hs1.below hW
  have H1 := Lib.hid ((St.init w).alloc2 t.vals [.int .i64 port] 52 3)
  clear hs1
  subst e1
  go_enter Try.func11, Try.ntmps11
  go_upto_region 1 with (fail)
  generalize (w.alloc (.cells t.vals.toArray 52)).alloc (.cells #[.int .i64 port] 3) = W1 at *
  by_cases h60 : 60 < X.length
  · go_wp2_with (first
      | ((with_reducible refine (passes_any _).mono ?_)
         rintro e w2 ⟨rfl, hb2⟩
         have H2 := Lib.hid (H1.out.ext hb2)
         clear hb2)
      )
    go_ret
    exact ⟨rfl, H2.out.below⟩
  have h60' : X.length ≤ 60 := by omega
  have hkn := served_ok (List.replicate 5 plainP) (by simp) (by simp) X ([], 0) 0 (by omega) KnowOk.nil
  have HSv : Hid (∀ W sv (L : List PRow), SlAt W 4 sv (L.map PRow.vals) → (∀ q ∈ L, q.In W) → L.map PRow.p = List.replicate 5 plainP → Below w.heap.size w W → Calls Try.prog 30 #[sv, .slice A1 X.length k1] W (Served W (List.replicate 5 plainP) X)) := Lib.hid fun W sv L h1 h2 h3 hW => by
    have := served_any L sv W h1 h2 (by rw [h3]; exact plain_good 5 (by omega)) (by have := congrArg List.length h3; simp at this; omega) X _ (HTr.out W hW) h60'
    rw [h3] at this
    exact this
  unfold Served at HSv
  generalize (servedM (List.replicate 5 plainP) ([], 0) 0 X).2 = now at *
  generalize hes : (servedM (List.replicate 5 plainP) ([], 0) 0 X).1 = KN at *
  clear hes
  obtain ⟨es, kt⟩ := KN
  try simp only [] at hkn
  obtain ⟨hko, hnow0, hnow1⟩ := hkn
  have hnow : now ≤ 1140 := by omega
  have Hko := Lib.hid hko
  clear hko hnow1
  have HPl : Hid (∀ W, Calls Try.prog 35 #[.int .i64 5] W fun e w' => ∃ sv L, e = .returned sv ∧ L.map PRow.p = List.replicate 5 plainP ∧ St W.heap.size W w' [ownI 44 4 sv L.length (prows L), subP L]) := Lib.hid fun W => plain_any 5 (by omega) W
  go_upto_region 8 with (first
    | ((with_reducible refine (passes_any _).mono ?_)
       rintro e w2 ⟨rfl, hb2⟩
       have H2 := Lib.hid (H1.out.ext hb2)
       clear hb2 H1)
    | ((with_reducible refine (HPl.out _).mono ?_)
       rintro e w3 ⟨svp, Lp, rfl, hLp, h3⟩
       have hop := own_ports h3
       have H3 := Lib.hid (H2.out.ext h3.below)
       have HSv2 := Lib.hid (HSv.out _ _ _ hop.1 hop.2 hLp H3.out.below)
       clear hop h3 hLp HSv)
    | ((with_reducible refine HSv2.out.mono ?_)
       rintro e w4 ⟨Bp, T, sv, tb, L, rfl, hL, h4⟩
       have H4 := Lib.hid (H3.out.app h4)
       have HL := Lib.hid hL
       clear h4 hL HSv2 H3)
    )
  have hLl : L.length = 5 := by
    have := congrArg List.length HL.out
    simpa using this
  have HLl := Lib.hid hLl
  have Hgo := Lib.hid (good_ok HL.out (plain_good 5 (by omega)))
  have hpk := pickN_lt port 5 (by omega)
  have HPK : Hid (∀ W, Calls Try.prog 16 #[.int .i64 port, .int .i64 5] W fun e w' => e = .returned (.int .i64 (pickN port 5 : Nat)) ∧ W = w') := pick_hid' port 5 (by omega) (by omega)
  have HPat := Lib.hid (fun k (hk : k < L.length) => plain_at HL.out hk)
  clear hLl HTr HPl
  have H5 : Hid (St w.heap.size w w4 (bk (w.heap.size + 1) 3 [.int .i64 port] :: (brd Bp T kt sv tb L es (bk w.heap.size 52 t.vals :: [])))) := Lib.hid (H4.out.pull 5 rfl)
  clear H4
  generalize w.heap.size + 1 = PP at *
  have cp : w4.cell? ⟨PP, 0, none⟩ = some (.int .i64 port) := (H5.out.at 0 rfl).box.cell 0
  have zp : w4.frozen? ⟨PP, 0, none⟩ = false := (H5.out.at 0 rfl).box.frozen 0
  generalize hpt : pickN port 5 = pt at *
  clear hpt
  go_upto_region 9 with (first
    | ((with_reducible refine (HPK.out _).mono ?_)
       rintro e w9 ⟨rfl, rfl⟩
       skip)
    )
  have H6 : Hid (St w.heap.size w _ (bk PP 3 [.int .i64 (pt : Int)] :: (brd Bp T kt sv tb L es (bk w.heap.size 52 t.vals :: [])))) := Lib.hid (H5.out.set 0 (.int .i64 (pt : Int)) (by simp))
  clear H5 cp zp HPK
  generalize World.setCell _ _ _ = w5 at *

  have HH : Hid (St w.heap.size w w5 (brd Bp T kt sv tb L es (bk PP 3 [.int .i64 (pt : Int)] :: bk w.heap.size 52 t.vals :: []))) := Lib.hid (H6.out.perm (brd_under Bp T kt sv tb L es [bk PP 3 [.int .i64 (pt : Int)]] [bk w.heap.size 52 t.vals]))
  clear H6
  have hptL : pt < L.length := by rw [HLl.out]; exact hpk
  obtain ⟨L2, hL2⟩ : ∃ L2, L2 = L.set pt (L[pt].at 1) := ⟨_, rfl⟩
  obtain ⟨es2, hes2⟩ : ∃ es2, es2 = forgetM es pt := ⟨_, rfl⟩
  have hlen2 : L2.length = 5 := by rw [hL2, List.length_set]; exact HLl.out
  have hok2 : ∀ q ∈ L2, PortOk q.p := by rw [hL2]; exact set_ok Hgo.out.2.1 hptL (by omega) (by omega)
  have hbr2 : ∀ q ∈ L2, q.p.bare.length ≤ 9223372036854775807 := by rw [hL2]; exact set_bare Hgo.out.2.2 hptL 1
  have hpt2 : pt < L2.length := by rw [hlen2]; exact hpk
  have hst2 : L2[pt].p.state = 1 := by
    subst hL2
    rw [set_self hptL]; rfl
  have hko2 : KnowOk (es2, kt) now := by
    rw [hes2]
    exact ⟨forget_ok Hko.out.1 pt, Hko.out.2⟩
  have Hko2 := Lib.hid hko2
  have HSt : Hid (∀ X tv, St w.heap.size w X (brd Bp T kt sv tv L es (bk PP 3 [.int .i64 (pt : Int)] :: bk w.heap.size 52 t.vals :: [])) → Calls Try.prog 36 #[.pointer (some ⟨Bp, 0, none⟩), .int .i64 (pt : Int), .int .i64 1] X fun e w' => e = .returned .nilIface ∧ ∃ tv', St w.heap.size w w' (brd Bp T kt sv tv' L2 es2 (bk PP 3 [.int .i64 (pt : Int)] :: bk w.heap.size 52 t.vals :: []))) := Lib.hid fun X tv hX => by
    refine (state_st hX pt hptL (by rw [HLl.out]; omega) Hko.out.1.len 1 (by omega) (by omega)).mono ?_
    rintro e w' ⟨rfl, tv', h⟩
    rw [if_pos rfl, ← hL2, ← hes2] at h
    exact ⟨rfl, tv', h⟩
  have HAd : Hid (∀ W, Calls Try.prog 18 #[.int .i64 t.dst] W fun e w' => e = .returned (.agg (adOf (pickN t.dst 60)).vals.toArray) ∧ Below W.heap.size W w') := Lib.hid fun W => address_any t.dst W
  have HWh : Hid (∀ X tv, St w.heap.size w X (brd Bp T kt sv tv L2 es2 (bk PP 3 [.int .i64 (pt : Int)] :: bk w.heap.size 52 t.vals :: [])) → Calls Try.prog 28 #[.pointer (some ⟨Bp, 0, none⟩), .int .i64 1, .agg (adOf (pickN t.dst 60)).vals.toArray, .int .i64 now] X fun e w' => e = .returned (.int .i64 (lookM es2 1 (adOf (pickN t.dst 60)) now 100)) ∧ Below X.heap.size X w') := Lib.hid fun X tv hX => where_brd hX Hko2.out.1 1 _ now (by have := Hko2.out.2.2; simp only at this; omega) (by omega) (by omega)
  have hnot : lookM es2 1 (adOf (pickN t.dst 60)) now 100 ≠ (pt : Int) := by
    rw [hes2]; exact forget_not Hko.out.1 pt 1 _ now
  generalize lookM es2 1 (adOf (pickN t.dst 60)) now 100 = lk at *
  generalize adOf (pickN t.dst 60) = ad at *
  have hnot2 : (lk == (pt : Int)) = false := beq_eq_false_iff_ne.2 hnot
  have hS0 := blS HH.out.drew (List.mem_of_getElem? (i := 5) rfl) (List.mem_of_getElem? (i := 6) rfl)
  have HH := Lib.hid HH.out.drew
  have cP : ∀ X, BlS PP w.heap.size pt t.dst X → X.cell? ⟨PP, 0, none⟩ = some (.int .i64 (pt : Int)) := fun X h => h.p
  have cT : ∀ X, BlS PP w.heap.size pt t.dst X → X.cell? ⟨w.heap.size, 2, none⟩ = some (.int .i64 t.dst) := fun X h => h.t
  have HL2 := Lib.hid hL2
  have Hes2 := Lib.hid hes2
  clear hnot hL2 hes2
  go_cut [46] (fun c wx => c = .bool false ∧ ∃ tv', Hid (St w.heap.size w wx (brd Bp T kt sv tv' L2 es2 (bk PP 3 [.int .i64 (pt : Int)] :: bk w.heap.size 52 t.vals :: []))))
  case first =>
    refine wp_region_last (BlS PP w.heap.size pt t.dst) 13 (by kernel_rfl) hS0 (fun hHeld => ?_)
    refine wpAnyG_take 0 (oi := ?o7) ?v7 ?hi7 (by kernel_rfl) (by kernel_rfl) (by decide) (by kernel_rfl) (by kernel_rfl) ?hq7 ?hg7 ?hy7 (by assumption) ?hk7
    case hi7 => (simp only [List.getElem?_toArray, List.getElem?_cons_succ, List.getElem?_cons_zero]; rfl)
    case hq7 => exact fun _ _ _ h => h
    case hg7 => rfl
    case hy7 => (intro X hX; go_simp; try with_reducible rfl)
    try simp only [Act.put, List.setIfInBounds_toArray, List.set_cons_zero, List.set_cons_succ]
    refine wpAnyG_take 1 (oi := ?o8) ?v8 ?hi8 (by kernel_rfl) (by kernel_rfl) (by decide) (by kernel_rfl) (by kernel_rfl) ?hq8 ?hg8 ?hy8 (by assumption) ?hk8
    case hi8 => (simp only [List.getElem?_toArray, List.getElem?_cons_succ, List.getElem?_cons_zero]; rfl)
    case hq8 => exact fun _ _ _ h => h
    case hg8 => rfl
    case hy8 => (intro X hX; go_simp; try with_reducible rfl)
    try simp only [Act.put, List.setIfInBounds_toArray, List.set_cons_zero, List.set_cons_succ]
    refine wpAnyG_one 2 (o := ?o9) (by kernel_rfl) ?hi9 ?hg9 ?hk9
    case hi9 => (simp only [List.getElem?_toArray, List.getElem?_cons_succ, List.getElem?_cons_zero]; rfl)
    case hg9 => rfl
    intro K hK
    go_simp
    refine (HSt.out _ _ HH.out).mono ?_
    rintro e X1 ⟨rfl, tb2, h1⟩
    have hSx := blS h1 (List.mem_of_getElem? (i := 5) rfl) (List.mem_of_getElem? (i := 6) rfl)
    refine hK.out _ _ (fun _ => hSx) (fun _ => ?_)
    have hHeld := hSx
    have HH := Lib.hid h1
    clear hK K hSx h1 HSt
    try simp only [Act.put, List.setIfInBounds_toArray, List.set_cons_zero, List.set_cons_succ]
    refine wpAnyG_take 3 (oi := ?o11) ?v11 ?hi11 (by kernel_rfl) (by kernel_rfl) (by decide) (by kernel_rfl) (by kernel_rfl) ?hq11 ?hg11 ?hy11 (by assumption) ?hk11
    case hi11 => (simp only [List.getElem?_toArray, List.getElem?_cons_succ, List.getElem?_cons_zero]; rfl)
    case hq11 => exact fun _ _ _ h => h
    case hg11 => rfl
    case hy11 => (intro X hX; go_simp; try with_reducible rfl)
    try simp only [Act.put, List.setIfInBounds_toArray, List.set_cons_zero, List.set_cons_succ]
    refine wpAnyG_take 4 (oi := ?o12) ?v12 ?hi12 (by kernel_rfl) (by kernel_rfl) (by decide) (by kernel_rfl) (by kernel_rfl) ?hq12 ?hg12 ?hy12 (by assumption) ?hk12
    case hi12 => (simp only [List.getElem?_toArray, List.getElem?_cons_succ, List.getElem?_cons_zero]; rfl)
    case hq12 => exact fun _ _ _ h => h
    case hg12 => rfl
    case hy12 => (intro X hX; go_simp; try with_reducible rfl)
    try simp only [Act.put, List.setIfInBounds_toArray, List.set_cons_zero, List.set_cons_succ]
    refine wpAnyG_takeG 5 (oi := ?oG1) ?vG1 ?hiG1 (by kernel_rfl) (by kernel_rfl) (by decide) (by kernel_rfl) (by kernel_rfl) ?hqG1 ?hgG1 ?hyG1 (by assumption) ?hkG1
    case hiG1 => (simp only [List.getElem?_toArray, List.getElem?_cons_succ, List.getElem?_cons_zero]; rfl)
    case hqG1 => exact fun _ _ _ h => h
    case hgG1 => rfl
    case hyG1 => (intro X hX; go_simp; try with_reducible rfl)
    try simp only [Act.put, List.setIfInBounds_toArray, List.set_cons_zero, List.set_cons_succ]
    refine wpAnyG_takeG 6 (oi := ?oG2) ?vG2 ?hiG2 (by kernel_rfl) (by kernel_rfl) (by decide) (by kernel_rfl) (by kernel_rfl) ?hqG2 ?hgG2 ?hyG2 (by assumption) ?hkG2
    case hiG2 => (simp only [List.getElem?_toArray, List.getElem?_cons_succ, List.getElem?_cons_zero]; rfl)
    case hqG2 => exact fun _ _ _ h => h
    case hgG2 => rfl
    case hyG2 => (intro X hX; go_simp; try with_reducible rfl)
    try simp only [Act.put, List.setIfInBounds_toArray, List.set_cons_zero, List.set_cons_succ]
    refine wpAnyG_takeG 7 (oi := ?oG3) ?vG3 ?hiG3 (by kernel_rfl) (by kernel_rfl) (by decide) (by kernel_rfl) (by kernel_rfl) ?hqG3 ?hgG3 ?hyG3 (by assumption) ?hkG3
    case hiG3 => (simp only [List.getElem?_toArray, List.getElem?_cons_succ, List.getElem?_cons_zero]; rfl)
    case hqG3 => exact fun _ _ _ h => h
    case hgG3 => rfl
    case hyG3 => (intro X hX; go_simp; try with_reducible rfl)
    try simp only [Act.put, List.setIfInBounds_toArray, List.set_cons_zero, List.set_cons_succ]
    refine wpAnyG_takeG 9 (oi := ?oG4) ?vG4 ?hiG4 (by kernel_rfl) (by kernel_rfl) (by decide) (by kernel_rfl) (by kernel_rfl) ?hqG4 ?hgG4 ?hyG4 (by assumption) ?hkG4
    case hiG4 => (simp only [List.getElem?_toArray, List.getElem?_cons_succ, List.getElem?_cons_zero]; rfl)
    case hqG4 => exact fun _ _ _ h => h
    case hgG4 => rfl
    case hyG4 => (intro X hX; go_simp; try with_reducible rfl)
    try simp only [Act.put, List.setIfInBounds_toArray, List.set_cons_zero, List.set_cons_succ]
    refine wpAnyG_takeG 11 (oi := ?oG5) ?vG5 ?hiG5 (by kernel_rfl) (by kernel_rfl) (by decide) (by kernel_rfl) (by kernel_rfl) ?hqG5 ?hgG5 ?hyG5 (by assumption) ?hkG5
    case hiG5 => (simp only [List.getElem?_toArray, List.getElem?_cons_succ, List.getElem?_cons_zero]; rfl)
    case hqG5 => exact fun _ _ _ h => h
    case hgG5 => rfl
    case hyG5 => (intro X hX; go_simp; try with_reducible rfl)
    try simp only [Act.put, List.setIfInBounds_toArray, List.set_cons_zero, List.set_cons_succ]
    refine wpAnyG_oneG 8 (o := ?oG6) (by kernel_rfl) ?hiG6 ?hgG6 ?hkG6
    case hiG6 => (simp only [List.getElem?_toArray, List.getElem?_cons_succ, List.getElem?_cons_zero]; rfl)
    case hgG6 => rfl
    intro K hK
    go_simp
    refine (HAd.out _).mono ?_
    rintro e X1 ⟨rfl, hb1⟩
    have hSx := blS (HH.out.ext hb1) (List.mem_of_getElem? (i := 5) rfl) (List.mem_of_getElem? (i := 6) rfl)
    refine hK.out _ _ (fun _ => hSx) (fun _ => ?_)
    have hHeld := hSx
    have HH := Lib.hid (HH.out.ext hb1)
    clear hK K hSx hb1 HAd
    try simp only [Act.put, List.setIfInBounds_toArray, List.set_cons_zero, List.set_cons_succ]
    refine wpAnyG_oneG 10 (o := ?oG7) (by kernel_rfl) ?hiG7 ?hgG7 ?hkG7
    case hiG7 => (simp only [List.getElem?_toArray, List.getElem?_cons_succ, List.getElem?_cons_zero]; rfl)
    case hgG7 => rfl
    intro K hK
    go_simp
    refine (HWh.out _ _ HH.out).mono ?_
    rintro e X1 ⟨rfl, hb1⟩
    have hSx := blS (HH.out.ext hb1) (List.mem_of_getElem? (i := 5) rfl) (List.mem_of_getElem? (i := 6) rfl)
    refine hK.out _ _ (fun _ => hSx) (fun _ => ?_)
    have hHeld := hSx
    have HH := Lib.hid (HH.out.ext hb1)
    clear hK K hSx hb1 HWh
    try simp only [Act.put, List.setIfInBounds_toArray, List.set_cons_zero, List.set_cons_succ]
    refine wpAnyG_takeG 12 (oi := ?oG8) ?vG8 ?hiG8 (by kernel_rfl) (by kernel_rfl) (by decide) (by kernel_rfl) (by kernel_rfl) ?hqG8 ?hgG8 ?hyG8 (by assumption) ?hkG8
    case hiG8 => (simp only [List.getElem?_toArray, List.getElem?_cons_succ, List.getElem?_cons_zero]; rfl)
    case hqG8 => exact fun _ _ _ h => h
    case hgG8 => rfl
    case hyG8 => (intro X hX; go_simp; try with_reducible rfl)
    try simp only [Act.put, List.setIfInBounds_toArray, List.set_cons_zero, List.set_cons_succ]
    refine wpAnyG_one 13 (o := ?o13) (by kernel_rfl) ?hi13 ?hg13 ?hk13
    case hi13 => (simp only [List.getElem?_toArray, List.getElem?_cons_succ, List.getElem?_cons_zero]; rfl)
    case hg13 => rfl
    intro K hK
    go_simp
    refine hK.out _ _ (fun h => absurd rfl h) (fun _ => ?_)
    refine wpAnyG_done (by kernel_rfl) ?_ _
    clear hK hHeld
    go_wp2_with fail
    go_meet
    exact ⟨rfl, tb2, HH⟩
  case rest =>
    obtain ⟨rfl, tb2, H6⟩ := hcut
    clear HH hS0 cP cT HSt HAd HWh hnot2
    generalize wc = w5' at *
    have HCr := Lib.hid (carried_any t)
    go_upto_region 12 with (first
      | ((with_reducible refine wpList_load_box (ty := 52) (b := ?b14) (ds := ?ds14) t.vals ?hx14 ?hB14 ?hu14 ?hd14 ?hi14 ?hk14)
         case hx14 => rfl
         case hB14 => exact (Blk.box (H6.out.at 6 rfl))
         case hu14 => exact Try.underlying52
         case hd14 => rfl
         case hi14 => exact info52)
      | ((with_reducible refine (HCr.out _).mono ?_)
         rintro e w6 ⟨tg, rfl, hc6⟩
         have hone := slat_one' (hc6.head : SlAt w6 4 tg _)
         have H7 := Lib.hid (H6.out.add (k := slI 4 tg (tagv (carryM t).tags)) hc6.below hc6.head (fun g hg => hc6.low _ (List.mem_cons_self ..) g hg))
         clear hc6 H6)
      | ((with_reducible refine wpList_store_blk (ty := 58) (b := ?b16) (o := ?o16) (t := 58) zFm ((carryM t).vals tg) ?hx16 ?hy16 ?hB16 ?ho16 ?hi16 ?h116 ?hk16)
         case hx16 => rfl
         case hy16 => rfl
         case hB16 => exact Blk.new w6 zFm 58
         case ho16 => exact Nat.le_refl _
         case hi16 => exact info58
         case h116 => exact (Fm.one _ hone)
         intro W9 hBW9 hoW9))
    obtain ⟨hb8, lPA⟩ := Only.fresh hoW9
    have h8 := ((H7.out.add (k := bk w6.heap.size 58 ((carryM t).vals tg)) hb8 hBW9 (fun g hg => by rw [List.mem_singleton.1 hg]; exact Nat.le_refl _)).swap).perm (brd_under Bp T kt sv tb2 L2 es2 [slI 4 tg (tagv (carryM t).tags), bk w6.heap.size 58 ((carryM t).vals tg)] (bk PP 3 [.int .i64 (pt : Int)] :: bk w.heap.size 52 t.vals :: []))
    generalize w6.heap.size = PA at *
    have H8 : Hid (St w.heap.size w W9 (brd Bp T kt sv tb2 L2 es2 (slI 4 tg (tagv (carryM t).tags) :: bk PA 58 ((carryM t).vals tg) :: bk PP 3 [.int .i64 (pt : Int)] :: bk w.heap.size 52 t.vals :: []))) := Lib.hid h8
    clear h8 hBW9 hoW9 hb8 H7 lPA HCr
    have HWh : Hid (∀ X tv, St w.heap.size w X (brd Bp T kt sv tv L2 es2 (slI 4 tg (tagv (carryM t).tags) :: bk PA 58 ((carryM t).vals tg) :: bk PP 3 [.int .i64 (pt : Int)] :: bk w.heap.size 52 t.vals :: [])) → Calls Try.prog 28 #[.pointer (some ⟨Bp, 0, none⟩), .int .i64 1, .agg #[.int .u8 ((carryM t).src.a.toNat : Int), .int .u8 ((carryM t).src.b.toNat : Int), .int .u8 ((carryM t).src.c.toNat : Int), .int .u8 ((carryM t).src.d.toNat : Int), .int .u8 ((carryM t).src.e.toNat : Int), .int .u8 ((carryM t).src.f.toNat : Int)], .int .i64 now] X fun e w' => e = .returned (.int .i64 (lookM es2 1 (carryM t).src now 100)) ∧ Below X.heap.size X w') := Lib.hid fun X tv hX => where_brd hX Hko2.out.1 1 (carryM t).src now (by have := Hko2.out.2.2; simp only at this; omega) (by omega) (by omega)
    have HWh2 : Hid (∀ X tv, St w.heap.size w X (brd Bp T kt sv tv L2 es2 (slI 4 tg (tagv (carryM t).tags) :: bk PA 58 ((carryM t).vals tg) :: bk PP 3 [.int .i64 (pt : Int)] :: bk w.heap.size 52 t.vals :: [])) → Calls Try.prog 28 #[.pointer (some ⟨Bp, 0, none⟩), .int .i64 1, .agg (carryM t).src.vals.toArray, .int .i64 now] X fun e w' => e = .returned (.int .i64 (lookM es2 1 (carryM t).src now 100)) ∧ Below X.heap.size X w') := Lib.hid fun X tv hX => where_brd hX Hko2.out.1 1 (carryM t).src now (by have := Hko2.out.2.2; simp only at this; omega) (by omega) (by omega)
    generalize lookM es2 1 (carryM t).src now 100 = lk at *
    have hdeaf : hearsM L2[pt].p (carryM t) = false := by
      unfold hearsM
      rw [hst2]; rfl
    have HIn1 : Hid (∀ X tv, St w.heap.size w X (brd Bp T kt sv tv L2 es2 (slI 4 tg (tagv (carryM t).tags) :: bk PA 58 ((carryM t).vals tg) :: bk PP 3 [.int .i64 (pt : Int)] :: bk w.heap.size 52 t.vals :: [])) → Calls Try.prog 33 #[.pointer (some ⟨Bp, 0, none⟩), .int .i64 (pt : Int), .agg ((carryM t).vals tg).toArray, .int .i64 now] X fun e w' => ∃ (A : Option Addr) (c : Nat) (tb' : Value), e = .returned (.tuple #[.slice A 0 c, .nilIface]) ∧ St w.heap.size w w' (brd Bp T kt sv tb' L2 es2 (slI 4 tg (tagv (carryM t).tags) :: bk PA 58 ((carryM t).vals tg) :: bk PP 3 [.int .i64 (pt : Int)] :: bk w.heap.size 52 t.vals :: []))) := Lib.hid fun X tv hX => by
      refine (in_st hX pt hpt2 (by omega) hok2 Hko2.out.1 Hko2.out.2.1 now Hko2.out.2.2 (by omega) (carry_ok t) hbr2).mono ?_
      rintro e w' ⟨ov, R, tb', rfl, hR, hs⟩
      rw [heard0 hdeaf] at hR hs
      rw [inM_deaf hdeaf] at hR
      obtain rfl : R = [] := List.map_eq_nil_iff.1 hR
      obtain ⟨A, c, e1, _⟩ := out_rows (hs.head : World.ownsRow w' 0 65 22 ov ([] : List SRow).length (srows []))
      subst e1
      exact ⟨A, c, tb', rfl, hs.tail.tail⟩
    obtain ⟨p2, hp2⟩ : ∃ p2, p2 = (pt + 1) % 5 := ⟨_, rfl⟩
    have hp25 : p2 < 5 := by rw [hp2]; exact Nat.mod_lt _ (by omega)
    have hpL2 : p2 < L2.length := by rw [hlen2]; exact hp25
    obtain ⟨K3, hK3⟩ : ∃ K3, tabM L2[p2].p p2 (carryM t) now (es2, kt) = K3 := ⟨_, rfl⟩
    have hko3 : KnowOk K3 now := by rw [← hK3]; exact tabM_ok Hko2.out _ p2 _ now (by omega) (Int.le_refl _)
    obtain ⟨es3, kt3⟩ := K3
    have Hko3 := Lib.hid hko3
    have HIn2 : Hid (∀ X tv, St w.heap.size w X (brd Bp T kt sv tv L2 es2 (slI 4 tg (tagv (carryM t).tags) :: bk PA 58 ((carryM t).vals tg) :: bk PP 3 [.int .i64 (pt : Int)] :: bk w.heap.size 52 t.vals :: [])) → Calls Try.prog 33 #[.pointer (some ⟨Bp, 0, none⟩), .int .i64 (p2 : Int), .agg ((carryM t).vals tg).toArray, .int .i64 now] X fun e w' => ∃ (A : Option Addr) (c : Nat) (R : List SRow) (tb' : Value), e = .returned (.tuple #[.slice A R.length c, .nilIface]) ∧ R.length ≤ 5 ∧ (R.any fun r => decide ((r.i : Int) = (pt : Int))) = false ∧ St w.heap.size w w' (brd Bp T kt3 sv tb' L2 es3 (slI 4 tg (tagv (carryM t).tags) :: bk PA 58 ((carryM t).vals tg) :: bk PP 3 [.int .i64 (pt : Int)] :: bk w.heap.size 52 t.vals :: ownI 65 22 (.slice A R.length c) R.length (srows R) :: tagsI R :: []))) := Lib.hid fun X tv hX => by
      refine (in_st hX p2 hpL2 (by omega) hok2 Hko2.out.1 Hko2.out.2.1 now Hko2.out.2.2 (by omega) (carry_ok t) hbr2).mono ?_
      rintro e w' ⟨ov, R, tb', rfl, hR, hs⟩
      rw [hK3] at hR hs
      have hany := mem_any hR pt (fun x hx => by
        obtain ⟨j, hj, e, _, h2, _⟩ := in_facts hx
        rw [e]
        intro hjp
        have hjp : j = pt := hjp
        subst hjp
        rw [List.getElem_map, hst2] at h2
        exact absurd h2 (by decide))
      have hlenR : R.length ≤ 5 := by
        have := congrArg List.length hR
        rw [List.length_map] at this
        rw [this]
        unfold inM
        split
        · refine Nat.le_trans (outFrom_len ..) ?_
          rw [List.length_map, hlen2]; exact Nat.le_refl _
        · simp
      obtain ⟨A, c, e1, _⟩ := out_rows (hs.head : World.ownsRow w' 0 65 22 ov R.length (srows R))
      subst e1
      exact ⟨A, c, R, tb', rfl, hlenR, hany, hs.perm (List.perm_append_comm (l₁ := [ownI 65 22 (.slice A R.length c) R.length (srows R), tagsI R]) (l₂ := brd Bp T kt3 sv tb' L2 es3 (slI 4 tg (tagv (carryM t).tags) :: bk PA 58 ((carryM t).vals tg) :: bk PP 3 [.int .i64 (pt : Int)] :: bk w.heap.size 52 t.vals :: [])))⟩
    have hk16 := pickN_lt t.dst 16 (by omega)
    obtain ⟨gM, hgM⟩ : ∃ gM : Fm, gM = ⟨knownM (UInt8.ofNat (pickN t.dst 16)), (carryM t).src, (carryM t).tags, (carryM t).body⟩ := ⟨_, rfl⟩
    have hgok : FmOk gM := by
      rw [hgM]
      exact ⟨(carry_ok t).one, (carry_ok t).tags, (carry_ok t).body, (carry_ok t).src⟩
    have hdeaf3 : hearsM L2[p2].p gM = false := by
      unfold hearsM
      have : resM gM.dst = true := by rw [hgM]; exact res_known _ hk16
      rw [this]; simp
    have HgMv : Hid (((carryM t).vals tg).take 0 ++ ((knownM (UInt8.ofNat (pickN t.dst 16))).vals ++ ((carryM t).vals tg).drop (0 + (knownM (UInt8.ofNat (pickN t.dst 16))).vals.length)) = gM.vals tg) := Lib.hid (by rw [hgM]; rfl)
    have Htgs : Hid (gM.tags = (carryM t).tags) := Lib.hid (by rw [hgM])
    have HKn : Hid (∀ W, Calls Try.prog 39 #[.int .i64 (pickN t.dst 16 : Nat)] W fun e w' => e = .returned (.agg (knownM (UInt8.ofNat (pickN t.dst 16))).vals.toArray) ∧ Below W.heap.size W w') := Lib.hid fun W => by
      have h := known_any (UInt8.ofNat (pickN t.dst 16)) W
      rwa [show (UInt8.ofNat (pickN t.dst 16)).toNat = pickN t.dst 16 from by rw [UInt8.toNat_ofNat']; exact Nat.mod_eq_of_lt (by omega)] at h
    have HPK16 : Hid (∀ W, Calls Try.prog 16 #[.int .i64 t.dst, .int .i64 16] W fun e w' => e = .returned (.int .i64 (pickN t.dst 16 : Nat)) ∧ W = w') := pick_hid' t.dst 16 (by omega) (by omega)
    have HIn3 : Hid (∀ X PG tv ov1 R1, St w.heap.size w X (brd Bp T kt3 sv tv L2 es3 (slI 4 tg (tagv (carryM t).tags) :: bk PG 58 (gM.vals tg) :: bk PP 3 [.int .i64 (pt : Int)] :: ownI 65 22 ov1 R1.length (srows R1) :: [])) → Calls Try.prog 33 #[.pointer (some ⟨Bp, 0, none⟩), .int .i64 (p2 : Int), .agg (gM.vals tg).toArray, .int .i64 now] X fun e w' => ∃ (A : Option Addr) (c : Nat), e = .returned (.tuple #[.slice A 0 c, .nilIface]) ∧ St w.heap.size w w' (ownI 65 22 ov1 R1.length (srows R1) :: bk PP 3 [.int .i64 (pt : Int)] :: [])) := Lib.hid fun X PG tv ov1 R1 hX => by
      rw [← Htgs.out] at hX
      refine (in_st hX p2 hpL2 (by omega) hok2 Hko3.out.1 Hko3.out.2.1 now Hko3.out.2.2 (by omega) hgok hbr2).mono ?_
      rintro e w' ⟨ov, R, tb', rfl, hR, hs⟩
      rw [inM_deaf hdeaf3] at hR
      obtain rfl : R = [] := List.map_eq_nil_iff.1 hR
      obtain ⟨A, c, e1, _⟩ := out_rows (hs.head : World.ownsRow w' 0 65 22 ov ([] : List SRow).length (srows []))
      subst e1
      exact ⟨A, c, rfl, (brd_past hs).tail.tail.tail.tail.swap⟩
    generalize pickN t.dst 16 = k16 at *
    generalize knownM (UInt8.ofNat k16) = kn at *
    have HdT := Lib.hid (show St w.heap.size w W9 _ from H8.out)
    have hp2i : ((pt : Int) + 1) % 5 = (p2 : Int) := by omega
    rw [← hp2i] at HIn2 HIn3
    clear hK3 hko3 hdeaf hdeaf3 hgok hgM hk16 HL2 Hes2 hok2 hbr2 hst2 hko2 Hgo HPat HL
    clear hp2i hp2 hp25 hpL2 HdT
    have cp : W9.cell? ⟨PP, 0, none⟩ = some (.int .i64 (pt : Int)) := (H8.out.at 7 rfl).box.cell 0
    have HSr := Lib.hid (fm_src (H8.out.at 6 rfl : Blk W9 PA 58 ((carryM t).vals tg)).box)
    go_upto_region 13 with (first
      | ((with_reducible refine wpList_load_rng (ty := 30) (b := ?b17) (o := ?o17) (ds := ?ds17) (carryM t).src.vals ?hx17 ?hB17 ?hu17 ?hd17 ?hi17 ?hk17)
         case hx17 => rfl
         case hB17 => exact HSr.out
         case hu17 => exact Try.underlying30
         case hd17 => rfl
         case hi17 => exact info30)
      | ((with_reducible refine (HWh2.out _ _ H8.out).mono ?_)
         rintro e w10 ⟨rfl, hb10⟩
         have H10 := Lib.hid (H8.out.ext hb10)
         have cp10 : w10.cell? ⟨PP, 0, none⟩ = some (.int .i64 (pt : Int)) := (H10.out.at 7 rfl).box.cell 0
         clear hb10 H8)
      )
    go_upto_region 14 with (first
      | ((with_reducible refine wpList_load_box (ty := 58) (b := ?b19) (ds := ?ds19) ((carryM t).vals tg) ?hx19 ?hB19 ?hu19 ?hd19 ?hi19 ?hk19)
         case hx19 => rfl
         case hB19 => exact (Blk.box (H10.out.at 6 rfl))
         case hu19 => exact Try.underlying58
         case hd19 => rfl
         case hi19 => exact info58)
      | ((with_reducible refine (HIn1.out _ _ H10.out).mono ?_)
         rintro e w11 ⟨A11, c11, tb3, rfl, h11⟩
         have H11 := Lib.hid h11
         have cp11 : w11.cell? ⟨PP, 0, none⟩ = some (.int .i64 (pt : Int)) := (H11.out.at 7 rfl).box.cell 0
         have HSr11 := Lib.hid (fm_src (H11.out.at 6 rfl : Blk w11 PA 58 ((carryM t).vals tg)).box)
         clear h11 H10 HIn1)
      )
    go_upto_region 16 with (first
      | ((with_reducible refine wpList_load_rngG (ty := 30) (b := ?b21) (o := ?o21) (ds := ?ds21) (carryM t).src.vals ?hg21 ?hx21 ?hB21 ?hu21 ?hd21 ?hi21 ?hk21)
         case hg21 => rfl
         case hx21 => rfl
         case hB21 => exact HSr11.out
         case hu21 => exact Try.underlying30
         case hd21 => rfl
         case hi21 => exact info30)
      | ((with_reducible refine (HWh2.out _ _ H11.out).mono ?_)
         rintro e w12 ⟨rfl, hb12⟩
         have H12 := Lib.hid (H11.out.ext hb12)
         have cp12 : w12.cell? ⟨PP, 0, none⟩ = some (.int .i64 (pt : Int)) := (H12.out.at 7 rfl).box.cell 0
         clear hb12 H11 HWh2)
      )
    go_upto_region 17 with (first
      | ((with_reducible refine wpList_load_box (ty := 58) (b := ?b23) (ds := ?ds23) ((carryM t).vals tg) ?hx23 ?hB23 ?hu23 ?hd23 ?hi23 ?hk23)
         case hx23 => rfl
         case hB23 => exact (Blk.box (H12.out.at 6 rfl))
         case hu23 => exact Try.underlying58
         case hd23 => rfl
         case hi23 => exact info58)
      | ((with_reducible refine (HIn2.out _ _ H12.out).mono ?_)
         rintro e w13 ⟨A13, c13, R13, tb4, rfl, h5, hany, h13⟩
         have H13 := Lib.hid h13
         have Hany := Lib.hid hany
         have hone := slat_one' (h13.slOf 5 rfl : SlAt w13 4 tg (tagv (carryM t).tags))
         clear h13 hany H12 HIn2)
      )
    go_upto_region 18 with (first
      | ((with_reducible refine wpList_load_box (ty := 58) (b := ?b25) (ds := ?ds25) ((carryM t).vals tg) ?hx25 ?hB25 ?hu25 ?hd25 ?hi25 ?hk25)
         case hx25 => rfl
         case hB25 => exact (Blk.box (H13.out.at 6 rfl))
         case hu25 => exact Try.underlying58
         case hd25 => rfl
         case hi25 => exact info58)
      | ((with_reducible refine wpList_store_blk (ty := 58) (b := ?b26) (o := ?o26) (t := 58) zFm ((carryM t).vals tg) ?hx26 ?hy26 ?hB26 ?ho26 ?hi26 ?h126 ?hk26)
         case hx26 => rfl
         case hy26 => rfl
         case hB26 => exact Blk.new w13 zFm 58
         case ho26 => exact Nat.le_refl _
         case hi26 => exact info58
         case h126 => exact (Fm.one _ hone)
         intro W14 hBW14 hoW14))
    obtain ⟨hb14, lPG⟩ := Only.fresh hoW14
    have h14 := H13.out.add (k := bk w13.heap.size 58 ((carryM t).vals tg)) hb14 hBW14 (fun g hg => by rw [List.mem_singleton.1 hg]; exact Nat.le_refl _)
    generalize w13.heap.size = PG at *
    have H14 := Lib.hid h14
    clear h14 hBW14 hoW14 hb14 lPG H13
    have ct14 : W14.cell? ⟨w.heap.size, 2, none⟩ = some (.int .i64 t.dst) := (H14.out.at 9 rfl : Blk W14 w.heap.size 52 t.vals).box.cell 2
    have HB14 := Lib.hid (H14.out.at 0 rfl : Blk W14 PG 58 ((carryM t).vals tg))
    go_upto_region 19 with (first
      | ((with_reducible refine (HPK16.out _).mono ?_)
         rintro e w15 ⟨rfl, rfl⟩
         skip)
      | ((with_reducible refine (HKn.out _).mono ?_)
         rintro e w15 ⟨rfl, hb15⟩
         have H15 := Lib.hid (H14.out.ext hb15)
         have HB15 : Blk w15 PG 58 ((carryM t).vals tg) := H15.out.at 0 rfl
         clear hb15)
      | ((with_reducible refine wpList_store_blk (ty := 30) (b := ?bz) (o := ?oz) (t := 58) ((carryM t).vals tg) kn.vals ?hxz ?hyz ?hBz ?hoz ?hiz ?h1z ?hkz)
         case hxz => rfl
         case hyz => rfl
         case hBz => exact HB15
         case hoz => (show (0 + 6 : Nat) ≤ 21; decide)
         case hiz => exact info30
         case h1z => exact Ad.one kn
         intro W16 hBW16 hoW16)
      )
    have h16 := H15.out.sets hBW16 hoW16
    rw [HgMv.out] at h16
    have H16 : Hid (St w.heap.size w W16 (brd Bp T kt3 sv tb4 L2 es3 (slI 4 tg (tagv (carryM t).tags) :: bk PG 58 (gM.vals tg) :: bk PP 3 [.int .i64 (pt : Int)] :: ownI 65 22 (.slice A13 R13.length c13) R13.length (srows R13) :: []))) := Lib.hid ((h16.perm ((List.perm_append_comm (l₁ := [bk PG 58 (gM.vals tg)]) (l₂ := brd Bp T kt3 sv tb4 L2 es3 (slI 4 tg (tagv (carryM t).tags) :: []))).append_right (bk PA 58 ((carryM t).vals tg) :: bk PP 3 [.int .i64 (pt : Int)] :: bk w.heap.size 52 t.vals :: ownI 65 22 (.slice A13 R13.length c13) R13.length (srows R13) :: tagsI R13 :: []))).sub (show List.Sublist ((brd Bp T kt3 sv tb4 L2 es3 (slI 4 tg (tagv (carryM t).tags) :: []) ++ [bk PG 58 (gM.vals tg)]) ++ (bk PP 3 [.int .i64 (pt : Int)] :: ownI 65 22 (.slice A13 R13.length c13) R13.length (srows R13) :: [])) ((brd Bp T kt3 sv tb4 L2 es3 (slI 4 tg (tagv (carryM t).tags) :: []) ++ [bk PG 58 (gM.vals tg)]) ++ (bk PA 58 ((carryM t).vals tg) :: bk PP 3 [.int .i64 (pt : Int)] :: bk w.heap.size 52 t.vals :: ownI 65 22 (.slice A13 R13.length c13) R13.length (srows R13) :: tagsI R13 :: [])) from (List.Sublist.refl _).append (.cons _ (.cons_cons _ (.cons _ (.cons_cons _ (.cons _ .slnil)))))))
    clear h16 hBW16 hoW16 H15 HB15 H14 HB14 HgMv
    have cp16 : W16.cell? ⟨PP, 0, none⟩ = some (.int .i64 (pt : Int)) := (H16.out.at 7 rfl).box.cell 0
    have hff : ∀ (args : Array Value) (W : World), (callFunc 40 args).run Try.prog W = .ok (.enter 40 args) W := fun args W => by kernel_rfl
    have HAny : Hid (∀ X A c (R : List SRow), St w.heap.size w X (ownI 65 22 (.slice A R.length c) R.length (srows R) :: bk PP 3 [.int .i64 (pt : Int)] :: []) → R.length ≤ 5 → (R.any fun r => decide ((r.i : Int) = (pt : Int))) = false → Calls Try.prog 37 #[.slice A R.length c, .func (.func 40) #[] #[.pointer (some ⟨PP, 0, none⟩)]] X fun e w' => e = .returned (.bool false) ∧ Below X.heap.size X w') := Lib.hid fun X A c R hX h5 hany => by
      have h := anyf_sent (fun r => decide ((r.i : Int) = (pt : Int))) R (.slice A R.length c) _ #[.pointer (some ⟨PP, 0, none⟩)] X (by omega) hX.head hff (fun r W hW => blocked1_any r pt PP W (((hX.at 1 rfl).below hW (hX.at 1 rfl).lt).box.cell 0) (((hX.at 1 rfl).below hW (hX.at 1 rfl).lt).lt))
      rw [hany] at h
      exact h
    clear hff
    go_upto_region 20 with (first
      | ((with_reducible refine wpList_load_box (ty := 58) (b := ?b29) (ds := ?ds29) (gM.vals tg) ?hx29 ?hB29 ?hu29 ?hd29 ?hi29 ?hk29)
         case hx29 => rfl
         case hB29 => exact (Blk.box (H16.out.at 6 rfl))
         case hu29 => exact Try.underlying58
         case hd29 => rfl
         case hi29 => exact info58)
      | ((with_reducible refine (HIn3.out _ _ _ _ _ H16.out).mono ?_)
         rintro e w17 ⟨A17, c17, rfl, h17⟩
         have H17 := Lib.hid h17
         clear h17 H16 HIn3)
      )
    go_wp2_with (first
      | ((with_reducible refine (HAny.out _ _ _ _ H17.out h5 Hany.out).mono ?_)
         rintro e w18 ⟨rfl, hb18⟩
         have H18 := Lib.hid (H17.out.ext hb18)
         clear hb18)
      )
    go_ret
    exact ⟨rfl, H18.out.below⟩
end Go.Proofs.Ytoenlcmngdpkmaa
