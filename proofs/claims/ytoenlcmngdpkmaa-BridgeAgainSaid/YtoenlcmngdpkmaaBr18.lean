/- The law of BridgeQuiet. -/
import Derived.Test.YtoenlcmngdpkmaaBr17
namespace Go.Proofs.Ytoenlcmngdpkmaa
open Go.RowKit Go.ChangeShapes Go.WideShapes Go.Deep
theorem res_adOf (k : Nat) (many : Bool) : resM (toM k many) = false := by
  unfold resM toM
  cases many
  · have : (adOf k).a = 2 := rfl
    simp [this]
  · simp
theorem mem_any {R : List SRow} {M : List (Nat × Fm)} (h : R.map SRow.res = M) (port : Nat) (hM : ∀ x ∈ M, x.1 ≠ port) : (R.any fun r => decide ((r.i : Int) = (port : Int))) = false := by
  rw [List.any_eq_false]
  intro r hr
  have := hM r.res (by rw [← h]; exact List.mem_map.2 ⟨r, hr, rfl⟩)
  have h2 : r.res.1 = r.i := rfl
  simp only [decide_eq_true_eq]
  rw [h2] at this
  omega
theorem set_same {L : List PRow} {k j : Nat} (hk : k < L.length) (st : Int) (hj : j < (L.set k (L[k].at st)).length) (hjk : j ≠ k) : (L.set k (L[k].at st))[j] = L[j]'(by rwa [List.length_set] at hj) := List.getElem_set_ne (by omega) _
theorem set_self {L : List PRow} {k : Nat} (hk : k < L.length) (st : Int) (hj : k < (L.set k (L[k].at st)).length) : (L.set k (L[k].at st))[k] = L[k].at st := List.getElem_set_self _
theorem set_ok {L : List PRow} (h : ∀ q ∈ L, PortOk q.p) {k : Nat} (hk : k < L.length) {st : Int} (h1 : 1 ≤ st) (h3 : st ≤ 3) : ∀ q ∈ L.set k (L[k].at st), PortOk q.p := fun q hq => by
  rcases List.mem_or_eq_of_mem_set hq with hq | rfl
  · exact h q hq
  · have := h _ (List.getElem_mem hk)
    exact ⟨this.pvid, ⟨h1, h3⟩, this.few, this.ins⟩
theorem set_bare {L : List PRow} (h : ∀ q ∈ L, q.p.bare.length ≤ 9223372036854775807) {k : Nat} (hk : k < L.length) (st : Int) : ∀ q ∈ L.set k (L[k].at st), q.p.bare.length ≤ 9223372036854775807 := fun q hq => by
  rcases List.mem_or_eq_of_mem_set hq with hq | rfl
  · exact h q hq
  · exact (show L[k].p.bare.length ≤ 9223372036854775807 from h _ (List.getElem_mem hk))
theorem plain_at {L : List PRow} {n : Nat} (h : L.map PRow.p = List.replicate n plainP) {k : Nat} (hk : k < L.length) : L[k].p = plainP := by
  have h1 : L[k].p ∈ L.map PRow.p := List.mem_map.2 ⟨_, List.getElem_mem hk, rfl⟩
  rw [h] at h1
  exact List.eq_of_mem_replicate h1
theorem vid_same {p : PSet} (st : Int) (tags : List Tg) : vidM ⟨p.pvid, p.ins, p.bare, st⟩ tags = vidM p tags := rfl
set_option maxRecDepth 100000 in
set_option maxHeartbeats 16000000 in
theorem law_BridgeQuiet (v0 : Value) (X : List Trp) (v1 : Value) (t : Trp) (port : Int) (_ : (Lit.int .i64 port).wf = true) (w : World) (hv0 : IsTrips w v0 X) (hv1 : IsTrip w v1 t) :
    Calls Try.prog 10 #[v0, v1, .int .i64 port] w fun e w' => e = .returned (.bool true) ∧ Below w.heap.size w w' := by
  unfold IsTrip at hv1
  subst hv1
  obtain ⟨hs1, hlen1⟩ := hv0
  obtain ⟨A1, k1, e1, _, _⟩ := hs1.row
  rw [List.length_map] at e1
  have HTr : Hid (∀ W, Below w.heap.size w W → SlAt W 6 v0 (X.map Trp.vals)) := Lib.hid fun W hW => hs1.below hW
  have H1 := Lib.hid ((St.init w).alloc2 t.vals [.int .i64 port] 52 3)
  clear hs1
  subst e1
  go_enter Try.func10, Try.ntmps10
  go_upto_region 1 with (fail)
  generalize (w.alloc (.cells t.vals.toArray 52)).alloc (.cells #[.int .i64 port] 3) = W1 at *
  by_cases h60 : 60 < X.length
  · go_wp2_with (first
      | ((with_reducible refine (passes_any _).mono ?_)
         rintro e w2 ⟨rfl, hb2⟩
         have H2 := Lib.hid (H1.out.ext hb2)
         clear hb2)
      )
    go_ret
    exact ⟨rfl, H2.out.below⟩
  have h60' : X.length ≤ 60 := by omega
  have hkn := served_ok (List.replicate 5 plainP) (by simp) (by simp) X ([], 0) 0 (by omega) KnowOk.nil
  have HSv : Hid (∀ W sv (L : List PRow), SlAt W 4 sv (L.map PRow.vals) → (∀ q ∈ L, q.In W) → L.map PRow.p = List.replicate 5 plainP → Below w.heap.size w W → Calls Try.prog 30 #[sv, .slice A1 X.length k1] W (Served W (List.replicate 5 plainP) X)) := Lib.hid fun W sv L h1 h2 h3 hW => by
    have := served_any L sv W h1 h2 (by rw [h3]; exact plain_good 5 (by omega)) (by have := congrArg List.length h3; simp at this; omega) X _ (HTr.out W hW) h60'
    rw [h3] at this
    exact this
  unfold Served at HSv
  generalize (servedM (List.replicate 5 plainP) ([], 0) 0 X).2 = now at *
  generalize hes : (servedM (List.replicate 5 plainP) ([], 0) 0 X).1 = KN at *
  clear hes
  obtain ⟨es, kt⟩ := KN
  try simp only [] at hkn
  obtain ⟨hko, hnow0, hnow1⟩ := hkn
  have hnow : now ≤ 1140 := by omega
  have Hko := Lib.hid hko
  clear hko hnow1
  have HPl : Hid (∀ W, Calls Try.prog 35 #[.int .i64 5] W fun e w' => ∃ sv L, e = .returned sv ∧ L.map PRow.p = List.replicate 5 plainP ∧ St W.heap.size W w' [ownI 44 4 sv L.length (prows L), subP L]) := Lib.hid fun W => plain_any 5 (by omega) W
  go_upto_region 8 with (first
    | ((with_reducible refine (passes_any _).mono ?_)
       rintro e w2 ⟨rfl, hb2⟩
       have H2 := Lib.hid (H1.out.ext hb2)
       clear hb2 H1)
    | ((with_reducible refine (HPl.out _).mono ?_)
       rintro e w3 ⟨svp, Lp, rfl, hLp, h3⟩
       have hop := own_ports h3
       have H3 := Lib.hid (H2.out.ext h3.below)
       have HSv2 := Lib.hid (HSv.out _ _ _ hop.1 hop.2 hLp H3.out.below)
       clear hop h3 hLp HSv)
    | ((with_reducible refine HSv2.out.mono ?_)
       rintro e w4 ⟨Bp, T, sv, tb, L, rfl, hL, h4⟩
       have H4 := Lib.hid (H3.out.app h4)
       have HL := Lib.hid hL
       clear h4 hL HSv2 H3)
    )
  have hLl : L.length = 5 := by
    have := congrArg List.length HL.out
    simpa using this
  have HLl := Lib.hid hLl
  have Hgo := Lib.hid (good_ok HL.out (plain_good 5 (by omega)))
  have hpk := pickN_lt port 5 (by omega)
  have HPK : Hid (∀ W, Calls Try.prog 16 #[.int .i64 port, .int .i64 5] W fun e w' => e = .returned (.int .i64 (pickN port 5 : Nat)) ∧ W = w') := pick_hid' port 5 (by omega) (by omega)
  have HPat := Lib.hid (fun k (hk : k < L.length) => plain_at HL.out hk)
  clear hLl HTr HPl
  have H5 : Hid (St w.heap.size w w4 (bk (w.heap.size + 1) 3 [.int .i64 port] :: (brd Bp T kt sv tb L es (bk w.heap.size 52 t.vals :: [])))) := Lib.hid (H4.out.pull 5 rfl)
  clear H4
  generalize w.heap.size + 1 = PP at *
  have cp : w4.cell? ⟨PP, 0, none⟩ = some (.int .i64 port) := (H5.out.at 0 rfl).box.cell 0
  have zp : w4.frozen? ⟨PP, 0, none⟩ = false := (H5.out.at 0 rfl).box.frozen 0
  generalize hpt : pickN port 5 = pt at *
  clear hpt
  go_upto_region 9 with (first
    | ((with_reducible refine (HPK.out _).mono ?_)
       rintro e w9 ⟨rfl, rfl⟩
       skip)
    )
  have H6 : Hid (St w.heap.size w _ (bk PP 3 [.int .i64 (pt : Int)] :: (brd Bp T kt sv tb L es (bk w.heap.size 52 t.vals :: [])))) := Lib.hid (H5.out.set 0 (.int .i64 (pt : Int)) (by simp))
  clear H5 cp zp HPK
  generalize World.setCell _ _ _ = w5 at *
  have HCr := Lib.hid (carried_any t)
  go_upto_region 10 with (first
    | ((with_reducible refine wpList_load_box (ty := 52) (b := ?b6) (ds := ?ds6) t.vals ?hx6 ?hB6 ?hu6 ?hd6 ?hi6 ?hk6)
       case hx6 => rfl
       case hB6 => exact (Blk.box (H6.out.at 6 rfl))
       case hu6 => exact Try.underlying52
       case hd6 => rfl
       case hi6 => exact info52)
    | ((with_reducible refine (HCr.out _).mono ?_)
       rintro e w6 ⟨tg, rfl, hc6⟩
       have hone := slat_one' (hc6.head : SlAt w6 4 tg _)
       have H7 := Lib.hid (H6.out.add (k := slI 4 tg (tagv (carryM t).tags)) hc6.below hc6.head (fun g hg => hc6.low _ (List.mem_cons_self ..) g hg))
       clear hc6 H6)
    | ((with_reducible refine wpList_store_blk (ty := 58) (b := ?b8) (o := ?o8) (t := 58) zFm ((carryM t).vals tg) ?hx8 ?hy8 ?hB8 ?ho8 ?hi8 ?h18 ?hk8)
       case hx8 => rfl
       case hy8 => rfl
       case hB8 => exact Blk.new w6 zFm 58
       case ho8 => exact Nat.le_refl _
       case hi8 => exact info58
       case h18 => exact (Fm.one _ hone)
       intro W9 hBW9 hoW9))
  obtain ⟨hb8, lPA⟩ := Only.fresh hoW9
  have h8 := ((H7.out.add (k := bk w6.heap.size 58 ((carryM t).vals tg)) hb8 hBW9 (fun g hg => by rw [List.mem_singleton.1 hg]; exact Nat.le_refl _)).swap).perm (brd_under Bp T kt sv tb L es [slI 4 tg (tagv (carryM t).tags), bk w6.heap.size 58 ((carryM t).vals tg), bk PP 3 [.int .i64 (pt : Int)]] [bk w.heap.size 52 t.vals])
  generalize w6.heap.size = PA at *
  have H8 : Hid (St w.heap.size w W9 (brd Bp T kt sv tb L es (slI 4 tg (tagv (carryM t).tags) :: bk PA 58 ((carryM t).vals tg) :: bk PP 3 [.int .i64 (pt : Int)] :: bk w.heap.size 52 t.vals :: []))) := Lib.hid h8
  clear h8 hBW9 hoW9 hb8 H7 lPA HCr
  have hptL : pt < L.length := by rw [HLl.out]; exact hpk
  obtain ⟨L2, hL2⟩ : ∃ L2, L2 = L.set pt (L[pt].at 2) := ⟨_, rfl⟩
  have hlen2 : L2.length = 5 := by rw [hL2, List.length_set]; exact HLl.out
  have hok2 : ∀ q ∈ L2, PortOk q.p := by rw [hL2]; exact set_ok Hgo.out.2.1 hptL (by omega) (by omega)
  have hbr2 : ∀ q ∈ L2, q.p.bare.length ≤ 9223372036854775807 := by rw [hL2]; exact set_bare Hgo.out.2.2 hptL 2
  have hpt2 : pt < L2.length := by rw [hlen2]; exact hpk
  have hself : L2[pt].p = ⟨L[pt].p.pvid, L[pt].p.ins, L[pt].p.bare, 2⟩ := by
    subst hL2
    rw [set_self hptL]; rfl
  have hst2 : L2[pt].p.state = 2 := by rw [hself]
  have HSt : Hid (∀ X, St w.heap.size w X (brd Bp T kt sv tb L es (slI 4 tg (tagv (carryM t).tags) :: bk PA 58 ((carryM t).vals tg) :: bk PP 3 [.int .i64 (pt : Int)] :: bk w.heap.size 52 t.vals :: [])) → Calls Try.prog 36 #[.pointer (some ⟨Bp, 0, none⟩), .int .i64 (pt : Int), .int .i64 2] X fun e w' => e = .returned .nilIface ∧ ∃ tv', St w.heap.size w w' (brd Bp T kt sv tv' L2 es (slI 4 tg (tagv (carryM t).tags) :: bk PA 58 ((carryM t).vals tg) :: bk PP 3 [.int .i64 (pt : Int)] :: bk w.heap.size 52 t.vals :: []))) := Lib.hid fun X hX => by
    refine (state_st hX pt hptL (by rw [HLl.out]; omega) Hko.out.1.len 2 (by omega) (by omega)).mono ?_
    rintro e w' ⟨rfl, tv', h⟩
    rw [if_neg (by decide), ← hL2] at h
    exact ⟨rfl, tv', h⟩
  obtain ⟨K2, hK2⟩ : ∃ K2, tabM L2[pt].p pt (carryM t) now (es, kt) = K2 := ⟨_, rfl⟩
  obtain ⟨es2, kt2⟩ := K2
  have hko2 : KnowOk (es2, kt2) now := by rw [← hK2]; exact tabM_ok Hko.out _ pt _ now (by omega) (Int.le_refl _)
  have Hko2 := Lib.hid hko2
  have HIn1 : Hid (∀ X tv, St w.heap.size w X (brd Bp T kt sv tv L2 es (slI 4 tg (tagv (carryM t).tags) :: bk PA 58 ((carryM t).vals tg) :: bk PP 3 [.int .i64 (pt : Int)] :: bk w.heap.size 52 t.vals :: [])) → Calls Try.prog 33 #[.pointer (some ⟨Bp, 0, none⟩), .int .i64 (pt : Int), .agg ((carryM t).vals tg).toArray, .int .i64 now] X fun e w' => ∃ A c tb', e = .returned (.tuple #[.slice A 0 c, .nilIface]) ∧ St w.heap.size w w' (brd Bp T kt2 sv tb' L2 es2 (slI 4 tg (tagv (carryM t).tags) :: bk PA 58 ((carryM t).vals tg) :: bk PP 3 [.int .i64 (pt : Int)] :: bk w.heap.size 52 t.vals :: []))) := Lib.hid fun X tv hX => by
    refine (in_st hX pt hpt2 (by omega) hok2 Hko.out.1 Hko.out.2.1 now Hko.out.2.2 (by omega) (carry_ok t) hbr2).mono ?_
    rintro e w' ⟨ov, R, tb', rfl, hR, hs⟩
    rw [hK2] at hR hs
    rw [inM_not (by rw [hst2]; decide)] at hR
    obtain rfl : R = [] := List.map_eq_nil_iff.1 hR
    obtain ⟨A, c, e1, _⟩ := out_rows (hs.head : World.ownsRow w' 0 65 22 ov ([] : List SRow).length (srows []))
    subst e1
    exact ⟨A, c, tb', rfl, hs.tail.tail⟩
  have hvs : vidM L2[pt].p (carryM t).tags = vidM L[pt].p (carryM t).tags := by rw [hself]; rfl
  have HVid : Hid (∀ X tv, St w.heap.size w X (brd Bp T kt2 sv tv L2 es2 (slI 4 tg (tagv (carryM t).tags) :: bk PA 58 ((carryM t).vals tg) :: bk PP 3 [.int .i64 (pt : Int)] :: bk w.heap.size 52 t.vals :: [])) → Calls Try.prog 32 #[.pointer (some ⟨Bp, 0, none⟩), .int .i64 (pt : Int), .agg ((carryM t).vals tg).toArray] X fun e w' => e = .returned (.int .i64 (vidM L2[pt].p (carryM t).tags)) ∧ Below X.heap.size X w') := Lib.hid fun X tv hX =>
    vid_any pt hpt2 (carryM t) tg X hX.ports (hX.slOf 5 rfl) (by omega) (by have := (hok2 _ (List.getElem_mem hpt2)).few; omega)
  have hlook : 0 < vidM L2[pt].p (carryM t).tags → lookM es2 (vidM L2[pt].p (carryM t).tags) (carryM t).src now 100 = (pt : Int) := fun hv => by
    have hh : hearsM L2[pt].p (carryM t) = true := by
      unfold hearsM
      rw [hst2, decide_eq_false (p := vidM L2[pt].p (carryM t).tags = 0) (by omega), show resM (carryM t).dst = false from res_adOf _ _]
      rfl
    rw [heard1 hh] at hK2
    injection hK2 with h1 h2
    rw [← h1]
    exact look_learned es _ _ _ _ _ (by omega)
  have Hlook := Lib.hid hlook
  have hvr := vidM_range (hok2 _ (List.getElem_mem hpt2)) (carryM t).tags
  obtain ⟨p2, hp2⟩ : ∃ p2, p2 = (pt + 1) % 5 := ⟨_, rfl⟩
  have hp25 : p2 < 5 := by rw [hp2]; exact Nat.mod_lt _ (by omega)
  have hpL2 : p2 < L2.length := by rw [hlen2]; exact hp25
  have HIn2 : Hid (∀ X tv, St w.heap.size w X (brd Bp T kt2 sv tv L2 es2 (slI 4 tg (tagv (carryM t).tags) :: bk PA 58 ((carryM t).vals tg) :: bk PP 3 [.int .i64 (pt : Int)] :: bk w.heap.size 52 t.vals :: [])) → Calls Try.prog 33 #[.pointer (some ⟨Bp, 0, none⟩), .int .i64 (p2 : Int), .agg ((carryM t).vals tg).toArray, .int .i64 now] X fun e w' => ∃ A c R, e = .returned (.tuple #[.slice A R.length c, .nilIface]) ∧ R.length ≤ 5 ∧ (R.any fun r => decide ((r.i : Int) = (pt : Int))) = false ∧ St w.heap.size w w' (ownI 65 22 (.slice A R.length c) R.length (srows R) :: bk PP 3 [.int .i64 (pt : Int)] :: [])) := Lib.hid fun X tv hX => by
    refine (in_st hX p2 hpL2 (by omega) hok2 Hko2.out.1 Hko2.out.2.1 now Hko2.out.2.2 (by omega) (carry_ok t) hbr2).mono ?_
    rintro e w' ⟨ov, R, tb', rfl, hR, hs⟩
    have hany := mem_any hR pt (fun x hx => by
      obtain ⟨j, hj, e, _, h2, _⟩ := in_facts hx
      rw [e]
      intro hjp
      have hjp : j = pt := hjp
      subst hjp
      rw [List.getElem_map, hst2] at h2
      exact absurd h2 (by decide))
    have hlenR : R.length ≤ 5 := by
      have := congrArg List.length hR
      rw [List.length_map] at this
      rw [this]
      unfold inM
      split
      · refine Nat.le_trans (outFrom_len ..) ?_
        rw [List.length_map, hlen2]; exact Nat.le_refl _
      · simp
    obtain ⟨A, c, e1, _⟩ := out_rows (hs.head : World.ownsRow w' 0 65 22 ov R.length (srows R))
    subst e1
    exact ⟨A, c, R, rfl, hlenR, hany, hs.sub (by simp [brd])⟩
  generalize vidM L2[pt].p (carryM t).tags = vid at *
  have hp2i : ((pt : Int) + 1) % 5 = (p2 : Int) := by omega
  rw [← hp2i] at HIn2
  clear hp2i hp2 hp25 hpL2
  clear hL2 hok2 hbr2 hself hst2 hK2 hko2 hvs hlook Hgo HPat HL
  have cp : W9.cell? ⟨PP, 0, none⟩ = some (.int .i64 (pt : Int)) := (H8.out.at 7 rfl).box.cell 0
  go_upto_region 12 with (first
    | ((with_reducible refine (HSt.out _ H8.out).mono ?_)
       rintro e w10 ⟨rfl, tb2, h10⟩
       have H10 := Lib.hid h10
       have cp10 : w10.cell? ⟨PP, 0, none⟩ = some (.int .i64 (pt : Int)) := (H10.out.at 7 rfl).box.cell 0
       clear h10 H8 HSt)
    )
  go_upto_region 13 with (first
    | ((with_reducible refine wpList_load_box (ty := 58) (b := ?b10) (ds := ?ds10) ((carryM t).vals tg) ?hx10 ?hB10 ?hu10 ?hd10 ?hi10 ?hk10)
       case hx10 => rfl
       case hB10 => exact (Blk.box (H10.out.at 6 rfl))
       case hu10 => exact Try.underlying58
       case hd10 => rfl
       case hi10 => exact info58)
    | ((with_reducible refine (HIn1.out _ _ H10.out).mono ?_)
       rintro e w11 ⟨A11, c11, tb3, rfl, h11⟩
       have H11 := Lib.hid h11
       have cp11 : w11.cell? ⟨PP, 0, none⟩ = some (.int .i64 (pt : Int)) := (H11.out.at 7 rfl).box.cell 0
       clear h11 H10 HIn1)
    )
  go_upto_region 16 with (first
    | ((with_reducible refine wpList_load_box (ty := 58) (b := ?b12) (ds := ?ds12) ((carryM t).vals tg) ?hx12 ?hB12 ?hu12 ?hd12 ?hi12 ?hk12)
       case hx12 => rfl
       case hB12 => exact (Blk.box (H11.out.at 6 rfl))
       case hu12 => exact Try.underlying58
       case hd12 => rfl
       case hi12 => exact info58)
    | ((with_reducible refine (HVid.out _ _ H11.out).mono ?_)
       rintro e w12 ⟨rfl, hb12⟩
       have H12 := Lib.hid (H11.out.ext hb12)
       clear hb12 H11 HVid)
    )
  go_cut [66] (fun c wx => c = .bool false ∧ Hid (St w.heap.size w wx (brd Bp T kt2 sv tb3 L2 es2 (slI 4 tg (tagv (carryM t).tags) :: bk PA 58 ((carryM t).vals tg) :: bk PP 3 [.int .i64 (pt : Int)] :: bk w.heap.size 52 t.vals :: []))))
  case first =>
    by_cases hv : 0 < vid
    · have hl := Hlook.out hv
      have cp12 : w12.cell? ⟨PP, 0, none⟩ = some (.int .i64 (pt : Int)) := (H12.out.at 7 rfl).box.cell 0
      have lPP := (H12.out.at 7 rfl).lt
      have lPA := (H12.out.at 6 rfl).lt
      have HSr := Lib.hid (fm_src (H12.out.at 6 rfl).box)
      have HW : Hid (∀ x : Ext w12, Calls Try.prog 28 #[.pointer (some ⟨Bp, 0, none⟩), .int .i64 vid, .agg (carryM t).src.vals.toArray, .int .i64 now] x.val fun e w' => e = .returned (.int .i64 (pt : Int)) ∧ Below x.val.heap.size x.val w') := Lib.hid fun x => by
        have := where_brd (H12.out.ext x.below) Hko2.out.1 vid (carryM t).src now (by have := Hko2.out.2.2; omega) (by omega) (by omega)
        rw [hl] at this
        exact this
      clear hl
      refine wp_region_ext (by kernel_rfl) (by kernel_rfl) ?_
      repeat (go_big_quiet_step (fail))
      go_big_quiet_want
      with_reducible refine quiet_load_rng (b := ?b14) (off := ?o14) (ds := ?ds14) (carryM t).src.vals ?hx14 ?hr14 ?hu14 ?hd14 ?hi14 ?hk14
      case hx14 => rfl
      case hr14 => rintro _ ⟨y, rfl⟩; exact rangeAt_below HSr.out y.below lPA
      case hu14 => exact Try.underlying30
      case hd14 => rfl
      case hi14 => exact info30
      go_simp
      go_big_quiet_on
      repeat (go_big_quiet_step ((go_at_call 28; exact Calls.ext _ (HW.out _))))
      refine wpQuiet_nil ?_
      rintro w13 ⟨⟨_, hb13⟩, rfl⟩
      try simp only [] at *
      have H13 := Lib.hid (H12.out.ext hb13)
      go_wp2_with fail
      go_meet
      exact ⟨by simp, H13⟩
    · have hv0 : ¬ (0 : Int) < vid := hv
      refine wp_region_ext (by kernel_rfl) (by kernel_rfl) ?_
      repeat (go_big_quiet_step (fail))
      refine wpQuiet_nil ?_
      rintro w13 ⟨⟨_, hb13⟩, rfl⟩
      try simp only [] at *
      have H13 := Lib.hid (H12.out.ext hb13)
      go_wp2_with fail
      go_meet
      exact ⟨by simp, H13⟩
  case rest =>
    obtain ⟨rfl, H13⟩ := hcut
    clear H12 Hlook
    generalize wc = w13 at *
    have cp13 : w13.cell? ⟨PP, 0, none⟩ = some (.int .i64 (pt : Int)) := (H13.out.at 7 rfl).box.cell 0
    have hff : ∀ (args : Array Value) (W : World), (callFunc 38 args).run Try.prog W = .ok (.enter 38 args) W := fun args W => by kernel_rfl
    have HAny : Hid (∀ X A c (R : List SRow), St w.heap.size w X (ownI 65 22 (.slice A R.length c) R.length (srows R) :: bk PP 3 [.int .i64 (pt : Int)] :: []) → R.length ≤ 5 → (R.any fun r => decide ((r.i : Int) = (pt : Int))) = false → Calls Try.prog 37 #[.slice A R.length c, .func (.func 38) #[] #[.pointer (some ⟨PP, 0, none⟩)]] X fun e w' => e = .returned (.bool false) ∧ Below X.heap.size X w') := Lib.hid fun X A c R hX h5 hany => by
      have h := anyf_sent (fun r => decide ((r.i : Int) = (pt : Int))) R (.slice A R.length c) _ #[.pointer (some ⟨PP, 0, none⟩)] X (by omega) hX.head hff (fun r W hW => quiet1_any r pt PP W (((hX.at 1 rfl).below hW (hX.at 1 rfl).lt).box.cell 0) (((hX.at 1 rfl).below hW (hX.at 1 rfl).lt).lt))
      rw [hany] at h
      exact h
    clear hff
    go_upto_region 19 with (first
      | ((with_reducible refine wpList_load_box (ty := 58) (b := ?b15) (ds := ?ds15) ((carryM t).vals tg) ?hx15 ?hB15 ?hu15 ?hd15 ?hi15 ?hk15)
         case hx15 => rfl
         case hB15 => exact (Blk.box (H13.out.at 6 rfl))
         case hu15 => exact Try.underlying58
         case hd15 => rfl
         case hi15 => exact info58)
      | ((with_reducible refine (HIn2.out _ _ H13.out).mono ?_)
         rintro e w14 ⟨A14, c14, R14, rfl, h5, hany, h14⟩
         have H14 := Lib.hid h14
         have Hany := Lib.hid hany
         clear h14 hany H13 HIn2)
      )
    go_wp2_with (first
      | ((with_reducible refine (HAny.out _ _ _ _ H14.out h5 Hany.out).mono ?_)
         rintro e w15 ⟨rfl, hb15⟩
         have H15 := Lib.hid (H14.out.ext hb15)
         clear hb15)
      )
    go_ret
    exact ⟨rfl, H15.out.below⟩
end Go.Proofs.Ytoenlcmngdpkmaa
