/- A frame as it leaves. -/
import Derived.Test.YtoenlcmngdpkmaaBr6
namespace Go.Proofs.Ytoenlcmngdpkmaa
open Go.RowKit
def zFm : List Value := [.int .u8 0, .int .u8 0, .int .u8 0, .int .u8 0, .int .u8 0, .int .u8 0, .int .u8 0, .int .u8 0, .int .u8 0, .int .u8 0, .int .u8 0, .int .u8 0, .slice none 0 0, .int .i64 0, .int .i64 0, .int .i64 0, .int .i64 0, .int .i64 0, .int .i64 0, .int .i64 0, .string ⟨#[]⟩]
theorem Fm.one (f : Fm) {tv : Value} (h : tv.oneCell' = true) : ∀ v ∈ f.vals tv, v.oneCell' = true := fun v hv => by
  simp only [Fm.vals, List.mem_cons, List.mem_append, List.not_mem_nil, or_false] at hv
  rcases hv with hv | hv | rfl | rfl | rfl | rfl | rfl | rfl | rfl | rfl | rfl
  · exact f.dst.one v hv
  · exact f.src.one v hv
  · exact h
  all_goals rfl
theorem elemTag : ElemOk Try.prog 56 75 4 32 := by
  have h : (Try.prog.info? 75).map (fun i => (i.zero, i.size, i.bytes)) = some (some (.agg #[.bool false, .int .i64 0, .bool false, .int .i64 0]), 4, 32) := by kernel_rfl
  obtain ⟨i, hi, hz, hs, hb⟩ := info_parts h
  exact ⟨Try.underlying56, i, _, hi, hz, hs, hb, rfl, by decide⟩
def tagM (f : Fm) (vid : Int) : Tg := ⟨false, (f.tags.head?.map (·.pcp)).getD 0, (f.tags.head?.map (·.dei)).getD false, vid⟩
/-- Two operations that may come up. -/
theorem wpAnyG_two {P : Program} {ops : Array Oper} {Q : Exit → Act → World → Prop} {md : Region.Mode} {S : World → Prop} {k : Nat} {fuel : Nat} {listed : Array Bool} {a : Act} {w : World} (i j : Nat) {o u : Oper} (hr : Region.ready md ops listed = [i, j]) (ho : ops[i]? = some o) (hu : ops[j]? = some u) (hgd : o.guard = none) (hgu : u.guard = none)
    (h : ∀ K' : Act → World → Prop, Shut (∀ a w, (i ≠ k → S w) → ((i ≠ k → S w) → wpAnyG P md ops Q S k fuel (listed.setIfInBounds i true) a w) → K' a w) → Oper.wp P o a w K' Q)
    (h2 : ∀ K' : Act → World → Prop, Shut (∀ a w, (j ≠ k → S w) → ((j ≠ k → S w) → wpAnyG P md ops Q S k fuel (listed.setIfInBounds j true) a w) → K' a w) → Oper.wp P u a w K' Q) :
    wpAnyG P md ops Q S k (fuel + 1) listed a w := by
  refine ⟨fun h0 => (by rw [hr] at h0; cases h0), fun q hq => ?_⟩
  rw [hr] at hq
  rcases List.mem_cons.1 hq with rfl | hq
  · unfold wpOp
    simp only [ho]
    rw [if_pos (by simp [Region.wanted, hgd])]
    exact .inl (h _ (fun a w h1 h2 => ⟨h1, h2 h1⟩))
  · rw [List.mem_singleton] at hq
    subst hq
    unfold wpOp
    simp only [hu]
    rw [if_pos (by simp [Region.wanted, hgu])]
    exact .inl (h2 _ (fun a w h1 h2 => ⟨h1, h2 h1⟩))
theorem St.as {B : Nat} {w0 w : World} {A : List It} {k k' : It} (h : St B w0 w (k :: A)) (hk : k'.P w) (hg : ∀ g ∈ k'.gs, g ∈ k.gs) : St B w0 w (k' :: A) := h.step (Fr.refl _ _) hk (fun g h => .inl (hg g h))
theorem slat_one {w : World} {g : Nat} {t : TypeId} {L : List Value} (s : Nat) (h : Blk w g t L) : SlAt w s (.slice (some ⟨g, 0, none⟩) 1 1) [L] := by
  refine ⟨some ⟨g, 0, none⟩, 1, rfl, Nat.le_refl _, fun _ => ⟨g, 0, rfl, h.lt, fun k hk => ?_⟩⟩
  obtain rfl : k = 0 := by simp at hk; omega
  simpa using h.box.range
theorem slat_nil (w : World) (s : Nat) : SlAt w s (.slice none 0 0) [] := ⟨none, 0, rfl, Nat.le_refl _, fun h => absurd h (by simp)⟩
set_option maxRecDepth 100000 in
set_option maxHeartbeats 4000000 in
theorem leaves_any (f : Fm) (tgv : Value) (vid : Int) (bare : Bool) (w : World) (hs : SlAt w 4 tgv (tagv f.tags)) :
    Calls Try.prog 57 #[.agg (f.vals tgv).toArray, .int .i64 vid, .bool bare] w fun e w' => ∃ tv', e = .returned (.agg ((leaveM f vid bare).vals tv').toArray) ∧ St w.heap.size w w' [slI 4 tv' (tagv (leaveM f vid bare).tags)] := by
  have h0 := (St.init w).alloc2 (f.vals tgv) zFm 58 58
  have H0 := Lib.hid h0
  have HTG : Hid (∀ t r, f.tags = t :: r → ∃ g o ct, tgv = .slice (some ⟨g, o, none⟩) f.tags.length ct ∧ g < w.heap.size ∧ w.rangeAt g o t.vals) := Lib.hid fun t r htr => by
    obtain ⟨At, ct, e3, _, htg⟩ := slice_lt hs
    obtain ⟨g, o, e4, h1, h2⟩ := htg t r htr
    exact ⟨g, o, ct, by rw [e3, e4], h1, h2⟩
  have HTL : Hid (∃ A ct, tgv = .slice A f.tags.length ct) := Lib.hid (by
    obtain ⟨At, ct, e3, _, _⟩ := slice_lt hs
    exact ⟨At, ct, e3⟩)
  have HL : Hid (∀ tv, (leaveM f vid bare).vals tv = f.vals tv) := Lib.hid fun tv => rfl
  have HB0 : Hid (Below w.heap.size w w) := Lib.hid (Below.refl _ _)
  clear h0 hs
  go_enter Try.func57, Try.ntmps57
  go_upto_region 1 with (fail)
  rw [show (#[.int .u8 0, .int .u8 0, .int .u8 0, .int .u8 0, .int .u8 0, .int .u8 0, .int .u8 0, .int .u8 0, .int .u8 0, .int .u8 0, .int .u8 0, .int .u8 0, .slice none 0 0, .int .i64 0, .int .i64 0, .int .i64 0, .int .i64 0, .int .i64 0, .int .i64 0, .int .i64 0, .string ⟨#[]⟩] : Array Value) = zFm.toArray from rfl]
  generalize (w.alloc (.cells (f.vals tgv).toArray 58)).alloc (.cells zFm.toArray 58) = W1 at *
  go_upto_region 2 with (first
    | ((with_reducible refine wpList_store_blk (ty := 75) (b := ?b1) (o := ?o1) (t := 75) zTg (Tg.vals ⟨false, 0, false, vid⟩) ?hx1 ?hy1 ?hB1 ?ho1 ?hi1 ?h11 ?hk1)
       case hx1 => rfl
       case hy1 => rfl
       case hB1 => exact Blk.new W1 zTg 75
       case ho1 => exact Nat.le_refl _
       case hi1 => exact info75
       case h11 => exact (Tg.one _)
       intro W4 hBW4 hoW4))
  obtain ⟨hb8, lP⟩ := Only.fresh hoW4
  have h4 := H0.out.add (k := bk W1.heap.size 75 (Tg.vals ⟨false, 0, false, vid⟩)) hb8 hBW4 (fun g hg => by rw [List.mem_singleton.1 hg]; exact Nat.le_refl _)
  have H4 := Lib.hid h4
  clear h4 hBW4 hoW4 hb8 lP H0
  generalize W1.heap.size = PT at *
  have cF : W4.cell? ⟨w.heap.size, 12, none⟩ = some tgv := (H4.out.at 2 rfl).box.cell 12
  have lF := (H4.out.at 2 rfl).lt
  obtain ⟨A3, ct, e3⟩ := HTL.out
  obtain ⟨n, hn⟩ : ∃ n, n = f.tags.length := ⟨_, rfl⟩
  rw [← hn] at e3
  rw [e3] at cF
  have Hn := Lib.hid hn
  clear hn
  go_upto_if 13 with (fail)
  go_cut [] (fun wx => St w.heap.size w wx [bk PT 75 (tagM f vid).vals, bk (w.heap.size + 1) 58 zFm, bk w.heap.size 58 (f.vals tgv)])
  case first =>
    cases htags : f.tags with
    | nil =>
      obtain rfl : n = 0 := by rw [Hn.out, htags]; rfl
      have HM : Hid (tagM f vid = ⟨false, 0, false, vid⟩) := Lib.hid (by unfold tagM; rw [htags]; rfl)
      clear htags
      go_wp2_with fail
      go_meet
      rw [HM.out]
      exact H4.out
    | cons t r =>
      obtain ⟨g, o, ct', e4, lg, hrt⟩ := HTG.out t r htags
      rw [htags, List.length_cons] at e4
      obtain ⟨m, hm⟩ : ∃ m, m = r.length := ⟨_, rfl⟩
      obtain rfl : n = m + 1 := by rw [Hn.out, htags, hm]; rfl
      rw [← hm] at e4
      clear hm
      rw [e4] at e3
      injection e3 with e5 e6 e7
      subst e5 e7
      have e3 := e4
      clear e4 e6
      have HM : Hid (tagM f vid = ⟨false, t.pcp, t.dei, vid⟩) := Lib.hid (by unfold tagM; rw [htags]; rfl)
      have HRT := Lib.hid hrt
      clear hrt htags HTG HTL
      subst e3
      go_upto_region 3 with (fail)
      have hPT : Blk W4 PT 75 (Tg.vals ⟨false, 0, false, vid⟩) := H4.out.at 0 rfl
      have hF : Blk W4 w.heap.size 58 (f.vals (.slice (some ⟨g, o, none⟩) (m + 1) ct')) := H4.out.at 2 rfl
      have nF : w.heap.size ∉ [PT] := fun h => H4.out.dis 0 2 (by decide) rfl rfl PT (List.mem_singleton.2 rfl) (by rw [List.mem_singleton.1 h]; exact List.mem_singleton.2 rfl)
      have nG : g ∉ [PT] := fun h => by
        have h1 := H4.out.low _ (List.mem_cons_self ..) PT (List.mem_singleton.2 rfl)
        rw [List.mem_singleton.1 h] at lg
        omega
      have rG : W4.rangeAt g o t.vals := rangeAt_below HRT.out H4.out.below lg
      have lg4 : g < W4.heap.size := Nat.lt_of_lt_of_le lg H4.out.below.size
      have cA : ∀ X, Fr [PT] W4 X → X.cell? ⟨w.heap.size, 12, none⟩ = some (.slice (some ⟨g, o, none⟩) (m + 1) ct') := fun X hX => (hX.blk hF nF).box.cell 12
      have cB : ∀ X, Fr [PT] W4 X → X.cell? ⟨g, o + 1, none⟩ = some (.int .i64 t.pcp) := fun X hX => (hX.cell nG lg4 (o + 1)).trans (rG 1 _ rfl)
      have cC : ∀ X, Fr [PT] W4 X → X.cell? ⟨g, o + 2, none⟩ = some (.bool t.dei) := fun X hX => (hX.cell nG lg4 (o + 2)).trans (rG 2 _ rfl)
      have hdr : Fr [PT] W4 W4.drew := ⟨rfl, rfl, rfl, Nat.le_refl _, fun _ _ _ => rfl⟩
      have HP := Lib.hid hPT
      clear hPT hF nF nG rG cF HRT
      refine wp_region_last (fun X => Fr [PT] W4 X) 13 (by kernel_rfl) hdr (fun hHeld => ?_)
      refine wpAnyG_take 0 (oi := ?o3) ?v3 ?hi3 (by kernel_rfl) (by kernel_rfl) (by decide) (by kernel_rfl) (by kernel_rfl) ?hq3 ?hg3 ?hy3 (by assumption) ?hk3
      case hi3 => (simp only [List.getElem?_toArray, List.getElem?_cons_succ, List.getElem?_cons_zero]; rfl)
      case hq3 => exact fun _ _ _ h => h
      case hg3 => rfl
      case hy3 => (intro X hX; go_simp; try with_reducible rfl)
      try simp only [Act.put, List.setIfInBounds_toArray, List.set_cons_zero, List.set_cons_succ]
      refine wpAnyG_take 1 (oi := ?o4) ?v4 ?hi4 (by kernel_rfl) (by kernel_rfl) (by decide) (by kernel_rfl) (by kernel_rfl) ?hq4 ?hg4 ?hy4 (by assumption) ?hk4
      case hi4 => (simp only [List.getElem?_toArray, List.getElem?_cons_succ, List.getElem?_cons_zero]; rfl)
      case hq4 => exact fun _ _ _ h => h
      case hg4 => rfl
      case hy4 => (intro X hX; go_simp; try with_reducible rfl)
      try simp only [Act.put, List.setIfInBounds_toArray, List.set_cons_zero, List.set_cons_succ]
      refine wpAnyG_take 2 (oi := ?o5) ?v5 ?hi5 (by kernel_rfl) (by kernel_rfl) (by decide) (by kernel_rfl) (by kernel_rfl) ?hq5 ?hg5 ?hy5 (by assumption) ?hk5
      case hi5 => (simp only [List.getElem?_toArray, List.getElem?_cons_succ, List.getElem?_cons_zero]; rfl)
      case hq5 => exact fun _ _ _ h => h
      case hg5 => rfl
      case hy5 => (intro X hX; go_simp; try with_reducible rfl)
      try simp only [Act.put, List.setIfInBounds_toArray, List.set_cons_zero, List.set_cons_succ]
      refine wpAnyG_take 3 (oi := ?o6) ?v6 ?hi6 (by kernel_rfl) (by kernel_rfl) (by decide) (by kernel_rfl) (by kernel_rfl) ?hq6 ?hg6 ?hy6 (by assumption) ?hk6
      case hi6 => (simp only [List.getElem?_toArray, List.getElem?_cons_succ, List.getElem?_cons_zero]; rfl)
      case hq6 => exact fun _ _ _ h => h
      case hg6 => rfl
      case hy6 => (intro X hX; go_simp; try with_reducible rfl)
      try simp only [Act.put, List.setIfInBounds_toArray, List.set_cons_zero, List.set_cons_succ]
      refine wpAnyG_take 4 (oi := ?o7) ?v7 ?hi7 (by kernel_rfl) (by kernel_rfl) (by decide) (by kernel_rfl) (by kernel_rfl) ?hq7 ?hg7 ?hy7 (by assumption) ?hk7
      case hi7 => (simp only [List.getElem?_toArray, List.getElem?_cons_succ, List.getElem?_cons_zero]; rfl)
      case hq7 => exact fun _ _ _ h => h
      case hg7 => rfl
      case hy7 => (intro X hX; go_simp; try with_reducible rfl)
      try simp only [Act.put, List.setIfInBounds_toArray, List.set_cons_zero, List.set_cons_succ]
      refine wpAnyG_take 5 (oi := ?o8) ?v8 ?hi8 (by kernel_rfl) (by kernel_rfl) (by decide) (by kernel_rfl) (by kernel_rfl) ?hq8 ?hg8 ?hy8 (by assumption) ?hk8
      case hi8 => (simp only [List.getElem?_toArray, List.getElem?_cons_succ, List.getElem?_cons_zero]; rfl)
      case hq8 => exact fun _ _ _ h => h
      case hg8 => rfl
      case hy8 => (intro X hX; go_simp; try with_reducible rfl)
      try simp only [Act.put, List.setIfInBounds_toArray, List.set_cons_zero, List.set_cons_succ]
      refine wpAnyG_take 6 (oi := ?o9) ?v9 ?hi9 (by kernel_rfl) (by kernel_rfl) (by decide) (by kernel_rfl) (by kernel_rfl) ?hq9 ?hg9 ?hy9 (by assumption) ?hk9
      case hi9 => (simp only [List.getElem?_toArray, List.getElem?_cons_succ, List.getElem?_cons_zero]; rfl)
      case hq9 => exact fun _ _ _ h => h
      case hg9 => rfl
      case hy9 => (intro X hX; go_simp; try with_reducible rfl)
      try simp only [Act.put, List.setIfInBounds_toArray, List.set_cons_zero, List.set_cons_succ]
      refine wpAnyG_take 7 (oi := ?o10) ?v10 ?hi10 (by kernel_rfl) (by kernel_rfl) (by decide) (by kernel_rfl) (by kernel_rfl) ?hq10 ?hg10 ?hy10 (by assumption) ?hk10
      case hi10 => (simp only [List.getElem?_toArray, List.getElem?_cons_succ, List.getElem?_cons_zero]; rfl)
      case hq10 => exact fun _ _ _ h => h
      case hg10 => rfl
      case hy10 => (intro X hX; go_simp; try with_reducible rfl)
      try simp only [Act.put, List.setIfInBounds_toArray, List.set_cons_zero, List.set_cons_succ]
      refine wpAnyG_take 8 (oi := ?o11) ?v11 ?hi11 (by kernel_rfl) (by kernel_rfl) (by decide) (by kernel_rfl) (by kernel_rfl) ?hq11 ?hg11 ?hy11 (by assumption) ?hk11
      case hi11 => (simp only [List.getElem?_toArray, List.getElem?_cons_succ, List.getElem?_cons_zero]; rfl)
      case hq11 => exact fun _ _ _ h => h
      case hg11 => rfl
      case hy11 => (intro X hX; go_simp; try with_reducible rfl)
      try simp only [Act.put, List.setIfInBounds_toArray, List.set_cons_zero, List.set_cons_succ]
      refine wpAnyG_take 9 (oi := ?o12) ?v12 ?hi12 (by kernel_rfl) (by kernel_rfl) (by decide) (by kernel_rfl) (by kernel_rfl) ?hq12 ?hg12 ?hy12 (by assumption) ?hk12
      case hi12 => (simp only [List.getElem?_toArray, List.getElem?_cons_succ, List.getElem?_cons_zero]; rfl)
      case hq12 => exact fun _ _ _ h => h
      case hg12 => rfl
      case hy12 => (intro X hX; go_simp; try with_reducible rfl)
      try simp only [Act.put, List.setIfInBounds_toArray, List.set_cons_zero, List.set_cons_succ]
      refine wpAnyG_take 10 (oi := ?o13) ?v13 ?hi13 (by kernel_rfl) (by kernel_rfl) (by decide) (by kernel_rfl) (by kernel_rfl) ?hq13 ?hg13 ?hy13 (by assumption) ?hk13
      case hi13 => (simp only [List.getElem?_toArray, List.getElem?_cons_succ, List.getElem?_cons_zero]; rfl)
      case hq13 => exact fun _ _ _ h => h
      case hg13 => rfl
      case hy13 => (intro X hX; go_simp; try with_reducible rfl)
      try simp only [Act.put, List.setIfInBounds_toArray, List.set_cons_zero, List.set_cons_succ]
      have c1 : W4.cell? ⟨PT, 1, none⟩ = some (.int .i64 0) := HP.out.box.cell 1
      have z1 : W4.frozen? ⟨PT, 1, none⟩ = false := HP.out.box.frozen 1
      refine wpAnyG_one 11 (o := ?o14) (by kernel_rfl) ?hi14 ?hg14 ?hk14
      case hi14 => (simp only [List.getElem?_toArray, List.getElem?_cons_succ, List.getElem?_cons_zero]; rfl)
      case hg14 => rfl
      intro K hK
      go_simp
      refine hK.out _ _ (fun _ => hHeld.trans (Fr.setCell PT 1 _ _ (List.mem_singleton.2 rfl))) (fun hH => ?_)
      have hHeld := hH (by decide)
      clear hK K hH c1 z1
      try simp only [Act.put, List.setIfInBounds_toArray, List.set_cons_zero, List.set_cons_succ]
      have h5 := H4.out.set 1 (.int .i64 t.pcp) (by rw [Tg.len]; decide)
      have H5 := Lib.hid h5
      clear h5 H4 HP cA cB cC hdr
      generalize World.setCell _ _ _ = W5 at *
      have c2 : W5.cell? ⟨PT, 2, none⟩ = some (.bool false) := (H5.out.at 0 rfl).box.cell 2
      have z2 : W5.frozen? ⟨PT, 2, none⟩ = false := (H5.out.at 0 rfl).box.frozen 2
      refine wpAnyG_take 12 (oi := ?o16) ?v16 ?hi16 (by kernel_rfl) (by kernel_rfl) (by decide) (by kernel_rfl) (by kernel_rfl) ?hq16 ?hg16 ?hy16 (by assumption) ?hk16
      case hi16 => (simp only [List.getElem?_toArray, List.getElem?_cons_succ, List.getElem?_cons_zero]; rfl)
      case hq16 => exact fun _ _ _ h => h
      case hg16 => rfl
      case hy16 => (intro X hX; go_simp; try with_reducible rfl)
      try simp only [Act.put, List.setIfInBounds_toArray, List.set_cons_zero, List.set_cons_succ]
      refine wpAnyG_one 13 (o := ?o17) (by kernel_rfl) ?hi17 ?hg17 ?hk17
      case hi17 => (simp only [List.getElem?_toArray, List.getElem?_cons_succ, List.getElem?_cons_zero]; rfl)
      case hg17 => rfl
      intro K hK
      go_simp
      refine hK.out _ _ (fun h => absurd rfl h) (fun _ => ?_)
      refine wpAnyG_done (by kernel_rfl) ?_ _
      have h6 := (H5.out.set 2 (.bool t.dei) (by rw [List.length_set, Tg.len]; decide)).drew
      have H6 := Lib.hid h6
      clear h6
      go_wp2_with fail
      go_meet
      rw [HM.out]
      exact H6.out
  case rest =>
    clear HTG HTL cF lF H4
    have H5 := Lib.hid hcut
    clear hcut
    generalize wc = W5 at *
    have c12 : W5.cell? ⟨w.heap.size, 12, none⟩ = some tgv := (H5.out.at 2 rfl).box.cell 12
    have z12 : W5.frozen? ⟨w.heap.size, 12, none⟩ = false := (H5.out.at 2 rfl).box.frozen 12
    rw [e3] at c12
    go_upto_region 5 with (fail)
    have h6 : St w.heap.size w _ (bk w.heap.size 58 (f.vals (.slice none 0 0)) :: bk PT 75 (tagM f vid).vals :: bk (w.heap.size + 1) 58 zFm :: []) := (H5.out.pull 2 rfl).set 12 (.slice none 0 0) (by simp [Fm.len])
    have H6 := Lib.hid h6
    clear h6 H5 c12 z12
    generalize World.setCell _ _ _ = W6 at *
    have r0 : W6.rangeAt w.heap.size 0 (f.vals (.slice none 0 0)) := (H6.out.at 0 rfl).box.range
    have HR0 := Lib.hid r0
    have HT1 := Lib.hid (H6.out.at 1 rfl)
    have c12 : W6.cell? ⟨w.heap.size, 12, none⟩ = some (.slice none 0 0) := (H6.out.at 0 rfl).box.cell 12
    have z12 : W6.frozen? ⟨w.heap.size, 12, none⟩ = false := (H6.out.at 0 rfl).box.frozen 12
    have lF6 := (H6.out.at 0 rfl).lt
    clear r0
    cases bare
    · have HE : Hid ((leaveM f vid false).tags = [tagM f vid]) := Lib.hid rfl
      generalize tagM f vid = tg at *
      go_upto_region 7 with (first
        | ((with_reducible refine wpList_load_box (ty := 75) (b := ?b18) (ds := ?ds18) tg.vals ?hx18 ?hB18 ?hu18 ?hd18 ?hi18 ?hk18)
           case hx18 => rfl
           case hB18 => exact (Blk.box HT1.out)
           case hu18 => exact Try.underlying75
           case hd18 => rfl
           case hi18 => exact info75)
        | ((with_reducible refine wpList_build1 tg.vals elemTag ?hxb rfl (by decide) ?_)
           case hxb => rfl
           intro W8 hB8 hb8 lW8
           have d12 := laterc c12 hb8 lF6
           have e12 : W8.frozen? ⟨w.heap.size, 12, none⟩ = false := (hb8.frozen (p := ⟨w.heap.size, 12, none⟩) lF6).trans z12
           have h8 := H6.out.add (k := bk W6.heap.size 75 tg.vals) hb8 hB8 (fun g hg => by rw [List.mem_singleton.1 hg]; exact Nat.le_refl _)
           have H8 := Lib.hid h8
           clear h8 hB8 hb8 c12 z12 HR0 HT1 H6
           ))
      have h9 := (H8.out.pull 1 rfl).set 12 (.slice (some ⟨W6.heap.size, 0, none⟩) 1 1) (by simp [Fm.len])
      have H9 : Hid (St w.heap.size w _ (bk w.heap.size 58 (f.vals (.slice (some ⟨W6.heap.size, 0, none⟩) 1 1)) :: bk W6.heap.size 75 tg.vals :: bk PT 75 tg.vals :: bk (w.heap.size + 1) 58 zFm :: [])) := Lib.hid h9
      clear h9 H8 d12 e12
      generalize World.setCell _ _ _ = W9 at *
      generalize W6.heap.size = QT at *
      have HF9 := Lib.hid (Blk.box (H9.out.at 0 rfl))
      have HR9 := Lib.hid (H9.out.at 3 rfl)
      go_wp2_with (first
        | ((with_reducible refine wpList_load_box (ty := 58) (b := ?b19) (ds := ?ds19) (f.vals (.slice (some ⟨QT, 0, none⟩) 1 1)) ?hx19 ?hB19 ?hu19 ?hd19 ?hi19 ?hk19)
           case hx19 => rfl
           case hB19 => exact HF9.out
           case hu19 => exact Try.underlying58
           case hd19 => rfl
           case hi19 => exact info58)
        | ((with_reducible refine wpList_store_blk (ty := 58) (b := w.heap.size + 1) (o := 0) (t := 58) zFm (f.vals (.slice (some ⟨QT, 0, none⟩) 1 1)) ?hxs ?hys ?hBs ?hos ?his ?h1s ?hks)
           case hxs => rfl
           case hys => rfl
           case hBs => exact HR9.out
           case hos => exact Nat.le_refl _
           case his => exact info58
           case h1s => exact Fm.one f rfl
           intro W10 hB10 ho10))
      have h11 := (H9.out.pull 3 rfl).sets hB10 ho10
      have hr10 := (Blk.box hB10).range
      have h12 := (h11.pull 2 rfl).as (k' := slI 4 (.slice (some ⟨QT, 0, none⟩) 1 1) (tagv (leaveM f vid false).tags)) (by
        rw [HE.out]
        exact slat_one 4 (h11.at 2 rfl)) (fun g hg => hg)
      refine ret_cell (cs := f.vals (.slice (some ⟨QT, 0, none⟩) 1 1)) rfl rfl hr10 Try.underlying58 rfl info58 rfl ⟨.slice (some ⟨QT, 0, none⟩) 1 1, by rw [HL.out], ?_⟩
      exact h12.sub (by simp)
    · have HE : Hid ((leaveM f vid true).tags = []) := Lib.hid rfl
      have HF9 := Lib.hid (Blk.box (H6.out.at 0 rfl))
      have HR9 := Lib.hid (H6.out.at 2 rfl)
      go_wp2_with (first
        | ((with_reducible refine wpList_load_box (ty := 58) (b := ?b20) (ds := ?ds20) (f.vals (.slice none 0 0)) ?hx20 ?hB20 ?hu20 ?hd20 ?hi20 ?hk20)
           case hx20 => rfl
           case hB20 => exact HF9.out
           case hu20 => exact Try.underlying58
           case hd20 => rfl
           case hi20 => exact info58)
        | ((with_reducible refine wpList_store_blk (ty := 58) (b := w.heap.size + 1) (o := 0) (t := 58) zFm (f.vals (.slice none 0 0)) ?hxs2 ?hys2 ?hBs2 ?hos2 ?his2 ?h1s2 ?hks2)
           case hxs2 => rfl
           case hys2 => rfl
           case hBs2 => exact HR9.out
           case hos2 => exact Nat.le_refl _
           case his2 => exact info58
           case h1s2 => exact Fm.one f rfl
           intro W10 hB10 ho10))
      have h11 := (H6.out.pull 2 rfl).sets hB10 ho10
      have hr10 := (Blk.box hB10).range
      have h12 := h11.add (k := slI 4 (.slice none 0 0) (tagv (leaveM f vid true).tags)) (Below.refl _ _) (by
        rw [HE.out]
        exact slat_nil _ 4) (fun g hg => by cases hg)
      refine ret_cell (cs := f.vals (.slice none 0 0)) rfl rfl hr10 Try.underlying58 rfl info58 rfl ⟨.slice none 0 0, by rw [HL.out], ?_⟩
      exact h12.sub (by simp)
end Go.Proofs.Ytoenlcmngdpkmaa
