/- New: a bridge is made. -/
import Derived.Test.YtoenlcmngdpkmaaBr8
import Derived.Shelf.Slices.Clone
namespace Go.Proofs.Ytoenlcmngdpkmaa
open Go.RowKit
theorem elemI : ElemOk Try.prog 42 3 1 8 := by
  have h : (Try.prog.info? 3).map (fun i => (i.zero, i.size, i.bytes)) = some (some (.int .i64 0), 1, 8) := by kernel_rfl
  obtain ⟨i, hi, hz, hs, hb⟩ := info_parts h
  exact ⟨Try.underlying42, i, _, hi, hz, hs, hb, rfl, by decide⟩
theorem own_slat {w : World} {base : Nat} {e : TypeId} {size n : Nat} {v : Value} {C : List (List Value)} (h : w.ownsRow base e size v n C.flatten) (hC : ∀ c ∈ C, c.length = size) (hn : C.length = n) : SlAt w size v C ∧ ∀ g ∈ blkOf v, base ≤ g := by
  obtain ⟨A, cap, e1, hc, hr⟩ := own_row h hC hn
  subst hn
  refine ⟨⟨A, cap, e1, hc, fun h0 => ?_⟩, fun g hg => ?_⟩
  · obtain ⟨g, e2, _, lg, hk⟩ := hr h0
    exact ⟨g, 0, e2, lg, fun k hk' => by rw [Nat.zero_add]; exact hk k hk'⟩
  · rw [e1] at hg
    cases hl : C.length with
    | zero => rw [hl] at hg; cases A <;> simp [blkOf] at hg
    | succ m =>
      obtain ⟨g', e2, hb, _, _⟩ := hr (by omega)
      rw [hl, e2] at hg
      rw [List.mem_singleton.1 hg]; exact hb
def intL (l : List Int) : List Value := l.map (Value.int .i64)
theorem intL_one (l : List Int) : ∀ u ∈ intL l, u.oneCell' = true := fun u hu => by
  obtain ⟨x, _, rfl⟩ := List.mem_map.1 hu
  rfl
theorem intv_flat (l : List Int) : (intv l).flatten = intL l := by
  induction l with
  | nil => rfl
  | cons x l ih =>
    have h1 : (intv (x :: l)).flatten = Value.int .i64 x :: (intv l).flatten := rfl
    rw [h1, ih]; rfl
set_option maxRecDepth 100000 in
set_option maxHeartbeats 2000000 in
theorem clone_int (l : List Int) (sv : Value) (w : World) (hn : l.length ≤ 1000000) (hs : SlAt w 1 sv (intv l)) :
    Calls Try.prog 52 #[sv] w fun e w' => ∃ v, e = .returned v ∧ Below w.heap.size w w' ∧ SlAt w' 1 v (intv l) ∧ ∀ g ∈ blkOf v, w.heap.size ≤ g := by
  obtain ⟨A, cap, rfl, hc, hr⟩ := hs.row
  rw [intv_len] at *
  have hq := @Lib.run_eql_slice_nil Try.prog
  cases A with
  | none =>
    have hl : l = [] := by
      cases l with
      | nil => rfl
      | cons x l =>
        obtain ⟨g, o, e, _⟩ := hr (by rw [intv_len]; simp)
        cases e
    subst hl
    clear hs hr
    go_enter Try.func52, Try.ntmps52
    go_wp2_with fail
    go_ret
    exact ⟨_, rfl, Below.refl _ _, slat_nil _ 1, fun g hg => by cases hg⟩
  | some a =>
    have Hr : Hid (∀ j u, (intL l)[j]? = some u → w.cell? (a.add j) = some u ∧ (a.add j).block < w.heap.size) := Lib.hid fun j u hj => by
      have hjl : j < l.length := by
        have := (List.getElem?_eq_some_iff.1 hj).1
        simpa [intL] using this
      obtain ⟨g, o, e, lg, hk⟩ := hr (by rw [intv_len]; omega)
      injection e with e
      subst e
      rw [Addr.add_mid]
      refine ⟨?_, lg⟩
      have h1 := intv_cell hk (Below.refl _ w) lg hjl
      rw [h1]
      simp only [intL, List.getElem?_map, List.getElem?_eq_getElem hjl, Option.map_some] at hj
      exact hj
    have HR2 : Hid (∀ j u, (intL l)[j]? = some u → (w.alloc (.cells #[] 3)).cell? (a.add j) = some u) := Lib.hid fun j u hj => by
      obtain ⟨h1, h2⟩ := Hr.out j u hj
      have hb := (Below.refl w.heap.size w).alloc (Nat.le_refl _) (.cells #[] 3)
      have h3 := World.cell?_of_block (w := w) (a := a.add j) (hb.block _ h2)
      exact h3.trans h1
    obtain ⟨n, hlen⟩ : ∃ n, l.length = n := ⟨_, rfl⟩
    have Hn := Lib.hid hlen
    rw [hlen] at hn hc ⊢
    clear hs hr hlen
    go_enter Try.func52, Try.ntmps52
    go_wp2_with (
      (with_reducible refine wpList_append_from (t := 42) (v := .slice (some ⟨w.heap.size, 0, none⟩) 0 0) (base := w.heap.size) (n := 0) (m := n) (c := cap) (from_ := a) [] (intL l) elemI ?hs ?hx ?ow ?hr ?hl ?h1 ?h63 ?hb ?hba ?hk)
      case hs => rfl
      case hx => rfl
      case ow => exact ⟨rfl, .inr ⟨w.heap.size, 0, #[], rfl, Nat.le_refl _, heap_alloc_new w _, Nat.le_refl 0, Nat.zero_le _, rfl, rfl⟩⟩
      case hr => exact HR2.out
      case hl => simp [intL, Hn.out]
      case h1 => exact intL_one l
      case h63 => unfold maxLen; omega
      case hb => omega
      case hba => simp
      intro v' w3 hown hgrew)
    have hb := hgrew.below ((Below.refl _ w).alloc (Nat.le_refl _) _)
    rw [Nat.zero_add, List.nil_append, ← intv_flat] at hown
    have hsl := own_slat hown (fun c hc => by obtain ⟨x, _, rfl⟩ := List.mem_map.1 hc; rfl) (by rw [intv_len]; exact Hn.out)
    exact bodyPost_ret (v := v') (by simp [results, Try.results52, go_sem]) rfl ⟨_, rfl, hb, hsl⟩
theorem prows_one {L : List PRow} (h : ∀ q ∈ L, ∀ v ∈ q.vals, v.oneCell' = true) : ∀ u ∈ prows L, u.oneCell' = true := by
  intro u hu
  unfold prows at hu
  simp only [List.mem_flatten, List.mem_map] at hu
  obtain ⟨_, ⟨v, hv, rfl⟩, hu⟩ := hu
  exact h v hv u hu
theorem vids_long {l : List Int} (h : vidsM l = true) : l.length ≤ 4094 := by
  unfold vidsM at h
  rw [List.all_eq_true] at h
  have key : ∀ i, i < l.length → (i : Int) + 1 ≤ l.getD i 0 := by
    intro i
    induction i with
    | zero =>
      intro hi
      have h1 := h 0 (List.mem_range.2 hi)
      unfold vidAt at h1
      simp only [Bool.and_eq_true, decide_eq_true_eq] at h1
      omega
    | succ i ih =>
      intro hi
      have h2 := ih (by omega)
      have h1 := h (i + 1) (List.mem_range.2 hi)
      unfold vidAt at h1
      simp only [Bool.and_eq_true, decide_eq_true_eq, Bool.or_eq_true, Nat.add_sub_cancel] at h1
      have := h1.2.2
      omega
  rcases Nat.eq_zero_or_pos l.length with h0 | h0
  · omega
  · have h2 := key (l.length - 1) (by omega)
    have h1 := h (l.length - 1) (List.mem_range.2 (by omega))
    unfold vidAt at h1
    simp only [Bool.and_eq_true, decide_eq_true_eq] at h1
    omega
theorem rightP_len {p : PSet} (h : rightP p = true) : p.ins.length ≤ 64 ∧ p.bare.length ≤ 4094 := by
  unfold rightP at h
  simp only [Bool.and_eq_true, decide_eq_true_eq] at h
  exact ⟨h.2.2.2.2.1, vids_long h.2.2.2.2.2.2.1⟩
def goodL (L : List PSet) : Bool := decide (L.length ≤ 8) && L.all rightP
/-- A bridge, or none. -/
def NewPost (w : World) (L : List PSet) (e : Ending) (w' : World) : Prop :=
  if goodL L = true then ∃ Bp T sv L', e = .returned (.tuple #[.pointer (some ⟨Bp, 0, none⟩), .nilIface]) ∧ L'.map PRow.p = L ∧ St w.heap.size w w' (brd Bp T 0 sv (.slice none 0 0) L' [] [])
  else ∃ t v, e = .returned (.tuple #[.pointer none, .iface t v]) ∧ Below w.heap.size w w'
/-- What the copying of a port's slices reads of it. -/
structure NewS (PP : Nat) (bv : Value) (w X : World) : Prop where
  fr : Fr [PP] w X
  b : X.cell? ⟨PP, 2, none⟩ = some bv
set_option maxRecDepth 100000 in
set_option maxHeartbeats 8000000 in
theorem new_any (L : List PRow) (v : Value) (w : World) (hv : SlAt w 4 v (L.map PRow.vals)) (hq : ∀ q ∈ L, q.In w) (hl : L.length ≤ 12) (hlen : ∀ q ∈ L, q.p.ins.length ≤ 9223372036854775807 ∧ q.p.bare.length ≤ 9223372036854775807) :
    Calls Try.prog 25 #[v, .int .i64 100] w (NewPost w (L.map PRow.p)) := by
  obtain ⟨A, cap, rfl, hc, hr⟩ := hv.row
  rw [List.length_map] at *
  have Hr := Lib.hid hr
  have Hq := Lib.hid hq
  have Hlen := Lib.hid hlen
  have HG : Hid (goodL (L.map PRow.p) = (decide (L.length ≤ 8) && (L.map PRow.p).all rightP)) := Lib.hid (by unfold goodL; rw [List.length_map])
  obtain ⟨n, hn⟩ : ∃ n, L.length = n := ⟨_, rfl⟩
  have Hn := Lib.hid hn
  rw [hn] at hl hc HG ⊢
  clear hr hq hlen hv hn
  have H1 := Lib.hid ((St.init w).alloc [.slice none 0 0, .pointer none] 96)
  go_enter Try.func25, Try.ntmps25
  by_cases h8 : 8 < n
  · have Hg : Hid (goodL (L.map PRow.p) = false) := Lib.hid (by rw [HG.out, decide_eq_false (by omega)]; rfl)
    go_wp2_with fail
    go_ret2
    unfold NewPost
    rw [if_neg (by rw [Hg.out]; simp)]
    exact ⟨_, _, rfl, Below.refl _ _⟩
  · have HG2 : Hid (goodL (L.map PRow.p) = (L.map PRow.p).all rightP) := Lib.hid (by rw [HG.out, decide_eq_true (by omega)]; rfl)
    clear HG
    go_upto_region 4 with (fail)
    generalize w.alloc (.cells #[.slice none 0 0, .pointer none] 96) = W1 at *
    go_wp2_with fail
    have h2 := (H1.out.add (k := subP []) (Below.refl _ _) (fun _ h => by cases h) (fun g hg => by cases hg)).add (k := ownI 44 4 (.slice none 0 0) 0 (prows [])) (Below.refl _ _) (ownI_nil _ _ _) (fun g hg => by cases hg)
    have H2 : Hid (St w.heap.size w W1 (bk w.heap.size 96 [.slice none 0 0, .pointer none] :: ownI 44 4 (.slice none 0 0) ([] : List PRow).length (prows []) :: subP [] :: [])) := Lib.hid (h2.pull 2 rfl)
    clear h2 H1
    go_loopw [7, 8, 19] (fun _ _ i wr => ∃ (k : Nat) (sv : Value) (K : List PRow), k ≤ n ∧ i = .int .i64 k ∧ Hid (K.map PRow.p = (L.map PRow.p).take k ∧ ((L.map PRow.p).take k).all rightP = true ∧ K.length = k) ∧ Hid (St w.heap.size w wr (bk w.heap.size 96 [sv, .pointer none] :: ownI 44 4 sv K.length (prows K) :: subP K :: []))) (fun _ _ i _ => n - (intOf i).toNat)
    case atStart => exact ⟨0, .slice none 0 0, [], by omega, rfl, Lib.hid ⟨rfl, rfl, rfl⟩, H2⟩
    case round =>
      clear H2
      obtain ⟨k, sv, Kp, hk, rfl, HK, HS⟩ := hrel
      by_cases hlk : k < n
      · have hkx : k < L.length := by rw [Hn.out]; exact hlk
        obtain ⟨g, o, rfl, hg, hcr⟩ := Hr.out (by rw [List.length_map]; omega)
        have hc1 := hcr k (by rw [List.length_map]; exact hkx)
        rw [List.getElem_map] at hc1
        have Hc1 := Lib.hid (rangeAt_below hc1 HS.out.below hg)
        have hqin := Hq.out _ (List.getElem_mem hkx)
        have hlen := Hlen.out _ (List.getElem_mem hkx)
        have htk : (L.map PRow.p).take (k + 1) = (L.map PRow.p).take k ++ [L[k].p] := by
          rw [List.take_succ_eq_append_getElem (by rw [List.length_map]; exact hkx), List.getElem_map]
        have hall : (L.map PRow.p).all rightP = true → rightP L[k].p = true := fun h => by
          rw [List.all_eq_true] at h
          exact h _ (List.mem_map.2 ⟨_, List.getElem_mem hkx, rfl⟩)
        have Hall := Lib.hid hall
        have Htk := Lib.hid htk
        clear hc1 hcr hall htk
        generalize L[k] = q at *
        have Hqin := Lib.hid hqin
        have Hq1 := Lib.hid (PRow.one hqin)
        clear hqin
        go_upto_region 7 with (first
          | ((with_reducible refine wpList_load_rng (ty := 44) (b := ?b1) (o := ?o1) (ds := ?ds1) q.vals ?hx1 ?hB1 ?hu1 ?hd1 ?hi1 ?hk1)
             case hx1 => rfl
             case hB1 => exact Hc1.out
             case hu1 => exact Try.underlying44
             case hd1 => rfl
             case hi1 => exact info44)
          | ((with_reducible refine wpList_store_blk (ty := 44) (b := ?b2) (o := ?o2) (t := 44) zPS q.vals ?hx2 ?hy2 ?hB2 ?ho2 ?hi2 ?h12 ?hk2)
             case hx2 => rfl
             case hy2 => rfl
             case hB2 => exact Blk.new wr zPS 44
             case ho2 => exact Nat.le_refl _
             case hi2 => exact info44
             case h12 => exact Hq1.out
             intro W5 hBW5 hoW5))
        obtain ⟨hb8, lPP⟩ := Only.fresh hoW5
        have h5 := HS.out.add (k := bk wr.heap.size 44 q.vals) hb8 hBW5 (fun g hg => by rw [List.mem_singleton.1 hg]; exact Nat.le_refl _)
        have H5 := Lib.hid h5
        clear h5 hBW5 hoW5 hb8 HS Hc1 lPP
        generalize wr.heap.size = PP at *
        have HRg : Hid (∀ X, Below w.heap.size w X → Calls Try.prog 27 #[.agg q.vals.toArray] X fun e w' => e = .returned (.bool (rightP q.p)) ∧ Below X.heap.size X w') := Lib.hid fun X hX => right_any q X (Hqin.out.below hX) (by omega) (by omega)
        cases hrt : rightP q.p
        · rw [hrt] at HRg
          have Hg : Hid (goodL (L.map PRow.p) = false) := Lib.hid (by
            rw [HG2.out]
            cases hx : (L.map PRow.p).all rightP
            · rfl
            · have := Hall.out hx; rw [hrt] at this; cases this)
          clear hrt
          go_wp2_with (first
            | ((with_reducible refine wpList_load_box (ty := 44) (b := ?b3) (ds := ?ds3) q.vals ?hx3 ?hB3 ?hu3 ?hd3 ?hi3 ?hk3)
               case hx3 => rfl
               case hB3 => exact (Blk.box (H5.out.at 0 rfl))
               case hu3 => exact Try.underlying44
               case hd3 => rfl
               case hi3 => exact info44)
            | ((with_reducible refine (HRg.out _ H5.out.below).mono ?_)
               rintro e w6 ⟨rfl, hb6⟩
               have H6 := Lib.hid (H5.out.ext hb6)
               clear hb6)
            )
          go_ret2
          unfold NewPost
          rw [if_neg (by rw [Hg.out]; simp)]
          exact ⟨_, _, rfl, H6.out.below.alloc H6.out.le _⟩
        · rw [hrt] at HRg
          have Hrt := Lib.hid hrt
          clear hrt
          go_upto_region 9 with (first
            | ((with_reducible refine wpList_load_box (ty := 44) (b := ?b5) (ds := ?ds5) q.vals ?hx5 ?hB5 ?hu5 ?hd5 ?hi5 ?hk5)
               case hx5 => rfl
               case hB5 => exact (Blk.box (H5.out.at 0 rfl))
               case hu5 => exact Try.underlying44
               case hd5 => rfl
               case hi5 => exact info44)
            | ((with_reducible refine (HRg.out _ H5.out.below).mono ?_)
               rintro e w6 ⟨rfl, hb6⟩
               have H6 := Lib.hid (H5.out.ext hb6)
               clear hb6 H5)
            )
          go_cut [] (fun wx => ∃ v1 v2, Hid (St w.heap.size w wx (bk PP 44 (PRow.vals ⟨q.p, v1, v2⟩) :: slI 1 v2 (intv q.p.bare) :: slI 1 v1 (intv q.p.ins) :: bk w.heap.size 96 [sv, .pointer none] :: ownI 44 4 sv Kp.length (prows Kp) :: subP Kp :: [])))
          case first =>
            have hPP : Blk w6 PP 44 q.vals := H6.out.at 0 rfl
            have hlr := rightP_len Hrt.out
            have c1 : w6.cell? ⟨PP, 1, none⟩ = some q.iv := hPP.box.cell 1
            have z1 : w6.frozen? ⟨PP, 1, none⟩ = false := hPP.box.frozen 1
            have hS0 : NewS PP q.bv w6 w6.drew := ⟨⟨rfl, rfl, rfl, Nat.le_refl _, fun _ _ _ => rfl⟩, hPP.box.cell 2⟩
            have cS : ∀ X, NewS PP q.bv w6 X → X.cell? ⟨PP, 2, none⟩ = some q.bv := fun X h => h.b
            have HCl : Hid (∀ X, Below w.heap.size w X → Calls Try.prog 52 #[q.iv] X fun e w' => ∃ v, e = .returned v ∧ Below X.heap.size X w' ∧ SlAt w' 1 v (intv q.p.ins) ∧ ∀ g ∈ blkOf v, X.heap.size ≤ g) := Lib.hid fun X hX => clone_int q.p.ins q.iv X (by omega) (Hqin.out.1.below hX)
            have HCm : Hid (∀ X, Below w.heap.size w X → Calls Try.prog 52 #[q.bv] X fun e w' => ∃ v, e = .returned v ∧ Below X.heap.size X w' ∧ SlAt w' 1 v (intv q.p.bare) ∧ ∀ g ∈ blkOf v, X.heap.size ≤ g) := Lib.hid fun X hX => clone_int q.p.bare q.bv X (by omega) (Hqin.out.2.below hX)
            clear hPP
            refine wp_region_last (NewS PP q.bv w6) 9 (by kernel_rfl) hS0 (fun hHeld => ?_)
            refine wpAnyG_take 0 (oi := ?o8) ?v8 ?hi8 (by kernel_rfl) (by kernel_rfl) (by decide) (by kernel_rfl) (by kernel_rfl) ?hq8 ?hg8 ?hy8 (by assumption) ?hk8
            case hi8 => (simp only [List.getElem?_toArray, List.getElem?_cons_succ, List.getElem?_cons_zero]; rfl)
            case hq8 => exact fun _ _ _ h => h
            case hg8 => rfl
            case hy8 => (intro X hX; go_simp; try with_reducible rfl)
            try simp only [Act.put, List.setIfInBounds_toArray, List.set_cons_zero, List.set_cons_succ]
            refine wpAnyG_take 3 (oi := ?o9) ?v9 ?hi9 (by kernel_rfl) (by kernel_rfl) (by decide) (by kernel_rfl) (by kernel_rfl) ?hq9 ?hg9 ?hy9 (by assumption) ?hk9
            case hi9 => (simp only [List.getElem?_toArray, List.getElem?_cons_succ, List.getElem?_cons_zero]; rfl)
            case hq9 => exact fun _ _ _ h => h
            case hg9 => rfl
            case hy9 => (intro X hX; go_simp; try with_reducible rfl)
            try simp only [Act.put, List.setIfInBounds_toArray, List.set_cons_zero, List.set_cons_succ]
            refine wpAnyG_take 4 (oi := ?o10) ?v10 ?hi10 (by kernel_rfl) (by kernel_rfl) (by decide) (by kernel_rfl) (by kernel_rfl) ?hq10 ?hg10 ?hy10 (by assumption) ?hk10
            case hi10 => (simp only [List.getElem?_toArray, List.getElem?_cons_succ, List.getElem?_cons_zero]; rfl)
            case hq10 => exact fun _ _ _ h => h
            case hg10 => rfl
            case hy10 => (intro X hX; go_simp; try with_reducible rfl)
            try simp only [Act.put, List.setIfInBounds_toArray, List.set_cons_zero, List.set_cons_succ]
            refine wpAnyG_one 1 (o := ?o11) (by kernel_rfl) ?hi11 ?hg11 ?hk11
            case hi11 => (simp only [List.getElem?_toArray, List.getElem?_cons_succ, List.getElem?_cons_zero]; rfl)
            case hg11 => rfl
            intro K hK
            go_simp
            refine hK.out _ _ (fun _ => hHeld) (fun _ => ?_)
            clear hK K
            try simp only [Act.put, List.setIfInBounds_toArray, List.set_cons_zero, List.set_cons_succ]
            refine wpAnyG_one 2 (o := ?o12) (by kernel_rfl) ?hi12 ?hg12 ?hk12
            case hi12 => (simp only [List.getElem?_toArray, List.getElem?_cons_succ, List.getElem?_cons_zero]; rfl)
            case hg12 => rfl
            intro K hK
            go_simp
            refine (HCl.out _ H6.out.drew.below).mono ?_
            rintro e w7 ⟨v1, rfl, hb7, hs7, hg7⟩
            have h7 := H6.out.drew.add (k := slI 1 v1 (intv q.p.ins)) hb7 hs7 hg7
            have hHeld' : NewS PP q.bv w6 w7 := ⟨hHeld.fr.ext hb7, (h7.at 1 rfl).box.cell 2⟩
            refine hK.out _ _ (fun _ => hHeld') (fun _ => ?_)
            have hHeld := hHeld'
            have H7 := Lib.hid h7
            have c17 : w7.cell? ⟨PP, 1, none⟩ = some q.iv := (h7.at 1 rfl).box.cell 1
            have z17 : w7.frozen? ⟨PP, 1, none⟩ = false := (h7.at 1 rfl).box.frozen 1
            clear hK K h7 hHeld' hb7 hs7 hg7 c1 z1 hS0
            try simp only [Act.put, List.setIfInBounds_toArray, List.set_cons_zero, List.set_cons_succ]
            refine wpAnyG_take 6 (oi := ?o14) ?v14 ?hi14 (by kernel_rfl) (by kernel_rfl) (by decide) (by kernel_rfl) (by kernel_rfl) ?hq14 ?hg14 ?hy14 (by assumption) ?hk14
            case hi14 => (simp only [List.getElem?_toArray, List.getElem?_cons_succ, List.getElem?_cons_zero]; rfl)
            case hq14 => exact fun _ _ _ h => h
            case hg14 => rfl
            case hy14 => (intro X hX; go_simp; try with_reducible rfl)
            try simp only [Act.put, List.setIfInBounds_toArray, List.set_cons_zero, List.set_cons_succ]
            obtain ⟨A1, k1, e1, _, _⟩ := (H7.out.item (k := slI 1 v1 (intv q.p.ins)) (List.mem_of_getElem? (i := 0) rfl) : SlAt w7 1 v1 (intv q.p.ins))
            subst e1
            refine wpAnyG_one 5 (o := ?o15) (by kernel_rfl) ?hi15 ?hg15 ?hk15
            case hi15 => (simp only [List.getElem?_toArray, List.getElem?_cons_succ, List.getElem?_cons_zero]; rfl)
            case hg15 => rfl
            intro K hK
            go_simp
            refine (HCm.out _ H7.out.below).mono ?_
            rintro e w8 ⟨v2, rfl, hb8, hs8, hg8⟩
            have h8 := H7.out.add (k := slI 1 v2 (intv q.p.bare)) hb8 hs8 hg8
            have hHeld' : NewS PP q.bv w6 w8 := ⟨hHeld.fr.ext hb8, (h8.at 2 rfl).box.cell 2⟩
            obtain ⟨A2, k2, e2, _, _⟩ := hs8
            subst e2
            refine hK.out _ _ (fun _ => hHeld') (fun _ => ?_)
            have hHeld := hHeld'
            have c18 : w8.cell? ⟨PP, 1, none⟩ = some q.iv := (h8.at 2 rfl).box.cell 1
            have z18 : w8.frozen? ⟨PP, 1, none⟩ = false := (h8.at 2 rfl).box.frozen 1
            have H8 := Lib.hid (h8.pull 2 rfl)
            clear hK K h8 hHeld' hb8 hg8 c17 z17
            try simp only [Act.put, List.setIfInBounds_toArray, List.set_cons_zero, List.set_cons_succ]
            refine wpAnyG_one 7 (o := ?o16) (by kernel_rfl) ?hi16 ?hg16 ?hk16
            case hi16 => (simp only [List.getElem?_toArray, List.getElem?_cons_succ, List.getElem?_cons_zero]; rfl)
            case hg16 => rfl
            intro K hK
            go_simp
            have h9 := H8.out.set 1 (.slice A1 (intv q.p.ins).length k1) (by simp [PRow.len])
            have hHeld' : NewS PP q.bv w6 _ := ⟨hHeld.fr.trans (Fr.setCell PP 1 (.slice A1 (intv q.p.ins).length k1) _ (List.mem_singleton.2 rfl)), (h9.head).box.cell 2⟩
            refine hK.out _ _ (fun _ => hHeld') (fun _ => ?_)
            have hHeld := hHeld'
            have H9 := Lib.hid h9
            clear hK K h9 hHeld' c18 z18 H8
            try simp only [Act.put, List.setIfInBounds_toArray, List.set_cons_zero, List.set_cons_succ]
            generalize World.setCell _ _ _ = w9 at *
            have c29 : w9.cell? ⟨PP, 2, none⟩ = some q.bv := (H9.out.at 0 rfl).box.cell 2
            have z29 : w9.frozen? ⟨PP, 2, none⟩ = false := (H9.out.at 0 rfl).box.frozen 2
            refine wpAnyG_take 8 (oi := ?o18) ?v18 ?hi18 (by kernel_rfl) (by kernel_rfl) (by decide) (by kernel_rfl) (by kernel_rfl) ?hq18 ?hg18 ?hy18 (by assumption) ?hk18
            case hi18 => (simp only [List.getElem?_toArray, List.getElem?_cons_succ, List.getElem?_cons_zero]; rfl)
            case hq18 => exact fun _ _ _ h => h
            case hg18 => rfl
            case hy18 => (intro X hX; go_simp; try with_reducible rfl)
            try simp only [Act.put, List.setIfInBounds_toArray, List.set_cons_zero, List.set_cons_succ]
            refine wpAnyG_one 9 (o := ?o19) (by kernel_rfl) ?hi19 ?hg19 ?hk19
            case hi19 => (simp only [List.getElem?_toArray, List.getElem?_cons_succ, List.getElem?_cons_zero]; rfl)
            case hg19 => rfl
            intro K hK
            go_simp
            refine hK.out _ _ (fun h => absurd rfl h) (fun _ => ?_)
            refine wpAnyG_done (by kernel_rfl) ?_ _
            have h10 := H9.out.set 2 (.slice A2 (intv q.p.bare).length k2) (by simp [PRow.len])
            have H10 := Lib.hid h10
            clear h10 hK K c29 z29
            go_wp2_with fail
            go_meet
            exact ⟨.slice A1 (intv q.p.ins).length k1, .slice A2 (intv q.p.bare).length k2, Lib.hid H10.out⟩
          case rest =>
            obtain ⟨v1, v2, H7⟩ := hcut
            clear H6 HRg Hq1 Hqin
            generalize wc = w7 at *
            go_upto_region 10 with (fail)
            have hS2 : SlAt w7 1 v2 (intv q.p.bare) := H7.out.item (k := slI 1 v2 (intv q.p.bare)) (List.mem_of_getElem? (i := 1) rfl)
            have hS1 : SlAt w7 1 v1 (intv q.p.ins) := H7.out.item (k := slI 1 v1 (intv q.p.ins)) (List.mem_of_getElem? (i := 2) rfl)
            have HQ1 := Lib.hid (PRow.one (q := ⟨q.p, v1, v2⟩) (w := w7) ⟨hS1, hS2⟩)
            obtain ⟨Ao, co, rfl⟩ := own_shape (H7.out.item (k := ownI 44 4 sv Kp.length (prows Kp)) (List.mem_of_getElem? (i := 4) rfl))
            have hPP : Blk w7 PP 44 (PRow.vals ⟨q.p, v1, v2⟩) := H7.out.at 0 rfl
            have hBp : Blk w7 w.heap.size 96 [.slice Ao Kp.length co, .pointer none] := H7.out.at 3 rfl
            have nPP : PP ∉ (Value.slice Ao Kp.length co).ownBlock.toList := H7.out.dis 0 4 (by decide) rfl rfl _ (List.mem_singleton.2 rfl)
            have nBp : w.heap.size ∉ (Value.slice Ao Kp.length co).ownBlock.toList := H7.out.dis 3 4 (by decide) rfl rfl _ (List.mem_singleton.2 rfl)
            have HO := Lib.hid (H7.out.item (k := ownI 44 4 (.slice Ao Kp.length co) Kp.length (prows Kp)) (List.mem_of_getElem? (i := 4) rfl))
            have hdr : Fr (Value.slice Ao Kp.length co).ownBlock.toList w7 w7.drew := ⟨rfl, rfl, rfl, Nat.le_refl _, fun _ _ _ => rfl⟩
            generalize hgs : (Value.slice Ao Kp.length co).ownBlock.toList = gs at *
            have Hgs := Lib.hid hgs
            have cP : Hid (∀ X, Fr gs w7 X → X.rangeAt PP 0 (PRow.vals ⟨q.p, v1, v2⟩)) := Lib.hid fun X hX => (hX.blk hPP nPP).box.range
            have cB : ∀ X, Fr gs w7 X → X.cell? ⟨w.heap.size, 0, none⟩ = some (.slice Ao Kp.length co) := fun X hX => (hX.blk hBp nBp).box.cell 0
            have zB : ∀ X, Fr gs w7 X → X.frozen? ⟨w.heap.size, 0, none⟩ = false := fun X hX => (hX.blk hBp nBp).box.frozen 0
            have hKl : Kp.length ≤ 12 := by have := HK.out.2.2; omega
            clear hPP hBp nPP nBp hgs hS1 hS2
            refine wp_region_last (fun X => Fr gs w7 X) 10 (by kernel_rfl) hdr (fun hHeld => ?_)
            refine wpAnyG_take 0 (oi := ?o21) ?v21 ?hi21 (by kernel_rfl) (by kernel_rfl) (by decide) (by kernel_rfl) (by kernel_rfl) ?hq21 ?hg21 ?hy21 (by assumption) ?hk21
            case hi21 => (simp only [List.getElem?_toArray, List.getElem?_cons_succ, List.getElem?_cons_zero]; rfl)
            case hq21 => exact fun _ _ _ h => h
            case hg21 => rfl
            case hy21 => (intro X hX; go_simp; try with_reducible rfl)
            try simp only [Act.put, List.setIfInBounds_toArray, List.set_cons_zero, List.set_cons_succ]
            refine wpAnyG_take 1 (oi := ?o22) ?v22 ?hi22 (by kernel_rfl) (by kernel_rfl) (by decide) (by kernel_rfl) (by kernel_rfl) ?hq22 ?hg22 ?hy22 (by assumption) ?hk22
            case hi22 => (simp only [List.getElem?_toArray, List.getElem?_cons_succ, List.getElem?_cons_zero]; rfl)
            case hq22 => exact fun _ _ _ h => h
            case hg22 => rfl
            case hy22 => (intro X hX; go_simp; try with_reducible rfl)
            try simp only [Act.put, List.setIfInBounds_toArray, List.set_cons_zero, List.set_cons_succ]
            refine wpAnyG_take 2 (oi := ?o23) ?v23 ?hi23 (by kernel_rfl) (by kernel_rfl) (by decide) (by kernel_rfl) (by kernel_rfl) ?hq23 ?hg23 ?hy23 (by assumption) ?hk23
            case hi23 => (simp only [List.getElem?_toArray, List.getElem?_cons_succ, List.getElem?_cons_zero]; rfl)
            case hq23 => exact fun _ _ _ h => h
            case hg23 => rfl
            case hy23 => (intro X hX; go_simp; try with_reducible rfl)
            try simp only [Act.put, List.setIfInBounds_toArray, List.set_cons_zero, List.set_cons_succ]
            refine wpAnyG_take 3 (oi := ?o24) ?v24 ?hi24 (by kernel_rfl) (by kernel_rfl) (by decide) (by kernel_rfl) (by kernel_rfl) ?hq24 ?hg24 ?hy24 (by assumption) ?hk24
            case hi24 => (simp only [List.getElem?_toArray, List.getElem?_cons_succ, List.getElem?_cons_zero]; rfl)
            case hq24 => exact fun _ _ _ h => h
            case hg24 => rfl
            case hy24 => (intro X hX; go_simp; try with_reducible rfl)
            try simp only [Act.put, List.setIfInBounds_toArray, List.set_cons_zero, List.set_cons_succ]
            refine wpAnyG_take 4 (oi := ?o25) ?v25 ?hi25 (by kernel_rfl) (by kernel_rfl) (by decide) (by kernel_rfl) (by kernel_rfl) ?hq25 ?hg25 ?hy25 (by assumption) ?hk25
            case hi25 => (simp only [List.getElem?_toArray, List.getElem?_cons_succ, List.getElem?_cons_zero]; rfl)
            case hq25 => exact fun _ _ _ h => h
            case hg25 => rfl
            case hy25 => (intro X hX; go_simp; try with_reducible rfl)
            try simp only [Act.put, List.setIfInBounds_toArray, List.set_cons_zero, List.set_cons_succ]
            refine wpAnyG_take 5 (oi := ?o26) (.agg ((PRow.vals ⟨q.p, v1, v2⟩)).toArray) ?hi26 (by kernel_rfl) (by kernel_rfl) (by decide) (by kernel_rfl) (by kernel_rfl) ?hq26 ?hg26 ?hy26 (by assumption) ?hk26
            case hi26 => (simp only [List.getElem?_toArray, List.getElem?_cons_succ, List.getElem?_cons_zero]; rfl)
            case hq26 => exact fun _ _ _ h => h
            case hg26 => rfl
            case hy26 => exact fun X hX => exec_load_rng (ty := 44) ((PRow.vals ⟨q.p, v1, v2⟩)) rfl (cP.out X hX) Try.underlying44 rfl info44
            try simp only [Act.put, List.setIfInBounds_toArray, List.set_cons_zero, List.set_cons_succ]
            refine wpAnyG_one 6 (o := ?o27) (by kernel_rfl) ?hi27 ?hg27 ?hk27
            case hi27 => (simp only [List.getElem?_toArray, List.getElem?_cons_succ, List.getElem?_cons_zero]; rfl)
            case hg27 => rfl
            intro K hK
            go_simp
            refine hK.out _ _ (fun _ => hHeld.ext ((Below.refl _ _).alloc (Nat.le_refl _) _)) (fun hH => ?_)
            have hHeld := hH (by decide)
            clear hK K hH
            try simp only [Act.put, List.setIfInBounds_toArray, List.set_cons_zero, List.set_cons_succ]
            refine wpAnyG_one 7 (o := ?o28) (by kernel_rfl) ?hi28 ?hg28 ?hk28
            case hi28 => (simp only [List.getElem?_toArray, List.getElem?_cons_succ, List.getElem?_cons_zero]; rfl)
            case hg28 => rfl
            intro K hK
            obtain ⟨ht0, i0, z0, hi0, hz0, hsz0, hby0, hzs0, hpos0⟩ := elemPSet
            refine wp_append_lies _ _ _ _ (by rfl) 0 44 i0 z0 4 64 ht0 hi0 hz0 hsz0 hby0 hzs0 hpos0 (.slice Ao Kp.length co) Kp.length (prows Kp) (by rfl) (own_below HO.out (((Below.refl _ _).drew).alloc (Nat.le_refl _) _) (Nat.le_refl _)) ⟨w7.heap.size, 0, none⟩ 1 1 (PRow.vals ⟨q.p, v1, v2⟩) (by rfl) rfl (World.news_of_block (heap_alloc_new w7.drew _)) HQ1.out (by omega) (by unfold maxLen; omega) (by omega) (Nat.zero_le _) _ rfl ?_
            intro g cap' w11 hown11 hgrow hat hlt
            have hf11 : Fr gs (w7.drew.alloc (.cells (PRow.vals ⟨q.p, v1, v2⟩).toArray 44)) w11 := ⟨hgrow.os, hgrow.tape, hgrow.output, hgrow.size, fun q hq hn => hgrow.block q hq (fun e => hn (by rw [← Hgs.out, ← e]; simp))⟩
            refine hK.out _ _ (fun _ => hHeld.trans hf11) (fun hH => ?_)
            have hHeld := hH (by decide)
            clear hK K hH
            try simp only [Act.put, List.setIfInBounds_toArray, List.set_cons_zero, List.set_cons_succ]
            refine wpAnyG_take 8 (oi := ?o30) ?v30 ?hi30 (by kernel_rfl) (by kernel_rfl) (by decide) (by kernel_rfl) (by kernel_rfl) ?hq30 ?hg30 ?hy30 (by assumption) ?hk30
            case hi30 => (simp only [List.getElem?_toArray, List.getElem?_cons_succ, List.getElem?_cons_zero]; rfl)
            case hq30 => exact fun _ _ _ h => h
            case hg30 => rfl
            case hy30 => (intro X hX; go_simp; try with_reducible rfl)
            try simp only [Act.put, List.setIfInBounds_toArray, List.set_cons_zero, List.set_cons_succ]
            refine wpAnyG_take 9 (oi := ?o31) ?v31 ?hi31 (by kernel_rfl) (by kernel_rfl) (by decide) (by kernel_rfl) (by kernel_rfl) ?hq31 ?hg31 ?hy31 (by assumption) ?hk31
            case hi31 => (simp only [List.getElem?_toArray, List.getElem?_cons_succ, List.getElem?_cons_zero]; rfl)
            case hq31 => exact fun _ _ _ h => h
            case hg31 => rfl
            case hy31 => (intro X hX; go_simp; try with_reducible rfl)
            try simp only [Act.put, List.setIfInBounds_toArray, List.set_cons_zero, List.set_cons_succ]
            have d6 := cB w11 hHeld
            have z6 := zB w11 hHeld
            refine wpAnyG_one 10 (o := ?o32) (by kernel_rfl) ?hi32 ?hg32 ?hk32
            case hi32 => (simp only [List.getElem?_toArray, List.getElem?_cons_succ, List.getElem?_cons_zero]; rfl)
            case hg32 => rfl
            intro K hK
            go_simp
            refine hK.out _ _ (fun h => absurd rfl h) (fun _ => ?_)
            refine wpAnyG_done (by kernel_rfl) ?_ _
            have hl' : (Kp ++ [(⟨q.p, v1, v2⟩ : PRow)]).length = Kp.length + 1 := by simp
            have hrow : w11.ownsRow 0 44 4 (.slice (some ⟨g, 0, none⟩) (Kp.length + 1) cap') (Kp ++ [(⟨q.p, v1, v2⟩ : PRow)]).length (prows (Kp ++ [(⟨q.p, v1, v2⟩ : PRow)])) := by
              rw [hl', prows_snoc]; exact hown11
            have h10 := (H7.out.drew.ext ((Below.refl _ _).alloc (Nat.le_refl _) (.cells (PRow.vals ⟨q.p, v1, v2⟩).toArray 44))).pull 4 rfl
            have h11 := h10.step (k' := ownI 44 4 (.slice (some ⟨g, 0, none⟩) (Kp.length + 1) cap') (Kp ++ [(⟨q.p, v1, v2⟩ : PRow)]).length (prows (Kp ++ [(⟨q.p, v1, v2⟩ : PRow)]))) (by
              have e : (ownI 44 4 (.slice Ao Kp.length co) Kp.length (prows Kp)).gs = gs := Hgs.out
              rw [e]; exact hf11) hrow (fun q hq => by
              have hq' : q = g := by
                have : q ∈ [g] := hq
                exact List.mem_singleton.1 this
              subst hq'
              rcases hat with h | h
              · left
                show q ∈ (Value.slice Ao Kp.length co).ownBlock.toList
                rw [h]; simp
              · right
                rw [h]; exact Nat.le_refl _)
            have h12 := (((h11.pull 4 rfl).set 0 (.slice (some ⟨g, 0, none⟩) (Kp.length + 1) cap') (by simp)).pull 3 rfl).pull 4 rfl
            have h13 := h12.join (z := allI [slI 1 v1 (intv q.p.ins), slI 1 v2 (intv q.p.bare)]) (fun k hk => by
              rcases List.mem_cons.1 hk with rfl | hk
              · exact h12.head
              · rw [List.mem_singleton.1 hk]; exact h12.tail.head) (fun g hg => by
              obtain ⟨k, hk, hg⟩ := List.mem_flatMap.1 hg
              rcases List.mem_cons.1 hk with rfl | hk
              · exact .inl hg
              · rw [List.mem_singleton.1 hk] at hg; exact .inr hg)
            have h14 := (h13.pull 4 rfl).join (z := subP (Kp ++ [(⟨q.p, v1, v2⟩ : PRow)])) (fun r hr => by
              rcases List.mem_append.1 hr with hr | hr
              · exact h13.item (k := subP Kp) (List.mem_of_getElem? (i := 4) rfl) r hr
              · rw [List.mem_singleton.1 hr]
                exact ⟨h13.head _ (List.mem_cons_self ..), h13.head _ (List.mem_cons_of_mem _ (List.mem_cons_self ..))⟩) (fun g hg => by
              obtain ⟨r, hr, hg⟩ := List.mem_flatMap.1 hg
              rcases List.mem_append.1 hr with hr | hr
              · left
                exact List.mem_flatMap.2 ⟨r, hr, hg⟩
              · right
                rw [List.mem_singleton.1 hr] at hg
                rcases List.mem_append.1 hg with hg | hg
                · exact List.mem_flatMap.2 ⟨slI 1 v1 (intv q.p.ins), List.mem_cons_self .., hg⟩
                · exact List.mem_flatMap.2 ⟨slI 1 v2 (intv q.p.bare), List.mem_cons_of_mem _ (List.mem_cons_self ..), hg⟩)
            have h15 := (((h14.pull 3 rfl).tail).pull 2 rfl).pull 2 rfl
            have H16 : Hid (St w.heap.size w _ (bk w.heap.size 96 [.slice (some ⟨g, 0, none⟩) (Kp.length + 1) cap', .pointer none] :: ownI 44 4 (.slice (some ⟨g, 0, none⟩) (Kp.length + 1) cap') (Kp ++ [(⟨q.p, v1, v2⟩ : PRow)]).length (prows (Kp ++ [(⟨q.p, v1, v2⟩ : PRow)])) :: subP (Kp ++ [(⟨q.p, v1, v2⟩ : PRow)]) :: [])) := Lib.hid h15
            have HK2 : Hid ((Kp ++ [(⟨q.p, v1, v2⟩ : PRow)]).map PRow.p = (L.map PRow.p).take (k + 1) ∧ ((L.map PRow.p).take (k + 1)).all rightP = true ∧ (Kp ++ [(⟨q.p, v1, v2⟩ : PRow)]).length = k + 1) := Lib.hid (by
              obtain ⟨e1, e2, e3⟩ := HK.out
              refine ⟨?_, ?_, ?_⟩
              · rw [List.map_append, e1, Htk.out]; rfl
              · rw [Htk.out, List.all_append, e2]; simp [Hrt.out]
              · rw [hl', e3])
            clear h10 h11 h12 h13 h14 h15 hK K hHeld hf11 hgrow hown11 hrow H7 HO cP cB zB hdr d6 z6 hl'
            generalize World.setCell _ _ _ = w12 at *
            go_wp2_with fail
            go_roundw
            case rel => exact ⟨k + 1, _, _, by omega, by go_num, HK2, H16⟩
            case measure => simp [intOf]; omega
      · obtain rfl : n = k := by omega
        have hK3 := HK.out
        rw [List.take_of_length_le (by rw [List.length_map, Hn.out]; exact Nat.le_refl _)] at hK3
        obtain ⟨hK1, hK2, _⟩ := hK3
        have Hg : Hid (goodL (L.map PRow.p) = true) := Lib.hid (by rw [HG2.out]; exact hK2)
        have HK1 := Lib.hid hK1
        clear hK1 hK2
        go_upto_region 15 with (first
          | ((with_reducible refine (newt_st HS.out 100 (by omega) (by omega)).mono ?_)
             rintro e w6 ⟨rfl, h6⟩
             have H6 := Lib.hid h6
             clear h6 HS)
          )
        generalize hT : wr.heap.size = T at *
        have c1 : w6.cell? ⟨w.heap.size, 1, none⟩ = some (.pointer none) := (H6.out.at 2 rfl).box.cell 1
        have z1 : w6.frozen? ⟨w.heap.size, 1, none⟩ = false := (H6.out.at 2 rfl).box.frozen 1
        go_upto_region 16 with (fail)
        have h7 := (H6.out.pull 2 rfl).set 1 (.pointer (some ⟨T, 0, none⟩)) (by simp)
        have H7 := Lib.hid h7
        clear h7 H6 c1 z1
        generalize World.setCell _ _ _ = w7 at *
        go_wp2_with fail
        go_ret2
        unfold NewPost
        rw [if_pos Hg.out]
        exact ⟨_, T, sv, Kp, rfl, HK1.out, H7.out⟩
end Go.Proofs.Ytoenlcmngdpkmaa
