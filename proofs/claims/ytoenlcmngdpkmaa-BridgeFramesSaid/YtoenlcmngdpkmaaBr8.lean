/- In: where a frame goes on. -/
import Derived.Test.YtoenlcmngdpkmaaBr7
namespace Go.Proofs.Ytoenlcmngdpkmaa
open Go.RowKit
/-- A frame that leaves, as it stands in memory. -/
structure SRow where
  i : Nat
  f : Fm
  tv : Value
def SRow.vals (r : SRow) : List Value := .int .i64 (r.i : Int) :: r.f.vals r.tv
theorem SRow.len (r : SRow) : r.vals.length = 22 := rfl
def SRow.res (r : SRow) : Nat × Fm := (r.i, r.f)
def srows (R : List SRow) : List Value := (R.map SRow.vals).flatten
theorem srows_len (R : List SRow) : (srows R).length = R.length * 22 := by
  unfold srows
  rw [flat_len (s := 22) (fun c hc => by obtain ⟨m, _, rfl⟩ := List.mem_map.1 hc; rfl), List.length_map]
theorem srows_snoc (R : List SRow) (r : SRow) : srows (R ++ [r]) = srows R ++ r.vals := by simp [srows]
theorem elemSent : ElemOk Try.prog 61 65 22 120 := by
  have h : (Try.prog.info? 65).map (fun i => (i.zero, i.size, i.bytes)) = some (some (.agg (.int .i64 0 :: zFm).toArray), 22, 120) := by kernel_rfl
  obtain ⟨i, hi, hz, hs, hb⟩ := info_parts h
  exact ⟨Try.underlying61, i, _, hi, hz, hs, hb, rfl, by decide⟩
theorem info65 : (Try.prog.info? 65).map (·.size) = some 22 := by kernel_rfl
/-- A row of one's own. -/
def ownI (t size : Nat) (sv : Value) (n : Nat) (xs : List Value) : It where
  gs := sv.ownBlock.toList
  P w := w.ownsRow 0 t size sv n xs
  lt w h g hg := (h.lt g (by simpa [eq_comm] using hg)).2
  loc w W h hs hp := by
    refine ⟨hp.1, ?_⟩
    rcases hp.2 with h' | ⟨g, cap, cur, e1, e2, hh, r⟩
    · exact .inl h'
    · exact .inr ⟨g, cap, cur, e1, e2, (h g (by rw [e1]; simp [Value.ownBlock])).trans hh, r⟩
theorem ownI_nil (w : World) (t size : Nat) : (ownI t size (.slice none 0 0) 0 []).P w := ⟨by simp, .inl ⟨rfl, rfl⟩⟩
/-- The tags of frames that leave. -/
def tagsI (R : List SRow) : It where
  gs := R.flatMap fun r => blkOf r.tv
  P w := ∀ r ∈ R, SlAt w 4 r.tv (tagv r.f.tags)
  lt w h g hg := by
    obtain ⟨q, hq, hg⟩ := List.mem_flatMap.1 hg
    exact (h q hq).lt g hg
  loc w W h hs hp := fun q hq => (hp q hq).loc (fun g hg => h g (List.mem_flatMap.2 ⟨q, hq, hg⟩)) hs
/-- The slices of ports. -/
def subP (L : List PRow) : It where
  gs := L.flatMap fun q => blkOf q.iv ++ blkOf q.bv
  P w := ∀ q ∈ L, q.In w
  lt w h g hg := by
    obtain ⟨q, hq, hg⟩ := List.mem_flatMap.1 hg
    rcases List.mem_append.1 hg with hg | hg
    · exact (h q hq).1.lt g hg
    · exact (h q hq).2.lt g hg
  loc w W h hs hp := fun q hq => ⟨(hp q hq).1.loc (fun g hg => h g (List.mem_flatMap.2 ⟨q, hq, List.mem_append_left _ hg⟩)) hs, (hp q hq).2.loc (fun g hg => h g (List.mem_flatMap.2 ⟨q, hq, List.mem_append_right _ hg⟩)) hs⟩
theorem Fr.mono {gs hs : List Nat} {w W : World} (h : Fr gs w W) (hg : ∀ g ∈ gs, g ∈ hs) : Fr hs w W := ⟨h.os, h.tape, h.output, h.size, fun k hk hn => h.block k hk (fun e => hn (hg k e))⟩
/-- Two items as one. -/
theorem St.join {B : Nat} {w0 w : World} {A : List It} {x y z : It} (h : St B w0 w (x :: y :: A)) (hz : z.P w) (hg : ∀ g ∈ z.gs, g ∈ x.gs ∨ g ∈ y.gs) : St B w0 w (z :: A) := by
  have h1 := List.pairwise_cons.1 h.apart
  have h2 := List.pairwise_cons.1 h1.2
  refine ⟨h.below, h.base, fun k hk => ?_, fun k hk g hgk => ?_, List.pairwise_cons.2 ⟨fun k hk g hgz hgk => ?_, h2.2⟩⟩
  · rcases List.mem_cons.1 hk with rfl | hk
    · exact hz
    · exact h.own k (List.mem_cons_of_mem _ (List.mem_cons_of_mem _ hk))
  · rcases List.mem_cons.1 hk with rfl | hk
    · rcases hg g hgk with h3 | h3
      · exact h.low x (List.mem_cons_self ..) g h3
      · exact h.low y (List.mem_cons_of_mem _ (List.mem_cons_self ..)) g h3
    · exact h.low k (List.mem_cons_of_mem _ (List.mem_cons_of_mem _ hk)) g hgk
  · rcases hg g hgz with h3 | h3
    · exact h1.1 k (List.mem_cons_of_mem _ hk) g h3 hgk
    · exact h2.1 k hk g h3 hgk
/-- A bridge's items. -/
def brd (Bp T : Nat) (now : Int) (sv tv : Value) (L : List PRow) (es : List Ent) (A : List It) : List It :=
  bk Bp 96 [sv, .pointer (some ⟨T, 0, none⟩)] :: bk T 86 [.int .i64 100, .int .i64 now, tv] :: rowI tv es :: ownI 44 4 sv L.length (prows L) :: subP L :: A
theorem brd_under (Bp T : Nat) (now : Int) (sv tv : Value) (L : List PRow) (es : List Ent) (X A : List It) : (X ++ brd Bp T now sv tv L es A).Perm (brd Bp T now sv tv L es (X ++ A)) := by
  have h : brd Bp T now sv tv L es A = brd Bp T now sv tv L es [] ++ A := rfl
  have h2 : brd Bp T now sv tv L es (X ++ A) = brd Bp T now sv tv L es [] ++ (X ++ A) := rfl
  rw [h, h2, ← List.append_assoc, ← List.append_assoc]
  exact (List.perm_append_comm).append_right A
structure FmOk (f : Fm) : Prop where
  one : f.tags.length ≤ 1
  tags : ∀ t ∈ f.tags, TagOk t
  body : f.body.length ≤ 100
  src : f.src.a.toNat % 2 ≠ 1
section
variable {B : Nat} {w0 w : World} {A : List It}
theorem St.ports {Bp T : Nat} {now : Int} {sv tv : Value} {L : List PRow} {es : List Ent} (H : St B w0 w (brd Bp T now sv tv L es A)) : PortsIn w Bp T sv L :=
  ⟨H.at 0 rfl, H.item (k := ownI 44 4 sv L.length (prows L)) (List.mem_of_getElem? (i := 3) rfl), H.item (k := subP L) (List.mem_of_getElem? (i := 4) rfl)⟩
theorem St.tabIn {Bp T : Nat} {now : Int} {sv tv : Value} {L : List PRow} {es : List Ent} (H : St B w0 w (brd Bp T now sv tv L es A)) : TabIn w 0 T 100 now tv es :=
  ⟨H.at 1 rfl, H.item (k := rowI tv es) (List.mem_of_getElem? (i := 2) rfl)⟩
/-- A table has learned. -/
theorem learn_brd {Bp T : Nat} {now : Int} {sv tv : Value} {L : List PRow} {es : List Ent} (H : St B w0 w (brd Bp T now sv tv L es A)) (hok : TabOk es now) (hn0 : 0 ≤ now) (vid : Int) (a : Ad) (port t : Int)
    (hg : a.a.toNat % 2 ≠ 1) (hv1 : 1 ≤ vid) (hv2 : vid ≤ 4094) (hp1 : 0 ≤ port) (hp2 : port ≤ 7) (ht1 : t ≤ 1099511627776) (hto : now ≤ t) :
    Calls Try.prog 20 #[.pointer (some ⟨T, 0, none⟩), .int .i64 vid, .agg a.vals.toArray, .int .i64 port, .int .i64 t] w fun e w' => e = .returned .nilIface ∧ ∃ tv', St B w0 w' (brd Bp T t sv tv' L (learnM es vid a port t 100) A) := by
  have h1 := (H.pull 2 rfl).pull 2 rfl
  refine (learn_st h1 hok.len vid a port t (fun e he => ⟨(hok.time e he).1, by have := (hok.time e he).2; omega⟩) hg hv1 hv2 hp1 hp2 (by omega) ht1 hto).mono ?_
  rintro e w1 ⟨rfl, tv', h2⟩
  exact ⟨rfl, tv', (h2.pull 2 rfl)⟩
theorem look_brd {Bp T : Nat} {now : Int} {sv tv : Value} {L : List PRow} {es : List Ent} (H : St B w0 w (brd Bp T now sv tv L es A)) (hok : TabOk es now) (vid : Int) (a : Ad) (t : Int) (hnow : now ≤ 1099511627776) (ht0 : 0 ≤ t) (ht1 : t ≤ 1099511627776) :
    Calls Try.prog 17 #[.pointer (some ⟨T, 0, none⟩), .int .i64 vid, .agg a.vals.toArray, .int .i64 t] w fun e w' => e = .returned (.int .i64 (lookM es vid a t 100)) ∧ Below w.heap.size w w' :=
  look_any es T 0 100 now tv vid a t w H.tabIn hok.len (fun e he => ⟨(hok.time e he).1, Int.le_trans (hok.time e he).2 hnow⟩) ht0 ht1
theorem PortsIn.rowAt {Bp T gp n cp : Nat} {L : List PRow} (h : PortsIn w Bp T (.slice (some ⟨gp, 0, none⟩) n cp) L) (h0 : 0 < L.length) : gp < w.heap.size ∧ ∀ k (hk : k < L.length), w.rangeAt gp (k * 4) L[k].vals := by
  obtain ⟨Ap, c, e, _, hr⟩ := h.rows
  obtain ⟨g, e1, lg, hk⟩ := hr h0
  injection e with e2 e3 e4
  rw [e1] at e2
  injection e2 with e2
  injection e2 with e2
  subst e2
  exact ⟨lg, hk⟩
theorem heard {p : PSet} {port : Nat} {f : Fm} {t now : Int} {es : List Ent} {L : List PSet} (h : hearsM p f = false) (K : List Ent) : tabM p port f t (es, now) = (es, now) ∧ inM L p port f t K = [] := by
  constructor
  · unfold tabM; rw [h]; rfl
  · unfold inM; rw [h]; rfl
theorem in_none {Bp T : Nat} {now : Int} {sv tv : Value} {L : List PRow} {es : List Ent} {x y : It} (H : St B w0 w (x :: y :: brd Bp T now sv tv L es A)) : St B w0 w (ownI 65 22 (.slice none 0 0) 0 [] :: tagsI [] :: brd Bp T now sv tv L es A) :=
  ((H.tail.tail).add (k := tagsI []) (Below.refl _ _) (fun _ h => by cases h) (fun g hg => by cases hg)).add (k := ownI 65 22 (.slice none 0 0) 0 []) (Below.refl _ _) (ownI_nil _ _ _) (fun g hg => by cases hg)
theorem heard1 {p : PSet} {port : Nat} {f : Fm} {t now : Int} {es : List Ent} (h : hearsM p f = true) : tabM p port f t (es, now) = (learnM es (vidM p f.tags) f.src port t 100, t) := by
  unfold tabM; rw [h]; rfl
theorem inM_pass {p : PSet} {port : Nat} {f : Fm} {t : Int} {L : List PSet} (h : hearsM p f = true) (h3 : p.state = 3) (K : List Ent) : inM L p port f t K = outFrom f (vidM p f.tags) port (onlyM p f t K) 0 L := by
  unfold inM; rw [h, h3]; rfl
theorem inM_not {p : PSet} {port : Nat} {f : Fm} {t : Int} {L : List PSet} (h3 : p.state ≠ 3) (K : List Ent) : inM L p port f t K = [] := by
  unfold inM; rw [decide_eq_false h3]; simp
/-- What Learn's call reads of it. -/
structure InS (Bp T PF : Nat) (c : List Value) (X : World) : Prop where
  p : X.cell? ⟨Bp, 1, none⟩ = some (.pointer (some ⟨T, 0, none⟩))
  r : X.rangeAt PF 6 c
theorem SRow.one (r : SRow) (h : r.tv.oneCell' = true) : ∀ v ∈ r.vals, v.oneCell' = true := fun v hv => by
  rcases List.mem_cons.1 hv with rfl | hv
  · rfl
  · exact Fm.one r.f h v hv
theorem slat_one' {s : Nat} {sv : Value} {C : List (List Value)} (h : SlAt w s sv C) : sv.oneCell' = true := by
  obtain ⟨A, c, e, _⟩ := h
  rw [e]; rfl
theorem fm_dst {g : Nat} {f : Fm} {tv : Value} (h : Box w g (f.vals tv)) : w.rangeAt g 0 f.dst.vals := rng_left h.range
theorem fm_src {g : Nat} {f : Fm} {tv : Value} (h : Box w g (f.vals tv)) : w.rangeAt g 6 f.src.vals := rng_left (rng_right (a := f.dst.vals) h.range)
theorem in_s {Bp T PP PF : Nat} {now : Int} {sv tv tgv : Value} {L : List PRow} {es : List Ent} {f : Fm} {t' : Nat} {V : List Value} (H : St B w0 w (brd Bp T now sv tv L es (bk PP t' V :: bk PF 58 (f.vals tgv) :: A))) : InS Bp T PF f.src.vals w :=
  ⟨(H.at 0 rfl).box.cell 1, fm_src (H.at 6 rfl).box⟩
set_option maxRecDepth 100000 in
set_option maxHeartbeats 8000000 in
theorem in_st {Bp T : Nat} {now : Int} {sv tv tgv : Value} {L : List PRow} {es : List Ent} {f : Fm} (H : St B w0 w (brd Bp T now sv tv L es (slI 4 tgv (tagv f.tags) :: A))) (port : Nat) (hp : port < L.length) (h8 : L.length ≤ 8) (hL : ∀ q ∈ L, PortOk q.p)
    (hok : TabOk es now) (hn0 : 0 ≤ now) (t : Int) (hto : now ≤ t) (ht1 : t ≤ 1099511627776) (hf : FmOk f) (hbare : ∀ q ∈ L, q.p.bare.length ≤ 9223372036854775807) :
    Calls Try.prog 33 #[.pointer (some ⟨Bp, 0, none⟩), .int .i64 (port : Int), .agg (f.vals tgv).toArray, .int .i64 t] w fun e w' => ∃ ov R tv', e = .returned (.tuple #[ov, .nilIface]) ∧ R.map SRow.res = inM (L.map (·.p)) L[port].p port f t (tabM L[port].p port f t (es, now)).1 ∧
      St B w0 w' (ownI 65 22 ov R.length (srows R) :: tagsI R :: brd Bp T (tabM L[port].p port f t (es, now)).2 sv tv' L (tabM L[port].p port f t (es, now)).1 (slI 4 tgv (tagv f.tags) :: A)) := by
  have h1 := H.alloc (f.vals tgv) 58
  have H1 := Lib.hid h1
  clear h1 H
  obtain ⟨Ap, cp, e, hcap, hr⟩ := H1.out.tail.ports.rows
  obtain ⟨gp, e1, lgp, hk⟩ := hr (by omega)
  subst e
  subst e1
  have HK := Lib.hid hk
  have HL := Lib.hid hL
  have Hf := Lib.hid hf
  have Hok := Lib.hid hok
  have Hbare := Lib.hid hbare
  have hq1 : Hid (L[port].p.ins.length ≤ 9223372036854775807) := Lib.hid (by have := (hL _ (List.getElem_mem hp)).few; omega)
  have HFR : Hid (∀ W X : World, Below W.heap.size W X → (slI 4 tgv (tagv f.tags)).P X → Calls Try.prog 41 #[.agg (f.vals tgv).toArray] X fun e w' => e = .returned (.bool true) ∧ Below X.heap.size X w') := Lib.hid fun W X _ hs => fright_any f tgv X hf.one hf.tags hf.body hs
  have hpn : ¬ L.length ≤ port := by omega
  have hp0 : decide ((port : Int) < 0) = false := decide_eq_false (by omega)
  have cB : (w.alloc (.cells (f.vals tgv).toArray 58)).cell? ⟨Bp, 0, none⟩ = some (.slice (some ⟨gp, 0, none⟩) L.length cp) := (H1.out.at 1 rfl).box.cell 0
  have lB := (H1.out.at 1 rfl).lt
  clear hk hr hL hf hok hbare
  go_enter Try.func33, Try.ntmps33
  go_upto_region 1 with (fail)
  generalize w.alloc (.cells (f.vals tgv).toArray 58) = W1 at *
  generalize w.heap.size = PF at *
  go_upto_region 5 with (first
    | ((with_reducible refine wpList_load_box (ty := 58) (b := ?b1) (ds := ?ds1) (f.vals tgv) ?hx1 ?hB1 ?hu1 ?hd1 ?hi1 ?hk1)
       case hx1 => rfl
       case hB1 => exact (Blk.box (H1.out.at 0 rfl))
       case hu1 => exact Try.underlying58
       case hd1 => rfl
       case hi1 => exact info58)
    | ((with_reducible refine (HFR.out W1 _ (Below.refl _ _) (H1.out.item (List.mem_of_getElem? (i := 6) rfl))).mono ?_)
       rintro e w2 ⟨rfl, hb2⟩
       have H2 := Lib.hid (H1.out.ext hb2)
       have cB2 := laterc cB hb2 lB
       have lB2 := Nat.lt_of_lt_of_le lB hb2.size
       have lgp2 := Nat.lt_of_lt_of_le lgp hb2.size
       have HR2 := Lib.hid (rangeAt_below (HK.out port hp) hb2 lgp)
       have HK2 : Hid (∀ (k : Nat) (hk : k < L.length), w2.rangeAt gp (k * 4) L[k].vals) := Lib.hid (fun k hk => rangeAt_below (HK.out k hk) hb2 lgp)
       clear hb2)
    )
  have hqin : L[port].In w2 := H2.out.tail.ports.row.2 _ (List.getElem_mem hp)
  have Hq1 := Lib.hid (PRow.one hqin)
  clear hqin cB H1 HK
  go_upto_region 6 with (first
    | ((with_reducible refine wpList_load_rng (ty := 44) (b := ?b3) (o := ?o3) (ds := ?ds3) L[port].vals ?hx3 ?hB3 ?hu3 ?hd3 ?hi3 ?hk3)
       case hx3 => rfl
       case hB3 => exact HR2.out
       case hu3 => exact Try.underlying44
       case hd3 => rfl
       case hi3 => exact info44)
    | ((with_reducible refine wpList_store_blk (ty := 44) (b := ?b4) (o := ?o4) (t := 44) zPS L[port].vals ?hx4 ?hy4 ?hB4 ?ho4 ?hi4 ?h14 ?hk4)
       case hx4 => rfl
       case hy4 => rfl
       case hB4 => exact Blk.new w2 zPS 44
       case ho4 => exact Nat.le_refl _
       case hi4 => exact info44
       case h14 => exact Hq1.out
       intro W4 hBW4 hoW4))
  obtain ⟨hb8, lP⟩ := Only.fresh hoW4
  have h4 := H2.out.add (k := bk w2.heap.size 44 L[port].vals) hb8 hBW4 (fun g hg => by rw [List.mem_singleton.1 hg]; exact Nat.le_refl _)
  have HK4 : Hid (∀ (k : Nat) (hk : k < L.length), W4.rangeAt gp (k * 4) L[k].vals) := Lib.hid (fun k hk => rangeAt_below (HK2.out k hk) hb8 lgp2)
  have lgp4 := Nat.lt_of_lt_of_le lgp2 hb8.size
  have H4 := Lib.hid h4
  clear h4 hBW4 hoW4 hb8 HR2 HK2 lgp2 cB2 lB2 H2 Hq1
  generalize w2.heap.size = PP at *
  have HV : Hid (∀ X, St B w0 X (bk PP 44 L[port].vals :: bk PF 58 (f.vals tgv) :: brd Bp T now (.slice (some ⟨gp, 0, none⟩) L.length cp) tv L es (slI 4 tgv (tagv f.tags) :: A)) → Calls Try.prog 32 #[.pointer (some ⟨Bp, 0, none⟩), .int .i64 (port : Int), .agg (f.vals tgv).toArray] X fun e w' => e = .returned (.int .i64 (vidM L[port].p f.tags)) ∧ Below X.heap.size X w') :=
    Lib.hid fun X hX => vid_any port hp f tgv X hX.tail.tail.ports (hX.item (k := slI 4 tgv (tagv f.tags)) (List.mem_of_getElem? (i := 7) rfl)) (by omega) hq1.out
  go_upto_region 7 with (first
    | ((with_reducible refine wpList_load_box (ty := 58) (b := ?b5) (ds := ?ds5) (f.vals tgv) ?hx5 ?hB5 ?hu5 ?hd5 ?hi5 ?hk5)
       case hx5 => rfl
       case hB5 => exact (Blk.box (H4.out.at 1 rfl))
       case hu5 => exact Try.underlying58
       case hd5 => rfl
       case hi5 => exact info58)
    | ((with_reducible refine (HV.out _ H4.out).mono ?_)
       rintro e w5 ⟨rfl, hb5⟩
       have H5 := Lib.hid (H4.out.ext hb5)
       have HK5 : Hid (∀ (k : Nat) (hk : k < L.length), w5.rangeAt gp (k * 4) L[k].vals) := Lib.hid (fun k hk => rangeAt_below (HK4.out k hk) hb5 lgp4)
       have lgp5 := Nat.lt_of_lt_of_le lgp4 hb5.size
       clear hb5 H4 HK4 lgp4)
    )
  have HR : Hid (vidM L[port].p f.tags = 0 ∨ (1 ≤ vidM L[port].p f.tags ∧ vidM L[port].p f.tags ≤ 4094)) := Lib.hid (by
    rcases vidM_range (HL.out _ (List.getElem_mem hp)) f.tags with h | h
    · exact .inl h
    · exact .inr ⟨h.1, h.2.1⟩)
  have HH : Hid (hearsM L[port].p f = (!decide (L[port].p.state = 1) && (!decide (vidM L[port].p f.tags = 0) && !resM f.dst))) := Lib.hid rfl
  have x3 : w5.cell? ⟨PP, 3, none⟩ = some (.int .i64 L[port].p.state) := (H5.out.at 0 rfl).box.cell 3
  have k0 : w5.cell? ⟨PF, 0, none⟩ = some (.int .u8 (f.dst.a.toNat : Int)) := (H5.out.at 1 rfl).box.cell 0
  have k1 : w5.cell? ⟨PF, 1, none⟩ = some (.int .u8 (f.dst.b.toNat : Int)) := (H5.out.at 1 rfl).box.cell 1
  have k2 : w5.cell? ⟨PF, 2, none⟩ = some (.int .u8 (f.dst.c.toNat : Int)) := (H5.out.at 1 rfl).box.cell 2
  have k3 : w5.cell? ⟨PF, 3, none⟩ = some (.int .u8 (f.dst.d.toNat : Int)) := (H5.out.at 1 rfl).box.cell 3
  have k4 : w5.cell? ⟨PF, 4, none⟩ = some (.int .u8 (f.dst.e.toNat : Int)) := (H5.out.at 1 rfl).box.cell 4
  have k5 : w5.cell? ⟨PF, 5, none⟩ = some (.int .u8 (f.dst.f.toNat : Int)) := (H5.out.at 1 rfl).box.cell 5
  have HRs : Hid (∀ W, Calls Try.prog 56 #[.agg #[.int .u8 (f.dst.a.toNat : Int), .int .u8 (f.dst.b.toNat : Int), .int .u8 (f.dst.c.toNat : Int), .int .u8 (f.dst.d.toNat : Int), .int .u8 (f.dst.e.toNat : Int), .int .u8 (f.dst.f.toNat : Int)]] W fun e w' => e = .returned (.int .i64 (resV f.dst)) ∧ Below W.heap.size W w') := Lib.hid fun W => reserved_any f.dst W
  have HRV : Hid (resM f.dst = decide (0 ≤ resV f.dst)) := Lib.hid (by
    unfold resV
    cases resM f.dst
    · rfl
    · simp)
  have hrv : resV f.dst = -1 ∨ 0 ≤ resV f.dst := by
    unfold resV
    split
    · right; omega
    · left; rfl
  generalize hvid : vidM L[port].p f.tags = vid at *
  have Hvid := Lib.hid hvid
  have hfin : ∀ X, hearsM L[port].p f = false → St B w0 X (bk PP 44 L[port].vals :: bk PF 58 (f.vals tgv) :: brd Bp T now (.slice (some ⟨gp, 0, none⟩) L.length cp) tv L es (slI 4 tgv (tagv f.tags) :: A)) → ∃ ov R tv', (Ending.returned (.tuple #[.slice none 0 0, .nilIface]) = .returned (.tuple #[ov, .nilIface])) ∧ R.map SRow.res = inM (L.map (·.p)) L[port].p port f t (tabM L[port].p port f t (es, now)).1 ∧
      St B w0 X (ownI 65 22 ov R.length (srows R) :: tagsI R :: brd Bp T (tabM L[port].p port f t (es, now)).2 (.slice (some ⟨gp, 0, none⟩) L.length cp) tv' L (tabM L[port].p port f t (es, now)).1 (slI 4 tgv (tagv f.tags) :: A)) := fun X hh hX => by
    obtain ⟨h1, h2⟩ := heard (port := port) (t := t) (now := now) (es := es) (L := L.map (·.p)) hh (tabM L[port].p port f t (es, now)).1
    refine ⟨.slice none 0 0, [], tv, rfl, h2.symm, ?_⟩
    rw [h1]
    exact in_none hX
  have HFin := Lib.hid hfin
  clear hvid hfin
  by_cases hs1 : L[port].p.state = 1
  · have hh : Hid (hearsM L[port].p f = false) := Lib.hid (by rw [HH.out, hs1]; rfl)
    clear HH
    generalize L[port].p.state = st at *
    go_wp2_with fail
    go_ret2
    exact HFin.out _ hh.out H5.out
  by_cases hv0 : vid = 0
  · have hh : Hid (hearsM L[port].p f = false) := Lib.hid (by rw [HH.out, hv0]; simp)
    have hs1' : (L[port].p.state == 1) = false := beq_eq_false_iff_ne.2 hs1
    clear HH hs1
    generalize L[port].p.state = st at *
    go_wp2_with fail
    go_ret2
    exact HFin.out _ hh.out H5.out
  have hs1' : (L[port].p.state == 1) = false := beq_eq_false_iff_ne.2 hs1
  have hv0' : (vid == 0) = false := beq_eq_false_iff_ne.2 hv0
  have Hs1 := Lib.hid hs1
  clear hs1
  by_cases hrs : 0 ≤ resV f.dst
  · have hh : Hid (hearsM L[port].p f = false) := Lib.hid (by rw [HH.out, HRV.out, decide_eq_true hrs]; simp)
    clear HH HRV
    generalize resV f.dst = rv at *
    generalize L[port].p.state = st at *
    go_wp2_with (first
      | ((with_reducible refine (HRs.out _).mono ?_)
         rintro e w6 ⟨rfl, hb6⟩
         skip)
      )
    go_ret2
    exact HFin.out _ hh.out (H5.out.ext hb6)
  have hh : Hid (hearsM L[port].p f = true) := Lib.hid (by rw [HH.out, HRV.out, decide_eq_false hrs]; simp [Hs1.out, hv0])
  have hrv1 : resV f.dst = -1 := by omega
  have hv1 : 1 ≤ vid := by have := HR.out; omega
  have hv2 : vid ≤ 4094 := by have := HR.out; omega
  rw [hrv1] at HRs
  clear HH HRV hrs hrv HFin HV
  have HGS : Hid (∀ W, Calls Try.prog 46 #[.agg f.src.vals.toArray] W fun e w' => e = .returned (.bool false) ∧ Below W.heap.size W w') := Lib.hid fun W => by
    have := group_any f.src W
    rw [decide_eq_false Hf.out.src] at this
    exact this
  go_upto_region 10 with (first
    | ((with_reducible refine (HRs.out _).mono ?_)
       rintro e w6 ⟨rfl, hb6⟩
       have H6 := Lib.hid (H5.out.ext hb6)
       have HS6 := Lib.hid (fm_src (H6.out.at 1 rfl).box)
       clear hb6 k0 k1 k2 k3 k4 k5)
    | ((with_reducible refine wpList_load_rng (ty := 30) (b := ?b9) (o := ?o9) (ds := ?ds9) f.src.vals ?hx9 ?hB9 ?hu9 ?hd9 ?hi9 ?hk9)
       case hx9 => rfl
       case hB9 => exact HS6.out
       case hu9 => exact Try.underlying30
       case hd9 => rfl
       case hi9 => exact info30)
    | ((with_reducible refine (HGS.out _).mono ?_)
       rintro e w7 ⟨rfl, hb7⟩
       have H7 := Lib.hid (H6.out.ext hb7)
       clear hb7 H6 HS6)
    )
  have h8' := (H7.out.perm (brd_under Bp T now (.slice (some ⟨gp, 0, none⟩) L.length cp) tv L es [bk PP 44 L[port].vals, bk PF 58 (f.vals tgv)] _)).drew
  have H8 : Hid (St B w0 w7.drew (brd Bp T now (.slice (some ⟨gp, 0, none⟩) L.length cp) tv L es (bk PP 44 L[port].vals :: bk PF 58 (f.vals tgv) :: slI 4 tgv (tagv f.tags) :: A))) := Lib.hid h8'
  have cT : ∀ X, InS Bp T PF f.src.vals X → X.cell? ⟨Bp, 1, none⟩ = some (.pointer (some ⟨T, 0, none⟩)) := fun X h => h.p
  have cR : Hid (∀ X, InS Bp T PF f.src.vals X → X.rangeAt PF 6 f.src.vals) := Lib.hid fun X h => h.r
  clear h8' H5 H7 HK5 lgp5 x3 lP lB lgp HRs HGS
  refine wp_region_last (InS Bp T PF f.src.vals) 10 (by kernel_rfl) (in_s H8.out) (fun hHeld => ?_)
  refine wpAnyG_take 0 (oi := ?o12) ?v12 ?hi12 (by kernel_rfl) (by kernel_rfl) (by decide) (by kernel_rfl) (by kernel_rfl) ?hq12 ?hg12 ?hy12 (by assumption) ?hk12
  case hi12 => (simp only [List.getElem?_toArray, List.getElem?_cons_succ, List.getElem?_cons_zero]; rfl)
  case hq12 => exact fun _ _ _ h => h
  case hg12 => rfl
  case hy12 => (intro X hX; go_simp; try with_reducible rfl)
  try simp only [Act.put, List.setIfInBounds_toArray, List.set_cons_zero, List.set_cons_succ]
  refine wpAnyG_take 1 (oi := ?o13) ?v13 ?hi13 (by kernel_rfl) (by kernel_rfl) (by decide) (by kernel_rfl) (by kernel_rfl) ?hq13 ?hg13 ?hy13 (by assumption) ?hk13
  case hi13 => (simp only [List.getElem?_toArray, List.getElem?_cons_succ, List.getElem?_cons_zero]; rfl)
  case hq13 => exact fun _ _ _ h => h
  case hg13 => rfl
  case hy13 => (intro X hX; go_simp; try with_reducible rfl)
  try simp only [Act.put, List.setIfInBounds_toArray, List.set_cons_zero, List.set_cons_succ]
  refine wpAnyG_take 2 (oi := ?o14) ?v14 ?hi14 (by kernel_rfl) (by kernel_rfl) (by decide) (by kernel_rfl) (by kernel_rfl) ?hq14 ?hg14 ?hy14 (by assumption) ?hk14
  case hi14 => (simp only [List.getElem?_toArray, List.getElem?_cons_succ, List.getElem?_cons_zero]; rfl)
  case hq14 => exact fun _ _ _ h => h
  case hg14 => rfl
  case hy14 => (intro X hX; go_simp; try with_reducible rfl)
  try simp only [Act.put, List.setIfInBounds_toArray, List.set_cons_zero, List.set_cons_succ]
  refine wpAnyG_take 3 (oi := ?o15) ?v15 ?hi15 (by kernel_rfl) (by kernel_rfl) (by decide) (by kernel_rfl) (by kernel_rfl) ?hq15 ?hg15 ?hy15 (by assumption) ?hk15
  case hi15 => (simp only [List.getElem?_toArray, List.getElem?_cons_succ, List.getElem?_cons_zero]; rfl)
  case hq15 => exact fun _ _ _ h => h
  case hg15 => rfl
  case hy15 => (intro X hX; go_simp; try with_reducible rfl)
  try simp only [Act.put, List.setIfInBounds_toArray, List.set_cons_zero, List.set_cons_succ]
  refine wpAnyG_take 4 (oi := ?o16) ?v16 ?hi16 (by kernel_rfl) (by kernel_rfl) (by decide) (by kernel_rfl) (by kernel_rfl) ?hq16 ?hg16 ?hy16 (by assumption) ?hk16
  case hi16 => (simp only [List.getElem?_toArray, List.getElem?_cons_succ, List.getElem?_cons_zero]; rfl)
  case hq16 => exact fun _ _ _ h => h
  case hg16 => rfl
  case hy16 => (intro X hX; go_simp; try with_reducible rfl)
  try simp only [Act.put, List.setIfInBounds_toArray, List.set_cons_zero, List.set_cons_succ]
  refine wpAnyG_take 5 (oi := ?o17) ?v17 ?hi17 (by kernel_rfl) (by kernel_rfl) (by decide) (by kernel_rfl) (by kernel_rfl) ?hq17 ?hg17 ?hy17 (by assumption) ?hk17
  case hi17 => (simp only [List.getElem?_toArray, List.getElem?_cons_succ, List.getElem?_cons_zero]; rfl)
  case hq17 => exact fun _ _ _ h => h
  case hg17 => rfl
  case hy17 => (intro X hX; go_simp; try with_reducible rfl)
  try simp only [Act.put, List.setIfInBounds_toArray, List.set_cons_zero, List.set_cons_succ]
  refine wpAnyG_take 6 (oi := ?o18) (.agg (f.src.vals).toArray) ?hi18 (by kernel_rfl) (by kernel_rfl) (by decide) (by kernel_rfl) (by kernel_rfl) ?hq18 ?hg18 ?hy18 (by assumption) ?hk18
  case hi18 => (simp only [List.getElem?_toArray, List.getElem?_cons_succ, List.getElem?_cons_zero]; rfl)
  case hq18 => exact fun _ _ _ h => h
  case hg18 => rfl
  case hy18 => exact fun X hX => exec_load_rng (ty := 30) (f.src.vals) rfl (cR.out X hX) Try.underlying30 rfl info30
  try simp only [Act.put, List.setIfInBounds_toArray, List.set_cons_zero, List.set_cons_succ]
  refine wpAnyG_take 7 (oi := ?o20) ?v20 ?hi20 (by kernel_rfl) (by kernel_rfl) (by decide) (by kernel_rfl) (by kernel_rfl) ?hq20 ?hg20 ?hy20 (by assumption) ?hk20
  case hi20 => (simp only [List.getElem?_toArray, List.getElem?_cons_succ, List.getElem?_cons_zero]; rfl)
  case hq20 => exact fun _ _ _ h => h
  case hg20 => rfl
  case hy20 => (intro X hX; go_simp; try with_reducible rfl)
  try simp only [Act.put, List.setIfInBounds_toArray, List.set_cons_zero, List.set_cons_succ]
  refine wpAnyG_take 8 (oi := ?o21) ?v21 ?hi21 (by kernel_rfl) (by kernel_rfl) (by decide) (by kernel_rfl) (by kernel_rfl) ?hq21 ?hg21 ?hy21 (by assumption) ?hk21
  case hi21 => (simp only [List.getElem?_toArray, List.getElem?_cons_succ, List.getElem?_cons_zero]; rfl)
  case hq21 => exact fun _ _ _ h => h
  case hg21 => rfl
  case hy21 => (intro X hX; go_simp; try with_reducible rfl)
  try simp only [Act.put, List.setIfInBounds_toArray, List.set_cons_zero, List.set_cons_succ]
  refine wpAnyG_one 9 (o := ?o22) (by kernel_rfl) ?hi22 ?hg22 ?hk22
  case hi22 => (simp only [List.getElem?_toArray, List.getElem?_cons_succ, List.getElem?_cons_zero]; rfl)
  case hg22 => rfl
  intro K hK
  go_simp
  refine (learn_brd H8.out Hok.out hn0 vid f.src port t Hf.out.src hv1 hv2 (by omega) (by omega) ht1 hto).mono ?_
  rintro e w9 ⟨rfl, tv9, h9⟩
  refine hK.out _ _ (fun _ => in_s h9) (fun _ => ?_)
  have H9 := Lib.hid h9
  have hHeld := in_s h9
  clear hK K h9 H8
  try simp only [Act.put, List.setIfInBounds_toArray, List.set_cons_zero, List.set_cons_succ]
  refine wpAnyG_one 10 (o := ?o23) (by kernel_rfl) ?hi23 ?hg23 ?hk23
  case hi23 => (simp only [List.getElem?_toArray, List.getElem?_cons_succ, List.getElem?_cons_zero]; rfl)
  case hg23 => rfl
  intro K hK
  go_simp
  refine hK.out _ _ (fun h => absurd rfl h) (fun _ => ?_)
  refine wpAnyG_done (by kernel_rfl) ?_ _
  clear hK K cT cR hHeld
  have htab : tabM L[port].p port f t (es, now) = (learnM es vid f.src port t 100, t) := by rw [heard1 hh.out, Hvid.out]
  have HTab := Lib.hid htab
  have Hok2 := Lib.hid (learn_ok Hok.out vid f.src port t 100 (by omega) (by omega) hto (by omega))
  clear htab Hok
  generalize learnM es vid f.src port t 100 = es2 at *
  have x3 : w9.cell? ⟨PP, 3, none⟩ = some (.int .i64 L[port].p.state) := (H9.out.at 5 rfl).box.cell 3
  by_cases hs3 : L[port].p.state = 3
  · have Hin : Hid (∀ K, inM (L.map (·.p)) L[port].p port f t K = outFrom f vid port (onlyM L[port].p f t K) 0 (L.map (·.p))) := Lib.hid fun K => by rw [inM_pass hh.out hs3 K, Hvid.out]
    have HO1 : Hid (manyM f.dst = true → onlyM L[port].p f t es2 = -1) := Lib.hid fun h => by unfold onlyM; rw [h]; rfl
    have HO2 : Hid (manyM f.dst = false → onlyM L[port].p f t es2 = lookM es2 vid f.dst t 100) := Lib.hid fun h => by unfold onlyM; rw [h, Hvid.out]; rfl
    have hOn : onlyM L[port].p f t es2 = onlyM L[port].p f t es2 := rfl
    generalize hon : onlyM L[port].p f t es2 = only at *
    have Hon := Lib.hid hon
    have HG2 : Hid (∀ W, Calls Try.prog 46 #[.agg f.dst.vals.toArray] W fun e w' => e = .returned (.bool (manyM f.dst)) ∧ Below W.heap.size W w') := Lib.hid fun W => group_any f.dst W
    have HLk : Hid (∀ X, St B w0 X (brd Bp T t (.slice (some ⟨gp, 0, none⟩) L.length cp) tv9 L es2 (bk PP 44 L[port].vals :: bk PF 58 (f.vals tgv) :: slI 4 tgv (tagv f.tags) :: A)) → Calls Try.prog 17 #[.pointer (some ⟨T, 0, none⟩), .int .i64 vid, .agg f.dst.vals.toArray, .int .i64 t] X fun e w' => e = .returned (.int .i64 (lookM es2 vid f.dst t 100)) ∧ Below X.heap.size X w') :=
      Lib.hid fun X hX => look_brd hX Hok2.out vid f.dst t (by omega) (by omega) (by omega)
    have HD9 := Lib.hid (fm_dst (H9.out.at 6 rfl).box)
    have Hs3 : Hid (L[port].p.state = 3) := Lib.hid hs3
    rw [hs3] at x3
    clear hOn hon hs3 hs1'
    generalize hmany : manyM f.dst = many at *
    clear hmany
    go_upto_if 80 with (first
      | ((with_reducible refine wpList_load_rng (ty := 30) (b := ?b24) (o := ?o24) (ds := ?ds24) f.dst.vals ?hx24 ?hB24 ?hu24 ?hd24 ?hi24 ?hk24)
         case hx24 => rfl
         case hB24 => exact HD9.out
         case hu24 => exact Try.underlying30
         case hd24 => rfl
         case hi24 => exact info30)
      | ((with_reducible refine (HG2.out _).mono ?_)
         rintro e w10 ⟨rfl, hb10⟩
         have H10 := Lib.hid (H9.out.ext hb10)
         clear hb10 H9 x3 HD9)
      )
    go_cut [13] (fun o wx => o = .int .i64 only ∧ Hid (St B w0 wx (brd Bp T t (.slice (some ⟨gp, 0, none⟩) L.length cp) tv9 L es2 (bk PP 44 L[port].vals :: bk PF 58 (f.vals tgv) :: slI 4 tgv (tagv f.tags) :: A))))
    case first =>
      cases many
      · have ho := HO2.out rfl
        have cT2 : w10.cell? ⟨Bp, 1, none⟩ = some (.pointer (some ⟨T, 0, none⟩)) := (H10.out.at 0 rfl).box.cell 1
        have lT2 := (H10.out.at 0 rfl).lt
        have HD10 := Lib.hid (fm_dst (H10.out.at 6 rfl).box)
        have lF2 := (H10.out.at 6 rfl).lt
        rw [← ho] at HLk
        have HLx : Hid (∀ x : Ext w10, Calls Try.prog 17 #[.pointer (some ⟨T, 0, none⟩), .int .i64 vid, .agg f.dst.vals.toArray, .int .i64 t] x.val fun e w' => e = .returned (.int .i64 only) ∧ Below x.val.heap.size x.val w') := Lib.hid fun x => HLk.out _ (H10.out.ext x.below)
        clear ho HLk
        go_upto_region 17 with (fail)
        refine wp_region_ext (by kernel_rfl) (by kernel_rfl) ?_
        repeat (go_big_quiet_step (fail))
        go_big_quiet_want
        with_reducible refine quiet_load_rng (b := ?b26) (off := ?o26) (ds := ?ds26) f.dst.vals ?hx26 ?hr26 ?hu26 ?hd26 ?hi26 ?hk26
        case hx26 => rfl
        case hr26 => rintro _ ⟨y, rfl⟩; exact rangeAt_below HD10.out y.below lF2
        case hu26 => exact Try.underlying30
        case hd26 => rfl
        case hi26 => exact info30
        go_simp
        go_big_quiet_on
        repeat (go_big_quiet_step ((go_at_call 17; exact Calls.ext _ (HLx.out _))))
        refine wpQuiet_nil ?_
        rintro w11 ⟨⟨_, hb11⟩, rfl⟩
        try simp only [] at *
        have H11 := Lib.hid (H10.out.ext hb11)
        go_wp2_with fail
        go_meet
        exact ⟨rfl, H11⟩
      · have Ho := Lib.hid (HO1.out rfl)
        go_wp2_with fail
        go_meet
        exact ⟨by rw [Ho.out], H10⟩
    case rest =>
      obtain ⟨rfl, H11⟩ := hcut
      clear HO1 HO2 HG2 HLk H10
      generalize wc = w11 at *
      have cB11 : w11.cell? ⟨Bp, 0, none⟩ = some (.slice (some ⟨gp, 0, none⟩) L.length cp) := (H11.out.at 0 rfl).box.cell 0
      have h12 := (H11.out.add (k := tagsI []) (Below.refl _ _) (fun _ h => by cases h) (fun g hg => by cases hg)).add (k := ownI 65 22 (.slice none 0 0) 0 []) (Below.refl _ _) (ownI_nil _ _ _) (fun g hg => by cases hg)
      have H12 := Lib.hid h12
      clear h12 H11
      have Hps : Hid ((L.map (·.p)).length = L.length) := Lib.hid (by rw [List.length_map])
      obtain ⟨n, hn⟩ : ∃ n, L.length = n := ⟨_, rfl⟩
      have Hn := Lib.hid hn
      rw [hn] at hp h8 hcap hpn cB11
      go_wp2_with fail
      clear cB11
      go_loopw [14, 15, 16, 95] (fun out _ _ i wr => ∃ (k : Nat) (R : List SRow), k ≤ n ∧ i = .int .i64 k ∧ Hid (R.map SRow.res = outFrom f vid port only 0 ((L.map (·.p)).take k)) ∧ Hid (St B w0 wr (ownI 65 22 out R.length (srows R) :: tagsI R :: brd Bp T t (.slice (some ⟨gp, 0, none⟩) L.length cp) tv9 L es2 (bk PP 44 L[port].vals :: bk PF 58 (f.vals tgv) :: slI 4 tgv (tagv f.tags) :: A)))) (fun _ _ _ i _ => n - (intOf i).toNat)
      case atStart => exact ⟨0, [], by omega, rfl, Lib.hid rfl, H12⟩
      case round =>
        clear H12
        obtain ⟨k, R, hk, rfl, HRs, HR⟩ := hrel
        by_cases hlk : k < n
        · have hkx : k < L.length := by rw [Hn.out]; exact hlk
          obtain ⟨lgr, hrow⟩ := (HR.out.tail.tail.ports).rowAt (by omega)
          have hqin : L[k].In wr := HR.out.tail.tail.ports.row.2 _ (List.getElem_mem hkx)
          have Hq1 := Lib.hid (PRow.one hqin)
          have Hrow := Lib.hid (hrow k hkx)
          have hnx := outFrom_take (f := f) (vid := vid) (port := port) (only := only) (l := L.map (·.p)) (k := k) (by rw [List.length_map]; exact hkx)
          rw [List.getElem_map] at hnx
          have hqi := (HL.out _ (List.getElem_mem hkx)).few
          have hqb := Hbare.out _ (List.getElem_mem hkx)
          have hmem := List.getElem_mem hkx
          clear hqin hrow
          generalize L[k] = q at *
          have HNx := Lib.hid hnx
          have HMem := Lib.hid hmem
          clear hnx hmem
          go_upto_region 22 with (first
            | ((with_reducible refine wpList_load_rng (ty := 44) (b := ?b27) (o := ?o27) (ds := ?ds27) q.vals ?hx27 ?hB27 ?hu27 ?hd27 ?hi27 ?hk27)
               case hx27 => rfl
               case hB27 => exact Hrow.out
               case hu27 => exact Try.underlying44
               case hd27 => rfl
               case hi27 => exact info44)
            | ((with_reducible refine wpList_store_blk (ty := 44) (b := ?b28) (o := ?o28) (t := 44) zPS q.vals ?hx28 ?hy28 ?hB28 ?ho28 ?hi28 ?h128 ?hk28)
               case hx28 => rfl
               case hy28 => rfl
               case hB28 => exact Blk.new wr zPS 44
               case ho28 => exact Nat.le_refl _
               case hi28 => exact info44
               case h128 => exact Hq1.out
               intro W5 hBW5 hoW5))
          obtain ⟨hb8, lPQ⟩ := Only.fresh hoW5
          have h5 := HR.out.add (k := bk wr.heap.size 44 q.vals) hb8 hBW5 (fun g hg => by rw [List.mem_singleton.1 hg]; exact Nat.le_refl _)
          have H5 := Lib.hid h5
          clear h5 hBW5 hoW5 hb8 HR Hrow lPQ lgr
          generalize wr.heap.size = PQ at *
          have HC : Hid (∀ X, St B w0 X (bk PQ 44 q.vals :: ownI 65 22 u14 R.length (srows R) :: tagsI R :: brd Bp T t (.slice (some ⟨gp, 0, none⟩) L.length cp) tv9 L es2 (bk PP 44 L[port].vals :: bk PF 58 (f.vals tgv) :: slI 4 tgv (tagv f.tags) :: A)) → Calls Try.prog 34 #[q.iv, .int .i64 vid] X fun e w' => e = .returned (.bool (decide (vid ∈ q.p.ins))) ∧ Below X.heap.size X w') :=
            Lib.hid fun X hX => has_int _ vid _ X (by omega) (hX.tail.tail.tail.ports.row.2 q HMem.out).1
          have HG : Hid (goesM vid port only q.p k = (!decide (k = port) && (decide (q.p.state = 3) && (decide (vid ∈ q.p.ins) && (decide (only < 0) || decide (only = (k : Int))))))) := Lib.hid rfl
          have y3 : W5.cell? ⟨PQ, 3, none⟩ = some (.int .i64 q.p.state) := (H5.out.at 0 rfl).box.cell 3
          have y1 : W5.cell? ⟨PQ, 1, none⟩ = some q.iv := (H5.out.at 0 rfl).box.cell 1
          generalize hg : goesM vid port only q.p k = g at *
          clear hg
          go_cut [122] (fun c wx => c = .bool g ∧ Hid (St B w0 wx (bk PQ 44 q.vals :: ownI 65 22 u14 R.length (srows R) :: tagsI R :: brd Bp T t (.slice (some ⟨gp, 0, none⟩) L.length cp) tv9 L es2 (bk PP 44 L[port].vals :: bk PF 58 (f.vals tgv) :: slI 4 tgv (tagv f.tags) :: A))))
          case first =>
            clear HNx HRs
            by_cases hkp : k = port
            · have Hf : Hid (g = false) := Lib.hid (by rw [HG.out, decide_eq_true hkp]; rfl)
              have hkp' : ((k : Int) == (port : Int)) = true := beq_iff_eq.2 (by omega)
              have hkp2 : (k : Int) = (port : Int) := by omega
              clear hkp
              go_wp2_with fail
              go_meet
              exact ⟨by first | (rw [Hf.out]; done) | (rw [Hf.out]; simp [*]), H5⟩
            have hne : ((k : Int) != (port : Int)) = true := bne_iff_ne.2 (by omega)
            by_cases hst : q.p.state = 3
            · have hdn : decide (k = port) = false := decide_eq_false hkp
              have HG3 : Hid (g = (decide (vid ∈ q.p.ins) && (decide (only < 0) || decide (only = (k : Int))))) := Lib.hid (by rw [HG.out, hdn, hst]; simp)
              rw [hst] at y3
              clear HG hst hdn
              generalize decide (vid ∈ q.p.ins) = b at *
              cases b
              · go_wp2_with (first
                  | ((with_reducible refine (HC.out _ H5.out).mono ?_)
                     rintro e w6 ⟨rfl, hb6⟩
                     have H6 := Lib.hid (H5.out.ext hb6)
                     clear hb6)
                  )
                go_meet
                exact ⟨by first | (rw [HG3.out]; done) | (rw [HG3.out]; simp [*]), H6⟩
              · by_cases ho0 : only < 0
                · have Hf : Hid (g = true) := Lib.hid (by rw [HG3.out, decide_eq_true ho0]; rfl)
                  go_wp2_with (first
                    | ((with_reducible refine (HC.out _ H5.out).mono ?_)
                       rintro e w6 ⟨rfl, hb6⟩
                       have H6 := Lib.hid (H5.out.ext hb6)
                       clear hb6)
                    )
                  go_meet
                  exact ⟨by first | (rw [Hf.out]; done) | (rw [Hf.out]; simp [*]), H6⟩
                · by_cases hok : only = (k : Int)
                  · have Hf : Hid (g = true) := Lib.hid (by rw [HG3.out, decide_eq_true hok]; simp)
                    have hok' : (only == (k : Int)) = true := beq_iff_eq.2 hok
                    have Hok := Lib.hid hok
                    clear hok
                    go_wp2_with (first
                      | ((with_reducible refine (HC.out _ H5.out).mono ?_)
                         rintro e w6 ⟨rfl, hb6⟩
                         have H6 := Lib.hid (H5.out.ext hb6)
                         clear hb6)
                      )
                    go_meet
                    exact ⟨by first | (rw [Hf.out]; done) | (rw [Hf.out]; simp [*]), H6⟩
                  · have Hf : Hid (g = false) := Lib.hid (by rw [HG3.out, decide_eq_false hok, decide_eq_false ho0]; rfl)
                    have hok' : (only == (k : Int)) = false := beq_eq_false_iff_ne.2 hok
                    go_wp2_with (first
                      | ((with_reducible refine (HC.out _ H5.out).mono ?_)
                         rintro e w6 ⟨rfl, hb6⟩
                         have H6 := Lib.hid (H5.out.ext hb6)
                         clear hb6)
                      )
                    go_meet
                    exact ⟨by first | (rw [Hf.out]; done) | (rw [Hf.out]; simp [*]), H6⟩
            · have Hf : Hid (g = false) := Lib.hid (by rw [HG.out, decide_eq_false hst]; simp)
              have hst' : (q.p.state == 3) = false := beq_eq_false_iff_ne.2 hst
              clear hst
              generalize q.p.state = st at *
              go_wp2_with fail
              go_meet
              exact ⟨by first | (rw [Hf.out]; done) | (rw [Hf.out]; simp [*]), H5⟩
          case rest =>
            obtain ⟨rfl, H6⟩ := hcut
            clear y1 y3 H5 HG
            generalize wc = W6 at *
            cases g
            · have hnx := HNx.out
              have hnx2 : R.map SRow.res = outFrom f vid port only 0 ((L.map (·.p)).take (k + 1)) := by rw [hnx]; simp [HRs.out]
              have HN2 := Lib.hid hnx2
              clear hnx hnx2
              go_wp2_with fail
              go_roundw
              case rel => exact ⟨k + 1, R, by omega, by go_num, HN2, Lib.hid H6.out.tail⟩
              case measure => simp [intOf]; omega
            · obtain ⟨Ao, co, rfl⟩ := own_shape (H6.out.item (k := ownI 65 22 u14 R.length (srows R)) (List.mem_of_getElem? (i := 1) rfl))
              have hnx := HNx.out
              have hnx2 : ∀ tv8, (R ++ [(⟨k, leaveM f vid (decide (vid ∈ q.p.bare)), tv8⟩ : SRow)]).map SRow.res = outFrom f vid port only 0 ((L.map (·.p)).take (k + 1)) := fun tv8 => by
                rw [hnx, if_pos rfl, List.map_append, HRs.out]; rfl
              have hRk : R.length ≤ k := by
                have h1 := congrArg List.length HRs.out
                have h2 := outFrom_len f vid port only ((L.map (·.p)).take k) 0
                rw [List.length_map] at h1
                have h3 := List.length_take_le k (L.map (·.p))
                omega
              have HN2 := Lib.hid hnx2
              have HB : Hid (∀ X, (subP L).P X → Calls Try.prog 34 #[q.bv, .int .i64 vid] X fun e w' => e = .returned (.bool (decide (vid ∈ q.p.bare))) ∧ Below X.heap.size X w') :=
                Lib.hid fun X hX => has_int _ vid _ X hqb (hX q HMem.out).2
              clear hnx hnx2 HNx HRs HC hqi hqb Hq1
              go_upto_region 23 with (fail)
              have hPF : Blk W6 PF 58 (f.vals tgv) := H6.out.at 9 rfl
              have hPQ : Blk W6 PQ 44 q.vals := H6.out.at 0 rfl
              have nPF : PF ∉ (Value.slice Ao R.length co).ownBlock.toList := fun h => H6.out.dis 1 9 (by decide) rfl rfl PF h (List.mem_singleton.2 rfl)
              have nPQ : PQ ∉ (Value.slice Ao R.length co).ownBlock.toList := H6.out.dis 0 1 (by decide) rfl rfl _ (List.mem_singleton.2 rfl)
              have HO := Lib.hid (H6.out.item (k := ownI 65 22 (.slice Ao R.length co) R.length (srows R)) (List.mem_of_getElem? (i := 1) rfl))
              have hdr : Fr (Value.slice Ao R.length co).ownBlock.toList W6 W6.drew := ⟨rfl, rfl, rfl, Nat.le_refl _, fun _ _ _ => rfl⟩
              generalize hgs : (Value.slice Ao R.length co).ownBlock.toList = gs at *
              have Hgs := Lib.hid hgs
              have cF : Hid (∀ X, Fr gs W6 X → X.rangeAt PF 0 (f.vals tgv)) := Lib.hid fun X hX => (hX.blk hPF nPF).box.range
              have cQ : ∀ X, Fr gs W6 X → X.cell? ⟨PQ, 2, none⟩ = some q.bv := fun X hX => (hX.blk hPQ nPQ).box.cell 2
              clear hPF hPQ nPF nPQ hgs
              refine wp_region_last (fun X => Fr gs W6 X) 12 (by kernel_rfl) hdr (fun hHeld => ?_)
              refine wpAnyG_take 0 (oi := ?o34) ?v34 ?hi34 (by kernel_rfl) (by kernel_rfl) (by decide) (by kernel_rfl) (by kernel_rfl) ?hq34 ?hg34 ?hy34 (by assumption) ?hk34
              case hi34 => (simp only [List.getElem?_toArray, List.getElem?_cons_succ, List.getElem?_cons_zero]; rfl)
              case hq34 => exact fun _ _ _ h => h
              case hg34 => rfl
              case hy34 => (intro X hX; go_simp; try with_reducible rfl)
              try simp only [Act.put, List.setIfInBounds_toArray, List.set_cons_zero, List.set_cons_succ]
              refine wpAnyG_take 1 (oi := ?o35) ?v35 ?hi35 (by kernel_rfl) (by kernel_rfl) (by decide) (by kernel_rfl) (by kernel_rfl) ?hq35 ?hg35 ?hy35 (by assumption) ?hk35
              case hi35 => (simp only [List.getElem?_toArray, List.getElem?_cons_succ, List.getElem?_cons_zero]; rfl)
              case hq35 => exact fun _ _ _ h => h
              case hg35 => rfl
              case hy35 => (intro X hX; go_simp; try with_reducible rfl)
              try simp only [Act.put, List.setIfInBounds_toArray, List.set_cons_zero, List.set_cons_succ]
              refine wpAnyG_take 2 (oi := ?o36) (.agg ((f.vals tgv)).toArray) ?hi36 (by kernel_rfl) (by kernel_rfl) (by decide) (by kernel_rfl) (by kernel_rfl) ?hq36 ?hg36 ?hy36 (by assumption) ?hk36
              case hi36 => (simp only [List.getElem?_toArray, List.getElem?_cons_succ, List.getElem?_cons_zero]; rfl)
              case hq36 => exact fun _ _ _ h => h
              case hg36 => rfl
              case hy36 => exact fun X hX => exec_load_rng (ty := 58) ((f.vals tgv)) rfl (cF.out X hX) Try.underlying58 rfl info58
              try simp only [Act.put, List.setIfInBounds_toArray, List.set_cons_zero, List.set_cons_succ]
              refine wpAnyG_take 3 (oi := ?o38) ?v38 ?hi38 (by kernel_rfl) (by kernel_rfl) (by decide) (by kernel_rfl) (by kernel_rfl) ?hq38 ?hg38 ?hy38 (by assumption) ?hk38
              case hi38 => (simp only [List.getElem?_toArray, List.getElem?_cons_succ, List.getElem?_cons_zero]; rfl)
              case hq38 => exact fun _ _ _ h => h
              case hg38 => rfl
              case hy38 => (intro X hX; go_simp; try with_reducible rfl)
              try simp only [Act.put, List.setIfInBounds_toArray, List.set_cons_zero, List.set_cons_succ]
              refine wpAnyG_take 4 (oi := ?o39) ?v39 ?hi39 (by kernel_rfl) (by kernel_rfl) (by decide) (by kernel_rfl) (by kernel_rfl) ?hq39 ?hg39 ?hy39 (by assumption) ?hk39
              case hi39 => (simp only [List.getElem?_toArray, List.getElem?_cons_succ, List.getElem?_cons_zero]; rfl)
              case hq39 => exact fun _ _ _ h => h
              case hg39 => rfl
              case hy39 => (intro X hX; go_simp; try with_reducible rfl)
              try simp only [Act.put, List.setIfInBounds_toArray, List.set_cons_zero, List.set_cons_succ]
              refine wpAnyG_take 5 (oi := ?o40) ?v40 ?hi40 (by kernel_rfl) (by kernel_rfl) (by decide) (by kernel_rfl) (by kernel_rfl) ?hq40 ?hg40 ?hy40 (by assumption) ?hk40
              case hi40 => (simp only [List.getElem?_toArray, List.getElem?_cons_succ, List.getElem?_cons_zero]; rfl)
              case hq40 => exact fun _ _ _ h => h
              case hg40 => rfl
              case hy40 => (intro X hX; go_simp; try with_reducible rfl)
              try simp only [Act.put, List.setIfInBounds_toArray, List.set_cons_zero, List.set_cons_succ]
              refine wpAnyG_take 6 (oi := ?o41) ?v41 ?hi41 (by kernel_rfl) (by kernel_rfl) (by decide) (by kernel_rfl) (by kernel_rfl) ?hq41 ?hg41 ?hy41 (by assumption) ?hk41
              case hi41 => (simp only [List.getElem?_toArray, List.getElem?_cons_succ, List.getElem?_cons_zero]; rfl)
              case hq41 => exact fun _ _ _ h => h
              case hg41 => rfl
              case hy41 => (intro X hX; go_simp; try with_reducible rfl)
              try simp only [Act.put, List.setIfInBounds_toArray, List.set_cons_zero, List.set_cons_succ]
              refine wpAnyG_one 7 (o := ?o42) (by kernel_rfl) ?hi42 ?hg42 ?hk42
              case hi42 => (simp only [List.getElem?_toArray, List.getElem?_cons_succ, List.getElem?_cons_zero]; rfl)
              case hg42 => rfl
              intro K hK
              go_simp
              refine (HB.out _ (H6.out.drew.item (k := subP L) (List.mem_of_getElem? (i := 7) rfl))).mono ?_
              rintro e W7 ⟨rfl, hb7⟩
              refine hK.out _ _ (fun _ => hHeld.ext hb7) (fun hH => ?_)
              have hHeld := hH (by decide)
              have H7 := Lib.hid (H6.out.drew.ext hb7)
              clear hK K hH hb7
              try simp only [Act.put, List.setIfInBounds_toArray, List.set_cons_zero, List.set_cons_succ]
              refine wpAnyG_one 8 (o := ?o43) (by kernel_rfl) ?hi43 ?hg43 ?hk43
              case hi43 => (simp only [List.getElem?_toArray, List.getElem?_cons_succ, List.getElem?_cons_zero]; rfl)
              case hg43 => rfl
              intro K hK
              go_simp
              refine (leaves_any f tgv vid (decide (vid ∈ q.p.bare)) W7 (H7.out.item (k := slI 4 tgv (tagv f.tags)) (List.mem_of_getElem? (i := 10) rfl))).mono ?_
              rintro e W8 ⟨tv8, rfl, hst8⟩
              refine hK.out _ _ (fun _ => hHeld.ext hst8.below) (fun hH => ?_)
              have hHeld := hH (by decide)
              have hone8 := slat_one' (hst8.head : SlAt W8 4 tv8 _)
              have H8 := Lib.hid (H7.out.add (k := slI 4 tv8 (tagv (leaveM f vid (decide (vid ∈ q.p.bare))).tags)) hst8.below hst8.head (fun g hg => hst8.low _ (List.mem_cons_self ..) g hg))
              have Hone8 := Lib.hid hone8
              clear hK K hH hst8 hone8
              generalize hF : leaveM f vid (decide (vid ∈ q.p.bare)) = F at *
              clear hF
              try simp only [Act.put, List.setIfInBounds_toArray, List.set_cons_zero, List.set_cons_succ]
              refine wpAnyG_take 9 (oi := ?o44) ?v44 ?hi44 (by kernel_rfl) (by kernel_rfl) (by decide) (by kernel_rfl) (by kernel_rfl) ?hq44 ?hg44 ?hy44 (by assumption) ?hk44
              case hi44 => (simp only [List.getElem?_toArray, List.getElem?_cons_succ, List.getElem?_cons_zero]; rfl)
              case hq44 => exact fun _ _ _ h => h
              case hg44 => rfl
              case hy44 => (intro X hX; simp only [Fm.vals, Ad.vals]; go_simp; try with_reducible rfl)
              try simp only [Act.put, List.setIfInBounds_toArray, List.set_cons_zero, List.set_cons_succ]
              refine wpAnyG_one 10 (o := ?o45) (by kernel_rfl) ?hi45 ?hg45 ?hk45
              case hi45 => (simp only [List.getElem?_toArray, List.getElem?_cons_succ, List.getElem?_cons_zero]; rfl)
              case hg45 => rfl
              intro K hK
              go_simp
              refine hK.out _ _ (fun _ => hHeld.ext ((Below.refl _ _).alloc (Nat.le_refl _) _)) (fun hH => ?_)
              have hHeld := hH (by decide)
              clear hK K hH
              try simp only [Act.put, List.setIfInBounds_toArray, List.set_cons_zero, List.set_cons_succ]
              refine wpAnyG_one 11 (o := ?o46) (by kernel_rfl) ?hi46 ?hg46 ?hk46
              case hi46 => (simp only [List.getElem?_toArray, List.getElem?_cons_succ, List.getElem?_cons_zero]; rfl)
              case hg46 => rfl
              intro K hK
              obtain ⟨ht0, i0, z0, hi0, hz0, hsz0, hby0, hzs0, hpos0⟩ := elemSent
              have ho8 : W8.ownsRow 0 65 22 (.slice Ao R.length co) R.length (srows R) := H8.out.item (k := ownI 65 22 (.slice Ao R.length co) R.length (srows R)) (List.mem_of_getElem? (i := 2) rfl)
              refine wp_append_lies _ _ _ _ (by rfl) 0 65 i0 z0 22 120 ht0 hi0 hz0 hsz0 hby0 hzs0 hpos0 (.slice Ao R.length co) R.length (srows R) (by rfl) (own_below ho8 ((Below.refl _ _).alloc (Nat.le_refl _) _) (Nat.le_refl _)) ⟨W8.heap.size, 0, none⟩ 1 1 (SRow.vals ⟨k, F, tv8⟩) (by rfl) rfl (World.news_of_block (heap_alloc_new W8 _)) (SRow.one _ Hone8.out) (by omega) (by unfold maxLen; omega) (by omega) (Nat.zero_le _) _ rfl ?_
              intro g cap' w11 hown11 hgrow hat hlt
              have hf11 : Fr gs (W8.alloc (.cells (SRow.vals ⟨k, F, tv8⟩).toArray 65)) w11 := ⟨hgrow.os, hgrow.tape, hgrow.output, hgrow.size, fun q hq hn => hgrow.block q hq (fun e => hn (by rw [← Hgs.out, ← e]; simp))⟩
              refine hK.out _ _ (fun _ => hHeld.trans hf11) (fun hH => ?_)
              have hHeld := hH (by decide)
              clear hK K hH
              try simp only [Act.put, List.setIfInBounds_toArray, List.set_cons_zero, List.set_cons_succ]
              refine wpAnyG_one 12 (o := ?o47) (by kernel_rfl) ?hi47 ?hg47 ?hk47
              case hi47 => (simp only [List.getElem?_toArray, List.getElem?_cons_succ, List.getElem?_cons_zero]; rfl)
              case hg47 => rfl
              intro K hK
              go_simp
              refine hK.out _ _ (fun h => absurd rfl h) (fun _ => ?_)
              refine wpAnyG_done (by kernel_rfl) ?_ _
              have hl : (R ++ [(⟨k, F, tv8⟩ : SRow)]).length = R.length + 1 := by simp
              have hrow : w11.ownsRow 0 65 22 (.slice (some ⟨g, 0, none⟩) (R.length + 1) cap') (R ++ [(⟨k, F, tv8⟩ : SRow)]).length (srows (R ++ [(⟨k, F, tv8⟩ : SRow)])) := by
                rw [hl, srows_snoc]; exact hown11
              have h10 := (H8.out.ext ((Below.refl _ _).alloc (Nat.le_refl _) (.cells (SRow.vals ⟨k, F, tv8⟩).toArray 65))).pull 2 rfl
              have h11 := h10.step (k' := ownI 65 22 (.slice (some ⟨g, 0, none⟩) (R.length + 1) cap') (R ++ [(⟨k, F, tv8⟩ : SRow)]).length (srows (R ++ [(⟨k, F, tv8⟩ : SRow)]))) (by
                have e : (ownI 65 22 (.slice Ao R.length co) R.length (srows R)).gs = gs := Hgs.out
                rw [e]; exact hf11) hrow (fun q hq => by
                have hq' : q = g := by
                  have : q ∈ [g] := hq
                  exact List.mem_singleton.1 this
                subst hq'
                rcases hat with h | h
                · left
                  show q ∈ (Value.slice Ao R.length co).ownBlock.toList
                  rw [h]; simp
                · right
                  rw [h]; exact Nat.le_refl _)
              have h12 := (h11.pull 3 rfl).pull 2 rfl
              have h13 := h12.join (z := tagsI (R ++ [(⟨k, F, tv8⟩ : SRow)])) (fun r hr => by
                rcases List.mem_append.1 hr with hr | hr
                · exact (h12.item (k := tagsI R) (List.mem_of_getElem? (i := 1) rfl)) r hr
                · rw [List.mem_singleton.1 hr]; exact h12.head) (fun q hq => by
                obtain ⟨r, hr, hq⟩ := List.mem_flatMap.1 hq
                rcases List.mem_append.1 hr with hr | hr
                · right
                  exact List.mem_flatMap.2 ⟨r, hr, hq⟩
                · left
                  rw [List.mem_singleton.1 hr] at hq
                  exact hq)
              have H14 := Lib.hid ((h13.pull 2 rfl).tail.swap)
              have hr14 : R.length + 1 ≤ k + 1 := by omega
              clear h10 h11 h12 h13 hK K hHeld hf11 hgrow hown11 hrow H8 H7 H6 ho8 HO cQ cF HB hdr
              rw [← hl] at *
              clear hl
              go_wp2_with fail
              go_roundw
              case rel => exact ⟨k + 1, _, by omega, by go_num, Lib.hid (HN2.out tv8), H14⟩
              case measure => simp [intOf]; omega
        · obtain rfl : n = k := by omega
          have hR := HRs.out
          rw [List.take_of_length_le (by rw [Hps.out, Hn.out]; exact Nat.le_refl _)] at hR
          have HR2 := Lib.hid hR
          clear hR HRs
          go_wp2_with fail
          go_ret2
          refine ⟨_, R, tv9, rfl, ?_, ?_⟩
          · rw [HTab.out, Hin.out, Hon.out]; exact HR2.out
          · rw [HTab.out]
            exact (HR.out.sub (by simp [brd]))
  · have hs3' : (L[port].p.state == 3) = false := beq_eq_false_iff_ne.2 hs3
    have Hnm : Hid (∀ K, inM (L.map (·.p)) L[port].p port f t K = []) := Lib.hid (inM_not hs3)
    clear hs3
    generalize L[port].p.state = st at *
    go_wp2_with fail
    go_ret2
    refine ⟨.slice none 0 0, [], tv9, rfl, (Hnm.out _).symm, ?_⟩
    rw [HTab.out]
    exact in_none (H9.out.perm (brd_under Bp T t (.slice (some ⟨gp, 0, none⟩) L.length cp) tv9 L es2 [bk PP 44 L[port].vals, bk PF 58 (f.vals tgv)] _).symm)
end
end Go.Proofs.Ytoenlcmngdpkmaa
