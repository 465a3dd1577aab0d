/- tree.twice: a net in memory. -/
import Derived.Test.YthpgdipcdllfdaaTree6
namespace Go.Proofs.Ythpgdipcdllfdaa
open Go.RowKit
/-- A node's ports in memory. -/
def MemsIn (w : World) (B : Nat) (sv : Value) (ms : List Mem) : Prop := ∃ A cap, sv = .slice A ms.length cap ∧ ms.length ≤ cap ∧ SlRow w B 4 A (ms.map Mem.vals)
/-- A net in memory: nodes, each with its slice of ports. -/
structure NodesIn (w : World) (B : Nat) (A : Option Addr) (L : List (Node × Value)) : Prop where
  row : SlRow w B 9 A (L.map fun x => x.1.vals x.2)
  mems : ∀ x ∈ L, MemsIn w B x.2 x.1.ports
theorem MemsIn.below {w W : World} {B B' : Nat} {sv : Value} {ms : List Mem} (h : MemsIn w B sv ms) (hb : Below B' w W) (hB : B ≤ B') : MemsIn W B sv ms := by
  obtain ⟨A, cap, e, hc, hr⟩ := h
  exact ⟨A, cap, e, hc, hr.below hb hB⟩
theorem NodesIn.below {w W : World} {B B' : Nat} {A : Option Addr} {L : List (Node × Value)} (h : NodesIn w B A L) (hb : Below B' w W) (hB : B ≤ B') : NodesIn W B A L :=
  ⟨h.row.below hb hB, fun x hx => (h.mems x hx).below hb hB⟩
theorem SlRow.more {w : World} {B B' s : Nat} {A : Option Addr} {C : List (List Value)} (h : SlRow w B s A C) (hB : B ≤ B') : SlRow w B' s A C := fun hn => by
  obtain ⟨g, o, e, hg, hr⟩ := h hn
  exact ⟨g, o, e, by omega, hr⟩
theorem SlRow.take {w : World} {B s : Nat} {A : Option Addr} {C : List (List Value)} (h : SlRow w B s A C) (n : Nat) : SlRow w B s A (C.take n) := fun hn => by
  rw [List.length_take] at hn
  obtain ⟨g, o, e, hg, hr⟩ := h (by omega)
  refine ⟨g, o, e, hg, fun k hk => ?_⟩
  rw [List.length_take] at hk
  rw [List.getElem_take]
  exact hr k (by omega)
theorem Mem.len (m : Mem) : m.vals.length = 4 := rfl
theorem Node.len (n : Node) (sv : Value) : (n.vals sv).length = 9 := rfl
theorem Mem.one (m : Mem) : ∀ v ∈ m.vals, v.oneCell' = true := fun v hv => by
  simp only [Mem.vals, Pt.vals, List.mem_append, List.mem_cons, List.not_mem_nil, or_false] at hv
  rcases hv with (rfl | rfl) | rfl | rfl <;> rfl
def dupAt (ms : List Mem) (k : Nat) : Bool := (ms.take k).any fun q => decide (q.port = (ms.getD k default).port)
def dupTo (ms : List Mem) (k : Nat) : Bool := (List.range k).any (dupAt ms)
theorem dupTo_succ (ms : List Mem) (k : Nat) : dupTo ms (k + 1) = (dupTo ms k || dupAt ms k) := by
  simp [dupTo, List.range_succ, List.any_append]
theorem dupTo_of (ms : List Mem) {k n : Nat} (h : dupAt ms k = true) (hk : k < n) : dupTo ms n = true := List.any_eq_true.2 ⟨k, by simpa using hk, h⟩
set_option maxRecDepth 100000 in
set_option maxHeartbeats 2000000 in
theorem twice_any (L : List (Node × Value)) (n : Node) (A A2 : Option Addr) (k cap cap2 np : Nat) (hL : L.length = k) (hk : k ≤ 12) (hnp : n.ports.length = np) (hp8 : np ≤ 8) (hcap : np ≤ cap2) (w : World)
    (hl : NodesIn w w.heap.size A L) (hm : SlRow w w.heap.size 4 A2 (n.ports.map Mem.vals)) :
    Calls Try.prog 43 #[.slice A k cap, .agg (n.vals (.slice A2 np cap2)).toArray] w fun e w' =>
      e = .returned (.bool (dupTo n.ports np || L.any fun x => decide (x.1.br = n.br))) ∧ Below w.heap.size w w' := by
  have HL := Lib.hid hL
  have HN := Lib.hid hnp
  have Hl := Lib.hid hl
  have Hm := Lib.hid hm
  clear hL hnp hl hm
  have hf1 : ∀ (args : Array Value) (W : World), (callFunc 59 args).run Try.prog W = .ok (.enter 59 args) W := fun args W => by kernel_rfl
  have hf2 : ∀ (args : Array Value) (W : World), (callFunc 61 args).run Try.prog W = .ok (.enter 61 args) W := fun args W => by kernel_rfl
  have Hf1 := Lib.hid hf1
  have Hf2 := Lib.hid hf2
  clear hf1 hf2
  have hV : n.vals (.slice A2 np cap2) = [.int .i64 n.br.prio, .int .i64 n.br.ext, .int .u8 n.br.ad.a.toNat, .int .u8 n.br.ad.b.toNat, .int .u8 n.br.ad.c.toNat, .int .u8 n.br.ad.d.toNat, .int .u8 n.br.ad.e.toNat, .int .u8 n.br.ad.f.toNat, .slice A2 np cap2] := rfl
  rw [hV]
  clear hV
  go_enter Try.func43, Try.ntmps43
  go_upto_region 1 with (fail)
  obtain ⟨hA, hfA, lA, hb⟩ := one_box w _ _ _ rfl
  generalize w.alloc _ = W at *
  have HB : Hid (Box W w.heap.size (n.vals (.slice A2 np cap2))) := Box.mk hA hfA
  clear hfA
  go_wp2_with fail
  go_loopw [5, 6, 10] (fun _ _ i wr => ∃ j : Nat, j ≤ np ∧ i = .int .i64 j ∧ Hid (dupTo n.ports j = false) ∧ Below w.heap.size w wr ∧ Hid (Box wr w.heap.size (n.vals (.slice A2 np cap2))) ∧ w.heap.size < wr.heap.size) (fun _ _ i _ => np - (intOf i).toNat)
  case atStart => exact ⟨0, by omega, rfl, Lib.hid rfl, hb, HB, lA⟩
  case round =>
    clear HB hb lA hA
    obtain ⟨j, hj, rfl, Hd, hbr, HB, lB⟩ := hrel
    by_cases hlt : j < np
    · have hjx : j < n.ports.length := by rw [HN.out]; exact hlt
      obtain ⟨g, o, rfl, hg, hc⟩ := Hm.out (by rw [List.length_map]; omega)
      have hc1 := hc j (by rw [List.length_map]; exact hjx)
      rw [List.getElem_map] at hc1
      have Hc1 := Lib.hid (rangeAt_below hc1 hbr hg)
      clear hc hc1
      go_upto_region 4 with (first
        | ((with_reducible refine wpList_load_rng (ty := 37) (b := ?b3) (o := ?o3) (ds := ?ds3) n.ports[j].vals ?hx3 ?hB3 ?hu3 ?hd3 ?hi3 ?hk3)
           case hx3 => rfl
           case hB3 => exact Hc1.out
           case hu3 => exact Try.underlying37
           case hd3 => rfl
           case hi3 => exact info37)
        | ((with_reducible refine wpList_store_box (ty := 37) (b := ?b4) (o := ?o4) [.int .i64 0, .int .i64 0, .int .i64 0, .int .i64 0] n.ports[j].vals ?hx4 ?hy4 ?hB4 ?ho4 ?hi4 ?h14 ?hk4)
           case hx4 => rfl
           case hy4 => rfl
           go_loud (case hB4 => exact Box.new wr [.int .i64 0, .int .i64 0, .int .i64 0, .int .i64 0] 37)
           case ho4 => exact Nat.le_refl 4
           case hi4 => exact info37
           case h14 => exact Mem.one _
           intro W4 hB4 ho4))
      obtain ⟨hb4, lP⟩ := Only.fresh ho4
      have HP : Hid (Box W4 wr.heap.size n.ports[j].vals) := hB4
      have HB4 := Lib.hid (HB.out.below hb4 lB)
      have hb5 := hbr.trans (hb4.mono hbr.size)
      have lB4 : w.heap.size < W4.heap.size := Nat.lt_trans lB lP
      have hc8 : W4.cell? ⟨w.heap.size, 8, none⟩ = some (.slice (some ⟨g, o, none⟩) np cap2) := HB4.out.cell 8
      generalize wr.heap.size = P at *
      clear hB4 ho4 hb4 HB hbr Hc1
      have hda : dupAt n.ports j = (n.ports.take j).any fun q => decide (q.port = n.ports[j].port) := by
        unfold dupAt
        rw [List.getD_eq_getElem?_getD, List.getElem?_eq_getElem hjx]; rfl
      have Hda := Lib.hid hda
      clear hda
      have hc := has_mem Mem.vals Mem.len (fun q => decide (q.port = n.ports[j].port)) (n.ports.take j) j (by rw [List.length_take, HN.out]; omega) (some ⟨g, o, none⟩) cap2 59 #[.pointer (some ⟨P, 0, none⟩)] W4 (by omega)
        (by rw [List.map_take]; exact (((Hm.out.below hb5 (Nat.le_refl _)).take j).more (Nat.le_of_lt lB4))) Hf1.out
        (fun i hi W5 hb6 => tw1_any _ n.ports[j] P W5 (Nat.lt_of_lt_of_le lP hb6.size) (by rw [hb6.cell (p := ⟨P, 0, none⟩) lP]; exact HP.out.cell 0) (by rw [hb6.cell (p := ⟨P, 1, none⟩) lP]; exact HP.out.cell 1))
      rw [← Hda.out] at hc
      have HC := Lib.hid hc
      clear hc
      cases hv : dupAt n.ports j
      · rw [hv] at HC
        have HV := Lib.hid hv
        clear hv
        go_wp2_with (
          (with_reducible refine HC.out.mono ?_)
          rintro e w7 ⟨rfl, hb7⟩)
        have hb8 := hb5.trans (hb7.mono hb5.size)
        have HB8 := Lib.hid (HB4.out.below hb7 lB4)
        go_roundw
        case rel => exact ⟨j + 1, by omega, by go_num, Lib.hid (by rw [dupTo_succ, Hd.out, HV.out]; rfl), hb8, HB8, Nat.lt_of_lt_of_le lB4 hb7.size⟩
        case measure => simp [intOf]; omega
      · rw [hv] at HC
        have hz : (dupTo n.ports np || L.any fun x => decide (x.1.br = n.br)) = true := by rw [dupTo_of n.ports hv hlt]; rfl
        have HZ := Lib.hid hz
        clear hv hz
        go_wp2_with (
          (with_reducible refine HC.out.mono ?_)
          rintro e w7 ⟨rfl, hb7⟩)
        have hb8 := hb5.trans (hb7.mono hb5.size)
        go_ret
        exact ⟨by rw [HZ.out]; rfl, hb8⟩
    · have hjn : j = np := by omega
      subst hjn
      have hc := has_node (fun x : Node × Value => x.1.vals x.2) (fun x => Node.len _ _) (fun x => decide (x.1.br = n.br)) L k HL.out A cap 61 #[.pointer (some ⟨w.heap.size, 0, none⟩)] wr (by omega)
        ((Hl.out.row.below hbr (Nat.le_refl _)).more hbr.size) Hf2.out
        (fun i hi W5 hb6 => tw2_any _ n _ _ w.heap.size W5 (Nat.lt_of_lt_of_le lB hb6.size) (HB.out.below hb6 lB))
      have HC := Lib.hid hc
      clear hc
      go_wp2_with (
        (with_reducible refine HC.out.mono ?_)
        rintro e w7 ⟨rfl, hb7⟩)
      go_ret
      exact ⟨by rw [Hd.out]; rfl, hbr.trans (hb7.mono hbr.size)⟩
end Go.Proofs.Ythpgdipcdllfdaa
