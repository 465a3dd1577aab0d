/- tree.Check. -/
import Derived.Test.YthpgdipcdllfdaaTree7
namespace Go.Proofs.Ythpgdipcdllfdaa
open Go.RowKit
def zBr : List Value := [.int .i64 0, .int .i64 0, .int .u8 0, .int .u8 0, .int .u8 0, .int .u8 0, .int .u8 0, .int .u8 0]
def zNode : List Value := [.int .i64 0, .int .i64 0, .int .u8 0, .int .u8 0, .int .u8 0, .int .u8 0, .int .u8 0, .int .u8 0, .slice none 0 0]
theorem info29 : (Try.prog.info? 29).map (·.size) = some 8 := by kernel_rfl
theorem Node.one (n : Node) (A : Option Addr) (k c : Nat) : ∀ v ∈ n.vals (.slice A k c), v.oneCell' = true := fun v hv => by
  simp only [Node.vals, List.mem_append, List.mem_cons, List.not_mem_nil, or_false] at hv
  rcases hv with h | rfl
  · exact n.br.one v h
  · rfl
theorem node_br {w : World} {g : Nat} {n : Node} {sv : Value} (h : Box w g (n.vals sv)) : w.rangeAt g 0 n.br.vals := fun j v hv => by
  rw [Nat.zero_add, h.cell]
  have hj : j < n.br.vals.length := (List.getElem?_eq_some_iff.1 hv).1
  simp only [Node.vals, List.getElem?_toArray]
  rw [List.getElem?_append_left hj, hv]
def brTwice (l : List Node) (k : Nat) : Bool := (l.take k).any fun x => decide (x.br = (nodeAt l k).br)
def okAt (l : List Node) (k : Nat) : Bool := decide ((nodeAt l k).ports.length ≤ 8) && (rightB (nodeAt l k).br && (!((nodeAt l k).ports.any badM) && (!dupTo (nodeAt l k).ports (nodeAt l k).ports.length && !brTwice l k)))
def okTo (l : List Node) (k : Nat) : Bool := (List.range k).all (okAt l)
theorem okTo_succ (l : List Node) (k : Nat) : okTo l (k + 1) = (okTo l k && okAt l k) := by simp [okTo, List.range_succ, List.all_append]
theorem okTo_no {l : List Node} {k n : Nat} (h : okAt l k = false) (hk : k < n) : okTo l n = false := by
  unfold okTo
  rw [List.all_eq_false]
  exact ⟨k, by simpa using hk, by rw [h]; simp⟩
/-- What Check says. -/
def ChkPost (l : List Node) (e : Ending) : Prop := (okTo l l.length = true → e = .returned .nilIface) ∧ (okTo l l.length = false → ∃ t x, e = .returned (.iface t x))
theorem ChkPost.bad {l : List Node} {k : Nat} (h : okAt l k = false) (hk : k < l.length) (t : TypeId) (x : Value) : ChkPost l (.returned (.iface t x)) :=
  ⟨fun h' => (by rw [okTo_no h hk] at h'; cases h'), fun _ => ⟨t, x, rfl⟩⟩
theorem ChkPost.good {l : List Node} (h : okTo l l.length = true) : ChkPost l (.returned .nilIface) :=
  ⟨fun _ => rfl, fun h' => (by rw [h] at h'; cases h')⟩
set_option maxRecDepth 100000 in
set_option maxHeartbeats 4000000 in
theorem check_any (L : List (Node × Value)) (A : Option Addr) (n cap : Nat) (hL : L.length = n) (hn : n ≤ 12) (hcap : n ≤ cap) (w : World) (hl : NodesIn w w.heap.size A L) :
    Calls Try.prog 18 #[.slice A n cap] w fun e w' => ChkPost (L.map (·.1)) e ∧ Below w.heap.size w w' := by
  have HL := Lib.hid hL
  have Hl := Lib.hid hl
  clear hL hl
  have hf1 : ∀ (args : Array Value) (W : World), (callFunc 41 args).run Try.prog W = .ok (.enter 41 args) W := fun args W => by kernel_rfl
  have Hf1 := Lib.hid hf1
  clear hf1
  generalize hl' : L.map (·.1) = l
  have HLl : Hid (l.length = n) := by rw [← hl', List.length_map]; exact HL.out
  have Hm := Lib.hid hl'
  clear hl'
  have h12 : decide ((12 : Int) < (n : Int)) = false := by simp; omega
  go_enter Try.func18, Try.ntmps18
  go_wp2_with fail
  go_loopw [3, 4, 5, 12] (fun _ _ _ i wr => ∃ k : Nat, k ≤ n ∧ i = .int .i64 k ∧ Hid (okTo l k = true) ∧ Below w.heap.size w wr) (fun _ _ _ i _ => n - (intOf i).toNat)
  case atStart => exact ⟨0, by omega, rfl, Lib.hid rfl, Below.refl _ _⟩
  case round =>
    obtain ⟨k, hk, rfl, Hd, hbr⟩ := hrel
    by_cases hlt : k < n
    · have hkx : k < L.length := by rw [HL.out]; exact hlt
      obtain ⟨g, o, rfl, hg, hc⟩ := Hl.out.row (by rw [List.length_map]; omega)
      have hc1 := hc k (by rw [List.length_map]; exact hkx)
      rw [List.getElem_map] at hc1
      have hnk : nodeAt l k = L[k].1 := by
        unfold nodeAt
        rw [← Hm.out, List.getD_eq_getElem?_getD, List.getElem?_map, List.getElem?_eq_getElem hkx]; rfl
      have htk : brTwice l k = (L.take k).any fun x => decide (x.1.br = L[k].1.br) := by
        unfold brTwice
        rw [hnk, ← Hm.out, ← List.map_take, List.any_map]; rfl
      have hmm := Hl.out.mems L[k] (List.getElem_mem hkx)
      have hkl : k < l.length := by rw [HLl.out]; exact hlt
      have hok : okAt l k = (decide (L[k].1.ports.length ≤ 8) && (rightB L[k].1.br && (!(L[k].1.ports.any badM) && (!dupTo L[k].1.ports L[k].1.ports.length && !brTwice l k)))) := by
        unfold okAt; rw [hnk]
      rw [htk] at hok
      generalize hN : L[k].1 = N at *
      generalize hS : L[k].2 = sv at *
      obtain ⟨A2, cap2, rfl, hcap2, hrow⟩ := hmm
      generalize hnp : N.ports.length = np at *
      have Hc1 := Lib.hid (rangeAt_below hc1 hbr hg)
      have Hrow := Lib.hid (hrow.below hbr (Nat.le_refl _))
      have Hok := Lib.hid hok
      have Hnp := Lib.hid hnp
      clear hc hc1 hN hS hrow hnk htk hok hnp
      go_upto_region 7 with (first
        | ((with_reducible refine wpList_load_rng (ty := 32) (b := ?b1) (o := ?o1) (ds := ?ds1) (N.vals (.slice A2 np cap2)) ?hx1 ?hB1 ?hu1 ?hd1 ?hi1 ?hk1)
           case hx1 => rfl
           case hB1 => exact Hc1.out
           case hu1 => exact Try.underlying32
           case hd1 => rfl
           case hi1 => exact info32)
        | ((with_reducible refine wpList_store_box (ty := 32) (b := ?b2) (o := ?o2) zNode (N.vals (.slice A2 np cap2)) ?hx2 ?hy2 ?hB2 ?ho2 ?hi2 ?h12 ?hk2)
           case hx2 => rfl
           case hy2 => rfl
           case hB2 => exact Box.new wr zNode 32
           case ho2 => exact Nat.le_refl _
           case hi2 => exact info32
           case h12 => exact (Node.one _ _ _ _)
           intro W4 hBW4 hoW4))
      obtain ⟨hb4, lP⟩ := Only.fresh hoW4
      have HP : Hid (Box W4 wr.heap.size (N.vals (.slice A2 np cap2))) := hBW4
      have hb5 := hbr.trans (hb4.mono hbr.size)
      have Hrow5 := Lib.hid (Hrow.out.below hb4 hbr.size)
      have Hl5 := Lib.hid (Hl.out.below hb5 (Nat.le_refl _))
      have lBP : w.heap.size ≤ wr.heap.size := hbr.size
      have hc8 : W4.cell? ⟨wr.heap.size, 8, none⟩ = some (.slice A2 np cap2) := HP.out.cell 8
      generalize wr.heap.size = P at *
      clear hBW4 hoW4 hb4 hbr Hc1 Hrow
      by_cases h8 : np ≤ 8
      · have hR := right_any N.br W4
        cases hrb : rightB N.br
        · rw [hrb] at hR
          have hbad : okAt l k = false := by rw [Hok.out, hrb]; simp
          have Hb := Lib.hid (fun t x => ChkPost.bad hbad hkl t x)
          have HR := Lib.hid hR
          clear hbad hrb hR
          go_wp2_with (first
            | ((with_reducible refine wpList_load_rng (ty := 29) (b := ?b3) (o := ?o3) (ds := ?ds3) N.br.vals ?hx3 ?hB3 ?hu3 ?hd3 ?hi3 ?hk3)
               case hx3 => rfl
               case hB3 => exact (node_br HP.out)
               case hu3 => exact Try.underlying29
               case hd3 => rfl
               case hi3 => exact info29)
            | ((with_reducible refine HR.out.mono ?_)
               rintro e w5 ⟨rfl, hb6⟩)
            )
          go_ret
          exact ⟨Hb.out _ _, (hb5.trans (hb6.mono hb5.size)).alloc (by have := hb6.size; omega) _⟩
        · rw [hrb] at hR
          have HR := Lib.hid hR
          have hA : ∀ W, Below W4.heap.size W4 W → Calls Try.prog 38 #[.slice A2 np cap2, .func (.func 41) #[] #[]] W fun e w' => e = .returned (.bool (N.ports.any badM)) ∧ Below W.heap.size W w' :=
            fun W hbW => has_mem Mem.vals Mem.len badM N.ports np Hnp.out A2 cap2 41 #[] W (by omega) ((Hrow5.out.below hbW hb5.size).more (Nat.le_trans hb5.size hbW.size)) Hf1.out (fun i hi W' _ => chk_any _ W')
          cases hab : N.ports.any badM
          · rw [hab] at hA
            have HA := Lib.hid hA
            have hT : ∀ W, Below W4.heap.size W4 W → Calls Try.prog 43 #[.slice (some ⟨g, o, none⟩) k cap, .agg (N.vals (.slice A2 np cap2)).toArray] W fun e w' => e = .returned (.bool (dupTo N.ports np || (L.take k).any fun x => decide (x.1.br = N.br))) ∧ Below W.heap.size W w' :=
              fun W hbW => twice_any (L.take k) N (some ⟨g, o, none⟩) A2 k cap cap2 np (by rw [List.length_take, HL.out]; omega) (by omega) Hnp.out h8 hcap2 W
                ⟨by rw [List.map_take]; exact (((Hl5.out.row.below hbW hb5.size).take k).more (Nat.le_trans hb5.size hbW.size)), fun x hx => by
                  obtain ⟨A', c', e', hc', hr'⟩ := Hl5.out.mems x (List.mem_of_mem_take hx)
                  exact ⟨A', c', e', hc', (hr'.below hbW hb5.size).more (Nat.le_trans hb5.size hbW.size)⟩⟩
                ((Hrow5.out.below hbW hb5.size).more (Nat.le_trans hb5.size hbW.size))
            cases htw : (dupTo N.ports np || (L.take k).any fun x => decide (x.1.br = N.br))
            · rw [htw] at hT
              have HT := Lib.hid hT
              have hgood : okTo l (k + 1) = true := by
                rw [okTo_succ, Hd.out, Hok.out, hrb, hab]
                simp only [Bool.or_eq_false_iff] at htw
                simp [h8, htw.1, htw.2]
              have Hg := Lib.hid hgood
              clear hgood htw hab hrb hR hA hT
              go_upto_region 11 with (first
                | ((with_reducible refine wpList_load_rng (ty := 29) (b := ?b5) (o := ?o5) (ds := ?ds5) N.br.vals ?hx5 ?hB5 ?hu5 ?hd5 ?hi5 ?hk5)
                   case hx5 => rfl
                   case hB5 => exact (node_br HP.out)
                   case hu5 => exact Try.underlying29
                   case hd5 => rfl
                   case hi5 => exact info29)
                | ((with_reducible refine HR.out.mono ?_)
                   rintro e w5 ⟨rfl, hb6⟩
                   have hc85 := laterc hc8 hb6 lP)
                | ((with_reducible refine (HA.out _ hb6).mono ?_)
                   rintro e w6 ⟨rfl, hb7⟩)
                )
              have hb8 := hb6.trans (hb7.mono hb6.size)
              have hP6 : ∀ j, w6.cell? ⟨P, j, none⟩ = (#[.int .i64 N.br.prio, .int .i64 N.br.ext, .int .u8 N.br.ad.a.toNat, .int .u8 N.br.ad.b.toNat, .int .u8 N.br.ad.c.toNat, .int .u8 N.br.ad.d.toNat, .int .u8 N.br.ad.e.toNat, .int .u8 N.br.ad.f.toNat, .slice A2 np cap2] : Array Value)[j]? := (HP.out.below hb8 lP).cell
              have lP6 : P < w6.heap.size := Nat.lt_of_lt_of_le lP hb8.size
              clear hc8
              try clear hc85
              have hkc1 : (k : Int) ≤ (cap : Int) := by omega
              have hkc0 : (0 : Int) ≤ (k : Int) := by omega
              refine wp_region_ext (by kernel_rfl) (by kernel_rfl) ?_
              repeat (go_big_quiet_step (fail))
              go_big_quiet_step ((go_at_call 43; exact Calls.ext _ (HT.out _ (hb8.trans ((Ext.below _).mono hb8.size)))))
              repeat (go_big_quiet_step (fail))
              refine wpQuiet_nil ?_
              rintro w7 ⟨⟨_, hb9⟩, rfl⟩
              try simp only [] at *
              clear hP6
              have hb10 := hb5.trans ((hb8.trans (hb9.mono hb8.size)).mono hb5.size)
              go_wp2_with fail
              go_roundw
              case rel => exact ⟨k + 1, by omega, by go_num, Hg, hb10⟩
              case measure => simp [intOf]; omega
            · rw [htw] at hT
              have HT := Lib.hid hT
              have hbad : okAt l k = false := by
                rw [Hok.out]
                simp only [Bool.or_eq_true] at htw
                rcases htw with h | h <;> simp [h]
              have Hb := Lib.hid (fun t x => ChkPost.bad hbad hkl t x)
              clear hbad htw hab hrb hR hA hT
              go_upto_region 11 with (first
                | ((with_reducible refine wpList_load_rng (ty := 29) (b := ?b8) (o := ?o8) (ds := ?ds8) N.br.vals ?hx8 ?hB8 ?hu8 ?hd8 ?hi8 ?hk8)
                   case hx8 => rfl
                   case hB8 => exact (node_br HP.out)
                   case hu8 => exact Try.underlying29
                   case hd8 => rfl
                   case hi8 => exact info29)
                | ((with_reducible refine HR.out.mono ?_)
                   rintro e w5 ⟨rfl, hb6⟩
                   have hc85 := laterc hc8 hb6 lP)
                | ((with_reducible refine (HA.out _ hb6).mono ?_)
                   rintro e w6 ⟨rfl, hb7⟩)
                )
              have hb8 := hb6.trans (hb7.mono hb6.size)
              have hP6 : ∀ j, w6.cell? ⟨P, j, none⟩ = (#[.int .i64 N.br.prio, .int .i64 N.br.ext, .int .u8 N.br.ad.a.toNat, .int .u8 N.br.ad.b.toNat, .int .u8 N.br.ad.c.toNat, .int .u8 N.br.ad.d.toNat, .int .u8 N.br.ad.e.toNat, .int .u8 N.br.ad.f.toNat, .slice A2 np cap2] : Array Value)[j]? := (HP.out.below hb8 lP).cell
              have lP6 : P < w6.heap.size := Nat.lt_of_lt_of_le lP hb8.size
              clear hc8
              try clear hc85
              have hkc1 : (k : Int) ≤ (cap : Int) := by omega
              have hkc0 : (0 : Int) ≤ (k : Int) := by omega
              refine wp_region_ext (by kernel_rfl) (by kernel_rfl) ?_
              repeat (go_big_quiet_step (fail))
              go_big_quiet_step ((go_at_call 43; exact Calls.ext _ (HT.out _ (hb8.trans ((Ext.below _).mono hb8.size)))))
              repeat (go_big_quiet_step (fail))
              refine wpQuiet_nil ?_
              rintro w7 ⟨⟨_, hb9⟩, rfl⟩
              try simp only [] at *
              clear hP6
              have hb10 := hb5.trans ((hb8.trans (hb9.mono hb8.size)).mono hb5.size)
              go_wp2_with fail
              go_ret
              exact ⟨Hb.out _ _, hb10.alloc hb10.size _⟩
          · rw [hab] at hA
            have HA := Lib.hid hA
            have hbad : okAt l k = false := by rw [Hok.out, hab]; simp
            have Hb := Lib.hid (fun t x => ChkPost.bad hbad hkl t x)
            clear hbad hab hA hR hrb
            go_wp2_with (first
              | ((with_reducible refine wpList_load_rng (ty := 29) (b := ?b11) (o := ?o11) (ds := ?ds11) N.br.vals ?hx11 ?hB11 ?hu11 ?hd11 ?hi11 ?hk11)
                 case hx11 => rfl
                 case hB11 => exact (node_br HP.out)
                 case hu11 => exact Try.underlying29
                 case hd11 => rfl
                 case hi11 => exact info29)
              | ((with_reducible refine HR.out.mono ?_)
                 rintro e w5 ⟨rfl, hb6⟩
                 have hc85 := laterc hc8 hb6 lP)
              | ((with_reducible refine (HA.out _ hb6).mono ?_)
                 rintro e w6 ⟨rfl, hb7⟩)
              )
            go_ret
            exact ⟨Hb.out _ _, ((hb5.trans (hb6.mono hb5.size)).trans (hb7.mono (Nat.le_trans hb5.size hb6.size))).alloc (by have := hb6.size; have := hb7.size; omega) _⟩
      · have hbad : okAt l k = false := by rw [Hok.out]; simp [h8]
        have Hb := Lib.hid (fun t x => ChkPost.bad hbad hkl t x)
        clear hbad
        have h8' : 8 < np := by omega
        go_wp2_with fail
        go_ret
        exact ⟨Hb.out _ _, by go_grown⟩
    · have hkn : k = n := by omega
      subst hkn
      have hg := Lib.hid (ChkPost.good (l := l) (by rw [HLl.out]; exact Hd.out))
      go_wp2_with fail
      go_ret
      exact ⟨hg.out, hbr⟩
end Go.Proofs.Ythpgdipcdllfdaa
