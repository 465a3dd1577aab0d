/- keep.nets: which nets the laws hold. -/
import Derived.Test.YthpgdipcdllfdaaTree15
namespace Go.Proofs.Ythpgdipcdllfdaa
open Go.RowKit
def badP (m : Mem) : Bool := decide (m.lan < 0) || decide (63 < m.lan) || decide (m.cost < 1) || decide (200000000 < m.cost)
def netAt (N : Node) : Bool := decide (N.ports.length ≤ 8) && !(N.ports.any badP)
def NetsPost (w : World) (l : List Node) (e : Ending) (w' : World) : Prop := ∃ b, e = .returned (.bool b) ∧ (b = true → l.length ≤ 12 ∧ okTo l l.length = true ∧ ∀ N ∈ l, netAt N = true) ∧ Below w.heap.size w w'
theorem netAt_ports {l : List Node} (h : ∀ N ∈ l, netAt N = true) : PortsOk l := fun i k hi hk => by
  have hm : nodeAt l i ∈ l := by
    unfold nodeAt
    rw [List.getD_eq_getElem?_getD, List.getElem?_eq_getElem hi]; exact List.getElem_mem hi
  have h1 := h _ hm
  unfold netAt at h1
  simp only [Bool.and_eq_true, Bool.not_eq_true', List.any_eq_false] at h1
  have hp : memAt l i k ∈ (nodeAt l i).ports := by
    unfold memAt portAt
    rw [List.getD_eq_getElem?_getD, List.getElem?_eq_getElem hk]; exact List.getElem_mem hk
  have h2 := h1.2 _ hp
  unfold badP at h2
  simp only [Bool.or_eq_true, decide_eq_true_eq] at h2
  omega
set_option maxRecDepth 100000 in
set_option maxHeartbeats 2000000 in
theorem nets_any (L : List (Node × Value)) (A : Option Addr) (n cap : Nat) (hL : L.length = n) (hn : n ≤ 9223372036854775807) (hcap : n ≤ cap) (w : World) (hl : NodesIn w w.heap.size A L) :
    Calls Try.prog 15 #[.slice A n cap] w (NetsPost w (L.map (·.1))) := by
  have HC := Lib.hid (fun (h : n ≤ 12) W (hb : Below w.heap.size w W) => check_any L A n cap hL h hcap W ((hl.below hb (Nat.le_refl _)).imp hb.size))
  have HL := Lib.hid hL
  have Hl := Lib.hid hl
  clear hL hl
  have hf1 : ∀ (args : Array Value) (W : World), (callFunc 39 args).run Try.prog W = .ok (.enter 39 args) W := fun args W => by kernel_rfl
  have Hf1 := Lib.hid hf1
  clear hf1
  generalize hl' : L.map (·.1) = l
  have HLl : Hid (l.length = n) := by rw [← hl', List.length_map]; exact HL.out
  have Hm := Lib.hid hl'
  rw [hl'] at HC
  clear hl'
  go_enter Try.func15, Try.ntmps15
  go_wp2_with fail
  go_loopw [2, 4, 7, 8] (fun r _ i _ wr => ∃ k : Nat, k ≤ n ∧ i = .int .i64 k ∧ r = .bool false ∧ Hid (∀ N ∈ l.take k, netAt N = true) ∧ Below w.heap.size w wr) (fun _ _ i _ _ => n - (intOf i).toNat)
  case atStart => exact ⟨0, by omega, rfl, rfl, Lib.hid (fun N hN => by simp at hN), Below.refl _ _⟩
  case round =>
    obtain ⟨k, hk, rfl, rfl, Hd, hbr⟩ := hrel
    by_cases hlt : k < n
    · have hkx : k < L.length := by rw [HL.out]; exact hlt
      obtain ⟨g, o, rfl, hg, hc⟩ := Hl.out.row (by rw [List.length_map]; omega)
      have hc1 := hc k (by rw [List.length_map]; exact hkx)
      rw [List.getElem_map] at hc1
      have hmm := Hl.out.mems L[k] (List.getElem_mem hkx)
      have hkl : k < l.length := by rw [HLl.out]; exact hlt
      have hlk : l[k] = L[k].1 := by
        have := Hm.out
        subst this
        rw [List.getElem_map]
      have hdk : netAt L[k].1 = true → ∀ N ∈ l.take (k + 1), netAt N = true := fun h N hN => by
        rw [List.take_succ_eq_append_getElem hkl] at hN
        rcases List.mem_append.1 hN with h' | h'
        · exact Hd.out N h'
        · rw [List.mem_singleton.1 h', hlk]; exact h
      generalize hN : L[k].1 = N at *
      generalize hS : L[k].2 = sv at *
      obtain ⟨A2, cap2, rfl, hcap2, hrow⟩ := hmm
      have hna : netAt N = (decide (N.ports.length ≤ 8) && !(N.ports.any badP)) := rfl
      generalize hnp : N.ports.length = np at *
      have Hc1 := Lib.hid (rangeAt_below hc1 hbr hg)
      have Hrow := Lib.hid (hrow.below hbr (Nat.le_refl _))
      have Hna := Lib.hid hna
      have Hnp := Lib.hid hnp
      have Hdk := Lib.hid hdk
      clear hc hc1 hN hS hrow hlk hna hnp hdk
      go_upto_region 4 with (first
        | ((with_reducible refine wpList_load_rng (ty := 32) (b := ?b1) (o := ?o1) (ds := ?ds1) (N.vals (.slice A2 np cap2)) ?hx1 ?hB1 ?hu1 ?hd1 ?hi1 ?hk1)
           case hx1 => rfl
           case hB1 => exact Hc1.out
           case hu1 => exact Try.underlying32
           case hd1 => rfl
           case hi1 => exact info32)
        | ((with_reducible refine wpList_store_box (ty := 32) (b := ?b2) (o := ?o2) zNode (N.vals (.slice A2 np cap2)) ?hx2 ?hy2 ?hB2 ?ho2 ?hi2 ?h12 ?hk2)
           case hx2 => rfl
           case hy2 => rfl
           case hB2 => exact Box.new wr zNode 32
           case ho2 => exact Nat.le_refl _
           case hi2 => exact info32
           case h12 => exact (Node.one _ _ _ _)
           intro W4 hBW4 hoW4))
      obtain ⟨hb4, lP⟩ := Only.fresh hoW4
      have HP : Hid (Box W4 wr.heap.size (N.vals (.slice A2 np cap2))) := hBW4
      have hb5 := hbr.trans (hb4.mono hbr.size)
      have Hrow5 := Lib.hid (Hrow.out.below hb4 hbr.size)
      have hc8 : W4.cell? ⟨wr.heap.size, 8, none⟩ = some (.slice A2 np cap2) := HP.out.cell 8
      generalize wr.heap.size = P at *
      clear hBW4 hoW4 hb4 hbr Hc1 Hrow
      by_cases h8 : np ≤ 8
      · have hA := has_mem Mem.vals Mem.len badP N.ports np Hnp.out A2 cap2 39 #[] W4 (by omega) (Hrow5.out.more hb5.size) Hf1.out (fun i hi W' _ => nets1_any _ W')
        cases hab : N.ports.any badP
        · rw [hab] at hA
          have HA := Lib.hid hA
          have Hg := Lib.hid (Hdk.out (by rw [Hna.out, hab]; simp [h8]))
          clear hA hab Hdk
          go_wp2_with (first
            | ((with_reducible refine HA.out.mono ?_)
               rintro e w6 ⟨rfl, hb7⟩)
            )
          have hb8 := hb5.trans (hb7.mono hb5.size)
          clear hc8
          go_wp2_with fail
          go_roundw
          case rel => exact ⟨k + 1, by omega, by go_num, rfl, Hg, hb8⟩
          case measure => simp [intOf]; omega
        · rw [hab] at hA
          have HA := Lib.hid hA
          clear hA hab Hdk
          go_wp2_with (first
            | ((with_reducible refine HA.out.mono ?_)
               rintro e w6 ⟨rfl, hb7⟩)
            )
          have hb8 := hb5.trans (hb7.mono hb5.size)
          clear hc8
          go_wp2_with fail
          go_ret
          exact ⟨false, rfl, fun h => (by cases h), hb8⟩
      · clear Hdk
        go_wp2_with fail
        go_ret
        exact ⟨false, rfl, fun h => (by cases h), hb5⟩
    · have hkn : k = n := by omega
      subst hkn
      by_cases h12 : k ≤ 12
      · have HC1 := Lib.hid (HC.out h12 wr hbr)
        have hd := Hd.out
        rw [List.take_of_length_le (by rw [HLl.out]; exact Nat.le_refl _)] at hd
        have Hd1 := Lib.hid hd
        have Hle : Hid (l.length ≤ 12) := Lib.hid (by rw [HLl.out]; exact h12)
        clear Hd hd HC
        cases hok : okTo l l.length
        · have Hok := Lib.hid hok
          clear hok
          go_wp2_with (first
            | ((with_reducible refine HC1.out.mono ?_)
               rintro e w6 ⟨hp, hb7⟩
               obtain ⟨t, x, rfl⟩ := hp.2 Hok.out)
            )
          go_ret
          exact ⟨false, rfl, fun h => (by cases h), hbr.trans (hb7.mono hbr.size)⟩
        · have Hok := Lib.hid hok
          clear hok
          go_wp2_with (first
            | ((with_reducible refine HC1.out.mono ?_)
               rintro e w6 ⟨hp, hb7⟩
               obtain rfl := hp.1 Hok.out)
            )
          go_ret
          exact ⟨true, rfl, fun _ => ⟨Hle.out, Hok.out, Hd1.out⟩, hbr.trans (hb7.mono hbr.size)⟩
      · go_wp2_with fail
        go_ret
        exact ⟨false, rfl, fun h => (by cases h), hbr⟩
end Go.Proofs.Ythpgdipcdllfdaa
