/- The fact of records. -/
import Derived.Test.YtidcjbanhdpkkaaTlv3
namespace Go.Proofs.Ytidcjbanhdpkkaa
open Go.RowKit Go.ChangeShapes Go.WideShapes Go.Deep
theorem readTlv_bytes (L : List Tv) (hk : ∀ t ∈ L, t.okB = true) (hl : (tvBytes L).length ≤ 1000000) : ∃ R, readTlvM (tvBytes L) = (some (L, tvAts 0 L, (tvBody L).length), R) := by
  have hlen : ∀ (m : List Tv), m.length ≤ (tvBody m).length := by
    intro m
    induction m with
    | nil => simp
    | cons t m ih =>
      simp only [tvBody, List.flatMap_cons, List.length_append, Tv.bytes_len, List.length_cons] at ih ⊢
      omega
  have h0 : (newM (tvBytes L) 0).Left (tvBody L ++ ([0, 0] ++ [])) := by
    have := newM_left (tvBytes L) 0 (by omega)
    simpa [tvBytes] using this
  have hf : L.length < (tvBytes L).length + 1 := by
    have := hlen L
    unfold tvBytes
    rw [List.length_append]
    simp only [List.length_cons, List.length_nil]; omega
  obtain ⟨R, hR, _⟩ := tlvM_left L ((tvBytes L).length + 1) (newM (tvBytes L) 0) [] [] [] hk hf h0 (by simp)
  refine ⟨R, ?_⟩
  unfold readTlvM
  rw [hR]
  simp [RS.place, newM]
/-- A block known whole, as a slice of rows. -/
theorem blk_sl {W : World} {g t s : Nat} {C : List (List Value)} (h : Blk W g t C.flatten) (hC : ∀ c ∈ C, c.length = s) (hm : C.length ≤ 1000000) : SlRow W W.heap.size s (some ⟨g, 0, none⟩) C := by
  have hlen : C.flatten.length = C.length * s := flat_len hC
  have ho : W.ownsRow 0 t s (.slice (some ⟨g, 0, none⟩) C.length C.length) C.length C.flatten := ⟨hlen, .inr ⟨g, C.length, C.flatten.toArray, rfl, Nat.zero_le _, h, Nat.le_refl _, by unfold maxLen; omega, by simpa using hlen, by show C.flatten.take (C.length * s) = _; rw [← hlen, List.take_length]⟩⟩
  obtain ⟨A, c, e, hr⟩ := own_sl ho hC
  injection e with e _ _
  rw [e]; exact hr
theorem tvC_len (L : List Tv) : ∀ c ∈ L.map Tv.vals, c.length = 2 := fun c hc => by obtain ⟨t, _, rfl⟩ := List.mem_map.1 hc; rfl
theorem tlvWrite_b (L : List Tv) (A : Option Addr) (cap : Nat) (w : World) (hr : SlRow w w.heap.size 2 A (L.map Tv.vals)) (hn63 : L.length ≤ 100000) :
    Calls Try.prog 15 #[.slice A L.length cap] w fun e w' => ∃ S ev, e = .returned (.tuple #[.string ⟨S.toArray⟩, ev]) ∧ (((∀ t ∈ L, t.okB = true) ∧ S = tvBytes L ∧ ev = .nilIface) ∨ ((∃ t ∈ L, t.okB = false) ∧ ∃ g, ev = .iface 72 (.pointer (some ⟨g, 0, none⟩)))) ∧ Below w.heap.size w w' := by
  refine (tlvWrite_any L A cap w hr hn63).mono ?_
  rintro e w1 ⟨h1, h2, hb⟩
  by_cases hk : ∀ t ∈ L, t.okB = true
  · exact ⟨_, _, h1 hk, .inl ⟨hk, rfl, rfl⟩, hb⟩
  · have hx : ∃ t ∈ L, t.okB = false := by
      simpa using hk
    obtain ⟨g, hg⟩ := h2 hx
    exact ⟨[], _, hg, .inr ⟨hx, g, rfl⟩, hb⟩
theorem tlvWrite_ok (L : List Tv) (A : Option Addr) (cap : Nat) (w : World) (hr : SlRow w w.heap.size 2 A (L.map Tv.vals)) (hn63 : L.length ≤ 100000) (hk : ∀ t ∈ L, t.okB = true) :
    Calls Try.prog 15 #[.slice A L.length cap] w fun e w' => e = .returned (.tuple #[.string ⟨(tvBytes L).toArray⟩, .nilIface]) ∧ Below w.heap.size w w' :=
  (tlvWrite_any L A cap w hr hn63).mono fun _ _ h => ⟨h.1 hk, h.2.2⟩
theorem tlvRead_ok (L : List Tv) (w : World) (hk : ∀ t ∈ L, t.okB = true) (hl : (tvBytes L).length ≤ 1000000) :
    Calls Try.prog 16 #[.string ⟨(tvBytes L).toArray⟩] w fun e w' => ∃ A c A' c', e = .returned (.tuple #[.slice A L.length c, .slice A' L.length c', .int .i64 ((tvBody L).length : Int), .nilIface]) ∧ SlRow w' w'.heap.size 2 A (L.map Tv.vals) ∧ SlRow w' w'.heap.size 1 A' ((tvAts 0 L).map fun (a : Nat) => [Value.int .i64 (a : Int)]) ∧ Below w.heap.size w w' := by
  refine (tlvRead_any _ hl w).mono ?_
  rintro e w1 ⟨hg, hb⟩
  obtain ⟨R, hR⟩ := readTlv_bytes L hk hl
  obtain ⟨A, c, A', c', he, h1, h2⟩ := hg.1 _ _ _ _ hR
  rw [tvAts_len] at he
  exact ⟨A, c, A', c', he, h1, h2, hb⟩
theorem sl_ext {w W : World} {s : Nat} {A : Option Addr} {C : List (List Value)} (h : SlRow w w.heap.size s A C) (hb : Below w.heap.size w W) : SlRow W W.heap.size s A C := (h.below hb (Nat.le_refl _)).more hb.size
def atC (l : List Nat) : List (List Value) := l.map fun (a : Nat) => [Value.int .i64 (a : Int)]
theorem eqat_any (l : List Nat) (A A' : Option Addr) (c c' : Nat) (w : World) (hn : l.length ≤ 1000000) (hr : SlRow w w.heap.size 1 A (atC l)) (hr' : SlRow w w.heap.size 1 A' (atC l)) :
    Calls Try.prog 29 #[.slice A l.length c, .slice A' l.length c'] w fun e w' => e = .returned (.bool true) ∧ Below w.heap.size w w' := by
  by_cases h0 : l = []
  · subst h0
    refine (Try.slices_Equal_int_empty A A' c 0 c' w (by decide)).mono ?_
    rintro e w1 ⟨rfl, rfl⟩
    exact ⟨rfl, Below.refl _ _⟩
  · have hp : 0 < (atC l).length := by
      unfold atC; rw [List.length_map]
      exact List.length_pos_iff.2 h0
    obtain ⟨g, o, rfl, hg, hc⟩ := hr hp
    obtain ⟨g', o', rfl, hg', hc'⟩ := hr' hp
    have key : ∀ (g o : Nat), (∀ (k : Nat) (hk : k < (atC l).length), w.rangeAt g (o + k * 1) (atC l)[k]) → ∀ j, j < (l.map fun (a : Nat) => (a : Int)).length → w.cell? ⟨g, o + j, none⟩ = some (.int .i64 ((l.map fun (a : Nat) => (a : Int)).getD j 0)) := fun g o h j hj => by
      rw [List.length_map] at hj
      have h1 := h j (by unfold atC; rw [List.length_map]; exact hj) 0 (.int .i64 (l[j] : Int)) (by simp [atC])
      rw [Nat.mul_one, Nat.add_zero] at h1
      rw [h1]
      simp [List.getD, hj]
    refine (Try.slices_Equal_int g o l.length c g' o' l.length c' (l.map fun (a : Nat) => (a : Int)) (l.map fun (a : Nat) => (a : Int)) w (by simp) (by simp) (by omega) (by omega) (key g o hc) (key g' o' hc')).mono ?_
    rintro e w1 ⟨rfl, q, rfl⟩
    exact ⟨by simp, below_drewN (Below.refl _ _) q⟩
def tv0 : List Tv := [⟨1, [97, 98]⟩, ⟨127, []⟩]
set_option maxRecDepth 100000 in
set_option maxHeartbeats 2000000 in
theorem listed_any (w : World) : Calls Try.prog 13 #[] w fun e w' => e = .returned (.bool true) ∧ Below w.heap.size w w' := by
  go_enter Try.func13, Try.ntmps13
  go_wp2_with fail
  have hS : tvBytes tv0 = [2, 2, 97, 98, 254, 0, 0, 0] := by decide
  refine (tlvWrite_ok tv0 (some ⟨w.heap.size, 0, none⟩) 2 _ (blk_sl (C := tv0.map Tv.vals) (Blk.new w _ _) (tvC_len tv0) (by decide)) (by decide) (by decide)).mono ?_
  rintro e w1 ⟨rfl, hb1⟩
  have Hb1 := Lib.hid (((Below.refl w.heap.size w).alloc (Nat.le_refl _) _).trans (hb1.mono (by simp)))
  have HR := tlvRead_ok tv0 w1 (by decide) (by rw [hS]; decide)
  rw [hS] at HR ⊢
  rw [show ((tvBody tv0).length : Int) = 6 by decide] at HR
  have HR := Lib.hid HR
  clear hS hb1
  go_wp2_with fail
  refine HR.out.mono ?_
  rintro e w2 ⟨A, c, A', c', rfl, hr1, hr2, hb2⟩
  have Hb2 := Lib.hid (Hb1.out.trans (hb2.mono Hb1.out.size))
  have Hr1 := Lib.hid hr1
  have Hr2 := Lib.hid hr2
  clear hr1 hr2 hb2 HR
  go_wp2_with fail
  have Hb3 := Lib.hid (Hb2.out.alloc Hb2.out.size (.cells (tv0.map Tv.vals).flatten.toArray 41))
  refine (eqtlv_any tv0 A (some ⟨w2.heap.size, 0, none⟩) c 2 _ (by decide) (sl_ext Hr1.out ((Below.refl _ _).alloc (Nat.le_refl _) _)) (blk_sl (C := tv0.map Tv.vals) (Blk.new w2 _ _) (tvC_len tv0) (by decide))).mono ?_
  rintro e w3 ⟨rfl, hb3⟩
  have Hb4 := Lib.hid (Hb3.out.trans (hb3.mono Hb3.out.size))
  have Hr3 := Lib.hid (sl_ext Hr2.out (((Below.refl w2.heap.size w2).alloc (Nat.le_refl _) (.cells (tv0.map Tv.vals).flatten.toArray 41)).trans (hb3.mono (by simp))))
  clear hb3
  go_wp2_with fail
  refine (eqat_any [0, 4] A' (some ⟨w3.heap.size, 0, none⟩) c' 2 _ (by decide) (sl_ext Hr3.out ((Below.refl _ _).alloc (Nat.le_refl _) _)) (blk_sl (C := atC [0, 4]) (t := 3) (Blk.new w3 _ _) (fun c hc => by obtain ⟨t, _, rfl⟩ := List.mem_map.1 hc; rfl) (by decide))).mono ?_
  rintro e w5 ⟨rfl, hb5⟩
  have Hb6 := Lib.hid ((Hb4.out.alloc Hb4.out.size (.cells (atC [0, 4]).flatten.toArray 3)).trans (hb5.mono (by have := Hb4.out.size; simp; omega)))
  go_wp2_with fail
  go_ret
  exact ⟨rfl, Hb6.out⟩
end Go.Proofs.Ytidcjbanhdpkkaa
