/- mvrp.Right. (Printed by tools/mkmv1.py.) -/
import Derived.Test.YtjekdodboihfhaaDoorMvM
import Derived.Test.YtjekdodboihfhaaDoorProg
import Derived.Test.YtjekdodboihfhaaDoorShelf
import Derived.StillTailTactics
import Derived.Deep.DeepMust
import Derived.Test.YtjekdodboihfhaaDoorOwn
import Derived.Test.YtjekdodboihfhaaDoorHeldG
import Derived.Test.YtjekdodboihfhaaDoorBuild1
import Derived.Test.YtjekdodboihfhaaDoorItems
import Derived.Test.YtjekdodboihfhaaDoorQuietTail
set_option linter.all false
namespace Go.Proofs.YtjekdodboihfhaaDoor
open Go.RowKit
/-- A slice of rows, from its block's first cell on. -/
def SlAt (w : World) (s : Nat) (v : Value) (C : List (List Value)) : Prop := ∃ A cap, v = .slice A C.length cap ∧ C.length ≤ cap ∧ (0 < C.length → ∃ g o, A = some ⟨g, o, none⟩ ∧ g < w.heap.size ∧ ∀ (k : Nat) (hk : k < C.length), w.rangeAt g (o + k * s) C[k])
theorem SlAt.row {w : World} {s : Nat} {v : Value} {C : List (List Value)} (h : SlAt w s v C) : ∃ A cap, v = .slice A C.length cap ∧ C.length ≤ cap ∧ SlRow w w.heap.size s A C := h
def intv (l : List Int) : List (List Value) := l.map fun x => [Value.int .i64 x]
theorem intv_len (l : List Int) : (intv l).length = l.length := by simp [intv]
theorem intv_cell {w W : World} {B g o : Nat} {l : List Int} (hr : ∀ (k : Nat) (hk : k < (intv l).length), w.rangeAt g (o + k * 1) (intv l)[k]) (hb : Below B w W) (hg : g < B) {k : Nat} (hk : k < l.length) : W.cell? ⟨g, o + k, none⟩ = some (.int .i64 l[k]) := by
  have h1 := hr k (by rw [intv_len]; exact hk)
  have h2 := rangeAt_below h1 hb hg
  have h3 := h2 0 (.int .i64 l[k]) (by simp [intv])
  simpa using h3
set_option maxRecDepth 100000 in
set_option maxHeartbeats 1000000 in
theorem idxf_int (p : Int → Bool) (l : List Int) (sv : Value) (f : Nat) (caps : Array Value) (w : World) (hn : l.length ≤ 9223372036854775807) (hs : SlAt w 1 sv (intv l))
    (hf : ∀ (args : Array Value) (W : World), (callFunc f args).run Tryd.prog W = .ok (.enter f args) W)
    (hp : ∀ (v : Int) (W : World), Below w.heap.size w W → Calls Tryd.prog f (#[.int .i64 v] ++ caps) W fun e w' => e = .returned (.bool (p v)) ∧ Below W.heap.size W w') :
    Calls Tryd.prog 46 #[sv, .func (.func f) #[] caps] w fun e w' => e = .returned (.int .i64 (idxP p l)) ∧ Below w.heap.size w w' := by
  obtain ⟨A, cap, rfl, hc, hr⟩ := hs.row
  rw [intv_len] at *
  obtain ⟨n, hlen⟩ : ∃ n, l.length = n := ⟨_, rfl⟩
  rw [hlen] at hn hc ⊢
  have Hr := Lib.hid hr
  have Hp := Lib.hid hp
  have Hlen := Lib.hid hlen
  clear hr hlen hs hc hp
  go_enter Tryd.func46, Tryd.ntmps46
  go_wp2_with fail
  go_loopw [5, 8] (fun _ i wr => ∃ k : Nat, k ≤ n ∧ i = .int .i64 k ∧ Hid (∀ j (hj : j < l.length), j < k → p l[j] = false) ∧ Hid (Below w.heap.size w wr)) (fun _ i _ => n - (intOf i).toNat)
  case atStart => exact ⟨0, by omega, rfl, Lib.hid (fun j hj h => absurd h (by omega)), Lib.hid (Below.refl _ _)⟩
  case round =>
    obtain ⟨k, hk, rfl, Hz, Hb⟩ := hrel
    by_cases hlt : k < n
    · have hkx : k < l.length := by rw [Hlen.out]; exact hlt
      obtain ⟨g, o, rfl, hg, hc⟩ := Hr.out (by rw [intv_len]; omega)
      have hcell := intv_cell hc Hb.out hg hkx
      have hlg : g < wr.heap.size := Nat.lt_of_lt_of_le hg Hb.out.size
      have hpk := Hp.out l[k] _ Hb.out
      clear hc
      cases hv : p l[k]
      · rw [hv] at hpk
        have HV : Hid (∀ j (hj : j < l.length), j < k + 1 → p l[j] = false) := Lib.hid (fun j hj h => by
          by_cases e : j = k
          · subst e; exact hv
          · exact Hz.out j hj (by omega))
        have Hpk := Lib.hid hpk
        clear hv hpk Hz
        generalize l[k] = x at *
        go_wp2_with (first
          | ((with_reducible refine Hpk.out.mono ?_)
             rintro e w1 ⟨rfl, hb1⟩
             have Hb1 := Lib.hid (Hb.out.trans (hb1.mono Hb.out.size))
             clear hb1)
          )
        go_roundw
        case rel => exact ⟨k + 1, by omega, by go_num, HV, Hb1⟩
        case measure => simp [intOf]; omega
      · have hz : idxP p l = k := idxP_found p l k hkx hv (fun j hj => Hz.out j (by omega) hj)
        rw [hv] at hpk
        have HZ := Lib.hid hz
        have Hpk := Lib.hid hpk
        clear hv hpk hz
        generalize l[k] = x at *
        go_wp2_with (first
          | ((with_reducible refine Hpk.out.mono ?_)
             rintro e w1 ⟨rfl, hb1⟩
             have Hb1 := Lib.hid (Hb.out.trans (hb1.mono Hb.out.size))
             clear hb1)
          )
        go_ret
        exact ⟨ret_int HZ.out.symm, Hb1.out⟩
    · have hz : idxP p l = -1 := idxP_none p l (fun j hj => Hz.out j hj (by have := Hlen.out; omega))
      have HZ := Lib.hid hz
      clear hz
      go_wp2_with fail
      go_ret
      exact ⟨ret_int HZ.out.symm, Hb.out⟩
set_option maxRecDepth 100000 in
theorem anyf_int (p : Int → Bool) (l : List Int) (sv : Value) (f : Nat) (caps : Array Value) (w : World) (hn : l.length ≤ 9223372036854775807) (hs : SlAt w 1 sv (intv l))
    (hf : ∀ (args : Array Value) (W : World), (callFunc f args).run Tryd.prog W = .ok (.enter f args) W)
    (hp : ∀ (v : Int) (W : World), Below w.heap.size w W → Calls Tryd.prog f (#[.int .i64 v] ++ caps) W fun e w' => e = .returned (.bool (p v)) ∧ Below W.heap.size W w') :
    Calls Tryd.prog 32 #[sv, .func (.func f) #[] caps] w fun e w' => e = .returned (.bool (l.any p)) ∧ Below w.heap.size w w' := by
  have H := Lib.hid (idxf_int p l sv f caps w hn hs hf hp)
  have Ha := Lib.hid (idxP_any p l)
  clear hs hp hf
  generalize idxP _ _ = r at *
  generalize l.any p = b at *
  generalize l.length = n at *
  go_enter Tryd.func32, Tryd.ntmps32
  go_wp2_with (first
    | ((with_reducible refine H.out.mono ?_)
       rintro e w1 ⟨rfl, hb1⟩
       skip)
    )
  go_ret
  exact ⟨by rw [← Ha.out]; rfl, hb1⟩

def Av.vals (a : Av) (sv : Value) : List Value := [.bool a.all, .int .i64 a.first, sv]
theorem Av.len (a : Av) (sv : Value) : (a.vals sv).length = 3 := rfl
theorem Av.one (a : Av) (sv : Value) (h : sv.oneCell' = true) : ∀ v ∈ a.vals sv, v.oneCell' = true := fun v hv => by
  simp only [Av.vals, List.mem_cons, List.not_mem_nil, or_false] at hv
  rcases hv with rfl | rfl | rfl
  · rfl
  · rfl
  · exact h
theorem evNot_any (e : Int) (w : World) : Calls Tryd.prog 33 #[.int .i64 e] w fun r w' => r = .returned (.bool (!evOk e)) ∧ w' = w := by
  by_cases h1 : e < 0
  · have hb : evOk e = false := by unfold evOk; rw [decide_eq_false (by omega)]; rfl
    rw [hb]
    clear hb
    go_enter Tryd.func33, Tryd.ntmps33
    go_wp2_with fail
    go_ret
    exact ⟨rfl, rfl⟩
  by_cases h2 : 5 < e
  · have hb : evOk e = false := by unfold evOk; rw [decide_eq_false (show ¬ e ≤ 5 by omega), Bool.and_false]
    rw [hb]
    clear hb
    go_enter Tryd.func33, Tryd.ntmps33
    go_wp2_with fail
    go_ret
    exact ⟨rfl, rfl⟩
  · have hb : evOk e = true := evOk_iff.2 ⟨by omega, by omega⟩
    rw [hb]
    clear hb
    go_enter Tryd.func33, Tryd.ntmps33
    go_wp2_with fail
    go_ret
    exact ⟨rfl, rfl⟩
theorem any_not (l : List Int) : l.any (fun e => !evOk e) = !l.all evOk := by rw [← List.not_all_eq_any_not]
set_option maxRecDepth 100000 in
set_option maxHeartbeats 4000000 in
theorem mvRight_any (a : Av) (A : Option Addr) (cap : Nat) (w : World) (hn : a.evs.length ≤ 9223372036854775807) (hc : a.evs.length ≤ cap) (hr : SlRow w w.heap.size 1 A (intv a.evs)) :
    Calls Tryd.prog 13 #[.agg (a.vals (.slice A a.evs.length cap)).toArray] w fun e w' => e = .returned (.bool a.okB) ∧ Below w.heap.size w w' := by
  obtain ⟨al, fi, es⟩ := a
  simp only [] at hn hr hc
  have H0 := Lib.hid ((St.init w).alloc [.bool al, .int .i64 fi, .slice A es.length cap] 38)
  have HF : Hid (∀ W, Below w.heap.size w W → Calls Tryd.prog 32 #[.slice A es.length cap, .func (.func 33) #[] #[]] W fun e w' => e = .returned (.bool (!es.all evOk)) ∧ Below W.heap.size W w') := Lib.hid (fun W hb => by
    have hrow := hr.below hb (Nat.le_refl _)
    have := anyf_int (fun e => !evOk e) es (.slice A es.length cap) 33 #[] W (by omega) ⟨A, cap, by rw [intv_len], by rw [intv_len]; exact hc, hrow.more hb.size⟩ (fun args W => enters_of Tryd.func33 (by kernel_rfl) rfl args W) (fun v W _ => (evNot_any v W).mono (by
      rintro r w' ⟨h1, rfl⟩
      exact ⟨h1, Below.refl _ _⟩))
    rw [any_not] at this
    exact this)
  clear hr hc
  unfold Av.okB Av.vals
  simp only []
  obtain ⟨n, hlen⟩ : ∃ n, es.length = n := ⟨_, rfl⟩
  rw [hlen] at H0 HF hn ⊢
  generalize es.all evOk = ok at *
  clear hlen
  obtain ⟨b, hb⟩ : ∃ b, (if n = 0 then al && (decide (0 ≤ fi) && decide (fi ≤ 4094)) else decide (n ≤ 400) && (decide (1 ≤ fi) && (decide (fi ≤ 4094) && (decide (fi + (n : Int) - 1 ≤ 4094) && ok)))) = b := ⟨_, rfl⟩
  rw [hb]
  have Hb := Lib.hid hb
  clear hb
  go_enter Tryd.func13, Tryd.ntmps13
  go_upto_region 1 with (fail)
  have c0 := H0.out.cell 0
  have c1 := H0.out.cell 1
  have c2 := H0.out.cell 2
  generalize World.alloc _ _ = w1 at *
  have c0 : w1.cell? ⟨w.heap.size, 0, none⟩ = some (.bool al) := c0
  have c1 : w1.cell? ⟨w.heap.size, 1, none⟩ = some (.int .i64 fi) := c1
  have c2 : w1.cell? ⟨w.heap.size, 2, none⟩ = some (.slice A n cap) := c2
  by_cases h0 : n = 0
  · subst h0
    cases al
    · have hv : b = false := by rw [← Hb.out, if_pos rfl]; simp
      go_wp2_with fail
      go_ret
      exact ⟨by first | rfl | (rw [hv]; rfl), H0.out.below⟩
    by_cases h1 : 0 ≤ fi
    · by_cases h2 : fi ≤ 4094
      · have hv : b = true := by rw [← Hb.out, if_pos rfl, decide_eq_true h1, decide_eq_true h2]; simp
        go_wp2_with fail
        go_ret
        exact ⟨by first | rfl | (rw [hv]; rfl), H0.out.below⟩
      · have hv : b = false := by rw [← Hb.out, if_pos rfl, decide_eq_true h1, decide_eq_false h2]; simp
        go_wp2_with fail
        go_ret
        exact ⟨by first | rfl | (rw [hv]; rfl), H0.out.below⟩
    · have hv : b = false := by rw [← Hb.out, if_pos rfl, decide_eq_false h1]; simp
      go_wp2_with fail
      go_ret
      exact ⟨by first | rfl | (rw [hv]; rfl), H0.out.below⟩
  have h0i : ¬ (n : Int) = 0 := by omega
  by_cases h1 : n ≤ 400
  · have h1i : (n : Int) ≤ 400 := by omega
    by_cases h2 : 1 ≤ fi
    · by_cases h3 : fi ≤ 4094
      · by_cases h4 : fi + (n : Int) - 1 ≤ 4094
        · have hv : b = ok := by rw [← Hb.out, if_neg h0, decide_eq_true h1, decide_eq_true h2, decide_eq_true h3, decide_eq_true h4]; simp
          go_wp2_with (first
            | ((with_reducible refine (HF.out _ H0.out.below).mono ?_)
               rintro e w2 ⟨rfl, hb2⟩
               have H2 := Lib.hid (H0.out.ext hb2)
               clear hb2))
          go_ret
          exact ⟨by first | (cases ok <;> rfl) | (rw [hv]; cases ok <;> rfl), H2.out.below⟩
        · have hv : b = false := by rw [← Hb.out, if_neg h0, decide_eq_true h1, decide_eq_true h2, decide_eq_true h3, decide_eq_false h4]; simp
          go_wp2_with fail
          go_ret
          exact ⟨by first | rfl | (rw [hv]; rfl), H0.out.below⟩
      · have hv : b = false := by rw [← Hb.out, if_neg h0, decide_eq_true h1, decide_eq_true h2, decide_eq_false h3]; simp
        go_wp2_with fail
        go_ret
        exact ⟨by first | rfl | (rw [hv]; rfl), H0.out.below⟩
    · have hv : b = false := by rw [← Hb.out, if_neg h0, decide_eq_true h1, decide_eq_false h2]; simp
      go_wp2_with fail
      go_ret
      exact ⟨by first | rfl | (rw [hv]; rfl), H0.out.below⟩
  · have h1i : ¬ (n : Int) ≤ 400 := by omega
    have hv : b = false := by rw [← Hb.out, if_neg h0, decide_eq_false h1]; simp
    go_wp2_with fail
    go_ret
    exact ⟨by first | rfl | (rw [hv]; rfl), H0.out.below⟩
end Go.Proofs.YtjekdodboihfhaaDoor
