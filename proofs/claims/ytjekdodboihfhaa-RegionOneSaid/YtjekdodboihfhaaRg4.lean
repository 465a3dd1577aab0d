/- slices.Equal of spans; regional; the law RegionTables. (Printed by tools/mkrg4.py.) -/
import Derived.Test.YtjekdodboihfhaaRgD
import Derived.Test.YtjekdodboihfhaaOpSps
import Derived.Test.YtjekdodboihfhaaPick
set_option linter.all false
namespace Go.Proofs.Ytjekdodboihfhaa
open Go.RowKit Go.ChangeShapes Go.WideShapes
theorem sp_eqIn (x : Sp) (d : Nat) (W : World) : (Op.equalIn (d + 1 + 1) 37 (.agg x.vals.toArray) (.agg x.vals.toArray)).run Try.prog W = .ok true W := by
  have u3 := Try.underlying3
  have a3 := Try.isAgg3
  have z3 := Try.sizeOf3
  have hS : Try.prog.underlying 37 = some (.struct (Try.prog.fieldsOf 37)) := by kernel_rfl
  have hp : Try.prog.stoodInHeld 37 = false := by kernel_rfl
  obtain ⟨a, b, c⟩ := x
  simp only [Sp.vals]
  rw [run_equalIn_agg W (d + 1) 37 _ _ hS hp]
  simp only [Program.fieldsOf, Try.underlying37]
  go_simp
theorem sp_neq (x : Sp) (W : World) : (binOp .neq 37 (.agg x.vals.toArray) (.agg x.vals.toArray)).run Try.prog W = .ok (.bool false) W := by
  rw [run_neq_struct, show (10000 : Nat) = 9998 + 1 + 1 from rfl, sp_eqIn]; rfl
theorem sp_guard (x : Sp) (p q : Operand) (W : World) : (eqGuard .neq 37 p q (.agg x.vals.toArray) (.agg x.vals.toArray)).run Try.prog W = .ok () W := run_eqGuard_agg W .neq _ p q _ _ (by kernel_rfl)
set_option maxRecDepth 100000 in
set_option maxHeartbeats 2000000 in
theorem spEq_any (l : List Sp) (n : Nat) (hlen : l.length = n) (A A' : Option Addr) (c c' : Nat) (w : World) (hn : n ≤ 9223372036854775807) (hr : SlRow w w.heap.size 3 A (l.map Sp.vals)) (hr' : SlRow w w.heap.size 3 A' (l.map Sp.vals)) :
    Calls Try.prog 19 #[.slice A n c, .slice A' n c'] w fun e w' => e = .returned (.bool true) ∧ Below w.heap.size w w' := by
  have Hr := Lib.hid hr
  have Hr' := Lib.hid hr'
  have Hlen := Lib.hid hlen
  have htl : (l.map Sp.vals).length = n := by rw [List.length_map]; exact hlen
  have Htl := Lib.hid htl
  clear hr hr' hlen htl
  go_enter Try.func19, Try.ntmps19
  go_wp2_with fail
  go_loopw [5, 13] (fun _ i wr => ∃ k : Nat, k ≤ n ∧ i = .int .i64 k ∧ Hid (Below w.heap.size w wr)) (fun _ i _ => n - (intOf i).toNat)
  case atStart => exact ⟨0, by omega, rfl, Lib.hid (Below.refl _ _)⟩
  case round =>
    obtain ⟨k, hk, rfl, Hb⟩ := hrel
    by_cases hlt : k < n
    · have hkx : k < l.length := by rw [Hlen.out]; exact hlt
      have hkt : k < (l.map Sp.vals).length := by rw [Htl.out]; exact hlt
      obtain ⟨g, o, rfl, hg, hc⟩ := Hr.out (by omega)
      obtain ⟨g', o', rfl, hg', hc'⟩ := Hr'.out (by omega)
      have e : (l.map Sp.vals)[k]'hkt = l[k].vals := by simp only [List.getElem_map]
      have h1 := hc k hkt
      have h2 := hc' k hkt
      rw [e] at h1 h2
      clear hc hc' e
      generalize l[k] = x at *
      have E : ∀ (W : World), (binOp .neq 37 (.agg x.vals.toArray) (.agg x.vals.toArray)).run Try.prog W = .ok (.bool false) W := fun W => sp_neq x W
      have G : ∀ (p q : Operand) (W : World), (eqGuard .neq 37 p q (.agg x.vals.toArray) (.agg x.vals.toArray)).run Try.prog W = .ok () W := fun p q W => sp_guard x p q W
      have H1 := Lib.hid (rangeAt_below h1 Hb.out hg)
      have H2 := Lib.hid (rangeAt_below h2 Hb.out hg')
      have lg1 := Nat.lt_of_lt_of_le hg Hb.out.size
      have lg2 := Nat.lt_of_lt_of_le hg' Hb.out.size
      clear h1 h2
      go_upto_region 6 with (fail)
      refine wp_region_ext (by kernel_rfl) (by kernel_rfl) ?_
      repeat (go_big_quiet_step (fail))
      go_big_quiet_want
      with_reducible refine quiet_load_rng (b := ?b1) (off := ?o1) (ds := ?ds1) x.vals ?hx1 ?hr1 ?hu1 ?hd1 ?hi1 ?hk1
      case hx1 => rfl
      case hr1 => rintro _ ⟨y, rfl⟩; exact rangeAt_below H1.out y.below lg1
      case hu1 => exact Try.underlying37
      case hd1 => rfl
      case hi1 => exact info37
      go_simp
      go_big_quiet_on
      repeat (go_big_quiet_step (fail))
      go_big_quiet_want
      with_reducible refine quiet_load_rng (b := ?b2) (off := ?o2) (ds := ?ds2) x.vals ?hx2 ?hr2 ?hu2 ?hd2 ?hi2 ?hk2
      case hx2 => rfl
      case hr2 => rintro _ ⟨y, rfl⟩; exact rangeAt_below H2.out y.below lg2
      case hu2 => exact Try.underlying37
      case hd2 => rfl
      case hi2 => exact info37
      go_simp
      go_big_quiet_on
      repeat (go_big_quiet_step (fail))
      refine wpQuiet_nil ?_
      rintro w4 ⟨⟨_, hb4⟩, rfl⟩
      try simp only [] at *
      have Hb4 := Lib.hid (Hb.out.trans (hb4.mono Hb.out.size))
      go_wp2_with fail
      go_roundw
      case rel => exact ⟨k + 1, by omega, by go_num, Hb4⟩
      case measure => simp [intOf]; omega
    · go_wp2_with fail
      go_ret
      exact ⟨rfl, Hb.out⟩
theorem least_ex : leastM [⟨1, 5, 2⟩, ⟨6, 9, 2⟩, ⟨20, 20, 0⟩] = [⟨1, 9, 2⟩] := by decide
theorem right_ex : rightF 0 [⟨1, 5, 2⟩, ⟨6, 9, 2⟩, ⟨20, 20, 0⟩] = true := by decide
theorem sl_ext {w W : World} {s : Nat} {A : Option Addr} {C : List (List Value)} (h : SlRow w w.heap.size s A C) (hb : Below w.heap.size w W) : SlRow W W.heap.size s A C := by
  intro hn
  obtain ⟨g, o, e, hg, hr⟩ := h hn
  have := hb.size
  exact ⟨g, o, e, by omega, fun k hk => rangeAt_below (hr k hk) hb hg⟩
theorem sl_nil {w : World} : SlRow w w.heap.size 3 none (([] : List Sp).map Sp.vals) := fun h => absurd h (by decide)
theorem own_sps {w : World} {n : Nat} {sv : Value} {L : List Sp} (h : w.ownsRow 0 37 3 sv n (spRow L)) (hn : L.length = n) : ∃ A cap, sv = .slice A n cap ∧ n ≤ cap ∧ SlRow w w.heap.size 3 A (L.map Sp.vals) := by
  obtain ⟨A, cap, e1, e2, e3⟩ := own_row (C := L.map Sp.vals) h (fun c hc => by obtain ⟨v, _, rfl⟩ := List.mem_map.1 hc; rfl) (by rw [List.length_map]; exact hn)
  refine ⟨A, cap, e1, e2, fun hp => ?_⟩
  rw [List.length_map, hn] at hp
  obtain ⟨g, a, b, c, d⟩ := e3 hp
  exact ⟨g, 0, a, c, fun k hk => by rw [Nat.zero_add]; exact d k hk⟩
theorem blk_sps {B : Nat} {w0 w : World} {A : List It} {g n : Nat} (L : List Sp) (H : St B w0 w (bk g 37 (spRow L) :: A)) (hn : L.length = n) (h2 : n ≤ 100000) : SlRow w w.heap.size 3 (some ⟨g, 0, none⟩) (L.map Sp.vals) := by
  obtain ⟨A, cap, e, _, h⟩ := own_sps (H.toOwn (n := n) (size := 3) (by rw [spRow_len, hn]) (by unfold maxLen; omega)).head hn
  injection e with e
  subst e
  exact h
set_option maxRecDepth 100000 in
set_option maxHeartbeats 4000000 in
theorem regional_any (w : World) : Calls Try.prog 15 #[] w fun e w' => e = .returned (.bool true) ∧ Below w.heap.size w w' := by
  have H1 := Lib.hid (St.init w)
  have HD : Hid (∀ W, Calls Try.prog 24 #[.slice none 0 0] W fun e w' => e = .returned (.tuple #[.string ⟨#[172, 54, 23, 127, 80, 40, 60, 212, 184, 56, 33, 216, 171, 38, 222, 98]⟩, .nilIface]) ∧ Below W.heap.size W w') := Lib.hid (fun W => by
    have h := digest_any [] none 0 W (by decide) sl_nil rfl
    rw [dig_nil] at h
    exact h)
  go_enter Try.func15, Try.ntmps15
  go_upto_region 2 with (fail)
  have H2 : Hid (St w.heap.size w (w.alloc (.cells #[.int .i64 1, .int .i64 5, .int .i64 2, .int .i64 6, .int .i64 9, .int .i64 2, .int .i64 20, .int .i64 20, .int .i64 0] 37)) (bk w.heap.size 37 (spRow [⟨1, 5, 2⟩, ⟨6, 9, 2⟩, ⟨20, 20, 0⟩]) :: [])) := Lib.hid (H1.out.alloc (spRow [⟨1, 5, 2⟩, ⟨6, 9, 2⟩, ⟨20, 20, 0⟩]) 37)
  have HL := Lib.hid (least_any [⟨1, 5, 2⟩, ⟨6, 9, 2⟩, ⟨20, 20, 0⟩] (some ⟨w.heap.size, 0, none⟩) 3 _ (by decide) (blk_sps _ H2.out rfl (by decide)) right_ex)
  go_wp2_with fail
  refine HL.out.mono ?_
  rintro e w3 ⟨sv, rfl, h3⟩
  rw [least_ex] at h3
  obtain ⟨A, cap, rfl, hcap, _⟩ := own_sps h3.head rfl
  have H3 := Lib.hid (H2.out.app h3)
  clear h3 HL H2
  go_wp2_with fail
  refine (HD.out _).mono ?_
  rintro e w4 ⟨rfl, hb4⟩
  have H4 := Lib.hid (H3.out.ext hb4)
  clear hb4 HD H3
  have H5 : Hid (St w.heap.size w (w4.alloc (.cells #[.int .i64 1, .int .i64 9, .int .i64 2] 37)) (bk w4.heap.size 37 (spRow [⟨1, 9, 2⟩]) :: ownI 37 3 (.slice A 1 cap) 1 (spRow [⟨1, 9, 2⟩]) :: bk w.heap.size 37 (spRow [⟨1, 5, 2⟩, ⟨6, 9, 2⟩, ⟨20, 20, 0⟩]) :: [])) := Lib.hid (H4.out.alloc (spRow [⟨1, 9, 2⟩]) 37)
  have HE := Lib.hid (spEq_any [⟨1, 9, 2⟩] 1 rfl A (some ⟨w4.heap.size, 0, none⟩) cap 1 _ (by decide) (by
    obtain ⟨A', cap', e, _, h⟩ := own_sps (H5.out.item (k := ownI 37 3 (.slice A 1 cap) 1 (spRow [⟨1, 9, 2⟩])) (List.mem_of_getElem? (i := 1) rfl)) rfl
    injection e with e
    rw [e]; exact h) (blk_sps _ H5.out rfl (by decide)))
  go_wp2_with fail
  refine HE.out.mono ?_
  rintro e w6 ⟨rfl, hb6⟩
  have H6 := Lib.hid (H5.out.ext hb6)
  clear hb6
  go_wp2_with fail
  go_ret
  exact ⟨rfl, H6.out.below⟩
end Go.Proofs.Ytjekdodboihfhaa
