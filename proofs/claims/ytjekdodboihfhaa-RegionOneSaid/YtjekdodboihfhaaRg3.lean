/- region.Digest, region.Least. (Printed by tools/mkrg3.py.) -/
import Derived.Test.YtjekdodboihfhaaRg2
import Derived.Test.YtjekdodboihfhaaHeldG
import Derived.Test.YtjekdodboihfhaaRows2
import Derived.Test.YtjekdodboihfhaaBuild1
set_option linter.all false
namespace Go.Proofs.Ytjekdodboihfhaa
open Go.RowKit
def keyB : List UInt8 := [19, 172, 6, 166, 46, 71, 253, 81, 249, 93, 43, 162, 67, 205, 3, 70]
set_option maxRecDepth 100000 in
set_option maxHeartbeats 2000000 in
theorem digest_any (l : List Sp) (A : Option Addr) (cap : Nat) (w : World) (hn : l.length ≤ 100000) (hr : SlRow w w.heap.size 3 A (l.map Sp.vals)) (hb : rightF 0 l = true) :
    Calls Try.prog 24 #[.slice A l.length cap] w fun e w' => e = .returned (.tuple #[.string ⟨(hmacM keyB (tableM l)).toArray⟩, .nilIface]) ∧ Below w.heap.size w w' := by
  have Hc := Lib.hid (table_any l A cap w hn hr hb)
  have H1 := Lib.hid (St.init w)
  have hl := table_len l
  have HM : Hid (∀ W, Calls Try.prog 12 #[.string ⟨#[19, 172, 6, 166, 46, 71, 253, 81, 249, 93, 43, 162, 67, 205, 3, 70]⟩, .string ⟨(tableM l).toArray⟩] W fun e w' => e = .returned (.string ⟨(hmacM keyB (tableM l)).toArray⟩) ∧ Below W.heap.size W w') := Lib.hid (hmac_any keyB (tableM l) (by decide) (by rw [hl]; decide))
  generalize hmacM keyB (tableM l) = D at *
  generalize tableM l = T at *
  generalize l.length = n at *
  clear hr hb hl
  go_enter Try.func24, Try.ntmps24
  go_wp2_with (first
    | ((with_reducible refine Hc.out.mono ?_)
       rintro e w2 ⟨rfl, hb2⟩
       have H2 := Lib.hid (H1.out.ext hb2)
       clear hb2 Hc H1)
    | ((with_reducible refine (HM.out _).mono ?_)
       rintro e w3 ⟨rfl, hb3⟩
       have H3 := Lib.hid (H2.out.ext hb3)
       clear hb3 H2))
  go_ret2
  exact ⟨rfl, H3.out.below⟩
/-! ### Least -/
def spRow (l : List Sp) : List Value := (l.map Sp.vals).flatten
theorem spRow_snoc (l : List Sp) (x : Sp) : spRow (l ++ [x]) = spRow l ++ x.vals := by simp [spRow]
theorem spRow_len (l : List Sp) : (spRow l).length = l.length * 3 := by
  induction l with
  | nil => rfl
  | cons x l ih =>
    have : spRow (x :: l) = x.vals ++ spRow l := by simp [spRow]
    rw [this, List.length_append, ih, Sp.len, List.length_cons]; omega
theorem elemSp : ElemOk Try.prog 27 37 3 24 := by
  have h : (Try.prog.info? 37).map (fun i => (i.zero, i.size, i.bytes)) = some (some (.agg zSp.toArray), 3, 24) := by kernel_rfl
  obtain ⟨i, hi, hz, hs, hb⟩ := info_parts h
  exact ⟨Try.underlying27, i, _, hi, hz, hs, hb, rfl, by decide⟩
theorem St.ownSet {B : Nat} {w0 w : World} {A : List It} {e size g n cap : Nat} {xs : List Value} (H : St B w0 w (ownI e size (.slice (some ⟨g, 0, none⟩) n cap) n xs :: A)) (o : Nat) (v : Value) (ho : o < xs.length) :
    St B w0 (w.setCell ⟨g, o, none⟩ v) (ownI e size (.slice (some ⟨g, 0, none⟩) n cap) n (xs.set o v) :: A) := by
  refine H.step (k' := ownI e size (.slice (some ⟨g, 0, none⟩) n cap) n (xs.set o v)) (Fr.setCell g o v w (by simp [ownI, Value.ownBlock])) ?_ (fun q hq => .inl hq)
  obtain ⟨hl, h⟩ := H.head
  rcases h with ⟨h1, _⟩ | ⟨g', cap', cur, e1, e2, e3, e4, e5, e6, e7⟩
  · injection h1 with h1; cases h1
  · injection e1 with e1 _ e8
    injection e1 with e1
    injection e1 with e1
    subst e1 e8
    have hs := heap_setCell_same w g o cur e v e3
    have ho2 : o < cur.toList.length := by
      have := congrArg List.length e7
      rw [List.length_take] at this
      omega
    refine ⟨by rw [List.length_set]; exact hl, .inr ⟨g, cap, cur.setIfInBounds o v, rfl, e2, ?_, e4, e5, by rw [Array.size_setIfInBounds]; exact e6, ?_⟩⟩
    · first | exact hs | simpa using hs
    · rw [Array.toList_setIfInBounds, List.take_set, e7]
theorem own_atS {w : World} {g n cap : Nat} {xs : List Value} (h : w.ownsRow 0 37 3 (.slice (some ⟨g, 0, none⟩) n cap) n xs) (hn : 0 < n) : n ≤ cap ∧ (∀ k, k < n * 3 → w.cell? ⟨g, k, none⟩ = xs[k]?) ∧ ∀ k, w.frozen? ⟨g, k, none⟩ = false := by
  obtain ⟨g', c, e, hc, _, _, hk⟩ := own_cells h hn
  injection e with e _ e2
  injection e with e
  injection e with e
  subst e e2
  refine ⟨hc, hk, fun k => ?_⟩
  rcases h.2 with ⟨h1, _⟩ | ⟨g', cap', cur, e1, e2, e3, _⟩
  · injection h1 with h1; cases h1
  · injection e1 with e1
    injection e1 with e1
    injection e1 with e1
    subst e1
    exact Lib.frozen_of_heap e3 k
theorem row_last (O : List Sp) (y : Sp) : ∀ j, j < 3 → (spRow (O ++ [y]))[O.length * 3 + j]? = y.vals[j]? := fun j hj => by
  rw [spRow_snoc, List.getElem?_append_right (by rw [spRow_len]; omega), spRow_len]
  congr 1
  omega
theorem row_set (O : List Sp) (y : Sp) (h : Int) : (spRow (O ++ [y])).set (O.length * 3 + 1) (.int .i64 h) = spRow (O ++ [{ y with hi := h }]) := by
  rw [spRow_snoc, spRow_snoc, List.set_append_right _ _ (by rw [spRow_len]; omega), spRow_len]
  congr 1
  rw [show O.length * 3 + 1 - O.length * 3 = 1 by omega]
  rfl
theorem step_app (O : List Sp) (y a : Sp) (q : ¬ a.inst = 0) : stepL (O ++ [y]) a = if y.inst = a.inst ∧ y.hi + 1 = a.lo then O ++ [{ y with hi := a.hi }] else O ++ [y] ++ [a] := by
  have e : (O ++ [y]).getLast? = some y := by simp
  unfold stepL
  rw [if_neg q, e]
  simp
/-- What Least leaves. -/
def OwnSps (w0 w : World) (O : List Sp) (e : Ending) (w' : World) : Prop := ∃ sv, e = .returned (.tuple #[sv, .nilIface]) ∧ St w0.heap.size w0 w' (ownI 37 3 sv O.length (spRow O) :: [])
set_option maxRecDepth 100000 in
set_option maxHeartbeats 2000000 in
theorem least_no (l : List Sp) (A : Option Addr) (cap : Nat) (w : World) (hn : l.length ≤ 100000) (hr : SlRow w w.heap.size 3 A (l.map Sp.vals)) (hb : rightF 0 l = false) :
    Calls Try.prog 16 #[.slice A l.length cap] w fun e w' => e = .returned (.tuple #[.slice none 0 0, .iface 68 (.int .i64 1)]) ∧ Below w.heap.size w w' := by
  have hc := right_any l A cap w hn hr
  rw [hb] at hc
  have Hc := Lib.hid hc
  clear hc hr hb
  generalize l.length = n at *
  go_enter Try.func16, Try.ntmps16
  go_wp2_with (first
    | ((with_reducible refine Hc.out.mono ?_)
       rintro e w2 ⟨rfl, hb2⟩
       have H2 := Lib.hid hb2
       clear hb2 Hc))
  go_ret2
  exact ⟨rfl, H2.out⟩
set_option maxRecDepth 100000 in
set_option maxHeartbeats 8000000 in
theorem least_any (l : List Sp) (A : Option Addr) (cap : Nat) (w : World) (hn : l.length ≤ 100000) (hr : SlRow w w.heap.size 3 A (l.map Sp.vals)) (hb : rightF 0 l = true) :
    Calls Try.prog 16 #[.slice A l.length cap] w (OwnSps w w (leastM l)) := by
  have hc := right_any l A cap w hn hr
  rw [hb] at hc
  have Hc := Lib.hid hc
  have Hrt := Lib.hid hb
  obtain ⟨n, hlen⟩ : ∃ n, l.length = n := ⟨_, rfl⟩
  rw [hlen] at hn Hc ⊢
  have Hr := Lib.hid hr
  have Hlen := Lib.hid hlen
  have Hfin : Hid ((l.drop 0).foldl stepL [] = leastM l) := Lib.hid rfl
  clear hr hlen hc hb
  generalize leastM l = F at *
  have H1 := Lib.hid (St.init w)
  go_enter Try.func16, Try.ntmps16
  go_upto_region 4 with (first
    | ((with_reducible refine Hc.out.mono ?_)
       rintro e w2 ⟨rfl, hb2⟩
       have H2 := Lib.hid ((H1.out.ext hb2).own0 37 3)
       clear hb2 Hc H1))
  go_wp2_with fail
  go_loopw [4, 14] (fun s4 s14 wr => ∃ (k : Nat) (O : List Sp), k ≤ n ∧ O.length ≤ k ∧ s14 = .int .i64 (k : Int) ∧ Hid (rightF 0 (O ++ l.drop k) = true) ∧ Hid ((l.drop k).foldl stepL O = F) ∧ Hid (St w.heap.size w wr (ownI 37 3 s4 O.length (spRow O) :: []))) (fun _ i _ => n - (intOf i).toNat)
  case atStart => exact ⟨0, [], by omega, Nat.le_refl _, rfl, Hrt, Hfin, H2⟩
  case round =>
    obtain ⟨k, O, hk0, hOk, rfl, Hrr, Hst, HR⟩ := hrel
    clear H2 Hfin
    obtain ⟨AO, cO, rfl⟩ := own_shape HR.out.head
    by_cases hlt : k < n
    · have hI : (k : Int) < n := by omega
      have hkx : k < l.length := by rw [Hlen.out]; exact hlt
      obtain ⟨gA, oA, rfl, hgA, _⟩ := Hr.out (by rw [List.length_map]; omega)
      have Hc1 := Lib.hid (rangeAt_below (sp_at Hr.out k hkx).2 HR.out.below hgA)
      have hrt := Hrt.out
      rw [take_drop_at l k hkx] at hrt
      obtain ⟨h1, h2, h3, h4, h5⟩ := right_elem (Int.le_refl 0) hrt
      have hst := Hst.out
      rw [drop_at l k hkx, List.foldl_cons] at hst
      have Hst := Lib.hid hst
      have hrr := Hrr.out
      rw [drop_at l k hkx] at hrr
      have Hrn := Lib.hid (step_ok hrr)
      have Hra := Lib.hid hrr
      clear hst hrt hkx hgA hrr Hrr
      generalize l.getD k default = a at *
      obtain ⟨M, hM⟩ : ∃ M, O.length = M := ⟨_, rfl⟩
      have HM := Lib.hid hM
      rw [hM] at hOk HR
      clear hM
      rw [HM.out]
      go_upto_region 7 with (first
        | ((with_reducible refine wpList_load_rng (ty := 37) (b := ?b5) (o := ?o5) (ds := ?ds5) a.vals ?hx5 ?hB5 ?hu5 ?hd5 ?hi5 ?hk5)
           case hx5 => rfl
           case hB5 => exact Hc1.out
           case hu5 => exact Try.underlying37
           case hd5 => rfl
           case hi5 => exact info37)
        | ((with_reducible refine wpList_store_blk (ty := 37) (b := ?b6) (o := ?o6) (t := 37) zSp a.vals ?hx6 ?hy6 ?hB6 ?ho6 ?hi6 ?h16 ?hk6)
           case hx6 => rfl
           case hy6 => rfl
           case hB6 => exact Blk.new wr zSp 37
           case ho6 => exact Nat.le_refl _
           case hi6 => exact info37
           case h16 => exact (Sp.one _)
           intro W4 hBW4 hoW4))
      have H4 := Lib.hid ((HR.out.alloc zSp 37).sets (L' := a.vals) hBW4 hoW4)
      clear hBW4 hoW4 HR Hc1
      generalize wr.heap.size = Q at *
      have c0 : W4.cell? ⟨Q, 0, none⟩ = some (.int .i64 a.lo) := H4.out.cell 0
      have c1 : W4.cell? ⟨Q, 1, none⟩ = some (.int .i64 a.hi) := H4.out.cell 1
      have c2 : W4.cell? ⟨Q, 2, none⟩ = some (.int .i64 a.inst) := H4.out.cell 2
      by_cases q0 : a.inst = 0
      · have hs2 := Hst.out
        unfold stepL at hs2
        rw [if_pos q0] at hs2
        have H5 := Lib.hid H4.out.tail
        have Hs2 := Lib.hid hs2
        have hrn := Hrn.out
        unfold stepL at hrn
        rw [if_pos q0] at hrn
        have Hrn := Lib.hid hrn
        clear hs2 Hst H4
        go_wp2_with fail
        go_roundw
        case rel => exact ⟨k + 1, O, by omega, by rw [HM.out]; omega, by go_num, Hrn, Hs2, by rw [HM.out]; exact H5⟩
        case measure => simp [intOf]; omega
      · rcases Nat.eq_zero_or_pos M with hM0 | hM0
        · subst hM0
          have hO : O = [] := List.length_eq_zero_iff.1 HM.out
          subst hO
          have hst : stepL [] a = [] ++ [a] := by unfold stepL; rw [if_neg q0]; rfl
          rw [hst] at Hst Hrn
          clear hst
          go_upto_region 10 with (fail)
          refine wp_region_ext (by kernel_rfl) (by kernel_rfl) ?_
          repeat (go_big_quiet_step (fail))
          refine wpQuiet_nil ?_
          rintro w5 ⟨⟨_, hb5⟩, rfl⟩
          try simp only [] at *
          have H5 := Lib.hid (H4.out.ext hb5)
          have R5 := Lib.hid (Blk.box (H5.out.at 0 rfl)).range
          clear hb5 c0 c1 c2
          skip
          go_wp2_with (first
            | (with_reducible refine wpList_load_rng (ty := 37) a.vals (by with_unfolding_all rfl) R5.out Try.underlying37 (by with_unfolding_all rfl) (by with_unfolding_all exact info37) ?_)
            | ((with_reducible refine wpList_build1 a.vals elemSp ?hxb rfl (by decide) ?_)
               case hxb => rfl
               intro W13 hB13 hb13 hl13)
            | (at_builtin; go_must (refine wpList_append_st (t := 27) (e := 37) (size := 3) (bytes := 24) (n := 0) (m := 1) (c := 1) (spRow (([] : List Sp))) a.vals elemSp ((H5.out.ext hb13).pull 1 rfl) (by with_unfolding_all rfl) (by with_unfolding_all rfl) (fun j u hj => by rw [Addr.add_mid]; exact (Blk.box hB13).range j u hj) rfl (Sp.one a) (by decide) (by unfold maxLen; omega) (by omega) (fun gT capT W14 H14 => ?_))))
          have h15 := (H14.pull 1 rfl).tail
          rw [← spRow_snoc] at h15
          have H15 := Lib.hid h15
          clear h15 H14 H5 R5
          have hl1 : (([] : List Sp) ++ [a]).length = 0 + 1 := by rw [List.length_append, HM.out]; rfl
          go_roundw
          case rel => exact ⟨k + 1, ([] : List Sp) ++ [a], by omega, by rw [hl1]; omega, by go_num, Hrn, Hst, by rw [hl1]; exact H15⟩
          case measure => simp [intOf]; omega
        · obtain ⟨m, rfl⟩ : ∃ m, M = m + 1 := ⟨M - 1, by omega⟩
          obtain ⟨g, c, e, _, _, _, _⟩ := own_cells H4.out.tail.head (by omega)
          injection e with e _ _
          subst e
          obtain ⟨O, y, rfl⟩ : ∃ O' y, O = O' ++ [y] := by
            rcases List.eq_nil_or_concat O with h | ⟨O', y, h⟩
            · rw [h] at HM; exact absurd HM.out (by simp)
            · exact ⟨O', y, by simpa using h⟩
          have hOl : O.length = m := by have := HM.out; simpa using this
          obtain ⟨hcap, hcell, hfrz⟩ := own_atS H4.out.tail.head (by omega)
          have HF : Hid (∀ W, Below W4.heap.size W4 W → ∀ k, W.frozen? ⟨g, k, none⟩ = false) := Lib.hid (fun W hb => (own_atS (H4.out.ext hb).tail.head (by omega)).2.2)
          have HC : Hid (∀ W, Below W4.heap.size W4 W → W.cell? ⟨g, m * 3 + 1, none⟩ = some (.int .i64 y.hi)) := Lib.hid (fun W hb => by
            rw [(own_atS (H4.out.ext hb).tail.head (by omega)).2.1 (m * 3 + 1) (by omega), ← hOl, row_last O y 1 (by decide)]; rfl)
          have k1 : ∀ x : Ext W4, x.val.cell? ⟨g, m * 3 + 1, none⟩ = some (.int .i64 y.hi) := fun x => HC.out _ x.below
          have k2 : ∀ x : Ext W4, x.val.cell? ⟨g, m * 3 + 2, none⟩ = some (.int .i64 y.inst) := fun x => by
            rw [(own_atS (H4.out.ext x.below).tail.head (by omega)).2.1 (m * 3 + 2) (by omega), ← hOl, row_last O y 2 (by decide)]; rfl
          have k0 : True := trivial
          have d0 : ∀ x : Ext W4, x.val.cell? ⟨Q, 0, none⟩ = some (.int .i64 a.lo) := fun x => (H4.out.ext x.below).cell 0
          have d2 : ∀ x : Ext W4, x.val.cell? ⟨Q, 2, none⟩ = some (.int .i64 a.inst) := fun x => (H4.out.ext x.below).cell 2
          have hyb : 0 < y.lo ∧ y.lo ≤ y.hi ∧ y.hi ≤ 4094 ∧ 0 ≤ y.inst ∧ y.inst ≤ 64 := by
            have h := Hra.out
            rw [List.append_assoc] at h
            exact right_elem (Int.le_refl 0) h
          obtain ⟨y1, y2, y3, _, _⟩ := hyb
          have hsa := step_app O y a q0
          have hm0 : (0 : Int) ≤ (m : Int) := by omega
          clear hcell hfrz Hra
          by_cases q1 : y.inst = a.inst
          · have q1b : (y.inst == a.inst) = true := by simpa using q1
            by_cases q2 : y.hi + 1 = a.lo
            · have q2b : (y.hi + 1 == a.lo) = true := by simpa using q2
              rw [if_pos ⟨q1, q2⟩] at hsa
              rw [hsa] at Hst Hrn
              clear hsa
              go_upto_region 10 with (fail)
              refine wp_region_ext (by kernel_rfl) (by kernel_rfl) ?_
              repeat (go_big_quiet_step (fail))
              refine wpQuiet_nil ?_
              rintro w5 ⟨⟨_, hb5⟩, rfl⟩
              try simp only [] at *
              have H5 := Lib.hid ((H4.out.ext hb5).pull 1 rfl)
              have hset := H5.out.ownSet (m * 3 + 1) (.int .i64 a.hi) (by rw [spRow_len]; have := HM.out; omega)
              have e1 := row_set O y a.hi
              rw [hOl] at e1
              rw [e1] at hset
              have Hset := Lib.hid (hset.pull 1 rfl).tail
              have hfz := HF.out w5 hb5 (m * 3 + 1)
              have c1' : w5.cell? ⟨Q, 1, none⟩ = some (.int .i64 a.hi) := (H5.out.pull 1 rfl).cell 1
              have c3' : w5.cell? ⟨g, m * 3 + 1, none⟩ = some (.int .i64 y.hi) := HC.out w5 hb5
              have hl1 : (O ++ [{ y with hi := a.hi }]).length = m + 1 := by rw [List.length_append, hOl]; rfl
              clear hb5 hset e1 c0 c1 c2 H4 k0 k1 k2 d0 d2
              go_wp2_with fail
              go_roundw
              case rel => exact ⟨k + 1, O ++ [{ y with hi := a.hi }], by omega, by rw [hl1]; omega, by go_num, Hrn, Hst, by rw [hl1]; exact Hset⟩
              case measure => simp [intOf]; omega
            · have q2b : (y.hi + 1 == a.lo) = false := by simpa using q2
              rw [if_neg (fun h => q2 h.2)] at hsa
              rw [hsa] at Hst Hrn
              clear hsa
              go_upto_region 10 with (fail)
              refine wp_region_ext (by kernel_rfl) (by kernel_rfl) ?_
              repeat (go_big_quiet_step (fail))
              refine wpQuiet_nil ?_
              rintro w5 ⟨⟨_, hb5⟩, rfl⟩
              try simp only [] at *
              have H5 := Lib.hid (H4.out.ext hb5)
              have R5 := Lib.hid (Blk.box (H5.out.at 0 rfl)).range
              clear hb5 c0 c1 c2
              clear k0 k1 k2 d0 d2
              go_wp2_with (first
                | (with_reducible refine wpList_load_rng (ty := 37) a.vals (by with_unfolding_all rfl) R5.out Try.underlying37 (by with_unfolding_all rfl) (by with_unfolding_all exact info37) ?_)
                | ((with_reducible refine wpList_build1 a.vals elemSp ?hxb rfl (by decide) ?_)
                   case hxb => rfl
                   intro W13 hB13 hb13 hl13)
                | (at_builtin; go_must (refine wpList_append_st (t := 27) (e := 37) (size := 3) (bytes := 24) (n := (m + 1)) (m := 1) (c := 1) (spRow ((O ++ [y]))) a.vals elemSp ((H5.out.ext hb13).pull 1 rfl) (by with_unfolding_all rfl) (by with_unfolding_all rfl) (fun j u hj => by rw [Addr.add_mid]; exact (Blk.box hB13).range j u hj) rfl (Sp.one a) (by decide) (by unfold maxLen; omega) (by omega) (fun gT capT W14 H14 => ?_))))
              have h15 := (H14.pull 1 rfl).tail
              rw [← spRow_snoc] at h15
              have H15 := Lib.hid h15
              clear h15 H14 H5 R5
              have hl1 : ((O ++ [y]) ++ [a]).length = (m + 1) + 1 := by rw [List.length_append, HM.out]; rfl
              go_roundw
              case rel => exact ⟨k + 1, (O ++ [y]) ++ [a], by omega, by rw [hl1]; omega, by go_num, Hrn, Hst, by rw [hl1]; exact H15⟩
              case measure => simp [intOf]; omega
          · have q1b : (y.inst == a.inst) = false := by simpa using q1
            rw [if_neg (fun h => q1 h.1)] at hsa
            rw [hsa] at Hst Hrn
            clear hsa
            go_upto_region 10 with (fail)
            refine wp_region_ext (by kernel_rfl) (by kernel_rfl) ?_
            repeat (go_big_quiet_step (fail))
            refine wpQuiet_nil ?_
            rintro w5 ⟨⟨_, hb5⟩, rfl⟩
            try simp only [] at *
            have H5 := Lib.hid (H4.out.ext hb5)
            have R5 := Lib.hid (Blk.box (H5.out.at 0 rfl)).range
            clear hb5 c0 c1 c2
            clear k0 k1 k2 d0 d2
            go_wp2_with (first
              | (with_reducible refine wpList_load_rng (ty := 37) a.vals (by with_unfolding_all rfl) R5.out Try.underlying37 (by with_unfolding_all rfl) (by with_unfolding_all exact info37) ?_)
              | ((with_reducible refine wpList_build1 a.vals elemSp ?hxb rfl (by decide) ?_)
                 case hxb => rfl
                 intro W13 hB13 hb13 hl13)
              | (at_builtin; go_must (refine wpList_append_st (t := 27) (e := 37) (size := 3) (bytes := 24) (n := (m + 1)) (m := 1) (c := 1) (spRow ((O ++ [y]))) a.vals elemSp ((H5.out.ext hb13).pull 1 rfl) (by with_unfolding_all rfl) (by with_unfolding_all rfl) (fun j u hj => by rw [Addr.add_mid]; exact (Blk.box hB13).range j u hj) rfl (Sp.one a) (by decide) (by unfold maxLen; omega) (by omega) (fun gT capT W14 H14 => ?_))))
            have h15 := (H14.pull 1 rfl).tail
            rw [← spRow_snoc] at h15
            have H15 := Lib.hid h15
            clear h15 H14 H5 R5
            have hl1 : ((O ++ [y]) ++ [a]).length = (m + 1) + 1 := by rw [List.length_append, HM.out]; rfl
            go_roundw
            case rel => exact ⟨k + 1, (O ++ [y]) ++ [a], by omega, by rw [hl1]; omega, by go_num, Hrn, Hst, by rw [hl1]; exact H15⟩
            case measure => simp [intOf]; omega
    · obtain rfl : k = n := by omega
      have hI : ¬ (k : Int) < k := by omega
      have hF : O = F := by
        have h := Hst.out
        rw [← Hlen.out, List.drop_length] at h
        exact h
      subst hF
      go_wp2_with fail
      go_ret2
      exact ⟨_, rfl, HR.out⟩
end Go.Proofs.Ytjekdodboihfhaa
