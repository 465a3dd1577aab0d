/- region.Table. (Printed by tools/mkrg2.py.) -/
import Derived.Test.YtjekdodboihfhaaRg1
import Derived.Test.YtjekdodboihfhaaSb
import Derived.Test.YtjekdodboihfhaaMust
import Derived.Laws.MakeOwn
set_option linter.all false
namespace Go.Proofs.Ytjekdodboihfhaa
open Go.RowKit
/-! ### Plain -/
theorem right_above {a : Int} {o r : List Sp} {x : Sp} (h : rightF a (o ++ x :: r) = true) : a < x.lo := by
  induction o generalizing a with
  | nil => exact (Sp.ok_iff.1 (rightF_cons.1 h).1).1
  | cons y o ih =>
    obtain ⟨h1, h2⟩ := rightF_cons.1 h
    have h1 := Sp.ok_iff.1 h1
    have := ih h2
    omega
theorem inst_snoc {a : Int} {o r : List Sp} {x : Sp} (h : rightF a (o ++ x :: r) = true) (v : Int) : instM (o ++ [x]) v = if x.lo ≤ v ∧ v ≤ x.hi then x.inst else instM o v := by
  induction o generalizing a with
  | nil => rfl
  | cons y o ih =>
    obtain ⟨h1, h2⟩ := rightF_cons.1 h
    have h3 := right_above h2
    have ih := ih h2
    simp only [List.cons_append, instM]
    by_cases c : y.lo ≤ v ∧ v ≤ y.hi
    · rw [if_pos c, if_pos c, if_neg (by omega)]
    · rw [if_neg c, if_neg c, ih]
theorem right_elem {a : Int} {o r : List Sp} {x : Sp} (ha : 0 ≤ a) (h : rightF a (o ++ x :: r) = true) : 0 < x.lo ∧ x.lo ≤ x.hi ∧ x.hi ≤ 4094 ∧ 0 ≤ x.inst ∧ x.inst ≤ 64 := by
  have h0 := right_above h
  obtain ⟨b, hb⟩ := right_last h
  have := Sp.ok_iff.1 (rightF_cons.1 hb).1
  omega
theorem take_drop_at (l : List Sp) (k : Nat) (hk : k < l.length) : l = l.take k ++ l.getD k default :: l.drop (k + 1) := by
  rw [← drop_at l k hk, List.take_append_drop]
theorem take_at (l : List Sp) (k : Nat) (hk : k < l.length) : l.take (k + 1) = l.take k ++ [l.getD k default] := by
  rw [List.take_succ]
  simp [List.getD, hk]
def iC (F : Nat → Int) : List Value := (List.range 4096).map fun v => Value.int .i64 (F v)
theorem iC_len (F : Nat → Int) : (iC F).length = 4096 := by simp [iC]
theorem iC_get (F : Nat → Int) {v : Nat} (h : v < 4096) : (iC F)[v]? = some (.int .i64 (F v)) := by simp [iC, h]
theorem iC_set (F : Nat → Int) (v : Nat) (x : Int) : (iC F).set v (.int .i64 x) = iC fun j => if j = v then x else F j := by
  unfold iC
  rw [map_set]
  congr 1
  funext j
  by_cases c : j = v
  · simp only [if_pos c]
  · simp only [if_neg c]
theorem iC_congr {F G : Nat → Int} (h : ∀ v, F v = G v) : iC F = iC G := by rw [funext h]
def tabP (l : List Sp) (k : Nat) : List UInt8 := (List.range k).flatMap fun (v : Nat) => beBytes (instM l (v : Int)).toNat 2
theorem tabP_zero (l : List Sp) : tabP l 0 = [] := rfl
theorem tabP_all (l : List Sp) : tabP l 4096 = tableM l := rfl
theorem tabP_succ (l : List Sp) (k : Nat) : tabP l (k + 1) = tabP l k ++ beBytes (instM l (k : Int)).toNat 2 := by simp [tabP, List.range_succ]
theorem tabP_len (l : List Sp) (k : Nat) : (tabP l k).length = 2 * k := by
  unfold tabP
  rw [flat2_len _ (fun v => beBytes_len _ _), List.length_range]
theorem make4096 (W : World) : (Instr.makeSlice 48 (.int .i64 4096) (.int .i64 4096)).run Try.prog W = .ok (.slice (some ⟨W.heap.size, 0, none⟩) 4096 4096) (W.alloc (.cells (iC fun _ => 0).toArray 3)) := by
  obtain ⟨i0, hi, hz0, hz1, hz2⟩ := info_parts (show (Try.prog.info? 3).map (fun i => (i.zero, i.size, i.bytes)) = some (some (.int .i64 0), 1, 8) by kernel_rfl)
  have h := run_makeSlice (P := Try.prog) W 48 3 i0 (.int .i64 0) Try.underlying48 hi hz0 .i64 .i64 4096 4096 (by decide) (by decide) (by rw [hz1]; decide) (by rw [hz2]; decide) (by decide)
  rw [h, hz1]
  have e : madeCells (Value.int .i64 0).cells ((4096 : Int).toNat * 1) = (iC fun _ => 0).toArray := by
    unfold madeCells iC
    apply Array.ext'
    simp only [Array.toList_map, Array.toList_range]
    show List.map _ (List.range 4096) = _
    apply List.map_congr_left
    intro j _
    show (#[Value.int .i64 0])[j % 1]! = _
    rw [Nat.mod_one]
    rfl
  rw [e]
  rfl
set_option maxRecDepth 100000 in
set_option maxHeartbeats 2000000 in
theorem table_no (l : List Sp) (A : Option Addr) (cap : Nat) (w : World) (hn : l.length ≤ 100000) (hr : SlRow w w.heap.size 3 A (l.map Sp.vals)) (hb : rightF 0 l = false) :
    Calls Try.prog 18 #[.slice A l.length cap] w fun e w' => e = .returned (.tuple #[.string ⟨#[]⟩, .iface 68 (.int .i64 1)]) ∧ Below w.heap.size w w' := by
  have hc := right_any l A cap w hn hr
  rw [hb] at hc
  have Hc := Lib.hid hc
  clear hc hr hb
  generalize l.length = n at *
  go_enter Try.func18, Try.ntmps18
  go_wp2_with (first
    | ((with_reducible refine Hc.out.mono ?_)
       rintro e w2 ⟨rfl, hb2⟩
       have H2 := Lib.hid hb2
       clear hb2 Hc))
  go_ret2
  exact ⟨rfl, H2.out⟩
set_option maxRecDepth 100000 in
set_option maxHeartbeats 8000000 in
theorem table_any (l : List Sp) (A : Option Addr) (cap : Nat) (w : World) (hn : l.length ≤ 100000) (hr : SlRow w w.heap.size 3 A (l.map Sp.vals)) (hb : rightF 0 l = true) :
    Calls Try.prog 18 #[.slice A l.length cap] w fun e w' => e = .returned (.tuple #[.string ⟨(tableM l).toArray⟩, .nilIface]) ∧ Below w.heap.size w w' := by
  have hc := right_any l A cap w hn hr
  rw [hb] at hc
  have Hc := Lib.hid hc
  have Hrt := Lib.hid hb
  obtain ⟨n, hlen⟩ : ∃ n, l.length = n := ⟨_, rfl⟩
  rw [hlen] at hn Hc ⊢
  have Hr := Lib.hid hr
  have Hlen := Lib.hid hlen
  clear hr hlen hc hb
  obtain ⟨T, hT⟩ : ∃ T, tableM l = T := ⟨_, rfl⟩
  rw [hT]
  have HT := Lib.hid hT
  clear hT
  have H1 := Lib.hid (St.init w)
  go_enter Try.func18, Try.ntmps18
  have hmk := make4096
  go_upto_region 4 with (first
    | ((with_reducible refine Hc.out.mono ?_)
       rintro e w2 ⟨rfl, hb2⟩
       have H2 := Lib.hid (H1.out.ext hb2)
       clear hb2 Hc H1))
  have H3 : Hid (St w.heap.size w _ (bk w2.heap.size 3 (iC (fun v : Nat => instM (l.take 0) (v : Int))) :: [])) := Lib.hid (H2.out.alloc (iC fun _ => 0) 3)
  clear hmk H2
  generalize World.alloc w2 _ = w3 at *
  generalize w2.heap.size = g at *
  go_wp2_with fail
  go_loopw [18] (fun s18 wr => ∃ k : Nat, k ≤ n ∧ s18 = .int .i64 (k : Int) ∧ Hid (St w.heap.size w wr (bk g 3 (iC (fun v : Nat => instM (l.take k) (v : Int))) :: []))) (fun i _ => n - (intOf i).toNat)
  case atStart => exact ⟨0, by omega, rfl, H3⟩
  case round =>
    obtain ⟨k, hk0, rfl, HR⟩ := hrel
    clear H3
    by_cases hlt : k < n
    · have hI : (k : Int) < n := by omega
      have hkx : k < l.length := by rw [Hlen.out]; exact hlt
      obtain ⟨gA, oA, rfl, hgA, _⟩ := Hr.out (by rw [List.length_map]; omega)
      have Hc1 := Lib.hid (rangeAt_below (sp_at Hr.out k hkx).2 HR.out.below hgA)
      have hrt := Hrt.out
      rw [take_drop_at l k hkx] at hrt
      have hok := right_elem (Int.le_refl 0) hrt
      have hsn := inst_snoc hrt
      rw [← take_at l k hkx] at hsn
      have Hsn := Lib.hid hsn
      obtain ⟨h1, h2, h3, h4, h5⟩ := hok
      clear hrt hsn hkx hgA
      generalize l.getD k default = a at *
      generalize l.take k = L0 at *
      obtain ⟨L1, hL1⟩ : ∃ L1, l.take (k + 1) = L1 := ⟨_, rfl⟩
      have HL1 := Lib.hid hL1
      rw [hL1] at Hsn
      clear hL1
      go_upto_region 7 with (first
        | ((with_reducible refine wpList_load_rng (ty := 37) (b := ?b3) (o := ?o3) (ds := ?ds3) a.vals ?hx3 ?hB3 ?hu3 ?hd3 ?hi3 ?hk3)
           case hx3 => rfl
           case hB3 => exact Hc1.out
           case hu3 => exact Try.underlying37
           case hd3 => rfl
           case hi3 => exact info37)
        | ((with_reducible refine wpList_store_blk (ty := 37) (b := ?b4) (o := ?o4) (t := 37) zSp a.vals ?hx4 ?hy4 ?hB4 ?ho4 ?hi4 ?h14 ?hk4)
           case hx4 => rfl
           case hy4 => rfl
           case hB4 => exact Blk.new wr zSp 37
           case ho4 => exact Nat.le_refl _
           case hi4 => exact info37
           case h14 => exact (Sp.one _)
           intro W4 hBW4 hoW4))
      have H4 := Lib.hid ((HR.out.alloc zSp 37).sets (L' := a.vals) hBW4 hoW4)
      clear hBW4 hoW4 HR Hc1
      generalize wr.heap.size = Q at *
      have c0 : W4.cell? ⟨Q, 0, none⟩ = some (.int .i64 a.lo) := H4.out.cell 0
      go_wp2_with fail
      clear c0
      go_loopw [7] (fun s7 wr => ∃ m : Nat, a.lo ≤ (m : Int) ∧ (m : Int) ≤ a.hi + 1 ∧ s7 = .int .i64 (m : Int) ∧ Hid (St w.heap.size w wr (bk Q 37 a.vals :: bk g 3 (iC (fun v : Nat => if a.lo ≤ (v : Int) ∧ v < m then a.inst else instM L0 (v : Int))) :: []))) (fun i _ => (a.hi + 1).toNat - (intOf i).toNat)
      case atStart =>
        refine ⟨a.lo.toNat, by omega, by omega, by rw [Int.toNat_of_nonneg (by omega)], ?_⟩
        have e : iC (fun v : Nat => if a.lo ≤ (v : Int) ∧ v < a.lo.toNat then a.inst else instM L0 (v : Int)) = iC (fun v : Nat => instM L0 (v : Int)) := iC_congr fun v => by rw [if_neg (by omega)]
        rw [e]
        exact H4
      case round =>
        obtain ⟨m, hm1, hm2, rfl, HR⟩ := hrel
        clear H4
        have c1 : wr.cell? ⟨Q, 1, none⟩ = some (.int .i64 a.hi) := HR.out.cell 1
        by_cases hmh : (m : Int) ≤ a.hi
        · have c2 : wr.cell? ⟨Q, 2, none⟩ = some (.int .i64 a.inst) := HR.out.cell 2
          have hm4 : (m : Int) < 4096 := by omega
          have hm0 : (0 : Int) ≤ (m : Int) := by omega
          have HS := Lib.hid HR.out.swap
          have hm5 : m < 4096 := by omega
          have hold : wr.cell? ⟨g, m, none⟩ = some (.int .i64 (if a.lo ≤ (m : Int) ∧ m < m then a.inst else instM L0 (m : Int))) := by
            rw [HS.out.cell m]
            have := iC_get (fun v : Nat => if a.lo ≤ (v : Int) ∧ v < m then a.inst else instM L0 (v : Int)) hm5
            simpa using this
          have hfz := HS.out.frozen m
          generalize (if a.lo ≤ (m : Int) ∧ m < m then a.inst else instM L0 (m : Int)) = c0 at hold
          have hset := HS.out.set m (.int .i64 a.inst) (by rw [iC_len]; exact hm5)
          rw [iC_set] at hset
          have e : (iC fun j => if j = m then a.inst else if a.lo ≤ (j : Int) ∧ j < m then a.inst else instM L0 (j : Int)) = iC fun v : Nat => if a.lo ≤ (v : Int) ∧ v < m + 1 then a.inst else instM L0 (v : Int) := iC_congr fun v => by
            by_cases c : v = m
            · subst c
              rw [if_pos rfl, if_pos ⟨hm1, by omega⟩]
            · rw [if_neg c]
              by_cases d : a.lo ≤ (v : Int) ∧ v < m
              · rw [if_pos d, if_pos ⟨d.1, by omega⟩]
              · rw [if_neg d, if_neg (by omega)]
          rw [e] at hset
          have Hset := Lib.hid hset.swap
          clear hset e HS HR
          go_wp2_with fail
          go_roundw
          case rel => exact ⟨m + 1, by omega, by omega, by go_num, Hset⟩
          case measure => simp [intOf]; omega
        · have e : (iC fun v : Nat => if a.lo ≤ (v : Int) ∧ v < m then a.inst else instM L0 (v : Int)) = iC fun v : Nat => instM L1 (v : Int) := iC_congr fun v => by
            rw [Hsn.out]
            by_cases d : a.lo ≤ (v : Int) ∧ v < m
            · rw [if_pos d, if_pos ⟨d.1, by omega⟩]
            · rw [if_neg d, if_neg (by omega)]
          rw [e] at HR
          have H6 := Lib.hid HR.out.tail
          clear HR e
          go_wp2_with fail
          go_roundw
          case rel => exact ⟨k + 1, by omega, by go_num, by rw [HL1.out]; exact H6⟩
          case measure => simp [intOf]; omega
    · obtain rfl : k = n := by omega
      have hI : ¬ (k : Int) < k := by omega
      have ek : l.take k = l := by rw [← Hlen.out]; exact List.take_length
      rw [ek] at HR
      go_upto_region 13 with (fail)
      have H7 := Lib.hid HR.out.sb_new
      clear HR Hr
      generalize World.alloc wr _ = w7 at *
      generalize wr.heap.size = b at *
      rw [show ([] : List UInt8) = tabP l 0 from rfl] at H7
      go_wp2_with fail
      go_loopw [38] (fun s38 wr => ∃ (j : Nat) (v : Value), j ≤ 4096 ∧ s38 = .int .i64 (j : Int) ∧ Hid (St w.heap.size w wr (sb w.heap.size b v (tabP l j) :: bk g 3 (iC (fun v : Nat => instM l (v : Int))) :: []))) (fun i _ => 4096 - (intOf i).toNat)
      case atStart => exact ⟨0, _, by omega, rfl, H7⟩
      case round =>
        obtain ⟨j, v, hj0, rfl, HR⟩ := hrel
        clear H7
        have hO : Others 5 (bk g 3 (iC (fun v : Nat => instM l (v : Int))) :: []) := Others.nil.cons (bk_other (by decide))
        by_cases hlt : j < 4096
        · have hI : (j : Int) < 4096 := by omega
          have hI0 : (0 : Int) ≤ (j : Int) := by omega
          have hrg := inst_range Hrt.out (j : Int)
          have hts := tabP_succ l j
          have htl := tabP_len l j
          have hold : wr.cell? ⟨g, j, none⟩ = some (.int .i64 (instM l (j : Int))) := by
            rw [(HR.out.pull 1 rfl).cell j]
            have := iC_get (fun v : Nat => instM l (v : Int)) hlt
            simpa using this
          obtain ⟨x, hx⟩ : ∃ x : Nat, instM l (j : Int) = (x : Int) := ⟨(instM l (j : Int)).toNat, by omega⟩
          rw [hx, Int.toNat_natCast] at hts
          rw [hx] at hold
          have HM := Lib.hid (must_ok x 2 (by decide) (by decide) (by omega))
          have Hts := Lib.hid hts
          have hbl := beBytes_len x 2
          clear hts hrg hx
          generalize beBytes x 2 = X at *
          generalize tabP l j = P0 at *
          go_wp2_with fail
          refine (HM.out _).mono ?_
          rintro e w8 ⟨rfl, hb8⟩
          have H8 := Lib.hid (HR.out.ext hb8)
          clear hb8 HR hold
          go_wp2_with fail
          refine (bwrite_st H8.out hO X (by omega)).mono ?_
          rintro e w9 ⟨rfl, v9, h9⟩
          have H9 := Lib.hid h9
          clear h9 H8
          go_wp2_with fail
          go_roundw
          case rel => exact ⟨j + 1, v9, by omega, by go_num, by rw [Hts.out]; exact H9⟩
          case measure => simp [intOf]; omega
        · obtain rfl : j = 4096 := by omega
          rw [tabP_all, HT.out] at HR
          go_wp2_with fail
          refine (bstring_st HR.out hO).mono ?_
          rintro e w9 ⟨rfl, v9, h9⟩
          have H9 := Lib.hid h9
          clear h9
          go_wp2_with fail
          go_ret2
          exact ⟨rfl, H9.out.below⟩
end Go.Proofs.Ytjekdodboihfhaa
