/- mvrp.Write. -/
import Derived.Test.YtjekdodboihfhaaDoorMv5
import Derived.Test.YtjekdodboihfhaaDoorHAdd
import Derived.RangeFuncWrites
import Derived.Laws.CopyRow
set_option linter.all false
namespace Go.Proofs.YtjekdodboihfhaaDoor
open Go.RowKit Go.Shelf
attribute [local go_sem] Oper.semAt_some
/-- The entries that ranges over a function leave behind: each collects nothing. -/
def Left (w : World) (B : Nat) : List Deferred → Prop
  | [] => True
  | d :: ds => (∃ D, d = { target := .collected D, args := #[] } ∧ B ≤ D ∧ w.heap[D]? = some (.deferred (some [])) ∧ (∀ d' ∈ ds, d'.target ≠ .collected D)) ∧ Left w B ds
theorem Left.put {w : World} {B D : Nat} {o : Obj} : ∀ {ds : List Deferred}, Left w B ds → (∀ d' ∈ ds, d'.target ≠ .collected D) → Left (w.putObj D o) B ds
  | [], _, _ => trivial
  | d :: ds, ⟨⟨E, he, hB, hE, hn⟩, hl⟩, hD => by
    have hne : E ≠ D := fun e => hD _ (List.mem_cons_self ..) (by rw [he, e])
    refine ⟨⟨E, he, hB, ?_, hn⟩, Left.put hl (fun d' hd' => hD d' (List.mem_cons_of_mem _ hd'))⟩
    have := (grownBy_putObj' w D o).block E (Array.getElem?_eq_some_iff.1 hE).1 (fun e => by injection e with e; exact hne e)
    exact this.trans hE
theorem Left.keep {w w' : World} {B : Nat} (h : KeepsFrom B w w') : ∀ {ds : List Deferred}, Left w B ds → Left w' B ds
  | [], _ => trivial
  | _ :: _, ⟨⟨E, he, hB, hE, hn⟩, hl⟩ => ⟨⟨E, he, hB, h.same E _ hB hE rfl, hn⟩, Left.keep h hl⟩
theorem keeps_of_below {w w' : World} {B : Nat} (hb : Below w.heap.size w w') : KeepsFrom B w w' := ⟨hb.size, fun k _ _ h _ => (hb.block k (Array.getElem?_eq_some_iff.1 h).1).trans h⟩
theorem left_leaves {P : Program} {F : Fence} {n : Nat} {fn : Func} {tmps : Array Value} {R : Ending → World → Prop} {B : Nat} : ∀ (ds : List Deferred) (w : World), Left w B ds →
    (∀ w', Below B w w' → LeavesIn F n P fn tmps R [] .returning w') → LeavesInM F n P fn tmps R ds .returning w
  | [], w, _, h => h w (Below.refl _ _)
  | d :: ds, w, hl, h => by
    obtain ⟨⟨D, rfl, hB, hD, hn⟩, hl⟩ := hl
    refine ⟨by simp, .inl ⟨D, _, rfl, run_takeDeferred hD, ?_⟩⟩
    have hg := grownBy_putObj' w D (.deferred none)
    refine left_leaves ds _ (hl.put hn) (fun w' hb => h w' (Below.trans ⟨hg.os, hg.tape, hg.output, hg.size, fun k hk => ?_⟩ hb))
    by_cases hkw : k < w.heap.size
    · exact hg.block k hkw (fun e => by injection e with e; omega)
    · have := (Array.getElem?_eq_some_iff.1 hD).1
      omega
/-- Nobody panics. -/
def noPan (Q : Exit → Act → World → Prop) : Exit → Act → World → Prop
  | .panic _, _, _ => False
  | e, a, w => Q e a w
theorem wp_nopan {P : Program} {c : Code} {Q : Exit → Act → World → Prop} {a : Act} {w : World} (h : c.wp P (noPan Q) a w) : c.wp P Q a w :=
  wp_mono h (fun e a w h => by cases e <;> first | exact h | exact h.elim)
theorem Left.lt {w : World} {B : Nat} : ∀ {ds : List Deferred}, Left w B ds → ∀ d ∈ ds, ∀ D, d.target = .collected D → D < w.heap.size
  | [], _, _, hd, _, _ => by cases hd
  | _ :: _, ⟨⟨E, he, _, hE, _⟩, hl⟩, d', hd, D, e => by
    rcases List.mem_cons.1 hd with rfl | hd
    · rw [he] at e
      injection e with e
      rw [← e]; exact (Array.getElem?_eq_some_iff.1 hE).1
    · exact Left.lt hl _ hd D e
theorem Left.turn {W W' : World} {B C : Nat} {row : Option Nat} (hg : W.grownBy W' row) (hr : ∀ r, row = some r → C ≤ r) : ∀ {ds : List Deferred}, Left W B ds → (∀ d ∈ ds, ∀ D, d.target = .collected D → D < C) → Left W' B ds
  | [], _, _ => trivial
  | _ :: _, ⟨⟨E, he, hB, hE, hn⟩, hl⟩, hlt => by
    have h1 := hlt _ (List.mem_cons_self ..) E (by rw [he])
    exact ⟨⟨E, he, hB, (hg.block E (Array.getElem?_eq_some_iff.1 hE).1 (fun e => by have := hr E e.symm; omega)).trans hE, hn⟩, Left.turn hg hr hl (fun d hd => hlt d (List.mem_cons_of_mem _ hd))⟩
theorem St.rowK {B : Nat} {w0 w : World} {A : List It} {g t : Nat} {L : List Value} (h : St B w0 w (bk g t L :: A)) (L' : List Value) : St B w0 (w.setRow g L'.toArray) (bk g t L' :: A) := by
  have hB : w.heap[g]? = some (.cells L.toArray t (0, 0)) := h.head
  refine h.sets ?_ ⟨rfl, rfl, rfl, by simp [World.setRow], fun k hk => setRow_other w g k _ hk⟩
  show Blk _ g t _
  unfold Blk
  rw [setRow_heap w g _ _ t _ hB]
theorem trio_row (es : List Int) (x : Nat) (hx : x < (es.length + 2) / 3) {q : Nat} (hq : min 3 (es.length - 3 * x) = q) :
    (1 ≤ q ∧ q ≤ 3 ∧ 3 * x + q ≤ es.length) ∧ ((List.range q).map fun i => Value.int .i64 (es[3 * x + i]?.getD 0)) ++ [Value.int .i64 0, .int .i64 0, .int .i64 0].drop ((List.range q).map fun i => Value.int .i64 (es[3 * x + i]?.getD 0)).length = [.int .i64 (trio es x 0), .int .i64 (trio es x 1), .int .i64 (trio es x 2)] := by
  refine ⟨by omega, ?_⟩
  unfold trio
  rw [List.length_map, List.length_range]
  have : q = 1 ∨ q = 2 ∨ q = 3 := by omega
  rcases this with rfl | rfl | rfl
  · rw [if_pos (by omega), if_neg (by omega), if_neg (by omega)]; rfl
  · rw [if_pos (by omega), if_pos (by omega), if_neg (by omega)]; rfl
  · rw [if_pos (by omega), if_pos (by omega), if_pos (by omega)]; rfl
theorem trio_ok {es : List Int} (h : ∀ e ∈ es, evOk e = true) (x i : Nat) : ∃ n : Nat, trio es x i = (n : Int) ∧ n ≤ 5 := by
  unfold trio
  split
  · rename_i hlt
    rw [List.getElem?_eq_getElem hlt]
    obtain ⟨h1, h2⟩ := evOk_iff.1 (h _ (List.getElem_mem hlt))
    exact ⟨es[3 * x + i].toNat, by simp only [Option.getD_some]; omega, by omega⟩
  · exact ⟨0, rfl, by omega⟩
theorem trio_wraps {a b c : Nat} (ha : a ≤ 5) (hb : b ≤ 5) (hc : c ≤ 5) : wrap64 ((a : Int) * 6) = (a : Int) * 6 ∧ wrap64 ((a : Int) * 6 + (b : Int)) = (a : Int) * 6 + (b : Int) ∧ wrap64 (((a : Int) * 6 + (b : Int)) * 6) = ((a : Int) * 6 + (b : Int)) * 6 ∧ wrap64 (((a : Int) * 6 + (b : Int)) * 6 + (c : Int)) = ((a * 36 + b * 6 + c : Nat) : Int) := by
  unfold wrap64
  refine ⟨by omega, by omega, by omega, by omega⟩
/-- The two boxes of an iterator are kept. -/
def KpB (b : Nat) (U V : World) : Prop := V.cell? ⟨b, 0, none⟩ = U.cell? ⟨b, 0, none⟩ ∧ V.cell? ⟨b + 1, 0, none⟩ = U.cell? ⟨b + 1, 0, none⟩
theorem kpB_put {b s : Nat} (hb : b + 1 < s) (W : World) (l : Nat) (o o' : Obj) (hl : s ≤ l) (ho : W.heap[l]? = some o) (_ : o.isCells = false) (_ : o.isWalk = false) : KpB b W (W.putObj l o') := by
  have hls := (Array.getElem?_eq_some_iff.1 ho).1
  have hg := grownBy_putObj' W l o'
  exact ⟨World.cell?_of_block (w := W) (a := ⟨b, 0, none⟩) (hg.block b (by omega) (fun e => by injection e with e; omega)), World.cell?_of_block (w := W) (a := ⟨b + 1, 0, none⟩) (hg.block (b + 1) (by omega) (fun e => by injection e with e; omega))⟩
theorem evs_where {w : World} {A : Option Addr} {es : List Int} (h : ∀ U, Below w.heap.size w U → SlRow U U.heap.size 1 A (intv es)) :
    ∃ b o, (0 < es.length → A = some ⟨b, o, none⟩) ∧ ∀ U, Below w.heap.size w U → ∀ j, j < es.length → b < w.heap.size ∧ U.cell? ⟨b, o + j, none⟩ = some (.int .i64 (es[j]?.getD 0)) := by
  by_cases h0 : 0 < es.length
  · obtain ⟨g, o, e, hg, hc⟩ := h w (Below.refl _ _) (by rw [intv_len]; exact h0)
    refine ⟨g, o, fun _ => e, fun U hU j hj => ⟨hg, ?_⟩⟩
    have := intv_cell hc hU hg hj
    rw [this, List.getElem?_eq_getElem hj]; rfl
  · exact ⟨0, 0, fun h => (h0 h).elim, fun U hU j hj => (h0 (by omega)).elim⟩
/-- The frame at the head of the loop over the attributes. -/
@[reducible] def wFrame (A : Option Addr) (n cap b k : Nat) (u : Nat → Value) (ds : List Deferred) : Act := { tmps := #[.slice A n cap, undef, .string ⟨#[]⟩, .nilIface, .pointer (some ⟨b, 0, none⟩), u 5, u 6, u 7, u 8, u 9, .slice A n cap, .int .i64 (n : Int), .bool false, undef, .slice A n cap, .int .i64 (n : Int), .int .i64 (k : Int), u 17, u 18, u 19, u 20, u 21, u 22, u 23, u 24, u 25, u 26, u 27, u 28, u 29, u 30, u 31, u 32, u 33, u 34, u 35, u 36, u 37, u 38, u 39, u 40, u 41, u 42, u 43, u 44, u 45, u 46, u 47, u 48, u 49, u 50, u 51, u 52, u 53, u 54, u 55, u 56, u 57, u 58, u 59, u 60, u 61, u 62, undef, undef, undef, undef, undef, undef], defers := ds }
theorem info38 : (Tryd.prog.info? 38).map (·.size) = some 3 := by kernel_rfl
@[reducible] def zAv : List Value := [.bool false, .int .i64 0, .slice none 0 0]
theorem ARow.one {w : World} {R : List ARow} (h : EvsAt w R) {r : ARow} (hr : r ∈ R) : ∀ v ∈ r.vals, v.oneCell' = true := by
  obtain ⟨A, cap, e, _, _⟩ := h r hr
  exact Av.one r.a r.sv (by rw [e]; rfl)
def wInv (R : List ARow) (A : Option Addr) (n cap : Nat) (w : World) (m : Nat) (a : Act) (W : World) : Prop :=
  ∃ (k : Nat) (u : Nat → Value) (ds : List Deferred) (v : Value), m + k = n ∧ Hid (∀ j (hj : j < R.length), j < k → R[j].a.okB = true) ∧ a = wFrame A n cap w.heap.size k u ds ∧ Left W w.heap.size ds ∧ Hid (St w.heap.size w W (sb w.heap.size w.heap.size v (mvBody ((R.map ARow.a).take k)) :: []))
theorem mvBody_ok_le (R : List ARow) : ∀ k, k ≤ R.length → (∀ j (hj : j < R.length), j < k → R[j].a.okB = true) → (mvBody ((R.map ARow.a).take k)).length ≤ 140 * k
  | 0, _, _ => by simp [mvBody]
  | k + 1, hk, h => by
    have hkx : k < (R.map ARow.a).length := by rw [List.length_map]; omega
    rw [← List.take_append_getElem hkx, mvBody_snoc, List.length_append, Av.bytes_len]
    have ih := mvBody_ok_le R k (by omega) (fun j hj hjk => h j hj (by omega))
    have hok := h k (by omega) (by omega)
    obtain ⟨_, _, _, h4, _⟩ := Av.ok_iff.1 hok
    have e : (R.map ARow.a)[k] = R[k].a := by simp
    rw [e]
    omega
theorem mvBody_step (R : List ARow) {k : Nat} (hk : k < R.length) : mvBody ((R.map ARow.a).take (k + 1)) = mvBody ((R.map ARow.a).take k) ++ R[k].a.bytes := by
  have hkx : k < (R.map ARow.a).length := by rw [List.length_map]; exact hk
  rw [← List.take_append_getElem hkx, mvBody_snoc]
  simp
theorem all_or (n : Int) (m : Nat) (hm : m < 8192) : bits .or .i64 (m : Int) 8192 = ((m + 8192 : Nat) : Int) := by
  have hx : m ||| 8192 = m + 8192 := by
    have := Nat.two_pow_add_eq_or_of_lt (i := 13) (b := m) hm 1
    rw [show (2 : Nat) ^ 13 * 1 = 8192 by rfl] at this
    rw [Nat.or_comm, ← this]; omega
  have h1 : (BitVec.ofInt 64 ((m : Nat) : Int)).toNat = m := by rw [BitVec.ofInt_natCast, BitVec.toNat_ofNat]; exact Nat.mod_eq_of_lt (by omega)
  show IntKind.i64.wrap ((BitVec.ofInt 64 ((m : Nat) : Int) ||| BitVec.ofInt 64 (8192 : Int)).toNat : Int) = _
  rw [BitVec.toNat_or, h1, show (BitVec.ofInt 64 (8192 : Int)).toNat = 8192 by rfl, hx, IntKind.wrap_i64]
  omega
set_option maxRecDepth 100000 in
set_option maxHeartbeats 4000000 in
theorem mvWrite_any (R : List ARow) (A : Option Addr) (cap n : Nat) (w : World) (hn : R.length = n) (h40 : n ≤ 40) (hr : SlRow w w.heap.size 3 A (R.map ARow.vals)) (he : EvsAt w R) (hbig : ∀ r ∈ R, r.a.evs.length ≤ 9223372036854775807) :
    Calls Tryd.prog 7 #[.slice A n cap] w fun e w' => ((∀ r ∈ R, r.a.okB = true) → e = .returned (.tuple #[.string ⟨(mvBytes (R.map ARow.a)).toArray⟩, .nilIface])) ∧ ((∃ r ∈ R, r.a.okB = false) → ∃ g, e = .returned (.tuple #[.string ⟨#[]⟩, .iface 51 (.pointer (some ⟨g, 0, none⟩))])) ∧ Below w.heap.size w w' := by
  obtain ⟨T, hT⟩ : ∃ T, mvBytes (R.map ARow.a) = T := ⟨_, rfl⟩
  rw [hT]
  have HT := Lib.hid hT
  clear hT
  refine (callsIn_wide (n := 3)).1 ?_
  refine callsIn_of_wp_marks Tryd.func7 rfl trivial ?_ rfl
  refine wpIn_wide.2 ?_
  simp only [Tryd.ntmps7, List.size_toArray, List.length_cons, List.length_nil, Nat.reduceAdd, Nat.reduceSub, Array.replicate_succ, Array.replicate_zero, List.push_toArray, List.append_toArray, List.nil_append, List.cons_append]
  have h40i : ¬ (40 : Int) < (n : Int) := by omega
  go_wp2_with fail
  have Hr := Lib.hid hr
  have He := Lib.hid he
  clear hr he
  refine wp_loop_ghost_k (wInv R A n cap w) n ⟨0, fun _ => undef, [], .slice none 0 0, by omega, Lib.hid (fun j _ h => by omega), rfl, trivial, Lib.hid (St.init w).sb_new⟩ ?_
  rintro m a W ⟨k, u, ds, v, hmk, Hok, rfl, hL, HS⟩ J K hJ hK
  have HL := Lib.hid hL
  clear hL
  by_cases hlt : k < n
  · have hlti : (k : Int) < (n : Int) := by omega
    have hkx : k < R.length := by omega
    obtain ⟨g, o, rfl, hg, hc⟩ := Hr.out (by rw [List.length_map]; omega)
    have hc1 := hc k (by rw [List.length_map]; exact hkx)
    have e1 : (R.map ARow.vals)[k]'(by rw [List.length_map]; exact hkx) = R[k].vals := by simp
    rw [e1] at hc1
    have Hc1 := Lib.hid (rangeAt_below hc1 HS.out.below hg)
    have Hone := Lib.hid (ARow.one He.out (List.getElem_mem hkx))
    have lg := Nat.lt_of_lt_of_le hg HS.out.below.size
    clear hc hc1 e1
    obtain ⟨r, hrk⟩ : ∃ r, R[k] = r := ⟨_, rfl⟩
    rw [hrk] at Hc1 Hone
    have Hrk := Lib.hid hrk
    clear hrk
    go_upto_region 7 with (first
      | ((with_reducible refine wpList_load_rng (ty := 38) (b := ?b1) (o := ?o1) (ds := ?ds1) r.vals ?hx1 ?hB1 ?hu1 ?hd1 ?hi1 ?hk1)
         case hx1 => rfl
         case hB1 => exact Hc1.out
         case hu1 => exact Tryd.underlying38
         case hd1 => rfl
         case hi1 => exact info38)
      | ((with_reducible refine wpList_store_blk (ty := 38) (b := ?b2) (o := ?o2) (t := 38) zAv r.vals ?hx2 ?hy2 ?hB2 ?ho2 ?hi2 ?h12 ?hk2)
         case hx2 => rfl
         case hy2 => rfl
         case hB2 => exact Blk.new W zAv 38
         case ho2 => exact Nat.le_refl _
         case hi2 => exact info38
         case h12 => exact Hone.out
         intro W4 hBW4 hoW4))
    have H4 := Lib.hid ((HS.out.alloc zAv 38).sets (L' := r.vals) hBW4 hoW4)
    obtain ⟨hb4, _⟩ := Only.fresh hoW4
    have HL4 := Lib.hid (Left.keep (keeps_of_below hb4) HL.out)
    obtain ⟨A1, cap1, hsv, hc1, hs1⟩ := He.out r (by rw [← Hrk.out]; exact List.getElem_mem hkx)
    have HE1 : Hid (∀ U, Below w.heap.size w U → SlRow U U.heap.size 1 A1 (intv r.a.evs)) := Lib.hid (fun U hU => (hs1.below hU (Nat.le_refl _)).more hU.size)
    have HRt : Hid (∀ U, Below w.heap.size w U → Calls Tryd.prog 13 #[.agg r.vals.toArray] U fun e w' => e = .returned (.bool r.a.okB) ∧ Below U.heap.size U w') := Lib.hid (fun U hU => by
      have h := mvRight_any r.a A1 cap1 U (hbig r (by rw [← Hrk.out]; exact List.getElem_mem hkx)) hc1 (HE1.out U hU)
      rw [← hsv] at h
      exact h)
    clear hBW4 hoW4 hb4 HS hs1
    generalize W.heap.size = P at *
    have Hmem : Hid (r ∈ R) := Lib.hid (by rw [← Hrk.out]; exact List.getElem_mem hkx)
    cases hto : r.a.okB
    · have HTo := Lib.hid hto
      clear hto
      go_wp2_with (first
        | (with_reducible refine wpList_load_rng (ty := 38) r.vals (by with_unfolding_all rfl) (Blk.box (H4.out.at 0 rfl)).range Tryd.underlying38 (by with_unfolding_all rfl) (by with_unfolding_all exact info38) ?_)
        | ((with_reducible refine (HRt.out _ H4.out.below).mono ?_)
           rintro e w5 ⟨rfl, hb5⟩
           rw [HTo.out]
           have H5 := Lib.hid (H4.out.ext hb5)
           have HL5 := Lib.hid (Left.keep (keeps_of_below hb5) HL4.out)
           clear hb5))
      have hb6 : Below w5.heap.size w5 (w5.alloc (.cells #[.int .i64 1, .int .i64 (k : Int)] 53)) := (Below.refl _ _).alloc (Nat.le_refl _) _
      have HL6 := Left.keep (keeps_of_below hb6) HL5.out
      refine left_leaves ds _ HL6 (fun w' hb' => ⟨.tuple #[.string ⟨#[]⟩, .iface 51 (.pointer (some ⟨w5.heap.size, 0, none⟩))], by simp [results, Tryd.results7, go_sem], fun h => ?_, fun _ => ⟨_, rfl⟩, (H5.out.ext hb6).below.trans hb'⟩)
      have := h r Hmem.out
      rw [HTo.out] at this; cases this
    · have HTo := Lib.hid hto
      have Hnext : Hid (∀ j (hj : j < R.length), j < k + 1 → R[j].a.okB = true) := Lib.hid (fun j hj hjk => by
        by_cases e : j = k
        · subst e; rw [Hrk.out]; exact hto
        · exact Hok.out j hj (by omega))
      have hstep := mvBody_step R hkx
      rw [Hrk.out] at hstep
      clear hto
      go_upto_region 9 with (first
        | (with_reducible refine wpList_load_rng (ty := 38) r.vals (by with_unfolding_all rfl) (Blk.box (H4.out.at 0 rfl)).range Tryd.underlying38 (by with_unfolding_all rfl) (by with_unfolding_all exact info38) ?_)
        | ((with_reducible refine (HRt.out _ H4.out.below).mono ?_)
           rintro e w5 ⟨rfl, hb5⟩
           rw [HTo.out]
           have H5 := Lib.hid (H4.out.ext hb5)
           have HL5 := Lib.hid (Left.keep (keeps_of_below hb5) HL4.out)
           clear hb5))
      have hlY : (mvBody ((R.map ARow.a).take k)).length ≤ 140 * k := mvBody_ok_le R k (by omega) Hok.out
      obtain ⟨⟨al, fi, es⟩, sv⟩ := r
      simp only at hsv
      subst hsv
      obtain ⟨q1, q2, q3, q4, q5, q6⟩ := Av.ok_iff.1 HTo.out
      simp only at q1 q2 q3 q4 q5 q6 hstep hc1 HE1
      obtain ⟨f, rfl⟩ := Int.eq_ofNat_of_zero_le q2
      have hf : f ≤ 4094 := by omega
      have Hq6 := Lib.hid q6
      clear q1 q2 q3 q5 q6 HRt HTo H4 HL4 Hc1 Hone
      obtain ⟨m, hm⟩ : ∃ m, es.length + (if al = true then 8192 else 0) = m := ⟨_, rfl⟩
      have hmb : m < 65536 := by rw [← hm]; split <;> omega
      have hstep2 : mvBody ((R.map ARow.a).take (k + 1)) = mvBody ((R.map ARow.a).take k) ++ (beBytes m 2 ++ (beBytes f 2 ++ packE es)) := by rw [hstep, ← hm]; rfl
      obtain ⟨Y1, hY1⟩ : ∃ Z, mvBody ((R.map ARow.a).take (k + 1)) = Z := ⟨_, rfl⟩
      rw [hY1] at hstep2
      have HY1 := Lib.hid hY1
      have Hstep := Lib.hid hstep2
      clear hstep hstep2 hY1
      generalize mvBody ((R.map ARow.a).take k) = Y at *
      have M1 : Hid (∀ W, Calls Tryd.prog 20 #[.int .i64 (m : Int), .int .i64 2] W fun e w' => e = .returned (.string ⟨(beBytes m 2).toArray⟩) ∧ Below W.heap.size W w') := Lib.hid (fun W => must_ok m 2 (by decide) (by decide) (by omega) W)
      have M2 : Hid (∀ W, Calls Tryd.prog 20 #[.int .i64 (f : Int), .int .i64 2] W fun e w' => e = .returned (.string ⟨(beBytes f 2).toArray⟩) ∧ Below W.heap.size W w') := Lib.hid (fun W => must_ok f 2 (by decide) (by decide) (by omega) W)
      have l1 : (beBytes m 2).length = 2 := beBytes_len _ _
      have l2 : (beBytes f 2).length = 2 := beBytes_len _ _
      generalize beBytes m 2 = B1 at *
      generalize beBytes f 2 = B2 at *
      have c0 : w5.cell? ⟨P, 0, none⟩ = some (.bool al) := H5.out.cell 0
      have c2 : w5.cell? ⟨P, 2, none⟩ = some (.slice A1 es.length cap1) := H5.out.cell 2
      have hor := all_or 0 es.length (by omega)
      have Hm := Lib.hid hm
      clear hm
      go_upto_if 32 with (fail)
      go_cut [7] from 33 to 34 (fun x wx => x = .int .i64 (m : Int) ∧ wx = w5)
      case first =>
        cases al
        · have hm := Hm.out
          simp only [Bool.false_eq_true, if_false, Nat.add_zero] at hm
          subst hm
          go_wp2_with fail
          go_meet
          exact ⟨rfl, rfl⟩
        · have hm := Hm.out
          simp only [if_true] at hm
          subst hm
          go_wp2_with fail
          go_meet
          exact ⟨rfl, rfl⟩
      case rest =>
      obtain ⟨rfl, hw⟩ := hcut
      have hw := hw.symm
      subst hw
      have HA5 := Lib.hid H5.out.swap
      clear H5
      have hS5 : w5.cell? ⟨P, 1, none⟩ = some (.int .i64 (f : Int)) := (Blk.box (HA5.out.at 1 rfl)).cell 1
      go_upto_region 12 with (fail)
      refine wp_nopan ?_
      refine wp_region_last (fun X => X.cell? ⟨P, 1, none⟩ = some (.int .i64 (f : Int))) 6 (by kernel_rfl) hS5 (fun hHeld => ?_)
      refine wpAnyG_takeG 0 (oi := ?o8) ?v8 ?hi8 (by kernel_rfl) (by kernel_rfl) (by decide) (by kernel_rfl) (by kernel_rfl) ?hq8 ?hg8 ?hy8 (by assumption) ?hk8
      case hi8 => (simp only [List.getElem?_toArray, List.getElem?_cons_succ, List.getElem?_cons_zero]; rfl)
      case hq8 => exact fun _ _ _ h => h
      case hg8 => (first | with_unfolding_all rfl | (go_simp; with_unfolding_all rfl))
      case hy8 => (intro X hX; (first | obtain ⟨hXa, hXb, hXc, hXd, hXe⟩ := hX | obtain ⟨hXa, hXb, hXc, hXd⟩ := hX | obtain ⟨hXa, hXb, hXc⟩ := hX | obtain ⟨hXa, hXb⟩ := hX | skip); go_simp; try with_reducible rfl)
      try simp only [Act.put, List.setIfInBounds_toArray, List.set_cons_zero, List.set_cons_succ]
      refine wpAnyG_takeG 2 (oi := ?o9) ?v9 ?hi9 (by kernel_rfl) (by kernel_rfl) (by decide) (by kernel_rfl) (by kernel_rfl) ?hq9 ?hg9 ?hy9 (by assumption) ?hk9
      case hi9 => (simp only [List.getElem?_toArray, List.getElem?_cons_succ, List.getElem?_cons_zero]; rfl)
      case hq9 => exact fun _ _ _ h => h
      case hg9 => (first | with_unfolding_all rfl | (go_simp; with_unfolding_all rfl))
      case hy9 => (intro X hX; (first | obtain ⟨hXa, hXb, hXc, hXd, hXe⟩ := hX | obtain ⟨hXa, hXb, hXc, hXd⟩ := hX | obtain ⟨hXa, hXb, hXc⟩ := hX | obtain ⟨hXa, hXb⟩ := hX | skip); go_simp; try with_reducible rfl)
      try simp only [Act.put, List.setIfInBounds_toArray, List.set_cons_zero, List.set_cons_succ]
      refine wpAnyG_takeG 3 (oi := ?o10) ?v10 ?hi10 (by kernel_rfl) (by kernel_rfl) (by decide) (by kernel_rfl) (by kernel_rfl) ?hq10 ?hg10 ?hy10 (by assumption) ?hk10
      case hi10 => (simp only [List.getElem?_toArray, List.getElem?_cons_succ, List.getElem?_cons_zero]; rfl)
      case hq10 => exact fun _ _ _ h => h
      case hg10 => (first | with_unfolding_all rfl | (go_simp; with_unfolding_all rfl))
      case hy10 => (intro X hX; (first | obtain ⟨hXa, hXb, hXc, hXd, hXe⟩ := hX | obtain ⟨hXa, hXb, hXc, hXd⟩ := hX | obtain ⟨hXa, hXb, hXc⟩ := hX | obtain ⟨hXa, hXb⟩ := hX | skip); go_simp; try with_reducible rfl)
      try simp only [Act.put, List.setIfInBounds_toArray, List.set_cons_zero, List.set_cons_succ]
      refine wpAnyG_one 1 (o := ?o11) (by kernel_rfl) ?hi11 ?hg11 ?hk11
      case hi11 => (simp only [List.getElem?_toArray, List.getElem?_cons_succ, List.getElem?_cons_zero]; rfl)
      case hg11 => rfl
      intro K hK
      go_simp
      refine (M1.out _).mono ?_
      rintro e w6 ⟨rfl, hb6⟩
      have HA6 := Lib.hid (HA5.out.drew.ext hb6)
      have HL6 := Lib.hid (Left.keep (keeps_of_below hb6) (Left.keep (keeps_of_below (Below.refl _ _).drew) HL5.out))
      have hS6 : w6.cell? ⟨P, 1, none⟩ = some (.int .i64 (f : Int)) := (Blk.box (HA6.out.at 1 rfl)).cell 1
      refine hK.out _ _ (fun _ => hS6) (fun _ => ?_)
      clear hK K hHeld hb6 HA5 HL5 hS5 c0 c2
      have hHeld := hS6
      try simp only [Act.put, List.setIfInBounds_toArray, List.set_cons_zero, List.set_cons_succ]
      refine wpAnyG_one 4 (o := ?o12) (by kernel_rfl) ?hi12 ?hg12 ?hk12
      case hi12 => (simp only [List.getElem?_toArray, List.getElem?_cons_succ, List.getElem?_cons_zero]; rfl)
      case hg12 => rfl
      intro K hK
      go_simp
      refine (M2.out _).mono ?_
      rintro e w7 ⟨rfl, hb7⟩
      have HA7 := Lib.hid (HA6.out.ext hb7)
      have HL7 := Lib.hid (Left.keep (keeps_of_below hb7) HL6.out)
      have hS7 : w7.cell? ⟨P, 1, none⟩ = some (.int .i64 (f : Int)) := (Blk.box (HA7.out.at 1 rfl)).cell 1
      refine hK.out _ _ (fun _ => hS7) (fun _ => ?_)
      clear hK K hHeld hb7 HA6 HL6 hS6
      have hHeld := hS7
      try simp only [Act.put, List.setIfInBounds_toArray, List.set_cons_zero, List.set_cons_succ]
      refine wpAnyG_takeG 5 (oi := ?o13) (.string ⟨((B1) ++ (B2)).toArray⟩) ?hi13 (by kernel_rfl) (by kernel_rfl) (by decide) (by kernel_rfl) (by kernel_rfl) ?hq13 ?hg13 ?hy13 (by assumption) ?hk13
      case hi13 => (simp only [List.getElem?_toArray, List.getElem?_cons_succ, List.getElem?_cons_zero]; rfl)
      case hq13 => exact fun _ _ _ h => h
      case hg13 => (first | with_unfolding_all rfl | (go_simp; with_unfolding_all rfl))
      case hy13 => exact fun X hX => exec_addS (B1) (B2) (by with_unfolding_all rfl) (by with_unfolding_all rfl) (by omega)
      try simp only [Act.put, List.setIfInBounds_toArray, List.set_cons_zero, List.set_cons_succ]
      refine wpAnyG_one 6 (o := ?o14) (by kernel_rfl) ?hi14 ?hg14 ?hk14
      case hi14 => (simp only [List.getElem?_toArray, List.getElem?_cons_succ, List.getElem?_cons_zero]; rfl)
      case hg14 => rfl
      intro K hK
      go_simp
      have HO7 := Lib.hid (HA7.out.oth (fun x hx => by rcases List.mem_cons.1 hx with rfl | hx; exact sb_cells _ _ _ _; rw [List.mem_singleton.1 hx]; exact bk_cells _ _ _)).swap
      refine (bwrite_st HO7.out (Others.cons (oth_other _ _ _) (Others.cons (bk_other (by decide)) Others.nil)) _ (by simp only [List.length_append, l1, l2]; omega)).mono ?_
      rintro e w8 ⟨he, v8, h8⟩
      obtain ⟨rv8, rfl⟩ : ∃ x, e = .returned x := ⟨_, he⟩
      clear he
      have HL8 := Lib.hid (Left.keep (oth_keeps (h8.item (k := oth w.heap.size w7) (by simp))) HL7.out)
      have H8 := Lib.hid (h8.sub (List.Sublist.cons₂ _ (List.sublist_cons_self _ _)))
      refine hK.out _ _ (fun h => absurd rfl h) (fun _ => ?_)
      refine wpAnyG_done (by kernel_rfl) ?_ _
      dsimp only [noPan]
      clear hK K hHeld hS7 HO7 HA7 HL7 h8
      have d2 : w8.cell? ⟨P, 2, none⟩ = some (.slice A1 es.length cap1) := (Blk.box (H8.out.at 1 rfl)).cell 2
      obtain ⟨RV, hRV⟩ : ∃ L : List Value, Av.vals ⟨al, (f : Int), es⟩ (.slice A1 es.length cap1) = L := ⟨_, rfl⟩
      have hRV' : ARow.vals ⟨⟨al, (f : Int), es⟩, .slice A1 es.length cap1⟩ = RV := hRV
      rw [hRV'] at H8 ⊢
      have HRV := Lib.hid hRV'
      clear hRV hRV' hw
      obtain ⟨eb, eo, hA, hev⟩ := evs_where HE1.out
      have Hev := Lib.hid hev
      clear hev HE1
      go_wp2_with (first
        | ((with_reducible refine (chunk_any A1 es.length cap1 _).mono ?_)
           rintro e w9 ⟨rfl, hw9⟩))
      clear d2
      have H9 := Lib.hid (H8.out.alloc2 [.slice A1 es.length cap1] [.int .i64 3] 36 3)
      have HL9 := Lib.hid (Left.keep (keeps_of_below (((Below.refl w8.heap.size w8).alloc (Nat.le_refl _) (.cells #[.slice A1 es.length cap1] 36)).alloc (by simp) (.cells #[.int .i64 3] 3))) HL8.out)
      rw [← hw9] at H9 HL9 ⊢
      have hBs := (Blk.box (H9.out.at 1 rfl)).cell 0
      have hBn := (Blk.box (H9.out.at 0 rfl)).cell 0
      have hz9 : w9.heap.size = w8.heap.size + 1 + 1 := by rw [hw9]; simp
      have hle9 : w.heap.size ≤ w8.heap.size := H8.out.le
      have Hlt := Lib.hid (Left.lt HL9.out)
      clear hw9
      generalize hBsz : w8.heap.size = Bs at *
      refine wpIn_wide.1 (wpIn_rangeFunc_ownG (F := Fence.wide) (n := 3) rfl (by decide) (gf := 39) (lb := #[.pointer (some ⟨Bs, 0, none⟩), .pointer (some ⟨Bs + 1, 0, none⟩)]) rfl trivial (enters_of Tryd.func39 (by kernel_rfl) rfl)
        (chunk_stops Fence.wide 2 trivial rfl (by decide) Bs (Bs + 1) eb eo es.length cap1 A1 (by omega) hc1 w9 hA (KpB Bs) (fun U V h => h) (by omega) (by omega) hBs hBn)
        (fun h k => ⟨k.1.trans h.1, k.2.trans h.2⟩) (kpB_put (by omega)) (Below.refl _ _) (fun _ => rfl)
        (fun pre X => (∃ v, St w.heap.size w X (sb w.heap.size w.heap.size v ((Y ++ (B1 ++ B2)) ++ bytesOf es pre) :: bk (Bs + 1) 3 [.int .i64 3] :: bk Bs 36 [.slice A1 es.length cap1] :: [])) ∧ Left X w.heap.size ds)
        (fun _ _ _ => False)
        (fun pre X X' row hs hg hr => by
          obtain ⟨⟨v, hs⟩, hl⟩ := hs
          refine ⟨⟨v, hs.turn (fun y hy => ?_) hg (fun r e => ⟨by have := (hr r e).1; omega, (hr r e).2⟩)⟩, Left.turn hg (fun r e => (hr r e).1) hl Hlt.out⟩
          rcases List.mem_cons.1 hy with rfl | hy
          · exact sb_cells _ _ _ _
          · rcases List.mem_cons.1 hy with rfl | hy
            · exact bk_cells _ _ _
            · rw [List.mem_singleton.1 hy]; exact bk_cells _ _ _)
        (fun _ _ _ _ _ hs _ _ => hs)
        ⟨⟨v8, by
          have h := (H9.out.pull 2 rfl).sub (A' := sb w.heap.size w.heap.size v8 (Y ++ (B1 ++ B2)) :: bk (Bs + 1) 3 [.int .i64 3] :: bk Bs 36 [.slice A1 es.length cap1] :: []) (by simp)
          simpa [bytesOf] using h⟩, HL9.out⟩
        (fun x => { tmps := #[.slice (some ⟨g, o, none⟩) n cap, undef, .string ⟨#[]⟩, .nilIface, .pointer (some ⟨w.heap.size, 0, none⟩), .int .i64 (k : Int), .pointer (some ⟨P, 0, none⟩), .int .i64 (m : Int), pieceK eb eo es.length x, u 9, .slice (some ⟨g, o, none⟩) n cap, .int .i64 (n : Int), .bool false, undef, .slice (some ⟨g, o, none⟩) n cap, .int .i64 (n : Int), .int .i64 (k : Int), .bool true, .int .i64 (k : Int), .pointer (some ⟨g, o + k * 3, none⟩), .agg RV.toArray, .agg RV.toArray, .bool true, .bool false, u 24, u 25, u 26, u 27, .pointer (some ⟨P, 2, none⟩), .slice A1 es.length cap1, .int .i64 (es.length : Int), .pointer (some ⟨P, 0, none⟩), .bool al, u33, u34, .int .i64 (m : Int), .string ⟨B1.toArray⟩, .pointer (some ⟨P, 1, none⟩), .int .i64 (f : Int), .string ⟨B2.toArray⟩, .string ⟨(B1 ++ B2).toArray⟩, rv8, .pointer (some ⟨P, 2, none⟩), .slice A1 es.length cap1, .func (.func 39) #[] #[.pointer (some ⟨Bs, 0, none⟩), .pointer (some ⟨Bs + 1, 0, none⟩)], pieceK eb eo es.length x, u 46, u 47, u 48, u 49, u 50, u 51, u 52, u 53, u 54, u 55, u 56, u 57, u 58, u 59, u 60, u 61, u 62, undef, undef, undef, undef, undef, undef], defers := [] })
        ?assign ?body ?done ?stop)
      case assign =>
        intro l x X K hK
        gi_wp2
        exact hK
      case stop =>
        rintro D c pre X _ _ h _
        exact h.elim
      case done =>
        rintro D xs X hD rfl ⟨⟨v10, h10⟩, hl10⟩ hDD
        dsimp only
        go_wp2_with fail
        refine Handed.intro (n - (k + 1)) (by omega) (hJ _ _ _ ⟨k + 1, fun i => ([.slice (some ⟨g, o, none⟩) n cap, undef, .string ⟨#[]⟩, .nilIface, .pointer (some ⟨w.heap.size, 0, none⟩), .int .i64 (k : Int), .pointer (some ⟨P, 0, none⟩), .int .i64 (m : Int), u 8, u 9, .slice (some ⟨g, o, none⟩) n cap, .int .i64 (n : Int), .bool false, undef, .slice (some ⟨g, o, none⟩) n cap, .int .i64 (n : Int), .int .i64 ((k : Int) + 1), .bool true, .int .i64 (k : Int), .pointer (some ⟨g, o + k * 3, none⟩), .agg RV.toArray, .agg RV.toArray, .bool true, .bool false, u 24, u 25, u 26, u 27, .pointer (some ⟨P, 2, none⟩), .slice A1 es.length cap1, .int .i64 (es.length : Int), .pointer (some ⟨P, 0, none⟩), .bool al, u33, u34, .int .i64 (m : Int), .string ⟨B1.toArray⟩, .pointer (some ⟨P, 1, none⟩), .int .i64 (f : Int), .string ⟨B2.toArray⟩, .string ⟨(B1 ++ B2).toArray⟩, rv8, .pointer (some ⟨P, 2, none⟩), .slice A1 es.length cap1, .func (.func 39) #[] #[.pointer (some ⟨Bs, 0, none⟩), .pointer (some ⟨Bs + 1, 0, none⟩)], u 45, u 46, u 47, u 48, u 49, u 50, u 51, u 52, u 53, u 54, u 55, u 56, u 57, u 58, u 59, u 60, u 61, .int .i64 ((k : Int) + 1)] : List Value).getD i undef, { target := .collected D, args := #[] } :: ds, v10, by omega, Hnext, rfl, ⟨⟨D, rfl, by omega, hDD, fun d' hd' => ?_⟩, hl10⟩, Lib.hid ?_⟩)
        · intro e
          have := Hlt.out d' hd' D e
          omega
        · rw [HY1.out, Hstep.out]
          have hby := bytesOf_up es (N := (es.length + 2) / 3) (Nat.le_refl _) _ (Nat.le_refl _)
          rw [packN_all] at hby
          rw [hby] at h10
          have h11 := h10.sub (A' := sb w.heap.size w.heap.size v10 (Y ++ (B1 ++ B2) ++ packE es) :: []) (by simp)
          simpa [List.append_assoc] using h11
      case body =>
        rintro l pre x X ⟨⟨v10, h10⟩, hl10⟩ hlen
        have HL10 := Lib.hid hl10
        have HO := h10.oth (fun y hy => by
          rcases List.mem_cons.1 hy with rfl | hy
          · exact sb_cells _ _ _ _
          · rcases List.mem_cons.1 hy with rfl | hy
            · exact bk_cells _ _ _
            · rw [List.mem_singleton.1 hy]; exact bk_cells _ _ _)
        have hk1 := (Blk.box (h10.at 2 rfl)).cell 0
        have hk2 := (Blk.box (h10.at 1 rfl)).cell 0
        have HK1 := Lib.hid hk1
        have HK2 := Lib.hid hk2
        have HA := HO.alloc [.int .i64 0, .int .i64 0, .int .i64 0] 60
        obtain ⟨q, hq⟩ : ∃ q, min 3 (es.length - 3 * x.1) = q := ⟨_, rfl⟩
        have hxl := x.2
        obtain ⟨hcl, hcs⟩ := trio_row es x.1 hxl hq
        obtain ⟨cs, hce⟩ : ∃ cs, ((List.range q).map fun i => Value.int .i64 (es[3 * x.1 + i]?.getD 0)) = cs := ⟨_, rfl⟩
        have hev := Hev.out _ (HA.below)
        have hcpy := run_copy_row (P := Tryd.prog) (X.alloc (.cells #[.int .i64 0, .int .i64 0, .int .i64 0] 60)) 36 36 3 3 X.heap.size 0 3 3 ⟨eb, eo + 3 * x.1, none⟩ q q #[.int .i64 0, .int .i64 0, .int .i64 0] 60 cs Tryd.underlying36 (by kernel_rfl) HA.head (by rw [← hce, List.length_map, List.length_range]; exact (Nat.min_eq_left (by omega)).symm)
          (fun j v hj => by
            rw [← hce] at hj
            have hjq : j < q := by
              have := (List.getElem?_eq_some_iff.1 hj).1
              simpa using this
            have hv : v = .int .i64 (es[3 * x.1 + j]?.getD 0) := by
              rw [List.getElem?_map, List.getElem?_range hjq] at hj
              injection hj with hj
              exact hj.symm
            rw [hv]
            have := (hev (3 * x.1 + j) (by omega)).2
            have ha : (⟨eb, eo + 3 * x.1, none⟩ : Addr).add j = ⟨eb, eo + (3 * x.1 + j), none⟩ := by unfold Addr.add; split <;> simp_all [Nat.add_assoc]
            rw [ha]; exact this)
          (by rw [← hce, List.length_map, List.length_range]; show 0 + q ≤ 3; omega) (fun v hv => by
            rw [← hce] at hv
            obtain ⟨i, _, rfl⟩ := List.mem_map.1 hv
            rfl)
        rw [hce] at hcs
        have hcs2 : (#[Value.int .i64 0, .int .i64 0, .int .i64 0] : Array Value).toList.take 0 ++ cs ++ (#[Value.int .i64 0, .int .i64 0, .int .i64 0] : Array Value).toList.drop (0 + cs.length) = [.int .i64 (trio es x.1 0), .int .i64 (trio es x.1 1), .int .i64 (trio es x.1 2)] := by
          rw [← hcs]; simp
        rw [hcs2] at hcpy
        have HB := HA.rowK [.int .i64 (trio es x.1 0), .int .i64 (trio es x.1 1), .int .i64 (trio es x.1 2)]
        obtain ⟨n0, t0, a0⟩ := trio_ok Hq6.out x.1 0
        obtain ⟨n1, t1, a1⟩ := trio_ok Hq6.out x.1 1
        obtain ⟨n2, t2, a2⟩ := trio_ok Hq6.out x.1 2
        have Hthree : Hid (three (trio es x.1 0) (trio es x.1 1) (trio es x.1 2) = beBytes (n0 * 36 + n1 * 6 + n2) 1) := Lib.hid (by
          unfold three
          rw [t0, t1, t2, show ((((n0 : Int) * 6 + (n1 : Int)) * 6 + (n2 : Int))).toNat = n0 * 36 + n1 * 6 + n2 by omega])
        rw [t0, t1, t2] at hcpy HB
        obtain ⟨W2, hW2⟩ : ∃ W2, (X.alloc (.cells #[.int .i64 0, .int .i64 0, .int .i64 0] 60)).setRow X.heap.size [.int .i64 (n0 : Int), .int .i64 (n1 : Int), .int .i64 (n2 : Int)].toArray = W2 := ⟨_, rfl⟩
        rw [hW2] at hcpy
        have HB2 : St w.heap.size w W2 _ := hW2 ▸ HB
        have HC := Lib.hid HB2
        have hl2 := Left.keep (oth_keeps (HB2.item (k := oth w.heap.size X) (by simp))) HL10.out
        have f0 : W2.cell? ⟨X.heap.size, 0, none⟩ = some (.int .i64 (n0 : Int)) := HB2.cell 0
        have f1 : W2.cell? ⟨X.heap.size, 1, none⟩ = some (.int .i64 (n1 : Int)) := HB2.cell 1
        have f2 : W2.cell? ⟨X.heap.size, 2, none⟩ = some (.int .i64 (n2 : Int)) := HB2.cell 2
        have M3 : Hid (∀ W, Calls Tryd.prog 20 #[.int .i64 (((n0 : Int) * 6 + (n1 : Int)) * 6 + (n2 : Int)), .int .i64 1] W fun e w' => e = .returned (.string ⟨(beBytes (n0 * 36 + n1 * 6 + n2) 1).toArray⟩) ∧ Below W.heap.size W w') := Lib.hid (fun W => by
          have h := must_ok (n0 * 36 + n1 * 6 + n2) 1 (by decide) (by decide) (by omega) W
          rw [show ((n0 * 36 + n1 * 6 + n2 : Nat) : Int) = ((n0 : Int) * 6 + (n1 : Int)) * 6 + (n2 : Int) by omega] at h
          exact h)
        have lB : (beBytes (n0 * 36 + n1 * 6 + n2) 1).length = 1 := beBytes_len _ _
        have hlp : (bytesOf es pre).length = pre.length := bytesOf_len es pre
        have Hsnoc := Lib.hid (bytesOf_snoc es pre x)
        clear hcs hcs2 hce hev HA HB HO hW2 HB2 h10 hl10 hk1 hk2 hcl t0 t1 t2
        generalize bytesOf es pre = Z at *
        generalize three (trio es x.1 0) (trio es x.1 1) (trio es x.1 2) = T3 at *
        have hgo : goInt cs.length = .int .i64 (cs.length : Int) := rfl
        dsimp only [pieceK, pieceV]
        rw [hq]
        generalize (n0 * 36 + n1 * 6 + n2) = v36 at *
        have ARM1 : ∀ (w11 : World), Below W2.heap.size W2 w11 → St w.heap.size w w11 (sb w.heap.size w.heap.size v10 ((Y ++ (B1 ++ B2)) ++ Z) :: bk X.heap.size 60 [.int .i64 (n0 : Int), .int .i64 (n1 : Int), .int .i64 (n2 : Int)] :: oth w.heap.size X :: bk (Bs + 1) 3 [.int .i64 3] :: bk Bs 36 [.slice A1 es.length cap1] :: []) := fun w11 hb => (HC.out.ext hb).pull 2 rfl
        have HARM := Lib.hid ARM1
        have hbl : (Y ++ (B1 ++ B2) ++ Z).length + (beBytes v36 1).length ≤ 140737488355328 := by simp only [List.length_append, l1, l2, lB, hlp]; omega
        have Hbl := Lib.hid hbl
        have Hl2 := Lib.hid hl2
        clear ARM1 hbl hl2 hlp hxl hlY HC lB l1 l2
        generalize beBytes v36 1 = B3 at *
        have HCP := Lib.hid hcpy
        have Hbs := Lib.hid hBs
        have Hbn := Lib.hid hBn
        clear hcpy
        gi_wp2_with (fail)
        rw [HCP.out]
        simp only [Result.andThen_ok]
        clear HCP Hrk hlt hlti hkx lg hc1 hf hmb Hm Hnext hor hA hlen hq hBs hBn hmk h40 h40i hn hbig
        gi_wp2_with (first
          | (refine ⟨trivial, ?_⟩; gi_at_call 20; refine (CallsIn.inRound l (callsIn_wide.2 (M3.out _))).mono ?_; rintro e w11 ⟨rfl, hb11⟩; have H11 := Lib.hid (HARM.out _ hb11); have HL11 := Lib.hid (Left.keep (keeps_of_below hb11) Hl2.out); clear hb11)
          | (refine ⟨trivial, ?_⟩; gi_at_call 19; refine (CallsIn.inRound l (callsIn_wide.2 (bwrite_st H11.out (Others.cons (bk_other (by decide)) (Others.cons (oth_other _ _ _) (Others.cons (bk_other (by decide)) (Others.cons (bk_other (by decide)) Others.nil)))) B3 Hbl.out))).mono ?_; rintro e w12 ⟨he, v12, h12⟩; obtain ⟨rv12, rfl⟩ : ∃ z, e = .returned z := ⟨_, he⟩; clear he; have H12 := Lib.hid h12; clear h12))
        have hko := oth_keeps (H12.out.item (k := oth w.heap.size X) (by simp))
        refine ⟨⟨hko.size, fun k o hk ho hc => hko.same k o (by omega) ho hc⟩, ⟨((Blk.box (H12.out.at 4 rfl)).cell 0).trans HK1.out.symm, ((Blk.box (H12.out.at 3 rfl)).cell 0).trans HK2.out.symm⟩, ⟨v12, ?_⟩, Left.keep hko HL10.out⟩
        have h := H12.out.sub (A' := sb w.heap.size w.heap.size v12 (((Y ++ (B1 ++ B2)) ++ Z) ++ B3) :: bk (Bs + 1) 3 [.int .i64 3] :: bk Bs 36 [.slice A1 es.length cap1] :: []) (by simp)
        rw [Hsnoc.out, Hthree.out, ← List.append_assoc (Y ++ (B1 ++ B2))]
        exact h
  · have hlti : ¬ (k : Int) < (n : Int) := by omega
    have hkn : k = n := by omega
    have htk : (R.map ARow.a).take k = R.map ARow.a := List.take_of_length_le (by rw [List.length_map]; omega)
    have Hall : Hid (∀ r ∈ R, r.a.okB = true) := Lib.hid (fun r hr => by
      obtain ⟨j, hj, rfl⟩ := List.getElem_of_mem hr
      exact Hok.out j hj (by omega))
    have hY := mvBody_ok_le R k (by omega) Hok.out
    rw [htk] at HS hY
    have hbad : (∃ r ∈ R, r.a.okB = false) → False := fun ⟨r, hm, hf⟩ => by
      have := Hall.out r hm
      rw [hf] at this; cases this
    have Hbad := Lib.hid hbad
    clear hbad
    by_cases h0 : n = 0
    · have h0i : (n : Int) = 0 := by omega
      have hb : mvBytes (R.map ARow.a) = [0, 0, 0] := by unfold mvBytes; rw [if_pos (by rw [List.length_map]; omega)]
      have HB := Lib.hid (HT.out.symm.trans hb)
      clear hb
      go_wp2_with fail
      refine left_leaves ds _ HL.out (fun w' hb' => ⟨.tuple #[.string ⟨#[0, 0, 0]⟩, .nilIface], by simp [results, Tryd.results7, go_sem], fun _ => by rw [HB.out], by first | exact fun h => (Hbad.out h).elim | exact fun r hm hf => (Hbad.out ⟨r, hm, hf⟩).elim, HS.out.below.trans hb'⟩)
    · have h0i : ¬ (n : Int) = 0 := by omega
      have h0b : ((n : Int) == 0) = false := by simpa using h0i
      have hb : mvBytes (R.map ARow.a) = [0, 1, 2] ++ mvBody (R.map ARow.a) ++ [0, 0, 0, 0] := by unfold mvBytes; rw [if_neg (by rw [List.length_map]; omega)]
      have HB := Lib.hid (HT.out.symm.trans hb)
      have HY : Hid ((mvBody (R.map ARow.a)).length ≤ 100000) := Lib.hid (by omega)
      clear hb HT hY
      generalize mvBody (R.map ARow.a) = Y at *
      go_wp2_with fail
      refine (bstring_st (HS.out.oth (fun x hx => by rw [List.mem_singleton.1 hx]; exact sb_cells _ _ _ _)).swap (Others.cons (oth_other _ _ _) Others.nil)).mono ?_
      rintro e W2 ⟨rfl, v2, h2⟩
      have HK := Lib.hid (Left.keep (oth_keeps (h2.item (k := oth w.heap.size W) (by simp))) HL.out)
      have hfit : Y.length ≤ 100000 := HY.out
      go_wp2_with fail
      refine left_leaves ds _ HK.out (fun w' hb' => ⟨.tuple #[.string ⟨([0, 1, 2] ++ Y ++ [0, 0, 0, 0]).toArray⟩, .nilIface], by simp [results, Tryd.results7, go_sem], fun _ => by rw [HB.out], by first | exact fun h => (Hbad.out h).elim | exact fun r hm hf => (Hbad.out ⟨r, hm, hf⟩).elim, h2.below.trans hb'⟩)
end Go.Proofs.YtjekdodboihfhaaDoor
