/- strings.Builder.Write of a row of bytes. The sum of two texts as an operation of a drawn region. frame.Write. (Printed by tools/mkfr3.py.) -/
import Derived.Test.YteibhcocldihbaaDoorSb
import Derived.Lib.FrozenHead2
import Derived.Test.YteibhcocldihbaaDoorHeldG
import Derived.Test.YteibhcocldihbaaDoorKit
import Derived.Test.YteibhcocldihbaaDoorFr2
import Derived.Test.YteibhcocldihbaaDoorMust
set_option linter.all false
namespace Go.Proofs.YteibhcocldihbaaDoor
open Go.RowKit
set_option maxRecDepth 100000 in
set_option maxHeartbeats 2000000 in
theorem bwriteL_any (B b : Nat) (bs : List Value) (ad : Addr) (m c : Nat) (news : List Value) (w : World) (h : Lib.IsBuilderF 108 5 B b bs w) (hl : news.length = m) (h1 : ∀ u ∈ news, u.oneCell' = true)
    (hn : ∀ W, Below B w W → Lib.OthersKept 5 (some b) w W → ∀ j u, news[j]? = some u → W.cell? (ad.add j) = some u) (hlen : bs.length + m ≤ 140737488355328) (hBw : B ≤ w.heap.size) :
    Calls Tryd.prog 71 #[.pointer (some ⟨b, 0, none⟩), .slice (some ad) m c] w fun e w' => e = .returned (.tuple #[.int .i64 m, .nilIface]) ∧ Lib.BuilderAtF 108 5 B b (.pointer (some ⟨b, 0, none⟩)) (bs ++ news) w' ∧ Below B w w' ∧ Lib.OthersKept 5 (some b) w w' := by
  obtain ⟨i0, hi, hz0, hz1, hz2⟩ := info_parts (show (Tryd.prog.info? 5).map (fun i => (i.zero, i.size, i.bytes)) = some (some (.int .u8 0), 1, 1) by kernel_rfl)
  have HC := Lib.hid (bcheck_any B b bs w h)
  clear h
  go_enter Tryd.func71, Tryd.ntmps71
  go_wp2_with fail
  refine HC.out.mono ?_
  rintro e w1 ⟨rfl, h1', hb1, hk1⟩
  obtain ⟨hB, v, hbk, hown, hne⟩ := h1'
  have c0 : w1.cell? ⟨b, 0, none⟩ = some (.pointer (some ⟨b, 0, none⟩)) := by rw [Lib.cell_of_heap hbk]; rfl
  have c1 : w1.cell? ⟨b, 1, none⟩ = some v := by rw [Lib.cell_of_heap hbk]; rfl
  have Hn1 := Lib.hid (hn w1 hb1 hk1)
  clear hn
  go_wp2_with (at_builtin; refine wpList_append_ownF _ rfl _ _ 90 rfl B 5 i0 (.int .u8 0) 1 1 Tryd.underlying90 hi hz0 hz1 hz2 rfl (by decide) _ _ _ rfl hown ad m c news rfl (by omega) Hn1.out h1 ?c3 ?c4 ?c5 ?_)
  case c3 => unfold maxLen; omega
  case c4 => omega
  case c5 => have := hb1.size; omega
  intro v' w2 hown' hgrow _
  have hlt : b < w1.heap.size := by
    rcases Nat.lt_or_ge b w1.heap.size with h' | h'
    · exact h'
    · simp [Array.getElem?_eq_none h'] at hbk
  have hb2 : w2.heap[b]? = some (.cells #[.pointer (some ⟨b, 0, none⟩), v] 108 (0, 0)) := by
    rw [hgrow.block b hlt (fun e => hne e.symm)]
    exact hbk
  have d0 : w2.cell? ⟨b, 0, none⟩ = some (.pointer (some ⟨b, 0, none⟩)) := by rw [Lib.cell_of_heap hb2]; rfl
  have d1 : w2.cell? ⟨b, 1, none⟩ = some v := by rw [Lib.cell_of_heap hb2]; rfl
  have f1 : w2.frozen? ⟨b, 1, none⟩ = false := Lib.frozen_of_heap hb2 1
  obtain ⟨ao, n', cap, rfl⟩ : ∃ ao n' cap, v' = .slice ao n' cap := by
    rcases hown'.2 with ⟨hv, _⟩ | ⟨g, cap, cur, fz, hv, _⟩
    · exact ⟨_, _, _, hv⟩
    · exact ⟨_, _, _, hv⟩
  go_wp2_with fail
  go_ret2
  refine ⟨rfl, ?_, ?_, (hk1.grown hgrow (Lib.ownsRowF_kind hown)).setCell ⟨b, 1, none⟩ rfl _⟩
  · exact Lib.BuilderAtF.put (T := 108) (e := 5) hB hb2 (bs' := bs ++ news) (by simpa [hl] using hown') (by decide)
  · exact (hb1.grown hgrow (by have := hb1.size; omega) (fun k hk => (hown.lt k hk).1)).setCell (p := ⟨b, 1, none⟩) hB _
theorem bwriteL_st {B b g o m c : Nat} {t : TypeId} {L : List Value} {w0 w : World} {A : List It} {v : Value} {l : List UInt8} (H : St B w0 w (sb B b v l :: bk g t L :: A)) (ho : Others 5 (bk g t L :: A)) (s : List UInt8) (hs : s.length = m) (hL : (L.drop o).take m = Lib.byteCells s) (hl : l.length + m ≤ 140737488355328) :
    Calls Tryd.prog 71 #[.pointer (some ⟨b, 0, none⟩), .slice (some ⟨g, o, none⟩) m c] w fun e w' => e = .returned (.tuple #[.int .i64 (m : Int), .nilIface]) ∧ ∃ v', St B w0 w' (sb B b v' (l ++ s) :: bk g t L :: A) := by
  have hbl : (Lib.byteCells s).length = m := by rw [Lib.byteCells_length]; exact hs
  refine (bwriteL_any B b (Lib.byteCells l) ⟨g, o, none⟩ m c (Lib.byteCells s) w (sb_is H.head) hbl (fun u hu => ?_) (fun W hb hk j u hj => ?_) (by rw [Lib.byteCells_length]; exact hl) H.le).mono ?_
  · simp only [Lib.byteCells, List.mem_map] at hu
    obtain ⟨x, _, rfl⟩ := hu
    rfl
  · have hB : Blk w g t L := H.at 1 rfl
    have hbg : W.heap[g]? = w.heap[g]? := by
      rw [hB]
      refine hk g _ hB (fun e => ?_) (fun c fz e => ?_)
      · injection e with e
        have hap := (List.pairwise_cons.1 H.apart).1 (bk g t L) (List.mem_cons_self ..) b (List.mem_cons_self ..)
        exact hap (by rw [← e]; exact List.mem_cons_self ..)
      · exact ho (bk g t L) (List.mem_cons_self ..) w hB g (List.mem_cons_self ..) c fz (by rw [hB, e])
    have hBW : Blk W g t L := hbg.trans hB
    rw [Addr.add_mid]
    refine (Blk.box hBW).range (o + j) u ?_ |> fun h => by simpa using h
    have hjm : j < m := by
      have := (List.getElem?_eq_some_iff.1 hj).1
      omega
    rw [← hL, List.getElem?_take, if_pos hjm, List.getElem?_drop] at hj
    exact hj
  · rintro e w1 ⟨rfl, hb, hbl, hk⟩
    refine ⟨rfl, ?_⟩
    have hcs : Lib.byteCells l ++ Lib.byteCells s = Lib.byteCells (l ++ s) := by simp [Lib.byteCells]
    rw [hcs] at hb
    obtain ⟨v', hP⟩ := sb_of (.inr hb)
    exact ⟨v', H.sb_step ho hP hbl hk⟩
end Go.Proofs.YteibhcocldihbaaDoor
namespace Go.Proofs.YteibhcocldihbaaDoor
open Go.RowKit
theorem exec_addS {P : Program} {a : Act} {d : Option Tmp} {t t2 : TypeId} {x y : Operand} {t' : TypeId} {pos : String} {after : Array Edge} {gd : Option (Nat × Bool)} {w : World} (s r : List UInt8) (hx : a.eval x = .string ⟨s.toArray⟩) (hy : a.eval y = .string ⟨r.toArray⟩) (h : s.length + r.length ≤ 9223372036854775807) :
    (execOp a.eval ⟨d, .binOp .add t x y t2, t', pos, after, gd⟩).run P w = .ok (.value (.string ⟨(s ++ r).toArray⟩)) w := by
  have h1 : ∀ w : World, (Op.stringOp .add ⟨s.toArray⟩ ⟨r.toArray⟩).run P w = .ok (.string ⟨(s ++ r).toArray⟩) w := fun w => by
    rw [run_string_add_sum (P := P) (w := w) ⟨s.toArray⟩ ⟨r.toArray⟩ h, ba_append]
  unfold execOp
  simp only [hx, hy, eqGuard, binOp, Sem.run_bind, Sem.run_pure, Result.andThen_ok, h1, ite_self]
end Go.Proofs.YteibhcocldihbaaDoor
namespace Go.Proofs.YteibhcocldihbaaDoor
open Go.RowKit
theorem mustI {x : Int} {n : Nat} (h0 : 0 ≤ x) (h1 : 1 ≤ n) (h7 : n ≤ 7) (hx : x.toNat < 256 ^ n) : Hid (∀ W, Calls Tryd.prog 43 #[.int .i64 x, .int .i64 (n : Int)] W fun e w' => e = .returned (.string ⟨(beBytes x.toNat n).toArray⟩) ∧ Below W.heap.size W w') := Lib.hid (fun W => by
  have := must_ok x.toNat n h1 h7 hx W
  rwa [Int.toNat_of_nonneg h0] at this)
theorem frWrite_no (f : Fu) (A : Option Addr) (cap : Nat) (w : World) (hn : f.tags.length ≤ 100000) (hr : SlRow w w.heap.size 4 A (f.tags.map Tk.vals)) (hb : f.okB = false) :
    Calls Tryd.prog 26 #[.agg (f.vals (.slice A f.tags.length cap)).toArray] w fun e w' => e = .returned (.tuple #[.string ⟨#[]⟩, .iface 32 (.int .i64 1)]) ∧ Below w.heap.size w w' := by
  have HK := Lib.hid hb
  clear hb
  have HB := Lib.hid (Box.new w (f.vals (.slice A f.tags.length cap)) 57)
  have hb0 : Below w.heap.size w (w.alloc (.cells (f.vals (.slice A f.tags.length cap)).toArray 57)) := (Below.refl _ _).alloc (Nat.le_refl _) _
  have HR := Lib.hid (frRight_any f A cap (w.alloc (.cells (f.vals (.slice A f.tags.length cap)).toArray 57)) hn ((hr.below hb0 (Nat.le_refl _)).more hb0.size))
  go_enter Tryd.func26, Tryd.ntmps26
  go_upto_region 1 with (fail)
  generalize World.alloc _ _ = W0 at *
  go_wp2_with (first
    | (with_reducible refine wpList_load_rng (ty := 57) (f.vals (.slice A f.tags.length cap)) (by with_unfolding_all rfl) HB.out.range Tryd.underlying57 (by with_unfolding_all rfl) (by with_unfolding_all exact info57) ?_)
    | ((with_reducible refine HR.out.mono ?_)
       rintro e w1 ⟨rfl, hb1⟩
       rw [HK.out]))
  go_ret2
  exact ⟨rfl, hb0.trans (hb1.mono hb0.size)⟩
theorem tagb_take {L : List Tk} {k : Nat} (h : k < L.length) : tagb (L.take (k + 1)) = tagb (L.take k) ++ (L[k]).bytes := by
  rw [List.take_succ_eq_append_getElem h]
  unfold tagb
  rw [List.flatMap_append, List.flatMap_cons, List.flatMap_nil, List.append_nil]
set_option maxRecDepth 100000 in
set_option maxHeartbeats 20000000 in
theorem frWrite_ok (f : Fu) (A : Option Addr) (cap : Nat) (w : World) (hr : SlRow w w.heap.size 4 A (f.tags.map Tk.vals)) (hb : f.okB = true) :
    Calls Tryd.prog 26 #[.agg (f.vals (.slice A f.tags.length cap)).toArray] w fun e w' => e = .returned (.tuple #[.string ⟨f.bytes.toArray⟩, .nilIface]) ∧ Below w.heap.size w w' := by
  have hb' := hb
  simp only [Fu.okB, Bool.and_eq_true, decide_eq_true_eq] at hb'
  obtain ⟨hst, hbl, hhl, hK⟩ := hb'
  have hn2 := stack_len hst
  have hR := fun W (h : Below w.heap.size w W) => frRight_any f A cap W (by omega) ((hr.below h (Nat.le_refl _)).more h.size)
  rw [hb] at hR
  have HR := Lib.hid hR
  have HH := Lib.hid (fun W => head_any f A cap W (by omega))
  have Hok := Lib.hid (stack_ok hst)
  have hH14 : f.head = 14 + 4 * f.tags.length + f.extra := rfl
  have hex : f.extra ≤ 8 := by unfold Fu.extra; split; decide; split; decide; decide
  have lb := Fu.bytes_len f
  have HBY : Hid (f.bytes = f.dst.list ++ (f.src.list ++ (tagb f.tags ++ (beBytes f.lt 2 ++ (f.mid ++ f.body))))) := Lib.hid rfl
  have hlt := Fu.lt_ok hK
  have hKc := Fu.kind_cases hK
  have HKc := Lib.hid hKc
  have Hlt := Lib.hid hlt
  have Hr := Lib.hid hr
  have Hmid : Hid (f.mid = if f.kind = 2 then beBytes f.dsap.toNat 1 ++ (beBytes f.ssap.toNat 1 ++ beBytes f.ctl.toNat 1) else if f.kind = 3 then [170, 170, 3] ++ (beBytes f.oui.toNat 3 ++ beBytes f.pid.toNat 2) else []) := Lib.hid rfl
  have Hsz : Hid (f.size = f.extra + f.body.length) := Lib.hid rfl
  have Hl2 : Hid (f.lt = if f.kind = 1 then f.typ.toNat else f.size) := Lib.hid rfl
  clear hr hb hR hK hlt hKc hst
  have H0 := Lib.hid ((St.init w).alloc (f.vals (.slice A f.tags.length cap)) 57)
  obtain ⟨fv, hfv⟩ : ∃ fv, f.vals (.slice A f.tags.length cap) = fv := ⟨_, rfl⟩
  have info57 : (Tryd.prog.info? 57).map (·.size) = some fv.length := by rw [← hfv]; exact info57
  have hd0 : (fv.drop 0).take 6 = Lib.byteCells f.dst.list := by rw [← hfv]; rfl
  have hd6 : (fv.drop 6).take 6 = Lib.byteCells f.src.list := by rw [← hfv]; rfl
  have Hd0 := Lib.hid hd0
  have Hd6 := Lib.hid hd6
  obtain ⟨BY, hBY⟩ : ∃ BY, f.bytes = BY := ⟨_, rfl⟩
  rw [hBY] at HBY lb ⊢
  clear hBY hd0 hd6
  obtain ⟨n, hnn⟩ : ∃ n, f.tags.length = n := ⟨_, rfl⟩
  rw [hfv] at HR HH H0 ⊢
  rw [hnn] at hfv hH14 hn2
  have Hnn := Lib.hid hnn
  clear hnn
  have HF : Hid (∀ W, (bk w.heap.size 57 fv).P W → FuIn W w.heap.size f (.slice A n cap)) := Lib.hid (fun W h => by
    have h : Blk W w.heap.size 57 fv := h
    rw [← hfv] at h
    exact fu_in (Blk.box h))
  clear hfv
  go_enter Tryd.func26, Tryd.ntmps26
  go_upto_region 1 with (fail)
  generalize World.alloc _ _ = w1 at *
  have R1 := Lib.hid (Blk.box (H0.out.at 0 rfl)).range
  go_upto_region 3 with (first
    | (with_reducible refine wpList_load_rng (ty := 57) fv (by with_unfolding_all rfl) R1.out Tryd.underlying57 (by with_unfolding_all rfl) (by with_unfolding_all exact info57) ?_)
    | ((with_reducible refine (HR.out _ H0.out.below).mono ?_)
       rintro e w2 ⟨rfl, hb2⟩
       have H2 := Lib.hid (H0.out.ext hb2)
       clear hb2))
  have H3 := Lib.hid H2.out.sb_new
  go_upto_region 4 with (fail)
  clear R1 H0 H2 HR
  generalize World.alloc _ _ = w3 at *
  generalize w2.heap.size = bb at *
  generalize hP : w.heap.size = P at *
  go_wp2_with fail
  refine (bwriteL_st H3.out (Others.cons (bk_other (by decide)) Others.nil) f.dst.list (Ad.len _) Hd0.out (by simp)).mono ?_
  rintro e w4 ⟨rfl, v4, h4⟩
  have H4 := Lib.hid h4
  clear h4 H3
  go_wp2_with fail
  refine (bwriteL_st H4.out (Others.cons (bk_other (by decide)) Others.nil) f.src.list (Ad.len _) Hd6.out (by simp [Ad.len])).mono ?_
  rintro e w5 ⟨rfl, v5, h5⟩
  have H5 := Lib.hid h5
  clear h5 H4 Hd0 Hd6
  have I5 := HF.out _ (H5.out.at 1 rfl)
  have c12 := I5.tags
  clear I5
  obtain ⟨PRE, hPRE⟩ : ∃ PRE, ([] ++ f.dst.list) ++ f.src.list = PRE := ⟨_, rfl⟩
  have lPRE : PRE.length = 12 := by rw [← hPRE]; rfl
  have HPRE := Lib.hid hPRE
  rw [hPRE] at H5
  clear hPRE
  go_upto_region 7 with (fail)
  go_loopw [6, 7, 8, 9, 23] (fun _ _ _ _ i wr => ∃ (k : Nat) (v : Value), k ≤ n ∧ i = .int .i64 k ∧ Hid (St P w wr (sb P bb v (PRE ++ tagb (f.tags.take k)) :: bk P 57 fv :: []))) (fun _ _ _ _ i _ => n - (intOf i).toNat)
  case atStart => exact ⟨0, v5, by omega, rfl, by simpa [tagb] using H5⟩
  case round =>
    obtain ⟨k, v, hk, rfl, HS⟩ := hrel
    clear c12 H5
    by_cases hlt : k < n
    · have hkx : k < f.tags.length := by rw [Hnn.out]; exact hlt
      obtain ⟨g, o, rfl, hg, hc⟩ := Hr.out (by rw [List.length_map]; omega)
      have hc1 := hc k (by rw [List.length_map]; exact hkx)
      have e1 : (f.tags.map Tk.vals)[k]'(by rw [List.length_map]; exact hkx) = f.tags[k].vals := by simp
      rw [e1] at hc1
      have Hc1 := Lib.hid (rangeAt_below hc1 HS.out.below hg)
      have Hstep := Lib.hid (tagb_take hkx)
      have hl1 : (tagb (f.tags.take k)).length = 4 * k := by rw [tagb_len, List.length_take]; omega
      have hxo : (f.tags[k]).okB = true := Hok.out _ (List.getElem_mem hkx)
      clear hc hc1 e1
      generalize f.tags[k] = t at *
      have HTP := Lib.hid (fun W => tkPack_ok t hxo W)
      have HM2 : Hid (∀ W, Calls Tryd.prog 43 #[.int .i64 (t.num : Int), .int .i64 2] W fun e w' => e = .returned (.string ⟨(beBytes t.num 2).toArray⟩) ∧ Below W.heap.size W w') := Lib.hid (fun W => must_ok t.num 2 (by decide) (by decide) (Tk.num_lt hxo) W)
      have HTB : Hid (t.bytes = beBytes t.kind 2 ++ beBytes t.num 2) := Lib.hid rfl
      have l1 : (beBytes t.kind 2).length = 2 := beBytes_len _ _
      have l2 : (beBytes t.num 2).length = 2 := beBytes_len _ _
      have hkd : t.kind = if t.s then 34984 else 33024 := rfl
      have HM1 : Hid (∀ W, Calls Tryd.prog 43 #[.int .i64 (t.kind : Int), .int .i64 2] W fun e w' => e = .returned (.string ⟨(beBytes t.kind 2).toArray⟩) ∧ Below W.heap.size W w') := Lib.hid (fun W => must_ok t.kind 2 (by decide) (by decide) (by rw [hkd]; split <;> decide) W)
      clear hxo
      generalize t.bytes = TB at *
      generalize beBytes t.kind 2 = B1 at *
      generalize beBytes t.num 2 = B2 at *
      generalize t.num = nm at *
      go_upto_region 9 with (first
        | (with_reducible refine wpList_load_rng (ty := 124) t.vals (by with_unfolding_all rfl) Hc1.out Tryd.underlying124 (by with_unfolding_all rfl) (by with_unfolding_all exact info124) ?_)
        | (with_reducible refine wpList_store_blk (ty := 124) (o := 0) _ t.vals (by with_unfolding_all rfl) (by with_unfolding_all rfl) (Blk.new wr zTk 124) (by with_unfolding_all exact Nat.le_refl _) (by with_unfolding_all exact info124) (Tk.one _) (fun W6 hBW6 hoW6 => ?_)))
      have H6 : Hid (St P w W6 (sb P bb v (PRE ++ tagb (f.tags.take k)) :: bk wr.heap.size 124 t.vals :: bk P 57 fv :: [])) := Lib.hid ((HS.out.alloc zTk 124).sets (L' := t.vals) hBW6 hoW6).swap
      clear hBW6 hoW6 HS Hc1
      generalize wr.heap.size = Q at *
      generalize tagb (f.tags.take k) = T at *
      have R6 := Lib.hid (Blk.box (H6.out.at 1 rfl)).range
      go_upto_region 10 with (first
        | (with_reducible refine wpList_load_rng (ty := 124) t.vals (by with_unfolding_all rfl) R6.out Tryd.underlying124 (by with_unfolding_all rfl) (by with_unfolding_all exact info124) ?_)
        | ((with_reducible refine (HTP.out _).mono ?_)
           rintro e w7 ⟨rfl, hb7⟩
           have H7 := Lib.hid (H6.out.ext hb7)
           clear hb7))
      have c0 : w7.cell? ⟨Q, 0, none⟩ = some (.bool t.s) := (Blk.box (H7.out.at 1 rfl)).cell 0
      clear R6 H6
      generalize hts : t.s = ts at *
      generalize t.kind = kd at *
      cases ts
      ·
        simp only [Bool.false_eq_true, if_true, if_false] at hkd
        subst hkd
        have HM1 : Hid (∀ W, Calls Tryd.prog 43 #[.int .i64 33024, .int .i64 2] W fun e w' => e = .returned (.string ⟨B1.toArray⟩) ∧ Below W.heap.size W w') := HM1
        go_wp2_with (first
          | ((with_reducible refine (HM1.out _).mono ?_)
             rintro e w8 ⟨rfl, hb8⟩
             have H8 := Lib.hid (H7.out.ext hb8)
             clear hb8)
          | ((with_reducible refine (HM2.out _).mono ?_)
             rintro e w9 ⟨rfl, hb9⟩
             have H9 := Lib.hid (H8.out.ext hb9)
             clear hb9))
        refine (bwrite_st H9.out (Others.cons (bk_other (by decide)) (Others.cons (bk_other (by decide)) Others.nil)) (B1 ++ B2) (by simp [l1, l2, lPRE, hl1]; omega)).mono ?_
        rintro e w10 ⟨rfl, v10, h10⟩
        have H10 := Lib.hid h10
        clear h10
        go_wp2_with fail
        go_roundw
        case rel => exact ⟨k + 1, v10, by omega, by go_num, Lib.hid (by rw [Hstep.out, HTB.out, ← List.append_assoc]; exact (H10.out.swap).tail)⟩
        case measure => simp [intOf]; omega
      ·
        simp only [Bool.false_eq_true, if_true, if_false] at hkd
        subst hkd
        have HM1 : Hid (∀ W, Calls Tryd.prog 43 #[.int .i64 34984, .int .i64 2] W fun e w' => e = .returned (.string ⟨B1.toArray⟩) ∧ Below W.heap.size W w') := HM1
        go_wp2_with (first
          | ((with_reducible refine (HM1.out _).mono ?_)
             rintro e w8 ⟨rfl, hb8⟩
             have H8 := Lib.hid (H7.out.ext hb8)
             clear hb8)
          | ((with_reducible refine (HM2.out _).mono ?_)
             rintro e w9 ⟨rfl, hb9⟩
             have H9 := Lib.hid (H8.out.ext hb9)
             clear hb9))
        refine (bwrite_st H9.out (Others.cons (bk_other (by decide)) (Others.cons (bk_other (by decide)) Others.nil)) (B1 ++ B2) (by simp [l1, l2, lPRE, hl1]; omega)).mono ?_
        rintro e w10 ⟨rfl, v10, h10⟩
        have H10 := Lib.hid h10
        clear h10
        go_wp2_with fail
        go_roundw
        case rel => exact ⟨k + 1, v10, by omega, by go_num, Lib.hid (by rw [Hstep.out, HTB.out, ← List.append_assoc]; exact (H10.out.swap).tail)⟩
        case measure => simp [intOf]; omega
    · obtain rfl : k = n := by omega
      have ht : f.tags.take k = f.tags := List.take_of_length_le (by rw [Hnn.out]; exact Nat.le_refl _)
      rw [ht] at HS
      have lT : (tagb f.tags).length = 4 * k := by rw [tagb_len, Hnn.out]
      clear ht hlt Hr Hok Hnn
      have I6 := HF.out _ (HS.out.at 1 rfl)
      have k13 := I6.kind
      have k14 := I6.typ
      clear I6
      generalize tagb f.tags = TG at *
      have hm1 : f.kind = 1 → f.mid = [] := fun h => by rw [Hmid.out, if_neg (by omega), if_neg (by omega)]
      rcases HKc.out with ⟨hk1, ⟨a1, a2, a3, a4⟩, _⟩ | ⟨hk1, _, ⟨a1, a2⟩, ⟨b1, b2⟩, ⟨d1, d2⟩, _, _, _, s1⟩ | ⟨hk1, _, _, ⟨a1, a2⟩, ⟨b1, b2⟩, s1⟩
      · have HMT := mustI (x := f.typ) (n := 2) (by omega) (by decide) (by decide) (by omega)
        have hlt : f.lt = f.typ.toNat := by rw [Hl2.out, if_pos hk1]
        have HBZ : Hid (BY = ((PRE ++ TG) ++ beBytes f.typ.toNat 2) ++ f.body) := Lib.hid (by rw [HBY.out, hm1 hk1, hlt, ← HPRE.out]; simp [List.append_assoc])
        have l1 : (beBytes f.typ.toNat 2).length = 2 := beBytes_len _ _
        have lf : f.body.length ≤ 2000 := hbl
        clear HBY hm1 HKc Hlt Hmid Hsz Hl2 hlt a1 a2 a3 a4 HH
        rw [hk1] at k13
        have hk13 := hk1
        clear hk1
        generalize beBytes f.typ.toNat 2 = B1 at *
        generalize f.typ = ty at *
        go_wp2_with fail
        refine (HMT.out _).mono ?_
        rintro e w10 ⟨rfl, hb10⟩
        have H10 := Lib.hid (HS.out.ext hb10)
        clear hb10
        go_wp2_with fail
        refine (bwrite_st H10.out (Others.cons (bk_other (by decide)) Others.nil) B1 (by simp only [List.length_append, List.length_cons, List.length_nil, lPRE, lT, l1] <;> omega)).mono ?_
        rintro e w11 ⟨rfl, v11, h11⟩
        have H11 := Lib.hid h11
        clear h11
        go_upto_region 18 with (fail)
        have k13' := (HF.out _ (H11.out.at 1 rfl)).kind
        rw [hk13] at k13'
        clear hk13
        go_upto_region 23 with (fail)
        have k20 := (HF.out _ (H11.out.at 1 rfl)).body
        go_wp2_with fail
        refine (bwrite_st H11.out (Others.cons (bk_other (by decide)) Others.nil) f.body (by simp only [List.length_append, List.length_cons, List.length_nil, lPRE, lT, l1] <;> omega)).mono ?_
        rintro e w90 ⟨rfl, v90, h90⟩
        have H90 := Lib.hid h90
        clear h90
        go_wp2_with fail
        refine (bstring_st H90.out (Others.cons (bk_other (by decide)) Others.nil)).mono ?_
        rintro e w91 ⟨rfl, v91, h91⟩
        have H91 := Lib.hid h91
        clear h91
        go_wp2_with fail
        go_ret2
        exact ⟨by rw [HBZ.out]; simp only [List.append_assoc, List.cons_append, List.nil_append]; rfl, by rw [hP]; exact H91.out.below⟩
      · have hsz := Hsz.out
        have hlt : f.lt = f.size := by rw [Hl2.out, if_neg (by omega)]
        have HMS : Hid (∀ W, Calls Tryd.prog 43 #[.int .i64 (f.size : Int), .int .i64 2] W fun e w' => e = .returned (.string ⟨(beBytes f.size 2).toArray⟩) ∧ Below W.heap.size W w') := Lib.hid (fun W => must_ok f.size 2 (by decide) (by decide) (by omega) W)
        have HHc : Hid (∀ W, Calls Tryd.prog 30 #[.agg fv.toArray] W fun e w' => e = .returned (.int .i64 (f.head : Int)) ∧ Below W.heap.size W w') := Lib.hid (fun W => HH.out W)
        have l1 : (beBytes f.size 2).length = 2 := beBytes_len _ _
        have lf : f.body.length ≤ 2000 := hbl
        have hw1 : IntKind.i64.wrap ((f.head : Int) - 14) = (f.head : Int) - 14 := by rw [IntKind.wrap_i64]; omega
        have hw2 : IntKind.i64.wrap (4 * (k : Int)) = 4 * (k : Int) := by rw [IntKind.wrap_i64]; omega
        have hw3 : IntKind.i64.wrap ((f.head : Int) - 14 - 4 * (k : Int)) = (f.extra : Int) := by rw [IntKind.wrap_i64]; omega
        have hw4 : IntKind.i64.wrap ((f.extra : Int) + (f.body.length : Int)) = (f.size : Int) := by rw [IntKind.wrap_i64]; omega
        rw [hk1] at k13
        have b13 : ((2 : Int) == 1) = false := rfl
        have HM1 := mustI (x := f.dsap) (n := 1) a1 (by decide) (by decide) (by omega)
        have HM2 := mustI (x := f.ssap) (n := 1) b1 (by decide) (by decide) (by omega)
        have HM3 := mustI (x := f.ctl) (n := 1) d1 (by decide) (by decide) (by omega)
        have l2 : (beBytes f.dsap.toNat 1).length = 1 := beBytes_len _ _
        have l3 : (beBytes f.ssap.toNat 1).length = 1 := beBytes_len _ _
        have l4 : (beBytes f.ctl.toNat 1).length = 1 := beBytes_len _ _
        have HBZ : Hid (BY = (((PRE ++ TG) ++ beBytes f.size 2) ++ ((beBytes f.dsap.toNat 1 ++ beBytes f.ssap.toNat 1) ++ beBytes f.ctl.toNat 1)) ++ f.body) := Lib.hid (by rw [HBY.out, Hmid.out, if_pos hk1, hlt, ← HPRE.out]; simp [List.append_assoc])
        have hk13 := hk1
        clear HBY hm1 HKc Hlt Hmid Hsz Hl2 hlt a1 a2 b1 b2 d1 d2 HH hk1
        generalize beBytes f.size 2 = B1 at *
        generalize beBytes f.dsap.toNat 1 = E1 at *
        generalize beBytes f.ssap.toNat 1 = E2 at *
        generalize beBytes f.ctl.toNat 1 = E3 at *
        generalize f.size = sz at *
        generalize f.head = hd at *
        generalize f.extra = ex at *
        clear hH14 hex lb hhl hbl hsz s1
        go_upto_region 17 with (fail)
        have hS10 : wr.rangeAt P 0 fv ∧ wr.cell? ⟨P, 12, none⟩ = some (.slice A k cap) ∧ wr.cell? ⟨P, 20, none⟩ = some (.string ⟨f.body.toArray⟩) := ⟨(Blk.box (HS.out.at 1 rfl)).range, (HF.out _ (HS.out.at 1 rfl)).tags, (HF.out _ (HS.out.at 1 rfl)).body⟩
        have H10 := HS
        refine wp_region_last (fun X => X.rangeAt P 0 fv ∧ X.cell? ⟨P, 12, none⟩ = some (.slice A k cap) ∧ X.cell? ⟨P, 20, none⟩ = some (.string ⟨f.body.toArray⟩)) 13 (by kernel_rfl) hS10 (fun hHeld => ?_)
        refine wpAnyG_take 0 (oi := ?o13) (.agg (fv).toArray) ?hi13 (by kernel_rfl) (by kernel_rfl) (by decide) (by kernel_rfl) (by kernel_rfl) ?hq13 ?hg13 ?hy13 (by assumption) ?hk13
        case hi13 => (simp only [List.getElem?_toArray, List.getElem?_cons_succ, List.getElem?_cons_zero]; rfl)
        case hq13 => exact fun _ _ _ h => h
        case hg13 => rfl
        case hy13 => exact fun X hX => exec_load_rng (ty := 57) (fv) rfl (hX.1) Tryd.underlying57 rfl info57
        try simp only [Act.put, List.setIfInBounds_toArray, List.set_cons_zero, List.set_cons_succ]
        refine wpAnyG_takeG 3 (oi := ?o15) ?v15 ?hi15 (by kernel_rfl) (by kernel_rfl) (by decide) (by kernel_rfl) (by kernel_rfl) ?hq15 ?hg15 ?hy15 (by assumption) ?hk15
        case hi15 => (simp only [List.getElem?_toArray, List.getElem?_cons_succ, List.getElem?_cons_zero]; rfl)
        case hq15 => exact fun _ _ _ h => h
        case hg15 => (first | with_unfolding_all rfl | (go_simp; with_unfolding_all rfl))
        case hy15 => (intro X hX; (first | obtain ⟨hXa, hXb, hXc, hXd, hXe⟩ := hX | obtain ⟨hXa, hXb, hXc, hXd⟩ := hX | obtain ⟨hXa, hXb, hXc⟩ := hX | obtain ⟨hXa, hXb⟩ := hX | skip); go_simp; try with_reducible rfl)
        try simp only [Act.put, List.setIfInBounds_toArray, List.set_cons_zero, List.set_cons_succ]
        refine wpAnyG_takeG 8 (oi := ?o16) ?v16 ?hi16 (by kernel_rfl) (by kernel_rfl) (by decide) (by kernel_rfl) (by kernel_rfl) ?hq16 ?hg16 ?hy16 (by assumption) ?hk16
        case hi16 => (simp only [List.getElem?_toArray, List.getElem?_cons_succ, List.getElem?_cons_zero]; rfl)
        case hq16 => exact fun _ _ _ h => h
        case hg16 => (first | with_unfolding_all rfl | (go_simp; with_unfolding_all rfl))
        case hy16 => (intro X hX; (first | obtain ⟨hXa, hXb, hXc, hXd, hXe⟩ := hX | obtain ⟨hXa, hXb, hXc, hXd⟩ := hX | obtain ⟨hXa, hXb, hXc⟩ := hX | obtain ⟨hXa, hXb⟩ := hX | skip); go_simp; try with_reducible rfl)
        try simp only [Act.put, List.setIfInBounds_toArray, List.set_cons_zero, List.set_cons_succ]
        refine wpAnyG_takeG 4 (oi := ?o17) ?v17 ?hi17 (by kernel_rfl) (by kernel_rfl) (by decide) (by kernel_rfl) (by kernel_rfl) ?hq17 ?hg17 ?hy17 (by assumption) ?hk17
        case hi17 => (simp only [List.getElem?_toArray, List.getElem?_cons_succ, List.getElem?_cons_zero]; rfl)
        case hq17 => exact fun _ _ _ h => h
        case hg17 => (first | with_unfolding_all rfl | (go_simp; with_unfolding_all rfl))
        case hy17 => (intro X hX; (first | obtain ⟨hXa, hXb, hXc, hXd, hXe⟩ := hX | obtain ⟨hXa, hXb, hXc, hXd⟩ := hX | obtain ⟨hXa, hXb, hXc⟩ := hX | obtain ⟨hXa, hXb⟩ := hX | skip); go_simp; try with_reducible rfl)
        try simp only [Act.put, List.setIfInBounds_toArray, List.set_cons_zero, List.set_cons_succ]
        refine wpAnyG_takeG 9 (oi := ?o18) ?v18 ?hi18 (by kernel_rfl) (by kernel_rfl) (by decide) (by kernel_rfl) (by kernel_rfl) ?hq18 ?hg18 ?hy18 (by assumption) ?hk18
        case hi18 => (simp only [List.getElem?_toArray, List.getElem?_cons_succ, List.getElem?_cons_zero]; rfl)
        case hq18 => exact fun _ _ _ h => h
        case hg18 => (first | with_unfolding_all rfl | (go_simp; with_unfolding_all rfl))
        case hy18 => (intro X hX; (first | obtain ⟨hXa, hXb, hXc, hXd, hXe⟩ := hX | obtain ⟨hXa, hXb, hXc, hXd⟩ := hX | obtain ⟨hXa, hXb, hXc⟩ := hX | obtain ⟨hXa, hXb⟩ := hX | skip); go_simp; try with_reducible rfl)
        try simp only [Act.put, List.setIfInBounds_toArray, List.set_cons_zero, List.set_cons_succ]
        refine wpAnyG_takeG 5 (oi := ?o19) ?v19 ?hi19 (by kernel_rfl) (by kernel_rfl) (by decide) (by kernel_rfl) (by kernel_rfl) ?hq19 ?hg19 ?hy19 (by assumption) ?hk19
        case hi19 => (simp only [List.getElem?_toArray, List.getElem?_cons_succ, List.getElem?_cons_zero]; rfl)
        case hq19 => exact fun _ _ _ h => h
        case hg19 => (first | with_unfolding_all rfl | (go_simp; with_unfolding_all rfl))
        case hy19 => (intro X hX; (first | obtain ⟨hXa, hXb, hXc, hXd, hXe⟩ := hX | obtain ⟨hXa, hXb, hXc, hXd⟩ := hX | obtain ⟨hXa, hXb, hXc⟩ := hX | obtain ⟨hXa, hXb⟩ := hX | skip); go_simp; try with_reducible rfl)
        try simp only [Act.put, List.setIfInBounds_toArray, List.set_cons_zero, List.set_cons_succ]
        refine wpAnyG_takeG 10 (oi := ?o20) ?v20 ?hi20 (by kernel_rfl) (by kernel_rfl) (by decide) (by kernel_rfl) (by kernel_rfl) ?hq20 ?hg20 ?hy20 (by assumption) ?hk20
        case hi20 => (simp only [List.getElem?_toArray, List.getElem?_cons_succ, List.getElem?_cons_zero]; rfl)
        case hq20 => exact fun _ _ _ h => h
        case hg20 => (first | with_unfolding_all rfl | (go_simp; with_unfolding_all rfl))
        case hy20 => (intro X hX; (first | obtain ⟨hXa, hXb, hXc, hXd, hXe⟩ := hX | obtain ⟨hXa, hXb, hXc, hXd⟩ := hX | obtain ⟨hXa, hXb, hXc⟩ := hX | obtain ⟨hXa, hXb⟩ := hX | skip); go_simp; try with_reducible rfl)
        try simp only [Act.put, List.setIfInBounds_toArray, List.set_cons_zero, List.set_cons_succ]
        refine wpAnyG_takeG 6 (oi := ?o21) ?v21 ?hi21 (by kernel_rfl) (by kernel_rfl) (by decide) (by kernel_rfl) (by kernel_rfl) ?hq21 ?hg21 ?hy21 (by assumption) ?hk21
        case hi21 => (simp only [List.getElem?_toArray, List.getElem?_cons_succ, List.getElem?_cons_zero]; rfl)
        case hq21 => exact fun _ _ _ h => h
        case hg21 => (first | with_unfolding_all rfl | (go_simp; with_unfolding_all rfl))
        case hy21 => (intro X hX; (first | obtain ⟨hXa, hXb, hXc, hXd, hXe⟩ := hX | obtain ⟨hXa, hXb, hXc, hXd⟩ := hX | obtain ⟨hXa, hXb, hXc⟩ := hX | obtain ⟨hXa, hXb⟩ := hX | skip); go_simp; try with_reducible rfl)
        try simp only [Act.put, List.setIfInBounds_toArray, List.set_cons_zero, List.set_cons_succ]
        refine wpAnyG_one 1 (o := ?o22) (by kernel_rfl) ?hi22 ?hg22 ?hk22
        case hi22 => (simp only [List.getElem?_toArray, List.getElem?_cons_succ, List.getElem?_cons_zero]; rfl)
        case hg22 => rfl
        intro K hK
        go_simp
        refine (HHc.out _).mono ?_
        rintro e w11 ⟨rfl, hb11⟩
        have H11 := Lib.hid (H10.out.drew.ext hb11)
        have hS11 : w11.rangeAt P 0 fv ∧ w11.cell? ⟨P, 12, none⟩ = some (.slice A k cap) ∧ w11.cell? ⟨P, 20, none⟩ = some (.string ⟨f.body.toArray⟩) := ⟨(Blk.box (H11.out.at 1 rfl)).range, (HF.out _ (H11.out.at 1 rfl)).tags, (HF.out _ (H11.out.at 1 rfl)).body⟩
        refine hK.out _ _ (fun _ => hS11) (fun _ => ?_)
        clear hK K hHeld hb11 H10
        have hHeld := hS11
        try simp only [Act.put, List.setIfInBounds_toArray, List.set_cons_zero, List.set_cons_succ]
        refine wpAnyG_takeG 2 (oi := ?o24) ?v24 ?hi24 (by kernel_rfl) (by kernel_rfl) (by decide) (by kernel_rfl) (by kernel_rfl) ?hq24 ?hg24 ?hy24 (by assumption) ?hk24
        case hi24 => (simp only [List.getElem?_toArray, List.getElem?_cons_succ, List.getElem?_cons_zero]; rfl)
        case hq24 => exact fun _ _ _ h => h
        case hg24 => (first | with_unfolding_all rfl | (go_simp; with_unfolding_all rfl))
        case hy24 => (intro X hX; (first | obtain ⟨hXa, hXb, hXc, hXd, hXe⟩ := hX | obtain ⟨hXa, hXb, hXc, hXd⟩ := hX | obtain ⟨hXa, hXb, hXc⟩ := hX | obtain ⟨hXa, hXb⟩ := hX | skip); go_simp; try with_reducible rfl)
        try simp only [Act.put, List.setIfInBounds_toArray, List.set_cons_zero, List.set_cons_succ]
        refine wpAnyG_takeG 7 (oi := ?o25) ?v25 ?hi25 (by kernel_rfl) (by kernel_rfl) (by decide) (by kernel_rfl) (by kernel_rfl) ?hq25 ?hg25 ?hy25 (by assumption) ?hk25
        case hi25 => (simp only [List.getElem?_toArray, List.getElem?_cons_succ, List.getElem?_cons_zero]; rfl)
        case hq25 => exact fun _ _ _ h => h
        case hg25 => (first | with_unfolding_all rfl | (go_simp; with_unfolding_all rfl))
        case hy25 => (intro X hX; (first | obtain ⟨hXa, hXb, hXc, hXd, hXe⟩ := hX | obtain ⟨hXa, hXb, hXc, hXd⟩ := hX | obtain ⟨hXa, hXb, hXc⟩ := hX | obtain ⟨hXa, hXb⟩ := hX | skip); go_simp; try with_reducible rfl)
        try simp only [Act.put, List.setIfInBounds_toArray, List.set_cons_zero, List.set_cons_succ]
        refine wpAnyG_takeG 11 (oi := ?o26) ?v26 ?hi26 (by kernel_rfl) (by kernel_rfl) (by decide) (by kernel_rfl) (by kernel_rfl) ?hq26 ?hg26 ?hy26 (by assumption) ?hk26
        case hi26 => (simp only [List.getElem?_toArray, List.getElem?_cons_succ, List.getElem?_cons_zero]; rfl)
        case hq26 => exact fun _ _ _ h => h
        case hg26 => (first | with_unfolding_all rfl | (go_simp; with_unfolding_all rfl))
        case hy26 => (intro X hX; (first | obtain ⟨hXa, hXb, hXc, hXd, hXe⟩ := hX | obtain ⟨hXa, hXb, hXc, hXd⟩ := hX | obtain ⟨hXa, hXb, hXc⟩ := hX | obtain ⟨hXa, hXb⟩ := hX | skip); go_simp; try with_reducible rfl)
        try simp only [Act.put, List.setIfInBounds_toArray, List.set_cons_zero, List.set_cons_succ]
        refine wpAnyG_one 12 (o := ?o27) (by kernel_rfl) ?hi27 ?hg27 ?hk27
        case hi27 => (simp only [List.getElem?_toArray, List.getElem?_cons_succ, List.getElem?_cons_zero]; rfl)
        case hg27 => rfl
        intro K hK
        go_simp
        refine (HMS.out _).mono ?_
        rintro e w12 ⟨rfl, hb12⟩
        have H12 := Lib.hid (H11.out.ext hb12)
        have hS12 : w12.rangeAt P 0 fv ∧ w12.cell? ⟨P, 12, none⟩ = some (.slice A k cap) ∧ w12.cell? ⟨P, 20, none⟩ = some (.string ⟨f.body.toArray⟩) := ⟨(Blk.box (H12.out.at 1 rfl)).range, (HF.out _ (H12.out.at 1 rfl)).tags, (HF.out _ (H12.out.at 1 rfl)).body⟩
        refine hK.out _ _ (fun _ => hS12) (fun _ => ?_)
        clear hK K hHeld hb12 H11
        have hHeld := hS12
        try simp only [Act.put, List.setIfInBounds_toArray, List.set_cons_zero, List.set_cons_succ]
        refine wpAnyG_one 13 (o := ?o28) (by kernel_rfl) ?hi28 ?hg28 ?hk28
        case hi28 => (simp only [List.getElem?_toArray, List.getElem?_cons_succ, List.getElem?_cons_zero]; rfl)
        case hg28 => rfl
        intro K hK
        go_simp
        refine (bwrite_st H12.out (Others.cons (bk_other (by decide)) Others.nil) _ (by simp only [List.length_append, List.length_cons, List.length_nil, lPRE, lT, l1] <;> omega)).mono ?_
        rintro e w13 ⟨rfl, v13, h13⟩
        have H13 := Lib.hid h13
        refine hK.out _ _ (fun h => absurd rfl h) (fun _ => ?_)
        refine wpAnyG_done (by kernel_rfl) ?_ _
        clear hK K hHeld h13 H12
        clear hS10 hS11 hS12
        have I13 := HF.out _ (H13.out.at 1 rfl)
        have k13' := I13.kind
        have hS13 : w13.cell? ⟨P, 15, none⟩ = some (.int .i64 f.dsap) ∧ w13.cell? ⟨P, 16, none⟩ = some (.int .i64 f.ssap) ∧ w13.cell? ⟨P, 17, none⟩ = some (.int .i64 f.ctl) := ⟨I13.dsap, I13.ssap, I13.ctl⟩
        rw [hk13] at k13'
        clear hk13 I13
        go_upto_region 20 with (fail)
        refine wp_region_last (fun X => X.cell? ⟨P, 15, none⟩ = some (.int .i64 f.dsap) ∧ X.cell? ⟨P, 16, none⟩ = some (.int .i64 f.ssap) ∧ X.cell? ⟨P, 17, none⟩ = some (.int .i64 f.ctl)) 11 (by kernel_rfl) hS13 (fun hHeld => ?_)
        refine wpAnyG_takeG 0 (oi := ?o30) ?v30 ?hi30 (by kernel_rfl) (by kernel_rfl) (by decide) (by kernel_rfl) (by kernel_rfl) ?hq30 ?hg30 ?hy30 (by assumption) ?hk30
        case hi30 => (simp only [List.getElem?_toArray, List.getElem?_cons_succ, List.getElem?_cons_zero]; rfl)
        case hq30 => exact fun _ _ _ h => h
        case hg30 => (first | with_unfolding_all rfl | (go_simp; with_unfolding_all rfl))
        case hy30 => (intro X hX; (first | obtain ⟨hXa, hXb, hXc, hXd, hXe⟩ := hX | obtain ⟨hXa, hXb, hXc, hXd⟩ := hX | obtain ⟨hXa, hXb, hXc⟩ := hX | obtain ⟨hXa, hXb⟩ := hX | skip); go_simp; try with_reducible rfl)
        try simp only [Act.put, List.setIfInBounds_toArray, List.set_cons_zero, List.set_cons_succ]
        refine wpAnyG_takeG 3 (oi := ?o31) ?v31 ?hi31 (by kernel_rfl) (by kernel_rfl) (by decide) (by kernel_rfl) (by kernel_rfl) ?hq31 ?hg31 ?hy31 (by assumption) ?hk31
        case hi31 => (simp only [List.getElem?_toArray, List.getElem?_cons_succ, List.getElem?_cons_zero]; rfl)
        case hq31 => exact fun _ _ _ h => h
        case hg31 => (first | with_unfolding_all rfl | (go_simp; with_unfolding_all rfl))
        case hy31 => (intro X hX; (first | obtain ⟨hXa, hXb, hXc, hXd, hXe⟩ := hX | obtain ⟨hXa, hXb, hXc, hXd⟩ := hX | obtain ⟨hXa, hXb, hXc⟩ := hX | obtain ⟨hXa, hXb⟩ := hX | skip); go_simp; try with_reducible rfl)
        try simp only [Act.put, List.setIfInBounds_toArray, List.set_cons_zero, List.set_cons_succ]
        refine wpAnyG_takeG 7 (oi := ?o32) ?v32 ?hi32 (by kernel_rfl) (by kernel_rfl) (by decide) (by kernel_rfl) (by kernel_rfl) ?hq32 ?hg32 ?hy32 (by assumption) ?hk32
        case hi32 => (simp only [List.getElem?_toArray, List.getElem?_cons_succ, List.getElem?_cons_zero]; rfl)
        case hq32 => exact fun _ _ _ h => h
        case hg32 => (first | with_unfolding_all rfl | (go_simp; with_unfolding_all rfl))
        case hy32 => (intro X hX; (first | obtain ⟨hXa, hXb, hXc, hXd, hXe⟩ := hX | obtain ⟨hXa, hXb, hXc, hXd⟩ := hX | obtain ⟨hXa, hXb, hXc⟩ := hX | obtain ⟨hXa, hXb⟩ := hX | skip); go_simp; try with_reducible rfl)
        try simp only [Act.put, List.setIfInBounds_toArray, List.set_cons_zero, List.set_cons_succ]
        refine wpAnyG_takeG 1 (oi := ?o33) ?v33 ?hi33 (by kernel_rfl) (by kernel_rfl) (by decide) (by kernel_rfl) (by kernel_rfl) ?hq33 ?hg33 ?hy33 (by assumption) ?hk33
        case hi33 => (simp only [List.getElem?_toArray, List.getElem?_cons_succ, List.getElem?_cons_zero]; rfl)
        case hq33 => exact fun _ _ _ h => h
        case hg33 => (first | with_unfolding_all rfl | (go_simp; with_unfolding_all rfl))
        case hy33 => (intro X hX; (first | obtain ⟨hXa, hXb, hXc, hXd, hXe⟩ := hX | obtain ⟨hXa, hXb, hXc, hXd⟩ := hX | obtain ⟨hXa, hXb, hXc⟩ := hX | obtain ⟨hXa, hXb⟩ := hX | skip); go_simp; try with_reducible rfl)
        try simp only [Act.put, List.setIfInBounds_toArray, List.set_cons_zero, List.set_cons_succ]
        refine wpAnyG_takeG 4 (oi := ?o34) ?v34 ?hi34 (by kernel_rfl) (by kernel_rfl) (by decide) (by kernel_rfl) (by kernel_rfl) ?hq34 ?hg34 ?hy34 (by assumption) ?hk34
        case hi34 => (simp only [List.getElem?_toArray, List.getElem?_cons_succ, List.getElem?_cons_zero]; rfl)
        case hq34 => exact fun _ _ _ h => h
        case hg34 => (first | with_unfolding_all rfl | (go_simp; with_unfolding_all rfl))
        case hy34 => (intro X hX; (first | obtain ⟨hXa, hXb, hXc, hXd, hXe⟩ := hX | obtain ⟨hXa, hXb, hXc, hXd⟩ := hX | obtain ⟨hXa, hXb, hXc⟩ := hX | obtain ⟨hXa, hXb⟩ := hX | skip); go_simp; try with_reducible rfl)
        try simp only [Act.put, List.setIfInBounds_toArray, List.set_cons_zero, List.set_cons_succ]
        refine wpAnyG_takeG 8 (oi := ?o35) ?v35 ?hi35 (by kernel_rfl) (by kernel_rfl) (by decide) (by kernel_rfl) (by kernel_rfl) ?hq35 ?hg35 ?hy35 (by assumption) ?hk35
        case hi35 => (simp only [List.getElem?_toArray, List.getElem?_cons_succ, List.getElem?_cons_zero]; rfl)
        case hq35 => exact fun _ _ _ h => h
        case hg35 => (first | with_unfolding_all rfl | (go_simp; with_unfolding_all rfl))
        case hy35 => (intro X hX; (first | obtain ⟨hXa, hXb, hXc, hXd, hXe⟩ := hX | obtain ⟨hXa, hXb, hXc, hXd⟩ := hX | obtain ⟨hXa, hXb, hXc⟩ := hX | obtain ⟨hXa, hXb⟩ := hX | skip); go_simp; try with_reducible rfl)
        try simp only [Act.put, List.setIfInBounds_toArray, List.set_cons_zero, List.set_cons_succ]
        refine wpAnyG_one 2 (o := ?o36) (by kernel_rfl) ?hi36 ?hg36 ?hk36
        case hi36 => (simp only [List.getElem?_toArray, List.getElem?_cons_succ, List.getElem?_cons_zero]; rfl)
        case hg36 => rfl
        intro K hK
        go_simp
        refine (HM1.out _).mono ?_
        rintro e w14 ⟨rfl, hb14⟩
        have H14 := Lib.hid (H13.out.drew.ext hb14)
        have hS14 : w14.cell? ⟨P, 15, none⟩ = some (.int .i64 f.dsap) ∧ w14.cell? ⟨P, 16, none⟩ = some (.int .i64 f.ssap) ∧ w14.cell? ⟨P, 17, none⟩ = some (.int .i64 f.ctl) := (let I := HF.out _ (H14.out.at 1 rfl); ⟨I.dsap, I.ssap, I.ctl⟩)
        refine hK.out _ _ (fun _ => hS14) (fun _ => ?_)
        clear hK K hHeld hb14 H13
        have hHeld := hS14
        try simp only [Act.put, List.setIfInBounds_toArray, List.set_cons_zero, List.set_cons_succ]
        refine wpAnyG_one 5 (o := ?o37) (by kernel_rfl) ?hi37 ?hg37 ?hk37
        case hi37 => (simp only [List.getElem?_toArray, List.getElem?_cons_succ, List.getElem?_cons_zero]; rfl)
        case hg37 => rfl
        intro K hK
        go_simp
        refine (HM2.out _).mono ?_
        rintro e w15 ⟨rfl, hb15⟩
        have H15 := Lib.hid (H14.out.ext hb15)
        have hS15 : w15.cell? ⟨P, 15, none⟩ = some (.int .i64 f.dsap) ∧ w15.cell? ⟨P, 16, none⟩ = some (.int .i64 f.ssap) ∧ w15.cell? ⟨P, 17, none⟩ = some (.int .i64 f.ctl) := (let I := HF.out _ (H15.out.at 1 rfl); ⟨I.dsap, I.ssap, I.ctl⟩)
        refine hK.out _ _ (fun _ => hS15) (fun _ => ?_)
        clear hK K hHeld hb15 H14
        have hHeld := hS15
        try simp only [Act.put, List.setIfInBounds_toArray, List.set_cons_zero, List.set_cons_succ]
        refine wpAnyG_takeG 6 (oi := ?o38) (.string ⟨((E1) ++ (E2)).toArray⟩) ?hi38 (by kernel_rfl) (by kernel_rfl) (by decide) (by kernel_rfl) (by kernel_rfl) ?hq38 ?hg38 ?hy38 (by assumption) ?hk38
        case hi38 => (simp only [List.getElem?_toArray, List.getElem?_cons_succ, List.getElem?_cons_zero]; rfl)
        case hq38 => exact fun _ _ _ h => h
        case hg38 => (first | with_unfolding_all rfl | (go_simp; with_unfolding_all rfl))
        case hy38 => exact fun X hX => exec_addS (E1) (E2) (by with_unfolding_all rfl) (by with_unfolding_all rfl) (by simp [l2, l3])
        try simp only [Act.put, List.setIfInBounds_toArray, List.set_cons_zero, List.set_cons_succ]
        refine wpAnyG_one 9 (o := ?o39) (by kernel_rfl) ?hi39 ?hg39 ?hk39
        case hi39 => (simp only [List.getElem?_toArray, List.getElem?_cons_succ, List.getElem?_cons_zero]; rfl)
        case hg39 => rfl
        intro K hK
        go_simp
        refine (HM3.out _).mono ?_
        rintro e w16 ⟨rfl, hb16⟩
        have H16 := Lib.hid (H15.out.ext hb16)
        have hS16 : w16.cell? ⟨P, 15, none⟩ = some (.int .i64 f.dsap) ∧ w16.cell? ⟨P, 16, none⟩ = some (.int .i64 f.ssap) ∧ w16.cell? ⟨P, 17, none⟩ = some (.int .i64 f.ctl) := (let I := HF.out _ (H16.out.at 1 rfl); ⟨I.dsap, I.ssap, I.ctl⟩)
        refine hK.out _ _ (fun _ => hS16) (fun _ => ?_)
        clear hK K hHeld hb16 H15
        have hHeld := hS16
        try simp only [Act.put, List.setIfInBounds_toArray, List.set_cons_zero, List.set_cons_succ]
        refine wpAnyG_takeG 10 (oi := ?o40) (.string ⟨((E1 ++ E2) ++ (E3)).toArray⟩) ?hi40 (by kernel_rfl) (by kernel_rfl) (by decide) (by kernel_rfl) (by kernel_rfl) ?hq40 ?hg40 ?hy40 (by assumption) ?hk40
        case hi40 => (simp only [List.getElem?_toArray, List.getElem?_cons_succ, List.getElem?_cons_zero]; rfl)
        case hq40 => exact fun _ _ _ h => h
        case hg40 => (first | with_unfolding_all rfl | (go_simp; with_unfolding_all rfl))
        case hy40 => exact fun X hX => exec_addS (E1 ++ E2) (E3) (by with_unfolding_all rfl) (by with_unfolding_all rfl) (by simp [l2, l3, l4])
        try simp only [Act.put, List.setIfInBounds_toArray, List.set_cons_zero, List.set_cons_succ]
        refine wpAnyG_one 11 (o := ?o41) (by kernel_rfl) ?hi41 ?hg41 ?hk41
        case hi41 => (simp only [List.getElem?_toArray, List.getElem?_cons_succ, List.getElem?_cons_zero]; rfl)
        case hg41 => rfl
        intro K hK
        go_simp
        refine (bwrite_st H16.out (Others.cons (bk_other (by decide)) Others.nil) _ (by simp only [List.length_append, List.length_cons, List.length_nil, lPRE, lT, l1, l2, l3, l4] <;> omega)).mono ?_
        rintro e w17 ⟨rfl, v17, h17⟩
        have H17 := Lib.hid h17
        refine hK.out _ _ (fun h => absurd rfl h) (fun _ => ?_)
        refine wpAnyG_done (by kernel_rfl) ?_ _
        clear hK K hHeld h17 H16
        clear hS13 hS14 hS15 hS16
        go_upto_region 23 with (fail)
        have k20 := (HF.out _ (H17.out.at 1 rfl)).body
        go_wp2_with fail
        refine (bwrite_st H17.out (Others.cons (bk_other (by decide)) Others.nil) f.body (by simp only [List.length_append, List.length_cons, List.length_nil, lPRE, lT, l1, l2, l3, l4] <;> omega)).mono ?_
        rintro e w90 ⟨rfl, v90, h90⟩
        have H90 := Lib.hid h90
        clear h90
        go_wp2_with fail
        refine (bstring_st H90.out (Others.cons (bk_other (by decide)) Others.nil)).mono ?_
        rintro e w91 ⟨rfl, v91, h91⟩
        have H91 := Lib.hid h91
        clear h91
        go_wp2_with fail
        go_ret2
        exact ⟨by rw [HBZ.out]; simp only [List.append_assoc, List.cons_append, List.nil_append]; rfl, by rw [hP]; exact H91.out.below⟩
      · have hsz := Hsz.out
        have hlt : f.lt = f.size := by rw [Hl2.out, if_neg (by omega)]
        have HMS : Hid (∀ W, Calls Tryd.prog 43 #[.int .i64 (f.size : Int), .int .i64 2] W fun e w' => e = .returned (.string ⟨(beBytes f.size 2).toArray⟩) ∧ Below W.heap.size W w') := Lib.hid (fun W => must_ok f.size 2 (by decide) (by decide) (by omega) W)
        have HHc : Hid (∀ W, Calls Tryd.prog 30 #[.agg fv.toArray] W fun e w' => e = .returned (.int .i64 (f.head : Int)) ∧ Below W.heap.size W w') := Lib.hid (fun W => HH.out W)
        have l1 : (beBytes f.size 2).length = 2 := beBytes_len _ _
        have lf : f.body.length ≤ 2000 := hbl
        have hw1 : IntKind.i64.wrap ((f.head : Int) - 14) = (f.head : Int) - 14 := by rw [IntKind.wrap_i64]; omega
        have hw2 : IntKind.i64.wrap (4 * (k : Int)) = 4 * (k : Int) := by rw [IntKind.wrap_i64]; omega
        have hw3 : IntKind.i64.wrap ((f.head : Int) - 14 - 4 * (k : Int)) = (f.extra : Int) := by rw [IntKind.wrap_i64]; omega
        have hw4 : IntKind.i64.wrap ((f.extra : Int) + (f.body.length : Int)) = (f.size : Int) := by rw [IntKind.wrap_i64]; omega
        rw [hk1] at k13
        have b13 : ((3 : Int) == 1) = false := rfl
        have HM1 := mustI (x := f.oui) (n := 3) a1 (by decide) (by decide) (by omega)
        have HM2 := mustI (x := f.pid) (n := 2) b1 (by decide) (by decide) (by omega)
        have l2 : (beBytes f.oui.toNat 3).length = 3 := beBytes_len _ _
        have l3 : (beBytes f.pid.toNat 2).length = 2 := beBytes_len _ _
        have HBZ : Hid (BY = (((PRE ++ TG) ++ beBytes f.size 2) ++ (([170, 170, 3] ++ beBytes f.oui.toNat 3) ++ beBytes f.pid.toNat 2)) ++ f.body) := Lib.hid (by rw [HBY.out, Hmid.out, if_neg (by omega), if_pos hk1, hlt, ← HPRE.out]; simp [List.append_assoc])
        have hk13 := hk1
        clear HBY hm1 HKc Hlt Hmid Hsz Hl2 hlt a1 a2 b1 b2 HH hk1
        generalize beBytes f.size 2 = B1 at *
        generalize beBytes f.oui.toNat 3 = E1 at *
        generalize beBytes f.pid.toNat 2 = E2 at *
        generalize f.size = sz at *
        generalize f.head = hd at *
        generalize f.extra = ex at *
        clear hH14 hex lb hhl hbl hsz s1
        go_upto_region 17 with (fail)
        have hS10 : wr.rangeAt P 0 fv ∧ wr.cell? ⟨P, 12, none⟩ = some (.slice A k cap) ∧ wr.cell? ⟨P, 20, none⟩ = some (.string ⟨f.body.toArray⟩) := ⟨(Blk.box (HS.out.at 1 rfl)).range, (HF.out _ (HS.out.at 1 rfl)).tags, (HF.out _ (HS.out.at 1 rfl)).body⟩
        have H10 := HS
        refine wp_region_last (fun X => X.rangeAt P 0 fv ∧ X.cell? ⟨P, 12, none⟩ = some (.slice A k cap) ∧ X.cell? ⟨P, 20, none⟩ = some (.string ⟨f.body.toArray⟩)) 13 (by kernel_rfl) hS10 (fun hHeld => ?_)
        refine wpAnyG_take 0 (oi := ?o42) (.agg (fv).toArray) ?hi42 (by kernel_rfl) (by kernel_rfl) (by decide) (by kernel_rfl) (by kernel_rfl) ?hq42 ?hg42 ?hy42 (by assumption) ?hk42
        case hi42 => (simp only [List.getElem?_toArray, List.getElem?_cons_succ, List.getElem?_cons_zero]; rfl)
        case hq42 => exact fun _ _ _ h => h
        case hg42 => rfl
        case hy42 => exact fun X hX => exec_load_rng (ty := 57) (fv) rfl (hX.1) Tryd.underlying57 rfl info57
        try simp only [Act.put, List.setIfInBounds_toArray, List.set_cons_zero, List.set_cons_succ]
        refine wpAnyG_takeG 3 (oi := ?o44) ?v44 ?hi44 (by kernel_rfl) (by kernel_rfl) (by decide) (by kernel_rfl) (by kernel_rfl) ?hq44 ?hg44 ?hy44 (by assumption) ?hk44
        case hi44 => (simp only [List.getElem?_toArray, List.getElem?_cons_succ, List.getElem?_cons_zero]; rfl)
        case hq44 => exact fun _ _ _ h => h
        case hg44 => (first | with_unfolding_all rfl | (go_simp; with_unfolding_all rfl))
        case hy44 => (intro X hX; (first | obtain ⟨hXa, hXb, hXc, hXd, hXe⟩ := hX | obtain ⟨hXa, hXb, hXc, hXd⟩ := hX | obtain ⟨hXa, hXb, hXc⟩ := hX | obtain ⟨hXa, hXb⟩ := hX | skip); go_simp; try with_reducible rfl)
        try simp only [Act.put, List.setIfInBounds_toArray, List.set_cons_zero, List.set_cons_succ]
        refine wpAnyG_takeG 8 (oi := ?o45) ?v45 ?hi45 (by kernel_rfl) (by kernel_rfl) (by decide) (by kernel_rfl) (by kernel_rfl) ?hq45 ?hg45 ?hy45 (by assumption) ?hk45
        case hi45 => (simp only [List.getElem?_toArray, List.getElem?_cons_succ, List.getElem?_cons_zero]; rfl)
        case hq45 => exact fun _ _ _ h => h
        case hg45 => (first | with_unfolding_all rfl | (go_simp; with_unfolding_all rfl))
        case hy45 => (intro X hX; (first | obtain ⟨hXa, hXb, hXc, hXd, hXe⟩ := hX | obtain ⟨hXa, hXb, hXc, hXd⟩ := hX | obtain ⟨hXa, hXb, hXc⟩ := hX | obtain ⟨hXa, hXb⟩ := hX | skip); go_simp; try with_reducible rfl)
        try simp only [Act.put, List.setIfInBounds_toArray, List.set_cons_zero, List.set_cons_succ]
        refine wpAnyG_takeG 4 (oi := ?o46) ?v46 ?hi46 (by kernel_rfl) (by kernel_rfl) (by decide) (by kernel_rfl) (by kernel_rfl) ?hq46 ?hg46 ?hy46 (by assumption) ?hk46
        case hi46 => (simp only [List.getElem?_toArray, List.getElem?_cons_succ, List.getElem?_cons_zero]; rfl)
        case hq46 => exact fun _ _ _ h => h
        case hg46 => (first | with_unfolding_all rfl | (go_simp; with_unfolding_all rfl))
        case hy46 => (intro X hX; (first | obtain ⟨hXa, hXb, hXc, hXd, hXe⟩ := hX | obtain ⟨hXa, hXb, hXc, hXd⟩ := hX | obtain ⟨hXa, hXb, hXc⟩ := hX | obtain ⟨hXa, hXb⟩ := hX | skip); go_simp; try with_reducible rfl)
        try simp only [Act.put, List.setIfInBounds_toArray, List.set_cons_zero, List.set_cons_succ]
        refine wpAnyG_takeG 9 (oi := ?o47) ?v47 ?hi47 (by kernel_rfl) (by kernel_rfl) (by decide) (by kernel_rfl) (by kernel_rfl) ?hq47 ?hg47 ?hy47 (by assumption) ?hk47
        case hi47 => (simp only [List.getElem?_toArray, List.getElem?_cons_succ, List.getElem?_cons_zero]; rfl)
        case hq47 => exact fun _ _ _ h => h
        case hg47 => (first | with_unfolding_all rfl | (go_simp; with_unfolding_all rfl))
        case hy47 => (intro X hX; (first | obtain ⟨hXa, hXb, hXc, hXd, hXe⟩ := hX | obtain ⟨hXa, hXb, hXc, hXd⟩ := hX | obtain ⟨hXa, hXb, hXc⟩ := hX | obtain ⟨hXa, hXb⟩ := hX | skip); go_simp; try with_reducible rfl)
        try simp only [Act.put, List.setIfInBounds_toArray, List.set_cons_zero, List.set_cons_succ]
        refine wpAnyG_takeG 5 (oi := ?o48) ?v48 ?hi48 (by kernel_rfl) (by kernel_rfl) (by decide) (by kernel_rfl) (by kernel_rfl) ?hq48 ?hg48 ?hy48 (by assumption) ?hk48
        case hi48 => (simp only [List.getElem?_toArray, List.getElem?_cons_succ, List.getElem?_cons_zero]; rfl)
        case hq48 => exact fun _ _ _ h => h
        case hg48 => (first | with_unfolding_all rfl | (go_simp; with_unfolding_all rfl))
        case hy48 => (intro X hX; (first | obtain ⟨hXa, hXb, hXc, hXd, hXe⟩ := hX | obtain ⟨hXa, hXb, hXc, hXd⟩ := hX | obtain ⟨hXa, hXb, hXc⟩ := hX | obtain ⟨hXa, hXb⟩ := hX | skip); go_simp; try with_reducible rfl)
        try simp only [Act.put, List.setIfInBounds_toArray, List.set_cons_zero, List.set_cons_succ]
        refine wpAnyG_takeG 10 (oi := ?o49) ?v49 ?hi49 (by kernel_rfl) (by kernel_rfl) (by decide) (by kernel_rfl) (by kernel_rfl) ?hq49 ?hg49 ?hy49 (by assumption) ?hk49
        case hi49 => (simp only [List.getElem?_toArray, List.getElem?_cons_succ, List.getElem?_cons_zero]; rfl)
        case hq49 => exact fun _ _ _ h => h
        case hg49 => (first | with_unfolding_all rfl | (go_simp; with_unfolding_all rfl))
        case hy49 => (intro X hX; (first | obtain ⟨hXa, hXb, hXc, hXd, hXe⟩ := hX | obtain ⟨hXa, hXb, hXc, hXd⟩ := hX | obtain ⟨hXa, hXb, hXc⟩ := hX | obtain ⟨hXa, hXb⟩ := hX | skip); go_simp; try with_reducible rfl)
        try simp only [Act.put, List.setIfInBounds_toArray, List.set_cons_zero, List.set_cons_succ]
        refine wpAnyG_takeG 6 (oi := ?o50) ?v50 ?hi50 (by kernel_rfl) (by kernel_rfl) (by decide) (by kernel_rfl) (by kernel_rfl) ?hq50 ?hg50 ?hy50 (by assumption) ?hk50
        case hi50 => (simp only [List.getElem?_toArray, List.getElem?_cons_succ, List.getElem?_cons_zero]; rfl)
        case hq50 => exact fun _ _ _ h => h
        case hg50 => (first | with_unfolding_all rfl | (go_simp; with_unfolding_all rfl))
        case hy50 => (intro X hX; (first | obtain ⟨hXa, hXb, hXc, hXd, hXe⟩ := hX | obtain ⟨hXa, hXb, hXc, hXd⟩ := hX | obtain ⟨hXa, hXb, hXc⟩ := hX | obtain ⟨hXa, hXb⟩ := hX | skip); go_simp; try with_reducible rfl)
        try simp only [Act.put, List.setIfInBounds_toArray, List.set_cons_zero, List.set_cons_succ]
        refine wpAnyG_one 1 (o := ?o51) (by kernel_rfl) ?hi51 ?hg51 ?hk51
        case hi51 => (simp only [List.getElem?_toArray, List.getElem?_cons_succ, List.getElem?_cons_zero]; rfl)
        case hg51 => rfl
        intro K hK
        go_simp
        refine (HHc.out _).mono ?_
        rintro e w11 ⟨rfl, hb11⟩
        have H11 := Lib.hid (H10.out.drew.ext hb11)
        have hS11 : w11.rangeAt P 0 fv ∧ w11.cell? ⟨P, 12, none⟩ = some (.slice A k cap) ∧ w11.cell? ⟨P, 20, none⟩ = some (.string ⟨f.body.toArray⟩) := ⟨(Blk.box (H11.out.at 1 rfl)).range, (HF.out _ (H11.out.at 1 rfl)).tags, (HF.out _ (H11.out.at 1 rfl)).body⟩
        refine hK.out _ _ (fun _ => hS11) (fun _ => ?_)
        clear hK K hHeld hb11 H10
        have hHeld := hS11
        try simp only [Act.put, List.setIfInBounds_toArray, List.set_cons_zero, List.set_cons_succ]
        refine wpAnyG_takeG 2 (oi := ?o53) ?v53 ?hi53 (by kernel_rfl) (by kernel_rfl) (by decide) (by kernel_rfl) (by kernel_rfl) ?hq53 ?hg53 ?hy53 (by assumption) ?hk53
        case hi53 => (simp only [List.getElem?_toArray, List.getElem?_cons_succ, List.getElem?_cons_zero]; rfl)
        case hq53 => exact fun _ _ _ h => h
        case hg53 => (first | with_unfolding_all rfl | (go_simp; with_unfolding_all rfl))
        case hy53 => (intro X hX; (first | obtain ⟨hXa, hXb, hXc, hXd, hXe⟩ := hX | obtain ⟨hXa, hXb, hXc, hXd⟩ := hX | obtain ⟨hXa, hXb, hXc⟩ := hX | obtain ⟨hXa, hXb⟩ := hX | skip); go_simp; try with_reducible rfl)
        try simp only [Act.put, List.setIfInBounds_toArray, List.set_cons_zero, List.set_cons_succ]
        refine wpAnyG_takeG 7 (oi := ?o54) ?v54 ?hi54 (by kernel_rfl) (by kernel_rfl) (by decide) (by kernel_rfl) (by kernel_rfl) ?hq54 ?hg54 ?hy54 (by assumption) ?hk54
        case hi54 => (simp only [List.getElem?_toArray, List.getElem?_cons_succ, List.getElem?_cons_zero]; rfl)
        case hq54 => exact fun _ _ _ h => h
        case hg54 => (first | with_unfolding_all rfl | (go_simp; with_unfolding_all rfl))
        case hy54 => (intro X hX; (first | obtain ⟨hXa, hXb, hXc, hXd, hXe⟩ := hX | obtain ⟨hXa, hXb, hXc, hXd⟩ := hX | obtain ⟨hXa, hXb, hXc⟩ := hX | obtain ⟨hXa, hXb⟩ := hX | skip); go_simp; try with_reducible rfl)
        try simp only [Act.put, List.setIfInBounds_toArray, List.set_cons_zero, List.set_cons_succ]
        refine wpAnyG_takeG 11 (oi := ?o55) ?v55 ?hi55 (by kernel_rfl) (by kernel_rfl) (by decide) (by kernel_rfl) (by kernel_rfl) ?hq55 ?hg55 ?hy55 (by assumption) ?hk55
        case hi55 => (simp only [List.getElem?_toArray, List.getElem?_cons_succ, List.getElem?_cons_zero]; rfl)
        case hq55 => exact fun _ _ _ h => h
        case hg55 => (first | with_unfolding_all rfl | (go_simp; with_unfolding_all rfl))
        case hy55 => (intro X hX; (first | obtain ⟨hXa, hXb, hXc, hXd, hXe⟩ := hX | obtain ⟨hXa, hXb, hXc, hXd⟩ := hX | obtain ⟨hXa, hXb, hXc⟩ := hX | obtain ⟨hXa, hXb⟩ := hX | skip); go_simp; try with_reducible rfl)
        try simp only [Act.put, List.setIfInBounds_toArray, List.set_cons_zero, List.set_cons_succ]
        refine wpAnyG_one 12 (o := ?o56) (by kernel_rfl) ?hi56 ?hg56 ?hk56
        case hi56 => (simp only [List.getElem?_toArray, List.getElem?_cons_succ, List.getElem?_cons_zero]; rfl)
        case hg56 => rfl
        intro K hK
        go_simp
        refine (HMS.out _).mono ?_
        rintro e w12 ⟨rfl, hb12⟩
        have H12 := Lib.hid (H11.out.ext hb12)
        have hS12 : w12.rangeAt P 0 fv ∧ w12.cell? ⟨P, 12, none⟩ = some (.slice A k cap) ∧ w12.cell? ⟨P, 20, none⟩ = some (.string ⟨f.body.toArray⟩) := ⟨(Blk.box (H12.out.at 1 rfl)).range, (HF.out _ (H12.out.at 1 rfl)).tags, (HF.out _ (H12.out.at 1 rfl)).body⟩
        refine hK.out _ _ (fun _ => hS12) (fun _ => ?_)
        clear hK K hHeld hb12 H11
        have hHeld := hS12
        try simp only [Act.put, List.setIfInBounds_toArray, List.set_cons_zero, List.set_cons_succ]
        refine wpAnyG_one 13 (o := ?o57) (by kernel_rfl) ?hi57 ?hg57 ?hk57
        case hi57 => (simp only [List.getElem?_toArray, List.getElem?_cons_succ, List.getElem?_cons_zero]; rfl)
        case hg57 => rfl
        intro K hK
        go_simp
        refine (bwrite_st H12.out (Others.cons (bk_other (by decide)) Others.nil) _ (by simp only [List.length_append, List.length_cons, List.length_nil, lPRE, lT, l1] <;> omega)).mono ?_
        rintro e w13 ⟨rfl, v13, h13⟩
        have H13 := Lib.hid h13
        refine hK.out _ _ (fun h => absurd rfl h) (fun _ => ?_)
        refine wpAnyG_done (by kernel_rfl) ?_ _
        clear hK K hHeld h13 H12
        clear hS10 hS11 hS12
        have I13 := HF.out _ (H13.out.at 1 rfl)
        have k13' := I13.kind
        have hS13 : w13.cell? ⟨P, 18, none⟩ = some (.int .i64 f.oui) ∧ w13.cell? ⟨P, 19, none⟩ = some (.int .i64 f.pid) := ⟨I13.oui, I13.pid⟩
        rw [hk13] at k13'
        clear hk13 I13
        go_upto_region 22 with (fail)
        refine wp_region_last (fun X => X.cell? ⟨P, 18, none⟩ = some (.int .i64 f.oui) ∧ X.cell? ⟨P, 19, none⟩ = some (.int .i64 f.pid)) 8 (by kernel_rfl) hS13 (fun hHeld => ?_)
        refine wpAnyG_takeG 0 (oi := ?o59) ?v59 ?hi59 (by kernel_rfl) (by kernel_rfl) (by decide) (by kernel_rfl) (by kernel_rfl) ?hq59 ?hg59 ?hy59 (by assumption) ?hk59
        case hi59 => (simp only [List.getElem?_toArray, List.getElem?_cons_succ, List.getElem?_cons_zero]; rfl)
        case hq59 => exact fun _ _ _ h => h
        case hg59 => (first | with_unfolding_all rfl | (go_simp; with_unfolding_all rfl))
        case hy59 => (intro X hX; (first | obtain ⟨hXa, hXb, hXc, hXd, hXe⟩ := hX | obtain ⟨hXa, hXb, hXc, hXd⟩ := hX | obtain ⟨hXa, hXb, hXc⟩ := hX | obtain ⟨hXa, hXb⟩ := hX | skip); go_simp; try with_reducible rfl)
        try simp only [Act.put, List.setIfInBounds_toArray, List.set_cons_zero, List.set_cons_succ]
        refine wpAnyG_takeG 4 (oi := ?o60) ?v60 ?hi60 (by kernel_rfl) (by kernel_rfl) (by decide) (by kernel_rfl) (by kernel_rfl) ?hq60 ?hg60 ?hy60 (by assumption) ?hk60
        case hi60 => (simp only [List.getElem?_toArray, List.getElem?_cons_succ, List.getElem?_cons_zero]; rfl)
        case hq60 => exact fun _ _ _ h => h
        case hg60 => (first | with_unfolding_all rfl | (go_simp; with_unfolding_all rfl))
        case hy60 => (intro X hX; (first | obtain ⟨hXa, hXb, hXc, hXd, hXe⟩ := hX | obtain ⟨hXa, hXb, hXc, hXd⟩ := hX | obtain ⟨hXa, hXb, hXc⟩ := hX | obtain ⟨hXa, hXb⟩ := hX | skip); go_simp; try with_reducible rfl)
        try simp only [Act.put, List.setIfInBounds_toArray, List.set_cons_zero, List.set_cons_succ]
        refine wpAnyG_takeG 1 (oi := ?o61) ?v61 ?hi61 (by kernel_rfl) (by kernel_rfl) (by decide) (by kernel_rfl) (by kernel_rfl) ?hq61 ?hg61 ?hy61 (by assumption) ?hk61
        case hi61 => (simp only [List.getElem?_toArray, List.getElem?_cons_succ, List.getElem?_cons_zero]; rfl)
        case hq61 => exact fun _ _ _ h => h
        case hg61 => (first | with_unfolding_all rfl | (go_simp; with_unfolding_all rfl))
        case hy61 => (intro X hX; (first | obtain ⟨hXa, hXb, hXc, hXd, hXe⟩ := hX | obtain ⟨hXa, hXb, hXc, hXd⟩ := hX | obtain ⟨hXa, hXb, hXc⟩ := hX | obtain ⟨hXa, hXb⟩ := hX | skip); go_simp; try with_reducible rfl)
        try simp only [Act.put, List.setIfInBounds_toArray, List.set_cons_zero, List.set_cons_succ]
        refine wpAnyG_takeG 5 (oi := ?o62) ?v62 ?hi62 (by kernel_rfl) (by kernel_rfl) (by decide) (by kernel_rfl) (by kernel_rfl) ?hq62 ?hg62 ?hy62 (by assumption) ?hk62
        case hi62 => (simp only [List.getElem?_toArray, List.getElem?_cons_succ, List.getElem?_cons_zero]; rfl)
        case hq62 => exact fun _ _ _ h => h
        case hg62 => (first | with_unfolding_all rfl | (go_simp; with_unfolding_all rfl))
        case hy62 => (intro X hX; (first | obtain ⟨hXa, hXb, hXc, hXd, hXe⟩ := hX | obtain ⟨hXa, hXb, hXc, hXd⟩ := hX | obtain ⟨hXa, hXb, hXc⟩ := hX | obtain ⟨hXa, hXb⟩ := hX | skip); go_simp; try with_reducible rfl)
        try simp only [Act.put, List.setIfInBounds_toArray, List.set_cons_zero, List.set_cons_succ]
        refine wpAnyG_one 2 (o := ?o63) (by kernel_rfl) ?hi63 ?hg63 ?hk63
        case hi63 => (simp only [List.getElem?_toArray, List.getElem?_cons_succ, List.getElem?_cons_zero]; rfl)
        case hg63 => rfl
        intro K hK
        go_simp
        refine (HM1.out _).mono ?_
        rintro e w14 ⟨rfl, hb14⟩
        have H14 := Lib.hid (H13.out.drew.ext hb14)
        have hS14 : w14.cell? ⟨P, 18, none⟩ = some (.int .i64 f.oui) ∧ w14.cell? ⟨P, 19, none⟩ = some (.int .i64 f.pid) := (let I := HF.out _ (H14.out.at 1 rfl); ⟨I.oui, I.pid⟩)
        refine hK.out _ _ (fun _ => hS14) (fun _ => ?_)
        clear hK K hHeld hb14 H13
        have hHeld := hS14
        try simp only [Act.put, List.setIfInBounds_toArray, List.set_cons_zero, List.set_cons_succ]
        refine wpAnyG_takeG 3 (oi := ?o64) (.string ⟨(([170, 170, 3]) ++ (E1)).toArray⟩) ?hi64 (by kernel_rfl) (by kernel_rfl) (by decide) (by kernel_rfl) (by kernel_rfl) ?hq64 ?hg64 ?hy64 (by assumption) ?hk64
        case hi64 => (simp only [List.getElem?_toArray, List.getElem?_cons_succ, List.getElem?_cons_zero]; rfl)
        case hq64 => exact fun _ _ _ h => h
        case hg64 => (first | with_unfolding_all rfl | (go_simp; with_unfolding_all rfl))
        case hy64 => exact fun X hX => exec_addS ([170, 170, 3]) (E1) (by with_unfolding_all rfl) (by with_unfolding_all rfl) (by simp [l2])
        try simp only [Act.put, List.setIfInBounds_toArray, List.set_cons_zero, List.set_cons_succ]
        refine wpAnyG_one 6 (o := ?o65) (by kernel_rfl) ?hi65 ?hg65 ?hk65
        case hi65 => (simp only [List.getElem?_toArray, List.getElem?_cons_succ, List.getElem?_cons_zero]; rfl)
        case hg65 => rfl
        intro K hK
        go_simp
        refine (HM2.out _).mono ?_
        rintro e w15 ⟨rfl, hb15⟩
        have H15 := Lib.hid (H14.out.ext hb15)
        have hS15 : w15.cell? ⟨P, 18, none⟩ = some (.int .i64 f.oui) ∧ w15.cell? ⟨P, 19, none⟩ = some (.int .i64 f.pid) := (let I := HF.out _ (H15.out.at 1 rfl); ⟨I.oui, I.pid⟩)
        refine hK.out _ _ (fun _ => hS15) (fun _ => ?_)
        clear hK K hHeld hb15 H14
        have hHeld := hS15
        try simp only [Act.put, List.setIfInBounds_toArray, List.set_cons_zero, List.set_cons_succ]
        refine wpAnyG_takeG 7 (oi := ?o66) (.string ⟨(([170, 170, 3] ++ E1) ++ (E2)).toArray⟩) ?hi66 (by kernel_rfl) (by kernel_rfl) (by decide) (by kernel_rfl) (by kernel_rfl) ?hq66 ?hg66 ?hy66 (by assumption) ?hk66
        case hi66 => (simp only [List.getElem?_toArray, List.getElem?_cons_succ, List.getElem?_cons_zero]; rfl)
        case hq66 => exact fun _ _ _ h => h
        case hg66 => (first | with_unfolding_all rfl | (go_simp; with_unfolding_all rfl))
        case hy66 => exact fun X hX => exec_addS ([170, 170, 3] ++ E1) (E2) (by with_unfolding_all rfl) (by with_unfolding_all rfl) (by simp [l2, l3])
        try simp only [Act.put, List.setIfInBounds_toArray, List.set_cons_zero, List.set_cons_succ]
        refine wpAnyG_one 8 (o := ?o67) (by kernel_rfl) ?hi67 ?hg67 ?hk67
        case hi67 => (simp only [List.getElem?_toArray, List.getElem?_cons_succ, List.getElem?_cons_zero]; rfl)
        case hg67 => rfl
        intro K hK
        go_simp
        refine (bwrite_st H15.out (Others.cons (bk_other (by decide)) Others.nil) _ (by simp only [List.length_append, List.length_cons, List.length_nil, lPRE, lT, l1, l2, l3] <;> omega)).mono ?_
        rintro e w16 ⟨rfl, v16, h16⟩
        have H16 := Lib.hid h16
        refine hK.out _ _ (fun h => absurd rfl h) (fun _ => ?_)
        refine wpAnyG_done (by kernel_rfl) ?_ _
        clear hK K hHeld h16 H15
        clear hS13 hS14 hS15
        go_upto_region 23 with (fail)
        have k20 := (HF.out _ (H16.out.at 1 rfl)).body
        go_wp2_with fail
        refine (bwrite_st H16.out (Others.cons (bk_other (by decide)) Others.nil) f.body (by simp only [List.length_append, List.length_cons, List.length_nil, lPRE, lT, l1, l2, l3] <;> omega)).mono ?_
        rintro e w90 ⟨rfl, v90, h90⟩
        have H90 := Lib.hid h90
        clear h90
        go_wp2_with fail
        refine (bstring_st H90.out (Others.cons (bk_other (by decide)) Others.nil)).mono ?_
        rintro e w91 ⟨rfl, v91, h91⟩
        have H91 := Lib.hid h91
        clear h91
        go_wp2_with fail
        go_ret2
        exact ⟨by rw [HBZ.out]; simp only [List.append_assoc, List.cons_append, List.nil_append]; rfl, by rw [hP]; exact H91.out.below⟩
end Go.Proofs.YteibhcocldihbaaDoor
