/- mvrp.Pack. -/
import Derived.Test.YtjekdodboihfhaaDoorMvP
import Derived.Test.YtjekdodboihfhaaDoorMv13
import Derived.Deep.CutBlock
set_option linter.all false
namespace Go.Proofs.YtjekdodboihfhaaDoor
open Go.RowKit
theorem oper_append_stM {P : Program} {o : Oper} {a : Act} {w w0 : World} {K : Act → World → Prop} {Q : Exit → Act → World → Prop} {t e : TypeId} {size bytes n m c B : Nat} {v : Value} {from_ : Addr} {A : List It} (s x : Tmp) (xs news : List Value)
    (ho : o.op = .call { callee := .builtin .append, args := #[.tmp s, .tmp x], argTypes := #[t, t] })
    (E : ElemOk P t e size bytes) (H : St B w0 w (ownI e size v n xs :: A)) (hs : a.eval (.tmp s) = v) (hx : a.eval (.tmp x) = .slice (some from_) m c) (hr : ∀ j u, news[j]? = some u → w.cell? (from_.add j) = some u) (hl : news.length = m * size) (h1 : ∀ u ∈ news, u.oneCell' = true)
    (hm : 0 < m) (h63 : n + m ≤ maxLen) (hbytes : (n + m) * bytes ≤ 140737488355328)
    (h : ∀ g cap W, St B w0 W (ownI e size (.slice (some ⟨g, 0, none⟩) (n + m) cap) (n + m) (xs ++ news) :: A) → K (a.put o.dst (.slice (some ⟨g, 0, none⟩) (n + m) cap)) W) : o.wp P a w K Q := by
  obtain ⟨ht, i, z, hi, hz, hsz, hby, hzs, hpos⟩ := E
  refine wp_append_lies w (.tmp s) (.tmp x) t ho 0 e i z size bytes ht hi hz hsz hby hzs hpos v n xs hs H.head from_ m c news hx hl hr h1 hm h63 hbytes (Nat.zero_le _) _ rfl ?_
  intro g cap W h2 h3 h4 _
  exact h g cap W (H.grown h2 h3 h4)
theorem St.ownSetM {B : Nat} {w0 w : World} {A : List It} {e size g n cap : Nat} {xs : List Value} (H : St B w0 w (ownI e size (.slice (some ⟨g, 0, none⟩) n cap) n xs :: A)) (o : Nat) (v : Value) (ho : o < xs.length) :
    St B w0 (w.setCell ⟨g, o, none⟩ v) (ownI e size (.slice (some ⟨g, 0, none⟩) n cap) n (xs.set o v) :: A) := by
  refine H.step (k' := ownI e size (.slice (some ⟨g, 0, none⟩) n cap) n (xs.set o v)) (Fr.setCell g o v w (by simp [ownI, Value.ownBlock])) ?_ (fun q hq => .inl hq)
  obtain ⟨hl, h⟩ := H.head
  rcases h with ⟨h1, _⟩ | ⟨g', cap', cur, e1, e2, e3, e4, e5, e6, e7⟩
  · injection h1 with h1; cases h1
  · injection e1 with e1 _ e8
    injection e1 with e1
    injection e1 with e1
    subst e1 e8
    have hs := heap_setCell_same w g o cur e v e3
    have ho2 : o < cur.toList.length := by
      have := congrArg List.length e7
      rw [List.length_take] at this
      omega
    refine ⟨by rw [List.length_set]; exact hl, .inr ⟨g, cap, cur.setIfInBounds o v, rfl, e2, hs, e4, e5, by simpa using e6, ?_⟩⟩
    rw [← e7]
    simp only [Array.toList_setIfInBounds]
    rw [List.take_set]
theorem own_fz {w : World} {t size n g cap : Nat} {xs : List Value} (h : w.ownsRow 0 t size (.slice (some ⟨g, 0, none⟩) n cap) n xs) (k : Nat) : w.frozen? ⟨g, k, none⟩ = false := by
  rcases h.2 with ⟨h1, _⟩ | ⟨g', cap', cur, e1, e2, e3, _⟩
  · injection h1 with h1; cases h1
  · injection e1 with e1
    injection e1 with e1
    injection e1 with e1
    subst e1
    exact Lib.frozen_of_heap e3 k
theorem avRow_len (L : List ARow) : (avRow L).length = 3 * L.length := by
  induction L with
  | nil => rfl
  | cons p L ih =>
    show (p.vals ++ avRow L).length = _
    rw [List.length_append, ih]
    show 3 + 3 * L.length = 3 * (L.length + 1)
    omega
theorem avRow_last (L : List ARow) (r : ARow) (j : Nat) (hj : j < 3) : (avRow (L ++ [r]))[L.length * 3 + j]? = r.vals[j]? := by
  rw [avRow_snoc, List.getElem?_append_right (by rw [avRow_len]; omega), avRow_len]
  congr 1
  omega
theorem avRow_set (L : List ARow) (a : Av) (es : List Int) (sv sv' : Value) : (avRow (L ++ [⟨⟨a.all, a.first, es⟩, sv⟩])).set (L.length * 3 + 2) sv' = avRow (L ++ [⟨⟨a.all, a.first, es⟩, sv'⟩]) := by
  rw [avRow_snoc, avRow_snoc, List.set_append_right _ _ (by rw [avRow_len]; omega), avRow_len, show L.length * 3 + 2 - 3 * L.length = 2 by omega]
  rfl
theorem avRow_set2 (L : List ARow) (a : Av) (es : List Int) {sv sv' : Value} : (avRow (L ++ [⟨a, sv⟩])).set (L.length * 3 + 2) sv' = avRow (L ++ [⟨⟨a.all, a.first, es⟩, sv'⟩]) := by
  rw [avRow_snoc, avRow_snoc, List.set_append_right _ _ (by rw [avRow_len]; omega), avRow_len, show L.length * 3 + 2 - 3 * L.length = 2 by omega]
  rfl
/-- VIDs rise. -/
def Rise (ps : List Pr) (k : Nat) : Prop := ∀ i (h : i + 1 < ps.length), i + 1 < k → ps[i].vid < ps[i + 1].vid
/-- What Pack has packed. -/
def PackIt (s : Value) (ps : List Pr) (X : List It) : Prop :=
  (packM ps = [] ∧ s = .slice none 0 0 ∧ X = (ownI 38 3 (.slice none 0 0) 0 [] :: evsI [] :: [])) ∨
  (∃ (L0 : List ARow) (r : ARow) (g cap : Nat), packM ps = L0.map ARow.a ++ [r.a] ∧ s = .slice (some ⟨g, 0, none⟩) (L0.length + 1) cap ∧ L0.length + 1 ≤ ps.length ∧ X = (ownI 38 3 (.slice (some ⟨g, 0, none⟩) (L0.length + 1) cap) (L0.length + 1) (avRow (L0 ++ [r])) :: evI r :: evsI L0 :: []))
def PackSt (w W : World) (s : Value) (ps : List Pr) : Prop := ∃ X, PackIt s ps X ∧ St w.heap.size w W X
/-- What Pack hands back. -/
def PackGot (ps : List Pr) (e : Ending) (w' : World) : Prop :=
  (Rise ps ps.length → ∃ (L : List ARow) (A : Option Addr) (cap : Nat), L.map ARow.a = packM ps ∧ e = .returned (.tuple #[.slice A L.length cap, .nilIface]) ∧ AvsAt w' L A) ∧
  (¬ Rise ps ps.length → ∃ g, e = .returned (.tuple #[.slice none 0 0, .iface 51 (.pointer (some ⟨g, 0, none⟩))]) ∧ w'.cell? ⟨g, 0, none⟩ = some (.int .i64 10))
@[reducible] def zPr : List Value := [.int .i64 0, .int .i64 0]
set_option maxRecDepth 100000 in
set_option maxHeartbeats 4000000 in
theorem pack_any (ps : List Pr) (n : Nat) (hlen : ps.length = n) (A : Option Addr) (c : Nat) (w : World) (hn : n ≤ 100000) (hr : SlRow w w.heap.size 2 A (ps.map Pr.vals)) (hok : ∀ p ∈ ps, okP p = true) :
    Calls Tryd.prog 15 #[.slice A n c] w fun e w' => PackGot ps e w' ∧ Below w.heap.size w w' := by
  have Hr := Lib.hid hr
  have Hlen := Lib.hid hlen
  have Hok := Lib.hid hok
  have H0 : Hid (PackSt w w (.slice none 0 0) (ps.take 0)) := Lib.hid ⟨_, .inl ⟨rfl, rfl, rfl⟩, (St.init w).evs0.own0 38 3⟩
  clear hr hlen hok
  go_enter Tryd.func15, Tryd.ntmps15
  go_wp2_with fail
  go_loopw [4, 5, 6, 7, 10] (fun s4 _ _ _ i wr => ∃ k : Nat, k ≤ n ∧ i = .int .i64 k ∧ Hid (Rise ps k) ∧ Hid (PackSt w wr s4 (ps.take k))) (fun _ _ _ _ i _ => n - (intOf i).toNat)
  case atStart => exact ⟨0, by omega, rfl, Lib.hid (fun i _ h => by omega), H0⟩
  case round =>
    obtain ⟨k, hk, rfl, HRi, HP⟩ := hrel
    clear H0
    by_cases hlt : k < n
    · have hkx : k < ps.length := by rw [Hlen.out]; exact hlt
      obtain ⟨g, o, rfl, hg, hc⟩ := Hr.out (by rw [List.length_map]; omega)
      obtain ⟨X, hI, hS⟩ := HP.out
      have HI := Lib.hid hI
      have HS := Lib.hid hS
      have hbel := hS.below
      clear hI hS HP
      have HBel := Lib.hid hbel
      have rowk : ∀ j (hj : j < ps.length), wr.rangeAt g (o + j * 2) ps[j].vals := fun j hj => by
        have h1 := hc j (by rw [List.length_map]; exact hj)
        have e1 : (ps.map Pr.vals)[j]'(by rw [List.length_map]; exact hj) = ps[j].vals := by simp
        rw [e1] at h1
        exact rangeAt_below h1 hbel hg
      have Hrow := Lib.hid rowk
      have H1 := Lib.hid (rowk k hkx)
      have lg1 := Nat.lt_of_lt_of_le hg hbel.size
      have hpk := Hok.out ps[k] (List.getElem_mem hkx)
      have Hpk := Lib.hid hpk
      obtain ⟨p, hp⟩ : ∃ p, ps[k] = p := ⟨_, rfl⟩
      rw [hp] at H1 Hpk
      have Hp := Lib.hid hp
      have hle := hbel.size
      clear hc rowk hpk hp hbel
      go_upto_region 5 with (first
        | (with_reducible refine wpList_load_rng (ty := 44) p.vals (by with_unfolding_all rfl) H1.out Tryd.underlying44 (by with_unfolding_all rfl) (by with_unfolding_all exact info44) ?_)
        | ((with_reducible refine wpList_store_blk (ty := 44) (b := ?b2) (o := ?o2) (t := 44) zPr p.vals ?hx2 ?hy2 ?hB2 ?ho2 ?hi2 ?h12 ?hk2)
           case hx2 => rfl
           case hy2 => rfl
           case hB2 => exact Blk.new wr zPr 44
           case ho2 => exact Nat.le_refl _
           case hi2 => exact info44
           case h12 => exact (Pr.one p)
           intro W4 hBW4 hoW4))
      have H4 := Lib.hid ((HS.out.alloc zPr 44).sets (L' := p.vals) hBW4 hoW4)
      have hb4 := (Only.fresh hoW4).1
      have HW4 := Lib.hid (hb4 : Below wr.heap.size wr W4)
      have hsz4 : wr.heap.size < W4.heap.size := (H4.out.at 0 rfl).lt
      clear hBW4 hoW4 H1 HS hb4
      generalize hP6 : wr.heap.size = P6 at *
      obtain ⟨bad, hbad⟩ : ∃ b, decide (∃ j, ∃ hj : j < ps.length, k = j + 1 ∧ p.vid ≤ ps[j].vid) = b := ⟨_, rfl⟩
      have Hbad := Lib.hid hbad
      clear hbad
      go_cut [27] from 15 to 26 (fun cc wx => cc = .bool bad ∧ Hid (Below W4.heap.size W4 wx))
      case first =>
        cases k with
        | zero =>
          obtain rfl : bad = false := by rw [← Hbad.out]; exact decide_eq_false (fun ⟨j, _, e, _⟩ => by omega)
          refine wp_region_ext (by kernel_rfl) (by kernel_rfl) ?_
          repeat (go_big_quiet_step (fail))
          refine wpQuiet_nil ?_
          rintro w15 ⟨⟨_, hb15⟩, rfl⟩
          try simp only [] at *
          go_wp2_with fail
          go_meet
          exact ⟨rfl, Lib.hid hb15⟩
        | succ j =>
          have hjx : j < ps.length := by omega
          have cv : W4.cell? ⟨P6, 0, none⟩ = some (.int .i64 p.vid) := (Blk.box (H4.out.at 0 rfl)).cell 0
          have cq : W4.cell? ⟨g, o + j * 2, none⟩ = some (.int .i64 ps[j].vid) := by
            have h := rangeAt_below (Hrow.out j hjx) HW4.out lg1
            exact h 0 _ rfl
          have lg4 : g < W4.heap.size := by omega
          by_cases hv : p.vid ≤ ps[j].vid
          · obtain rfl : bad = true := by rw [← Hbad.out]; exact decide_eq_true ⟨j, hjx, rfl, hv⟩
            generalize ps[j].vid = qv at *
            refine wp_region_ext (by kernel_rfl) (by kernel_rfl) ?_
            repeat (go_big_quiet_step (fail))
            refine wpQuiet_nil ?_
            rintro w15 ⟨⟨_, hb15⟩, rfl⟩
            try simp only [] at *
            go_wp2_with fail
            go_meet
            exact ⟨rfl, Lib.hid hb15⟩
          · obtain rfl : bad = false := by rw [← Hbad.out]; exact decide_eq_false (fun ⟨i, hi, e, h⟩ => by have e2 : j = i := (by omega); subst e2; exact hv h)
            generalize ps[j].vid = qv at *
            refine wp_region_ext (by kernel_rfl) (by kernel_rfl) ?_
            repeat (go_big_quiet_step (fail))
            refine wpQuiet_nil ?_
            rintro w15 ⟨⟨_, hb15⟩, rfl⟩
            try simp only [] at *
            go_wp2_with fail
            go_meet
            exact ⟨rfl, Lib.hid hb15⟩
      case rest =>
      obtain ⟨rfl, HB5⟩ := hcut
      have H5 := Lib.hid (H4.out.ext HB5.out)
      clear H4 HB5 HW4 hsz4 hP6 Hrow
      cases bad
      case true =>
        have hno : ¬ Rise ps ps.length := fun hri => by
          obtain ⟨j, hj, e, hv⟩ := of_decide_eq_true Hbad.out
          subst e
          have h1 := hri j hkx (by omega)
          rw [Hp.out] at h1
          omega
        have Hno := Lib.hid hno
        have hb6 : Below wc.heap.size wc (wc.alloc (.cells #[.int .i64 10, .int .i64 (k : Int)] 53)) := (Below.refl _ _).alloc (Nat.le_refl _) _
        have hc6 := (Box.new wc [.int .i64 10, .int .i64 (k : Int)] 53).cell 0
        have HB6 := Lib.hid (H5.out.below.trans (hb6.mono H5.out.below.size))
        have HC6 := Lib.hid hc6
        clear hno hb6 hc6
        go_wp2_with fail
        go_ret2
        exact ⟨⟨fun h => (Hno.out h).elim, fun _ => ⟨_, rfl, HC6.out⟩⟩, HB6.out⟩
      case false =>
      have hrise : Rise ps (k + 1) := fun i hi hik => by
        by_cases e : i + 1 = k
        · have hni : ¬ p.vid ≤ ps[i].vid := fun hv => (of_decide_eq_false Hbad.out) ⟨i, by omega, by omega, hv⟩
          have e2 : ps[i + 1] = p := by rw [← Hp.out]; congr 1
          rw [e2]; omega
        · exact HRi.out i hi (by omega)
      have HRise := Lib.hid hrise
      clear hrise Hbad HRi
      have hpk := packed_one Hpk.out
      have hsnoc : ps.take (k + 1) = ps.take k ++ [p] := by rw [← Hp.out, List.take_append_getElem hkx]
      have Hsn : Hid (packM (ps.take (k + 1)) = packS (packM (ps.take k)) p) := Lib.hid (by rw [hsnoc, packM_snoc])
      have Htl : Hid ((ps.take k).length = k) := Lib.hid (by rw [List.length_take]; omega)
      clear hsnoc
      obtain ⟨vid, ev⟩ := p
      have c0 : wc.cell? ⟨P6, 0, none⟩ = some (.int .i64 vid) := (Blk.box (H5.out.at 0 rfl)).cell 0
      have c1 : wc.cell? ⟨P6, 1, none⟩ = some (.int .i64 ev) := (Blk.box (H5.out.at 0 rfl)).cell 1
      have HRt : Hid (Calls Tryd.prog 13 #[.agg #[.bool false, .int .i64 vid, .slice (some ⟨wc.heap.size, 0, none⟩) 1 1]] (wc.alloc (.cells #[.int .i64 ev] 3)) fun e w' => e = .returned (.bool true) ∧ Below (wc.alloc (.cells #[.int .i64 ev] 3)).heap.size (wc.alloc (.cells #[.int .i64 ev] 3)) w') := Lib.hid (by
        have h := mvRight_any ⟨false, vid, [ev]⟩ (some ⟨wc.heap.size, 0, none⟩) 1 (wc.alloc (.cells #[.int .i64 ev] 3)) (show (1 : Nat) ≤ _ by decide) (Nat.le_refl _) (fun _ => ⟨wc.heap.size, 0, rfl, by simp, fun q hq => by
          obtain rfl : q = 0 := by simpa [intv] using hq
          exact (Box.new wc [.int .i64 ev] 3).range⟩)
        rw [hpk.ok] at h
        exact h)
      have H6a := Lib.hid (H5.out.alloc [.int .i64 ev] 3).tail
      go_upto_region 9 with (first
        | ((with_reducible refine HRt.out.mono ?_)
           rintro e w7 ⟨rfl, hb7⟩
           have H7 := Lib.hid (H6a.out.ext hb7)
           clear hb7))
      clear H5 H6a HRt c0 c1
      have c0 : w7.cell? ⟨P6, 0, none⟩ = some (.int .i64 vid) := (Blk.box (H7.out.at 0 rfl)).cell 0
      have c1 : w7.cell? ⟨P6, 1, none⟩ = some (.int .i64 ev) := (Blk.box (H7.out.at 0 rfl)).cell 1
      rcases HI.out with ⟨hnil, hs4, hX⟩ | ⟨L0, r, gO, cap, hM, hs4, hLp, hX⟩
      · subst hs4
        subst hX
        go_upto_region 10 with (fail)
        refine wp_region_ext (by kernel_rfl) (by kernel_rfl) ?_
        repeat (go_big_quiet_step (fail))
        refine wpQuiet_nil ?_
        rintro w8 ⟨⟨_, hb8⟩, rfl⟩
        try simp only [] at *
        have H8 := Lib.hid (H7.out.ext hb8)
        clear hb8
        have d0 : w8.cell? ⟨P6, 0, none⟩ = some (.int .i64 vid) := (Blk.box (H8.out.at 0 rfl)).cell 0
        have d1 : w8.cell? ⟨P6, 1, none⟩ = some (.int .i64 ev) := (Blk.box (H8.out.at 0 rfl)).cell 1
        have h9 := (H8.out.alloc [.int .i64 ev] 3).toOwn (n := 1) (size := 1) rfl (by decide)
        have h9b := (h9.ext ((Below.refl _ _).alloc (Nat.le_refl _) (.cells #[.bool false, .int .i64 vid, .slice (some ⟨w8.heap.size, 0, none⟩) 1 1] 38))).pull 2 rfl
        have HOWN := Lib.hid h9b
        have hz8 : (w8.alloc (.cells #[.int .i64 ev] 3)).heap.size = w8.heap.size + 1 := by simp
        have hnews := World.news_of_block (heap_alloc_new (w8.alloc (.cells #[.int .i64 ev] 3)) (.cells #[.bool false, .int .i64 vid, .slice (some ⟨w8.heap.size, 0, none⟩) 1 1] 38))
        rw [hz8] at hnews
        have HNews := Lib.hid hnews
        clear hz8 hnews
        clear h9 h9b H8 H7
        go_wp2_with (first
          | (at_builtin; refine wpList_append_st (t := 22) (e := 38) (size := 3) (bytes := 40) (n := 0) (m := 1) (c := 1) [] [.bool false, .int .i64 vid, .slice (some ⟨w8.heap.size, 0, none⟩) 1 1] elemAv HOWN.out (by with_unfolding_all rfl) (by with_unfolding_all rfl) HNews.out rfl (Av.one ⟨false, vid, [ev]⟩ _ rfl) (by decide) (by unfold maxLen; omega) (by omega) (fun gT capT W13 H13 => ?_)))
        have hF : St w.heap.size w W13 (ownI 38 3 (.slice (some ⟨gT, 0, none⟩) (([] : List ARow).length + 1) capT) (([] : List ARow).length + 1) (avRow ([] ++ [(⟨⟨false, vid, [ev]⟩, .slice (some ⟨w8.heap.size, 0, none⟩) 1 1⟩ : ARow)])) :: evI (⟨⟨false, vid, [ev]⟩, .slice (some ⟨w8.heap.size, 0, none⟩) 1 1⟩ : ARow) :: evsI [] :: []) := H13.sub (List.Sublist.cons₂ _ (List.Sublist.cons₂ _ (List.sublist_cons_self _ _)))
        have HF := Lib.hid hF
        clear hF H13
        go_roundw
        case rel => exact ⟨k + 1, by omega, by go_num, HRise, Lib.hid ⟨_, .inr ⟨[], (⟨⟨false, vid, [ev]⟩, .slice (some ⟨w8.heap.size, 0, none⟩) 1 1⟩ : ARow), gT, capT, by rw [Hsn.out, hnil]; rfl, by go_num, by have := Htl.out; rw [List.length_take]; show 1 ≤ _; omega, rfl⟩, HF.out⟩⟩
        case measure => simp [intOf]; omega
      · subst hs4
        subst hX
        have hPr : Packed r.a := (pack_spec (ps.take k) (fun x hx => Hok.out x (List.mem_of_mem_take hx))).2 r.a (by rw [hM]; simp)
        obtain ⟨q1, q2, q3, q4, q5, q6⟩ := Av.ok_iff.1 hPr.ok
        have hpos := hPr.pos
        have q5b := q5 (by omega)
        clear q5
        obtain ⟨Ar, cr, hsr, hcr, hsrow⟩ := evs_own (H7.out.item (k := evI r) (List.mem_of_getElem? (i := 2) rfl))
        obtain ⟨a, sv⟩ := r
        simp only at hsr hcr hsrow hPr q2 q3 q4 q5b hpos hM
        subst hsr
        have hxr := H7.out.item (k := ownI 38 3 (.slice (some ⟨gO, 0, none⟩) (L0.length + 1) cap) (L0.length + 1) (avRow (L0 ++ [(⟨a, .slice Ar a.evs.length cr⟩ : ARow)]))) (List.mem_of_getElem? (i := 1) rfl)
        have e1 : w7.cell? ⟨gO, L0.length * 3 + 1, none⟩ = some (.int .i64 a.first) := own_at hxr _ _ (by rw [avRow_last L0 _ 1 (by decide)]; rfl)
        have e2 : w7.cell? ⟨gO, L0.length * 3 + 2, none⟩ = some (.slice Ar a.evs.length cr) := own_at hxr _ _ (by rw [avRow_last L0 _ 2 (by decide)]; rfl)
        have lgO := own_lt' hxr
        have hll : L0.length + 1 ≤ 100000 := by have := Htl.out; omega
        have HM := Lib.hid hM
        have HPr := Lib.hid hPr
        have HqL := Lib.hid hLp
        have hP6l : P6 < w7.heap.size := (H7.out.at 0 rfl).lt
        have q5' := q5b.1
        clear hM hPr hLp hxr hsrow q1 q6 q5b
        go_upto_region 10 with (fail)
        by_cases hj1 : a.first + (a.evs.length : Int) = vid
        · have hb1 : (a.first + (a.evs.length : Int) == vid) = true := by rw [beq_iff_eq]; exact hj1
          by_cases hj2 : a.evs.length < 400
          · have hj2i : (a.evs.length : Int) < 400 := by omega
            have HJ : Hid (joinB a ⟨vid, ev⟩ = true) := Lib.hid (by simp only [joinB, Bool.and_eq_true, decide_eq_true_eq]; exact ⟨hj1, hj2⟩)
            have Hj2 := Lib.hid hj2
            clear hj1
            refine wp_region_ext (by kernel_rfl) (by kernel_rfl) ?_
            repeat (go_big_quiet_step (fail))
            refine wpQuiet_nil ?_
            rintro w8 ⟨⟨_, hb8⟩, rfl⟩
            try simp only [] at *
            have H8 := Lib.hid (H7.out.ext hb8)
            clear hb8
            go_upto_region 11 with (fail)
            clear e1 e2 HBel H7
            have hqi : (L0.length : Int) < (L0.length : Int) + 1 := by omega
            have hS8 : w8.cell? ⟨gO, L0.length * 3 + 2, none⟩ = some (.slice Ar a.evs.length cr) ∧ w8.cell? ⟨P6, 1, none⟩ = some (.int .i64 ev) := ⟨own_at (H8.out.item (k := ownI 38 3 (.slice (some ⟨gO, 0, none⟩) (L0.length + 1) cap) (L0.length + 1) (avRow (L0 ++ [(⟨a, .slice Ar a.evs.length cr⟩ : ARow)]))) (List.mem_of_getElem? (i := 1) rfl)) _ _ (by rw [avRow_last L0 _ 2 (by decide)]; rfl), (Blk.box (H8.out.at 0 rfl)).cell 1⟩
            refine wp_region_last (fun X => X.cell? ⟨gO, L0.length * 3 + 2, none⟩ = some (.slice Ar a.evs.length cr) ∧ X.cell? ⟨P6, 1, none⟩ = some (.int .i64 ev)) 13 (by kernel_rfl) hS8 (fun hHeld => ?_)
            refine wpAnyG_takeG 0 (oi := ?o5) ?v5 ?hi5 (by kernel_rfl) (by kernel_rfl) (by decide) (by kernel_rfl) (by kernel_rfl) ?hq5 ?hg5 ?hy5 (by assumption) ?hk5
            case hi5 => (simp only [List.getElem?_toArray, List.getElem?_cons_succ, List.getElem?_cons_zero]; rfl)
            case hq5 => exact fun _ _ _ h => h
            case hg5 => (first | with_unfolding_all rfl | (go_simp; with_unfolding_all rfl))
            case hy5 => (intro X hX; (first | obtain ⟨hXa, hXb, hXc, hXd, hXe⟩ := hX | obtain ⟨hXa, hXb, hXc, hXd⟩ := hX | obtain ⟨hXa, hXb, hXc⟩ := hX | obtain ⟨hXa, hXb⟩ := hX | skip); go_simp; try with_reducible rfl)
            try simp only [Act.put, List.setIfInBounds_toArray, List.set_cons_zero, List.set_cons_succ]
            refine wpAnyG_takeG 1 (oi := ?o6) ?v6 ?hi6 (by kernel_rfl) (by kernel_rfl) (by decide) (by kernel_rfl) (by kernel_rfl) ?hq6 ?hg6 ?hy6 (by assumption) ?hk6
            case hi6 => (simp only [List.getElem?_toArray, List.getElem?_cons_succ, List.getElem?_cons_zero]; rfl)
            case hq6 => exact fun _ _ _ h => h
            case hg6 => (first | with_unfolding_all rfl | (go_simp; with_unfolding_all rfl))
            case hy6 => (intro X hX; (first | obtain ⟨hXa, hXb, hXc, hXd, hXe⟩ := hX | obtain ⟨hXa, hXb, hXc, hXd⟩ := hX | obtain ⟨hXa, hXb, hXc⟩ := hX | obtain ⟨hXa, hXb⟩ := hX | skip); go_simp; try with_reducible rfl)
            try simp only [Act.put, List.setIfInBounds_toArray, List.set_cons_zero, List.set_cons_succ]
            refine wpAnyG_takeG 2 (oi := ?o7) ?v7 ?hi7 (by kernel_rfl) (by kernel_rfl) (by decide) (by kernel_rfl) (by kernel_rfl) ?hq7 ?hg7 ?hy7 (by assumption) ?hk7
            case hi7 => (simp only [List.getElem?_toArray, List.getElem?_cons_succ, List.getElem?_cons_zero]; rfl)
            case hq7 => exact fun _ _ _ h => h
            case hg7 => (first | with_unfolding_all rfl | (go_simp; with_unfolding_all rfl))
            case hy7 => (intro X hX; (first | obtain ⟨hXa, hXb, hXc, hXd, hXe⟩ := hX | obtain ⟨hXa, hXb, hXc, hXd⟩ := hX | obtain ⟨hXa, hXb, hXc⟩ := hX | obtain ⟨hXa, hXb⟩ := hX | skip); go_simp; try with_reducible rfl)
            try simp only [Act.put, List.setIfInBounds_toArray, List.set_cons_zero, List.set_cons_succ]
            refine wpAnyG_takeG 3 (oi := ?o8) ?v8 ?hi8 (by kernel_rfl) (by kernel_rfl) (by decide) (by kernel_rfl) (by kernel_rfl) ?hq8 ?hg8 ?hy8 (by assumption) ?hk8
            case hi8 => (simp only [List.getElem?_toArray, List.getElem?_cons_succ, List.getElem?_cons_zero]; rfl)
            case hq8 => exact fun _ _ _ h => h
            case hg8 => (first | with_unfolding_all rfl | (go_simp; with_unfolding_all rfl))
            case hy8 => (intro X hX; (first | obtain ⟨hXa, hXb, hXc, hXd, hXe⟩ := hX | obtain ⟨hXa, hXb, hXc, hXd⟩ := hX | obtain ⟨hXa, hXb, hXc⟩ := hX | obtain ⟨hXa, hXb⟩ := hX | skip); go_simp; try with_reducible rfl)
            try simp only [Act.put, List.setIfInBounds_toArray, List.set_cons_zero, List.set_cons_succ]
            refine wpAnyG_takeG 7 (oi := ?o9) ?v9 ?hi9 (by kernel_rfl) (by kernel_rfl) (by decide) (by kernel_rfl) (by kernel_rfl) ?hq9 ?hg9 ?hy9 (by assumption) ?hk9
            case hi9 => (simp only [List.getElem?_toArray, List.getElem?_cons_succ, List.getElem?_cons_zero]; rfl)
            case hq9 => exact fun _ _ _ h => h
            case hg9 => (first | with_unfolding_all rfl | (go_simp; with_unfolding_all rfl))
            case hy9 => (intro X hX; (first | obtain ⟨hXa, hXb, hXc, hXd, hXe⟩ := hX | obtain ⟨hXa, hXb, hXc, hXd⟩ := hX | obtain ⟨hXa, hXb, hXc⟩ := hX | obtain ⟨hXa, hXb⟩ := hX | skip); go_simp; try with_reducible rfl)
            try simp only [Act.put, List.setIfInBounds_toArray, List.set_cons_zero, List.set_cons_succ]
            refine wpAnyG_takeG 4 (oi := ?o10) ?v10 ?hi10 (by kernel_rfl) (by kernel_rfl) (by decide) (by kernel_rfl) (by kernel_rfl) ?hq10 ?hg10 ?hy10 (by assumption) ?hk10
            case hi10 => (simp only [List.getElem?_toArray, List.getElem?_cons_succ, List.getElem?_cons_zero]; rfl)
            case hq10 => exact fun _ _ _ h => h
            case hg10 => (first | with_unfolding_all rfl | (go_simp; with_unfolding_all rfl))
            case hy10 => (intro X hX; (first | obtain ⟨hXa, hXb, hXc, hXd, hXe⟩ := hX | obtain ⟨hXa, hXb, hXc, hXd⟩ := hX | obtain ⟨hXa, hXb, hXc⟩ := hX | obtain ⟨hXa, hXb⟩ := hX | skip); go_simp; try with_reducible rfl)
            try simp only [Act.put, List.setIfInBounds_toArray, List.set_cons_zero, List.set_cons_succ]
            refine wpAnyG_takeG 8 (oi := ?o11) ?v11 ?hi11 (by kernel_rfl) (by kernel_rfl) (by decide) (by kernel_rfl) (by kernel_rfl) ?hq11 ?hg11 ?hy11 (by assumption) ?hk11
            case hi11 => (simp only [List.getElem?_toArray, List.getElem?_cons_succ, List.getElem?_cons_zero]; rfl)
            case hq11 => exact fun _ _ _ h => h
            case hg11 => (first | with_unfolding_all rfl | (go_simp; with_unfolding_all rfl))
            case hy11 => (intro X hX; (first | obtain ⟨hXa, hXb, hXc, hXd, hXe⟩ := hX | obtain ⟨hXa, hXb, hXc, hXd⟩ := hX | obtain ⟨hXa, hXb, hXc⟩ := hX | obtain ⟨hXa, hXb⟩ := hX | skip); go_simp; try with_reducible rfl)
            try simp only [Act.put, List.setIfInBounds_toArray, List.set_cons_zero, List.set_cons_succ]
            refine wpAnyG_takeG 5 (oi := ?o12) ?v12 ?hi12 (by kernel_rfl) (by kernel_rfl) (by decide) (by kernel_rfl) (by kernel_rfl) ?hq12 ?hg12 ?hy12 (by assumption) ?hk12
            case hi12 => (simp only [List.getElem?_toArray, List.getElem?_cons_succ, List.getElem?_cons_zero]; rfl)
            case hq12 => exact fun _ _ _ h => h
            case hg12 => (first | with_unfolding_all rfl | (go_simp; with_unfolding_all rfl))
            case hy12 => (intro X hX; (first | obtain ⟨hXa, hXb, hXc, hXd, hXe⟩ := hX | obtain ⟨hXa, hXb, hXc, hXd⟩ := hX | obtain ⟨hXa, hXb, hXc⟩ := hX | obtain ⟨hXa, hXb⟩ := hX | skip); go_simp; try with_reducible rfl)
            try simp only [Act.put, List.setIfInBounds_toArray, List.set_cons_zero, List.set_cons_succ]
            refine wpAnyG_takeG 6 (oi := ?o13) ?v13 ?hi13 (by kernel_rfl) (by kernel_rfl) (by decide) (by kernel_rfl) (by kernel_rfl) ?hq13 ?hg13 ?hy13 (by assumption) ?hk13
            case hi13 => (simp only [List.getElem?_toArray, List.getElem?_cons_succ, List.getElem?_cons_zero]; rfl)
            case hq13 => exact fun _ _ _ h => h
            case hg13 => (first | with_unfolding_all rfl | (go_simp; with_unfolding_all rfl))
            case hy13 => (intro X hX; (first | obtain ⟨hXa, hXb, hXc, hXd, hXe⟩ := hX | obtain ⟨hXa, hXb, hXc, hXd⟩ := hX | obtain ⟨hXa, hXb, hXc⟩ := hX | obtain ⟨hXa, hXb⟩ := hX | skip); go_simp; try with_reducible rfl)
            try simp only [Act.put, List.setIfInBounds_toArray, List.set_cons_zero, List.set_cons_succ]
            refine wpAnyG_one 9 (o := ?o14) (by kernel_rfl) ?hi14 ?hg14 ?hk14
            case hi14 => (simp only [List.getElem?_toArray, List.getElem?_cons_succ, List.getElem?_cons_zero]; rfl)
            case hg14 => rfl
            intro K hK
            go_simp
            have h9 := (H8.out.alloc [.int .i64 ev] 3).drew
            generalize World.drew (World.alloc _ _) = w9 at *
            have H9 := Lib.hid h9
            have hS9 : w9.cell? ⟨gO, L0.length * 3 + 2, none⟩ = some (.slice Ar a.evs.length cr) ∧ w9.cell? ⟨P6, 1, none⟩ = some (.int .i64 ev) := ⟨own_at (H9.out.item (k := ownI 38 3 (.slice (some ⟨gO, 0, none⟩) (L0.length + 1) cap) (L0.length + 1) (avRow (L0 ++ [(⟨a, .slice Ar a.evs.length cr⟩ : ARow)]))) (List.mem_of_getElem? (i := 2) rfl)) _ _ (by rw [avRow_last L0 _ 2 (by decide)]; rfl), (Blk.box (H9.out.at 1 rfl)).cell 1⟩
            refine hK.out _ _ (fun _ => hS9) (fun _ => ?_)
            clear hK K hHeld hS8 h9
            have hHeld := hS9
            try simp only [Act.put, List.setIfInBounds_toArray, List.set_cons_zero, List.set_cons_succ]
            refine wpAnyG_one 10 (o := ?o15) (by kernel_rfl) ?hi15 ?hg15 ?hk15
            case hi15 => (simp only [List.getElem?_toArray, List.getElem?_cons_succ, List.getElem?_cons_zero]; rfl)
            case hg15 => rfl
            intro K hK
            refine oper_append_stM 81 84 (t := 36) (n := a.evs.length) (m := 1) (c := 1) (from_ := ⟨w8.heap.size, 0, none⟩) (intC a.evs) [.int .i64 ev] rfl elemEv (H9.out.pull 3 rfl) (by with_unfolding_all rfl) (by with_unfolding_all rfl) (fun j u hj => by rw [Addr.add_mid]; exact (Blk.box (H9.out.at 0 rfl)).range j u hj) rfl (intC_one [ev]) (by decide) (by unfold maxLen; omega) (by omega) ?_
            intro gE capE w10 h10
            have H10 := Lib.hid h10
            clear h10
            have hS10 : w10.cell? ⟨gO, L0.length * 3 + 2, none⟩ = some (.slice Ar a.evs.length cr) ∧ w10.cell? ⟨P6, 1, none⟩ = some (.int .i64 ev) := ⟨own_at (H10.out.item (k := ownI 38 3 (.slice (some ⟨gO, 0, none⟩) (L0.length + 1) cap) (L0.length + 1) (avRow (L0 ++ [(⟨a, .slice Ar a.evs.length cr⟩ : ARow)]))) (List.mem_of_getElem? (i := 3) rfl)) _ _ (by rw [avRow_last L0 _ 2 (by decide)]; rfl), (Blk.box (H10.out.at 2 rfl)).cell 1⟩
            refine hK.out _ _ (fun _ => hS10) (fun _ => ?_)
            clear hK K hHeld hS9 H9
            have hHeld := hS10
            try simp only [Act.put, List.setIfInBounds_toArray, List.set_cons_zero, List.set_cons_succ]
            refine wpAnyG_takeG 11 (oi := ?o17) ?v17 ?hi17 (by kernel_rfl) (by kernel_rfl) (by decide) (by kernel_rfl) (by kernel_rfl) ?hq17 ?hg17 ?hy17 (by assumption) ?hk17
            case hi17 => (simp only [List.getElem?_toArray, List.getElem?_cons_succ, List.getElem?_cons_zero]; rfl)
            case hq17 => exact fun _ _ _ h => h
            case hg17 => (first | with_unfolding_all rfl | (go_simp; with_unfolding_all rfl))
            case hy17 => (intro X hX; (first | obtain ⟨hXa, hXb, hXc, hXd, hXe⟩ := hX | obtain ⟨hXa, hXb, hXc, hXd⟩ := hX | obtain ⟨hXa, hXb, hXc⟩ := hX | obtain ⟨hXa, hXb⟩ := hX | skip); go_simp; try with_reducible rfl)
            try simp only [Act.put, List.setIfInBounds_toArray, List.set_cons_zero, List.set_cons_succ]
            refine wpAnyG_takeG 12 (oi := ?o18) ?v18 ?hi18 (by kernel_rfl) (by kernel_rfl) (by decide) (by kernel_rfl) (by kernel_rfl) ?hq18 ?hg18 ?hy18 (by assumption) ?hk18
            case hi18 => (simp only [List.getElem?_toArray, List.getElem?_cons_succ, List.getElem?_cons_zero]; rfl)
            case hq18 => exact fun _ _ _ h => h
            case hg18 => (first | with_unfolding_all rfl | (go_simp; with_unfolding_all rfl))
            case hy18 => (intro X hX; (first | obtain ⟨hXa, hXb, hXc, hXd, hXe⟩ := hX | obtain ⟨hXa, hXb, hXc, hXd⟩ := hX | obtain ⟨hXa, hXb, hXc⟩ := hX | obtain ⟨hXa, hXb⟩ := hX | skip); go_simp; try with_reducible rfl)
            try simp only [Act.put, List.setIfInBounds_toArray, List.set_cons_zero, List.set_cons_succ]
            refine wpAnyG_one 13 (o := ?o19) (by kernel_rfl) ?hi19 ?hg19 ?hk19
            case hi19 => (simp only [List.getElem?_toArray, List.getElem?_cons_succ, List.getElem?_cons_zero]; rfl)
            case hg19 => rfl
            intro K hK
            have f10 : w10.frozen? ⟨gO, L0.length * 3 + 2, none⟩ = false := own_fz (H10.out.item (k := ownI 38 3 (.slice (some ⟨gO, 0, none⟩) (L0.length + 1) cap) (L0.length + 1) (avRow (L0 ++ [(⟨a, .slice Ar a.evs.length cr⟩ : ARow)]))) (List.mem_of_getElem? (i := 3) rfl)) _
            have f10c := hS10.1
            go_simp
            have h11 := ((H10.out.pull 3 rfl).ownSetM (L0.length * 3 + 2) (.slice (some ⟨gE, 0, none⟩) (a.evs.length + 1) capE) (by rw [avRow_len, List.length_append]; show _ < 3 * (L0.length + 1); omega))
            rw [avRow_set2 L0 a (a.evs ++ [ev])] at h11
            generalize World.setCell _ _ _ = w11 at *
            have hel : (a.evs ++ [ev]).length = a.evs.length + 1 := by rw [List.length_append]; rfl
            have hF : St w.heap.size w w11 (ownI 38 3 (.slice (some ⟨gO, 0, none⟩) (L0.length + 1) cap) (L0.length + 1) (avRow (L0 ++ [(⟨⟨a.all, a.first, a.evs ++ [ev]⟩, .slice (some ⟨gE, 0, none⟩) (a.evs.length + 1) capE⟩ : ARow)])) :: evI (⟨⟨a.all, a.first, a.evs ++ [ev]⟩, .slice (some ⟨gE, 0, none⟩) (a.evs.length + 1) capE⟩ : ARow) :: evsI L0 :: []) := by
              have h12 := h11.sub (List.Sublist.cons₂ _ (List.Sublist.cons₂ _ (List.Sublist.cons _ (List.sublist_cons_self _ _))))
              unfold evI
              simp only [hel, intC_app]
              exact h12
            have HF := Lib.hid hF
            clear hF h11 hel f10 f10c
            refine hK.out _ _ (fun h => absurd rfl h) (fun _ => ?_)
            refine wpAnyG_done (by kernel_rfl) ?_ _
            clear hK K hHeld hS10 H10
            go_wp2_with fail
            go_roundw
            case rel => exact ⟨k + 1, by omega, by go_num, HRise, Lib.hid ⟨_, .inr ⟨L0, (⟨⟨a.all, a.first, a.evs ++ [ev]⟩, .slice (some ⟨gE, 0, none⟩) (a.evs.length + 1) capE⟩ : ARow), gO, cap, by rw [Hsn.out, HM.out, packS_join HJ.out], rfl, by have h1 := HqL.out; have h2 := Htl.out; rw [List.length_take]; omega, rfl⟩, HF.out⟩⟩
            case measure => simp [intOf]; omega
          · have hj2i : ¬ (a.evs.length : Int) < 400 := by omega
            have HJ : Hid (joinB a ⟨vid, ev⟩ = false) := Lib.hid (by simp only [joinB, Bool.and_eq_false_iff, decide_eq_false_iff_not]; exact .inr hj2)
            clear hj1
            refine wp_region_ext (by kernel_rfl) (by kernel_rfl) ?_
            repeat (go_big_quiet_step (fail))
            refine wpQuiet_nil ?_
            rintro w8 ⟨⟨_, hb8⟩, rfl⟩
            try simp only [] at *
            have H8 := Lib.hid (H7.out.ext hb8)
            clear hb8
            have d0 : w8.cell? ⟨P6, 0, none⟩ = some (.int .i64 vid) := (Blk.box (H8.out.at 0 rfl)).cell 0
            have d1 : w8.cell? ⟨P6, 1, none⟩ = some (.int .i64 ev) := (Blk.box (H8.out.at 0 rfl)).cell 1
            have h9 := (H8.out.alloc [.int .i64 ev] 3).toOwn (n := 1) (size := 1) rfl (by decide)
            have h9b := (h9.ext ((Below.refl _ _).alloc (Nat.le_refl _) (.cells #[.bool false, .int .i64 vid, .slice (some ⟨w8.heap.size, 0, none⟩) 1 1] 38))).pull 2 rfl
            have HOWN := Lib.hid h9b
            have hz8 : (w8.alloc (.cells #[.int .i64 ev] 3)).heap.size = w8.heap.size + 1 := by simp
            have hnews := World.news_of_block (heap_alloc_new (w8.alloc (.cells #[.int .i64 ev] 3)) (.cells #[.bool false, .int .i64 vid, .slice (some ⟨w8.heap.size, 0, none⟩) 1 1] 38))
            rw [hz8] at hnews
            have HNews := Lib.hid hnews
            clear hz8 hnews
            clear h9 h9b H8 H7
            go_wp2_with (first
              | (at_builtin; refine wpList_append_st (t := 22) (e := 38) (size := 3) (bytes := 40) (n := L0.length + 1) (m := 1) (c := 1) (avRow (L0 ++ [(⟨a, .slice Ar a.evs.length cr⟩ : ARow)])) [.bool false, .int .i64 vid, .slice (some ⟨w8.heap.size, 0, none⟩) 1 1] elemAv HOWN.out (by with_unfolding_all rfl) (by with_unfolding_all rfl) HNews.out rfl (Av.one ⟨false, vid, [ev]⟩ _ rfl) (by decide) (by unfold maxLen; omega) (by omega) (fun gT capT W13 H13 => ?_)))
            have h14 := (((((H13.pull 3 rfl).pull 4 rfl).swap.evs).pull 2 rfl).pull 2 rfl)
            have hl2 : (L0 ++ [(⟨a, .slice Ar a.evs.length cr⟩ : ARow)]).length = L0.length + 1 := by rw [List.length_append]; rfl
            have hF : St w.heap.size w W13 (ownI 38 3 (.slice (some ⟨gT, 0, none⟩) ((L0 ++ [(⟨a, .slice Ar a.evs.length cr⟩ : ARow)]).length + 1) capT) ((L0 ++ [(⟨a, .slice Ar a.evs.length cr⟩ : ARow)]).length + 1) (avRow ((L0 ++ [(⟨a, .slice Ar a.evs.length cr⟩ : ARow)]) ++ [(⟨⟨false, vid, [ev]⟩, .slice (some ⟨w8.heap.size, 0, none⟩) 1 1⟩ : ARow)])) :: evI (⟨⟨false, vid, [ev]⟩, .slice (some ⟨w8.heap.size, 0, none⟩) 1 1⟩ : ARow) :: evsI (L0 ++ [(⟨a, .slice Ar a.evs.length cr⟩ : ARow)]) :: []) := by
              rw [hl2, avRow_snoc (L0 ++ [(⟨a, .slice Ar a.evs.length cr⟩ : ARow)])]
              exact h14.sub (List.Sublist.cons₂ _ (List.Sublist.cons₂ _ (List.Sublist.cons₂ _ (List.nil_sublist _))))
            clear h14 hl2
            have HF := Lib.hid hF
            clear hF H13
            go_roundw
            case rel => exact ⟨k + 1, by omega, by go_num, HRise, Lib.hid ⟨_, .inr ⟨(L0 ++ [(⟨a, .slice Ar a.evs.length cr⟩ : ARow)]), (⟨⟨false, vid, [ev]⟩, .slice (some ⟨w8.heap.size, 0, none⟩) 1 1⟩ : ARow), gT, capT, by rw [Hsn.out, HM.out, packS_new HJ.out]; simp, by rw [List.length_append]; rfl, by have h1 := HqL.out; have h2 := Htl.out; rw [List.length_take, List.length_append]; show L0.length + 1 + 1 ≤ _; omega, rfl⟩, HF.out⟩⟩
            case measure => simp [intOf]; omega
        · have hb1 : (a.first + (a.evs.length : Int) == vid) = false := by rw [beq_eq_false_iff_ne]; exact hj1
          have HJ : Hid (joinB a ⟨vid, ev⟩ = false) := Lib.hid (by simp only [joinB, Bool.and_eq_false_iff, decide_eq_false_iff_not]; exact .inl hj1)
          clear hj1
          refine wp_region_ext (by kernel_rfl) (by kernel_rfl) ?_
          repeat (go_big_quiet_step (fail))
          refine wpQuiet_nil ?_
          rintro w8 ⟨⟨_, hb8⟩, rfl⟩
          try simp only [] at *
          have H8 := Lib.hid (H7.out.ext hb8)
          clear hb8
          have d0 : w8.cell? ⟨P6, 0, none⟩ = some (.int .i64 vid) := (Blk.box (H8.out.at 0 rfl)).cell 0
          have d1 : w8.cell? ⟨P6, 1, none⟩ = some (.int .i64 ev) := (Blk.box (H8.out.at 0 rfl)).cell 1
          have h9 := (H8.out.alloc [.int .i64 ev] 3).toOwn (n := 1) (size := 1) rfl (by decide)
          have h9b := (h9.ext ((Below.refl _ _).alloc (Nat.le_refl _) (.cells #[.bool false, .int .i64 vid, .slice (some ⟨w8.heap.size, 0, none⟩) 1 1] 38))).pull 2 rfl
          have HOWN := Lib.hid h9b
          have hz8 : (w8.alloc (.cells #[.int .i64 ev] 3)).heap.size = w8.heap.size + 1 := by simp
          have hnews := World.news_of_block (heap_alloc_new (w8.alloc (.cells #[.int .i64 ev] 3)) (.cells #[.bool false, .int .i64 vid, .slice (some ⟨w8.heap.size, 0, none⟩) 1 1] 38))
          rw [hz8] at hnews
          have HNews := Lib.hid hnews
          clear hz8 hnews
          clear h9 h9b H8 H7
          go_wp2_with (first
            | (at_builtin; refine wpList_append_st (t := 22) (e := 38) (size := 3) (bytes := 40) (n := L0.length + 1) (m := 1) (c := 1) (avRow (L0 ++ [(⟨a, .slice Ar a.evs.length cr⟩ : ARow)])) [.bool false, .int .i64 vid, .slice (some ⟨w8.heap.size, 0, none⟩) 1 1] elemAv HOWN.out (by with_unfolding_all rfl) (by with_unfolding_all rfl) HNews.out rfl (Av.one ⟨false, vid, [ev]⟩ _ rfl) (by decide) (by unfold maxLen; omega) (by omega) (fun gT capT W13 H13 => ?_)))
          have h14 := (((((H13.pull 3 rfl).pull 4 rfl).swap.evs).pull 2 rfl).pull 2 rfl)
          have hl2 : (L0 ++ [(⟨a, .slice Ar a.evs.length cr⟩ : ARow)]).length = L0.length + 1 := by rw [List.length_append]; rfl
          have hF : St w.heap.size w W13 (ownI 38 3 (.slice (some ⟨gT, 0, none⟩) ((L0 ++ [(⟨a, .slice Ar a.evs.length cr⟩ : ARow)]).length + 1) capT) ((L0 ++ [(⟨a, .slice Ar a.evs.length cr⟩ : ARow)]).length + 1) (avRow ((L0 ++ [(⟨a, .slice Ar a.evs.length cr⟩ : ARow)]) ++ [(⟨⟨false, vid, [ev]⟩, .slice (some ⟨w8.heap.size, 0, none⟩) 1 1⟩ : ARow)])) :: evI (⟨⟨false, vid, [ev]⟩, .slice (some ⟨w8.heap.size, 0, none⟩) 1 1⟩ : ARow) :: evsI (L0 ++ [(⟨a, .slice Ar a.evs.length cr⟩ : ARow)]) :: []) := by
            rw [hl2, avRow_snoc (L0 ++ [(⟨a, .slice Ar a.evs.length cr⟩ : ARow)])]
            exact h14.sub (List.Sublist.cons₂ _ (List.Sublist.cons₂ _ (List.Sublist.cons₂ _ (List.nil_sublist _))))
          clear h14 hl2
          have HF := Lib.hid hF
          clear hF H13
          go_roundw
          case rel => exact ⟨k + 1, by omega, by go_num, HRise, Lib.hid ⟨_, .inr ⟨(L0 ++ [(⟨a, .slice Ar a.evs.length cr⟩ : ARow)]), (⟨⟨false, vid, [ev]⟩, .slice (some ⟨w8.heap.size, 0, none⟩) 1 1⟩ : ARow), gT, capT, by rw [Hsn.out, HM.out, packS_new HJ.out]; simp, by rw [List.length_append]; rfl, by have h1 := HqL.out; have h2 := Htl.out; rw [List.length_take, List.length_append]; show L0.length + 1 + 1 ≤ _; omega, rfl⟩, HF.out⟩⟩
          case measure => simp [intOf]; omega
    · obtain rfl : k = n := by omega
      have ht : ps.take k = ps := List.take_of_length_le (by rw [Hlen.out]; exact Nat.le_refl _)
      rw [ht] at HP
      obtain ⟨X, hI, hS⟩ := HP.out
      have hrs : Rise ps ps.length := by rw [Hlen.out]; exact HRi.out
      have Hrs := Lib.hid hrs
      have HS := Lib.hid hS
      clear hrs hS ht
      rcases hI with ⟨hnil, hs4, hX⟩ | ⟨L0, r, gO, cap, hM, hs4, hLp, hX⟩
      · subst hs4
        subst hX
        have HM := Lib.hid hnil
        clear hnil
        go_wp2_with fail
        go_ret2
        exact ⟨⟨fun _ => ⟨[], none, 0, HM.out.symm, rfl, fun h => absurd h (by simp), fun r hr => by cases hr⟩, fun h => (h Hrs.out).elim⟩, HS.out.below⟩
      · subst hs4
        subst hX
        have HM := Lib.hid hM
        clear hM
        have hev := evs_at ((HS.out.tail).evs.head)
        have hrow := HS.out.head
        have hl2 : (L0 ++ [r]).length = L0.length + 1 := by rw [List.length_append]; rfl
        have hC : wr.ownsRow 0 38 3 (.slice (some ⟨gO, 0, none⟩) (L0.length + 1) cap) ((L0 ++ [r]).map ARow.vals).length ((L0 ++ [r]).map ARow.vals).flatten := by
          rw [List.length_map, hl2]; exact hrow
        obtain ⟨A5, c5, e5, _, h5⟩ := own_row hC (fun c hc => by obtain ⟨t, _, rfl⟩ := List.mem_map.1 hc; rfl) rfl
        injection e5 with e5 _ _
        subst e5
        have HC : Hid (AvsAt wr (L0 ++ [r]) (some ⟨gO, 0, none⟩)) := Lib.hid ⟨fun hn => by
          obtain ⟨g2, e6, _, hg2, hk2⟩ := h5 hn
          exact ⟨g2, 0, e6, hg2, fun k hk => by rw [Nat.zero_add]; exact hk2 k hk⟩, hev⟩
        clear hC h5 hev hrow hl2
        go_wp2_with fail
        go_ret2
        exact ⟨⟨fun _ => ⟨L0 ++ [r], some ⟨gO, 0, none⟩, cap, by rw [HM.out, List.map_append]; rfl, by rw [List.length_append]; rfl, HC.out⟩, fun h => (h Hrs.out).elim⟩, HS.out.below⟩
end Go.Proofs.YtjekdodboihfhaaDoor
