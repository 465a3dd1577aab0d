/- The law RegionOne. (Printed by tools/mkrg8.py.) -/
import Derived.Test.YtjekdodboihfhaaRg6
import Derived.Test.YtjekdodboihfhaaRg7
import Derived.Test.YtjekdodboihfhaaPick
set_option linter.all false
namespace Go.Proofs.Ytjekdodboihfhaa
open Go.RowKit
theorem wpList_append_rows {P : Program} {ops : Array Oper} {rest : List Oper} {d s x : Tmp} {t t' : TypeId} {pos : String} {after : Array Edge} {a : Act} {w : World} {Q : Exit → Act → World → Prop} {e : TypeId} {size bytes base n m c g o : Nat} {v : Value} (xs news : List Value)
    (E : ElemOk P t e size bytes) (hs : a.eval (.tmp s) = v) (hx : a.eval (.tmp x) = .slice (some ⟨g, o, none⟩) m c) (hown : w.ownsRow base e size v n xs) (hr : w.rangeAt g o news) (hl : news.length = m * size) (h1 : ∀ u ∈ news, u.oneCell' = true)
    (h63 : n + m ≤ maxLen) (hbytes : (n + m) * bytes ≤ 140737488355328) (hbase : base ≤ w.heap.size)
    (h : ∀ v' W, W.ownsRow base e size v' (n + m) (xs ++ news) → Grew base v w W → wpList P ops Q rest (a.put (some d) v') W) :
    wpList P ops Q (⟨some d, .call { callee := .builtin .append, args := #[.tmp s, .tmp x], argTypes := #[t, t] }, t', pos, after, none⟩ :: rest) a w := by
  obtain ⟨ht, i, z, hi, hz, hsz, hby, hzs, hpos⟩ := E
  refine wpList_append_own w rfl (.tmp s) (.tmp x) t rfl base e i z size bytes ht hi hz hsz hby hzs hpos v n xs hs hown ⟨g, o, none⟩ m c news hx hl ?_ h1 h63 hbytes hbase ?_
  · intro j u hj
    rw [Addr.add_mid]
    exact hr j u hj
  · intro v' W h2 h3 _
    exact h v' W h2 ⟨h3, fun k hk => (hown.lt k hk).1, hbase⟩
theorem spRow_one (V : List Sp) : ∀ u ∈ spRow V, u.oneCell' = true := by
  intro u hu
  unfold spRow at hu
  simp only [List.mem_flatten, List.mem_map] at hu
  obtain ⟨_, ⟨v, _, rfl⟩, hu⟩ := hu
  exact Sp.one v u hu
theorem spRow_range {w : World} {g : Nat} : ∀ (V : List Sp) (o : Nat), (∀ (k : Nat) (hk : k < V.length), w.rangeAt g (o + k * 3) V[k].vals) → w.rangeAt g o (spRow V)
  | [], o, _ => fun j u hj => by simp [spRow] at hj
  | v :: r, o, h => fun j u hj => by
    have e : spRow (v :: r) = v.vals ++ spRow r := by simp [spRow]
    rw [e] at hj
    by_cases hlt : j < 3
    · rw [List.getElem?_append_left (by rw [Sp.len]; exact hlt)] at hj
      have := h 0 (by simp) j u hj
      simpa using this
    · rw [List.getElem?_append_right (by rw [Sp.len]; omega), Sp.len] at hj
      have := spRow_range r (o + 3) (fun k hk => by
        have := h (k + 1) (by simpa using hk)
        rw [show o + (k + 1) * 3 = o + 3 + k * 3 by omega] at this
        simpa using this) (j - 3) u hj
      rw [show o + 3 + (j - 3) = o + j by omega] at this
      exact this
set_option maxRecDepth 100000 in
set_option maxHeartbeats 1000000 in
theorem cloneS_any (V : List Sp) (g o cap n : Nat) (hn : V.length = n) (h0 : 0 < n) (h12 : n ≤ 1000) (w : World) (hg : g < w.heap.size) (hr : ∀ (k : Nat) (hk : k < V.length), w.rangeAt g (o + k * 3) V[k].vals) :
    Calls Try.prog 22 #[.slice (some ⟨g, o, none⟩) n cap] w fun e w' => ∃ v, e = .returned v ∧ w'.ownsRow w.heap.size 37 3 v n (spRow V) ∧ Below w.heap.size w w' := by
  have Hr : Hid (w.rangeAt g o (spRow V)) := spRow_range V o hr
  have Hn := Lib.hid hn
  clear hr hn
  have hq := @Lib.run_eql_slice_nil Try.prog
  go_enter Try.func22, Try.ntmps22
  go_wp2_with (
    (with_reducible refine wpList_append_rows (t := 27) (v := .slice (some ⟨w.heap.size, 0, none⟩) 0 0) (base := w.heap.size) (n := 0) (m := n) (c := cap) (g := g) (o := o) [] (spRow V) elemSp ?hs ?hx ?ow ?hr ?hl ?h1 ?h63 ?hb ?hba ?hk)
    case hs => rfl
    case hx => rfl
    case ow => exact ⟨rfl, .inr ⟨w.heap.size, 0, #[], rfl, Nat.le_refl _, heap_alloc_new w _, Nat.le_refl 0, Nat.zero_le _, rfl, rfl⟩⟩
    case hr => exact rangeAt_below Hr.out ((Below.refl _ w).alloc (Nat.le_refl _) _) hg
    case hl => rw [spRow_len, Hn.out]
    case h1 => exact spRow_one V
    case h63 => unfold maxLen; omega
    case hb => omega
    case hba => simp
    intro v' w3 hown hgrew)
  have hb := hgrew.below ((Below.refl _ w).alloc (Nat.le_refl _) _)
  rw [Nat.zero_add, List.nil_append] at hown
  exact bodyPost_ret (v := v') (by simp [results, Try.results22, go_sem]) rfl ⟨_, rfl, hown, hb⟩
/-- Clone, by what the caller owns. -/
theorem cloneS_st {B : Nat} {w0 w : World} {X : List It} (H : St B w0 w X) (V : List Sp) (A : Option Addr) (cap n : Nat) (hn : V.length = n) (h0 : 0 < n) (h12 : n ≤ 1000) (hr : SlRow w w.heap.size 3 A (V.map Sp.vals)) :
    Calls Try.prog 22 #[.slice A n cap] w fun e w' => ∃ g c, e = .returned (.slice (some ⟨g, 0, none⟩) n c) ∧ St B w0 w' (ownI 37 3 (.slice (some ⟨g, 0, none⟩) n c) n (spRow V) :: X) := by
  obtain ⟨g, o, rfl, hg, hk⟩ := hr (by rw [List.length_map]; omega)
  refine (cloneS_any V g o cap n hn h0 h12 w hg (fun k h => by
    have := hk k (by rw [List.length_map]; exact h)
    simpa using this)).mono ?_
  rintro e w' ⟨cv, rfl, hown, hb⟩
  have h' := hown
  rcases hown with ⟨hl, h | ⟨g', cap', cur, rfl, _, r⟩⟩
  · omega
  · refine ⟨g', cap', rfl, H.add hb ⟨hl, .inr ⟨g', cap', cur, rfl, Nat.zero_le _, r⟩⟩ (fun q hq => ?_)⟩
    have hq : q ∈ (Value.slice (some ⟨g', 0, none⟩) n cap').ownBlock.toList := hq
    exact (h'.lt q (by simpa [eq_comm] using hq)).1
/-- Insert, by what the caller owns. -/
theorem insert_st {B : Nat} {w0 w : World} {X : List It} {g vb n cap i : Nat} {xs : List Value} (x : Sp) (H : St B w0 w (ownI 37 3 (.slice (some ⟨g, 0, none⟩) n cap) n xs :: bk vb 37 x.vals :: X)) (h1 : ∀ u ∈ xs, u.oneCell' = true) (hi : i ≤ n) (h0 : 0 < n) (h60 : n ≤ 60) :
    Calls Try.prog 23 #[.slice (some ⟨g, 0, none⟩) n cap, .int .i64 i, .slice (some ⟨vb, 0, none⟩) 1 1] w (OwnIns B w0 X (n + 1) (xs.take (i * 3) ++ x.vals ++ xs.drop (i * 3))) := by
  obtain ⟨ys, hy, hx, hnc, hm, H2⟩ := H.unOwn
  by_cases hin : i = n
  · subst hin
    have := insert_end x H h0 h60
    rw [← hx, List.take_length, List.drop_length, List.append_nil]
    exact this
  by_cases hc : n + 1 ≤ cap
  · exact insert_shift x H2 hx hy h1 (by omega) hc hm h60
  · exact insert_grow x H2 hx h1 (by omega) hnc (by omega) h60
theorem row_cut (o r : List Sp) (x : Sp) (k : Int) : (spRow (o ++ x :: r)).set (o.length * 3 + 1) (.int .i64 k) = spRow (o ++ { x with hi := k } :: r) := by
  have e : ∀ y : Sp, spRow (o ++ y :: r) = spRow o ++ (y.vals ++ spRow r) := fun y => by simp [spRow]
  rw [e, e, List.set_append_right _ _ (by rw [spRow_len]; omega), spRow_len]
  congr 1
  rw [show o.length * 3 + 1 - o.length * 3 = 1 by omega]
  rfl
theorem row_ins (o r : List Sp) (x y : Sp) : (spRow (o ++ x :: r)).take ((o.length + 1) * 3) ++ y.vals ++ (spRow (o ++ x :: r)).drop ((o.length + 1) * 3) = spRow (o ++ x :: y :: r) := by
  have e : spRow (o ++ x :: r) = spRow o ++ x.vals ++ spRow r := by simp [spRow]
  have el : (spRow o ++ x.vals).length = (o.length + 1) * 3 := by rw [List.length_append, spRow_len, Sp.len]; omega
  rw [e, List.take_left' el, List.drop_left' el]
  simp [spRow]
set_option maxRecDepth 100000 in
set_option maxHeartbeats 8000000 in
theorem law_RegionOne (v0 : Value) (l : List Sp) (pa pb : Int) (_ : (Lit.int .i64 pa).wf = true) (_ : (Lit.int .i64 pb).wf = true) (w : World) (hv0 : IsSps w v0 l) :
    Calls Try.prog 7 #[v0, .int .i64 pa, .int .i64 pb] w fun e w' => e = .returned (.bool true) ∧ Below w.heap.size w w' := by
  obtain ⟨A, cap, rfl, hcap, hr⟩ := hv0
  obtain ⟨n, hlen⟩ : ∃ n, l.length = n := ⟨_, rfl⟩
  have Hr := Lib.hid hr
  have Hlen := Lib.hid hlen
  rw [hlen] at hcap ⊢
  have H1 := Lib.hid (St.init w)
  have HA := Lib.hid (regional_any w)
  clear hr hlen
  go_enter Try.func7, Try.ntmps7
  by_cases h0 : n = 0
  · subst h0
    go_wp2_with (first
      | ((with_reducible refine HA.out.mono ?_)
         rintro e w2 ⟨rfl, hb2⟩
         have H2 := Lib.hid (H1.out.ext hb2)
         clear hb2 HA H1))
    go_ret
    exact ⟨rfl, H2.out.below⟩
  have h0' : ¬ (n : Int) = 0 := by omega
  by_cases h60 : 60 < n
  · have h6 : (60 : Int) < (n : Int) := by omega
    go_wp2_with (first
      | ((with_reducible refine HA.out.mono ?_)
         rintro e w2 ⟨rfl, hb2⟩
         have H2 := Lib.hid (H1.out.ext hb2)
         clear hb2 HA H1))
    go_ret
    exact ⟨rfl, H2.out.below⟩
  have h6 : ¬ (60 : Int) < (n : Int) := by omega
  have h0b : ((n : Int) == 0) = false := by simpa using h0'
  have h6b : decide ((60 : Int) < (n : Int)) = false := by simpa using h6
  have HRt := rightN (cap := cap) Hlen.out (by omega) Hr.out
  cases hb : rightF 0 l
  · rw [hb] at HRt
    clear hb
    go_wp2_with (first
      | ((with_reducible refine HA.out.mono ?_)
         rintro e w2 ⟨rfl, hb2⟩
         have H2 := Lib.hid (H1.out.ext hb2)
         clear hb2 HA H1)
      | ((with_reducible refine (HRt.out _ H2.out.below).mono ?_)
         rintro e w4 ⟨rfl, hb4⟩
         have H4 := Lib.hid (H2.out.ext hb4)
         clear hb4))
    go_ret
    exact ⟨rfl, H4.out.below⟩
  have hi := pickN_lt pa n (by omega)
  have HP := fun W => Lib.hid (pick_any pa n W (by omega) (by omega))
  generalize pickN pa n = i at *
  have hix : i < l.length := by rw [Hlen.out]; exact hi
  obtain ⟨o, x, r, hsp, hol⟩ : ∃ o x r, l = o ++ x :: r ∧ o.length = i := ⟨l.take i, l[i], l.drop (i + 1), by simp, by rw [List.length_take]; omega⟩
  have hxe : l.getD i default = x := by rw [hsp, ← hol]; simp [List.getD]
  obtain ⟨g, q, rfl, hg, hk⟩ := Hr.out (by rw [List.length_map]; omega)
  have Hx : Hid (∀ W, Below w.heap.size w W → W.rangeAt g (q + i * 3) x.vals) := Lib.hid (fun W hb' => by
    have := rangeAt_below (sp_at Hr.out i hix).2 hb' hg
    rwa [hxe] at this)
  have HD : Hid (∀ W, Below w.heap.size w W → Calls Try.prog 24 #[.slice (some ⟨g, q, none⟩) n cap] W fun e w' => e = .returned (.tuple #[.string ⟨(hmacM keyB (tableM l)).toArray⟩, .nilIface]) ∧ Below W.heap.size W w') := Lib.hid (fun W hb' => by
    have := digest_any l (some ⟨g, q, none⟩) cap W (by rw [Hlen.out]; omega) (sl_ext Hr.out hb') hb
    rwa [Hlen.out] at this)
  have hdl := hmacM_len keyB (tableM l)
  rw [hb] at HRt
  have hxo : x.lo ≤ x.hi ∧ 0 < x.lo ∧ x.hi ≤ 4094 := by
    have h := hb
    rw [hsp] at h
    obtain ⟨h1, h2, h3, _⟩ := right_elem (Int.le_refl 0) h
    exact ⟨h2, h1, h3⟩
  obtain ⟨hx1, hx2, hx3⟩ := hxo
  have Hb := Lib.hid hb
  have Hsp := Lib.hid hsp
  clear hb hsp hk hxe hix
  go_upto_region 7 with (first
    | ((with_reducible refine HA.out.mono ?_)
       rintro e w2 ⟨rfl, hb2⟩
       have H2 := Lib.hid (H1.out.ext hb2)
       clear hb2 HA H1)
    | ((with_reducible refine (HRt.out _ H2.out.below).mono ?_)
       rintro e w3 ⟨rfl, hb3⟩
       have H3 := Lib.hid (H2.out.ext hb3)
       clear hb3 HRt H2)
    | ((with_reducible refine ((HP _).out).mono ?_)
       rintro e w4 ⟨rfl, rfl⟩
       skip)
    | (with_reducible refine wpList_load_rng (ty := 37) x.vals (by with_unfolding_all rfl) (Hx.out _ H3.out.below) Try.underlying37 (by with_unfolding_all rfl) (by with_unfolding_all exact info37) ?_)
    | ((with_reducible refine wpList_store_blk (ty := 37) (b := ?b9) (o := ?o9) (t := 37) zSp x.vals ?hx9 ?hy9 ?hB9 ?ho9 ?hi9 ?h19 ?hk9)
       case hx9 => rfl
       case hy9 => rfl
       case hB9 => exact Blk.new w3 zSp 37
       case ho9 => exact Nat.le_refl _
       case hi9 => exact info37
       case h19 => exact (Sp.one _)
       intro W4 hBW4 hoW4))
  have H4 := Lib.hid ((H3.out.alloc zSp 37).sets (L' := x.vals) hBW4 hoW4)
  clear hBW4 hoW4 H3 HP Hx
  generalize w3.heap.size = Q at *
  have c0 : W4.cell? ⟨Q, 0, none⟩ = some (.int .i64 x.lo) := H4.out.cell 0
  have c1 : W4.cell? ⟨Q, 1, none⟩ = some (.int .i64 x.hi) := H4.out.cell 1
  by_cases q0 : x.lo = x.hi
  · have q1 : (x.lo == x.hi) = true := by simpa using q0
    go_wp2_with fail
    go_ret
    exact ⟨rfl, H4.out.below⟩
  have q1 : (x.lo == x.hi) = false := by simpa using q0
  obtain ⟨d, hd⟩ : ∃ d : Nat, x.hi - x.lo = (d : Int) := ⟨(x.hi - x.lo).toNat, by omega⟩
  have hj := pickN_lt pb d (by omega)
  have HP2 : Hid (∀ W, Calls Try.prog 21 #[.int .i64 pb, .int .i64 (x.hi - x.lo)] W fun e w' => e = .returned (.int .i64 (pickN pb d : Nat)) ∧ Below W.heap.size W w') := Lib.hid (fun W => by
    have := pick_any pb d W (by omega) (by omega)
    rw [hd]
    refine this.mono ?_
    rintro e w' ⟨h1, rfl⟩
    exact ⟨h1, Below.refl _ _⟩)
  generalize pickN pb d = j at *
  have hjx : x.lo + (j : Int) < x.hi := by omega
  clear hd hj
  have k0 : ∀ y : Ext W4, y.val.cell? ⟨Q, 0, none⟩ = some (.int .i64 x.lo) := fun y => (H4.out.ext y.below).cell 0
  have k1 : ∀ y : Ext W4, y.val.cell? ⟨Q, 1, none⟩ = some (.int .i64 x.hi) := fun y => (H4.out.ext y.below).cell 1
  go_upto_region 9 with (fail)
  refine wp_region_ext (by kernel_rfl) (by kernel_rfl) ?_
  repeat (go_big_quiet_step ((go_at_call 21; exact Calls.ext _ (HP2.out _))))
  refine wpQuiet_nil ?_
  rintro w5 ⟨⟨_, hb5⟩, rfl⟩
  try simp only [] at *
  have H5 := Lib.hid (H4.out.ext hb5)
  clear hb5 k0 k1 H4 HP2 c0 c1
  have HC := Lib.hid (cloneS_st H5.out l (some ⟨g, q, none⟩) cap n Hlen.out (by omega) (by omega) (sl_ext Hr.out H5.out.below))
  go_wp2_with fail
  refine HC.out.mono ?_
  rintro e w6 ⟨gm, cm, rfl, h6'⟩
  have H6 := Lib.hid h6'
  clear h6' HC H5
  have hlk : x.lo ≤ x.lo + (j : Int) := by omega
  generalize x.lo + (j : Int) = kk at *
  have hMl : (o ++ { x with hi := kk } :: ⟨kk + 1, x.hi, x.inst⟩ :: r).length = n + 1 := by
    have := Hlen.out
    rw [Hsp.out] at this
    simp only [List.length_append, List.length_cons] at this ⊢
    omega
  have hMr : rightF 0 (o ++ { x with hi := kk } :: ⟨kk + 1, x.hi, x.inst⟩ :: r) = true := right_cut o r x kk ⟨hlk, hjx⟩ (by rw [← Hsp.out]; exact Hb.out)
  have hMt : tableM (o ++ { x with hi := kk } :: ⟨kk + 1, x.hi, x.inst⟩ :: r) = tableM l := table_ext (fun v => by rw [Hsp.out]; exact inst_cut o r x kk ⟨hlk, hjx⟩ v)
  obtain ⟨hcm, _, hfm⟩ := own_atS H6.out.head (by omega)
  have hcl : w6.cell? ⟨gm, i * 3 + 1, none⟩ = some (.int .i64 x.hi) := by
    rw [(own_atS H6.out.head (by omega)).2.1 (i * 3 + 1) (by omega), Hsp.out]
    have e : spRow (o ++ x :: r) = spRow o ++ (x.vals ++ spRow r) := by simp [spRow]
    rw [e, List.getElem?_append_right (by rw [spRow_len, hol]; omega), spRow_len, hol, show i * 3 + 1 - i * 3 = 1 by omega]
    rfl
  have hfz := hfm (i * 3 + 1)
  have H7 := H6.out.ownSet (i * 3 + 1) (.int .i64 kk) (by rw [spRow_len, Hlen.out]; omega)
  have e7 : (spRow l).set (i * 3 + 1) (.int .i64 kk) = spRow (o ++ { x with hi := kk } :: r) := by rw [Hsp.out, ← hol]; exact row_cut o r x kk
  rw [e7] at H7
  have H7 := Lib.hid H7
  clear e7 hfm
  go_upto_region 12 with (fail)
  clear hcl hfz H6
  generalize w6.setCell ⟨gm, i * 3 + 1, none⟩ (.int .i64 kk) = w7 at *
  have c1 : w7.cell? ⟨Q, 1, none⟩ = some (.int .i64 x.hi) := H7.out.swap.cell 1
  have c2 : w7.cell? ⟨Q, 2, none⟩ = some (.int .i64 x.inst) := H7.out.swap.cell 2
  have hwi : IntKind.i64.wrap ((i : Int) + 1) = ((i + 1 : Nat) : Int) := by rw [IntKind.wrap_i64]; omega
  go_wp2_with (first
    | ((with_reducible refine wpList_build1 (Sp.vals ⟨kk + 1, x.hi, x.inst⟩) elemSp ?hxb rfl (by decide) ?_)
       case hxb => rfl
       intro W13 hB13 hb13 hl13))
  have H13 := Lib.hid (H7.out.add (k := bk w7.heap.size 37 (Sp.vals ⟨kk + 1, x.hi, x.inst⟩)) hb13 hB13 (fun q hq => by
    have hq : q ∈ [w7.heap.size] := hq
    rw [List.mem_singleton.1 hq]
    exact Nat.le_refl _)).swap
  clear H7 hB13 hb13 hl13 c1 c2 hwi
  have HI := insert_st (i := i + 1) ⟨kk + 1, x.hi, x.inst⟩ H13.out (spRow_one _) (by omega) (by omega) (by omega)
  rw [← hol, row_ins, hol, show (((i + 1 : Nat)) : Int) = (i : Int) + 1 by omega] at HI
  generalize o ++ { x with hi := kk } :: ⟨kk + 1, x.hi, x.inst⟩ :: r = M at *
  have HI := Lib.hid HI
  refine HI.out.mono ?_
  rintro e w14 ⟨gN, cN, rfl, h14⟩
  have H14 := Lib.hid h14
  clear h14 HI H13
  have HM1 : Hid (∀ W, SlRow W W.heap.size 3 (some ⟨gN, 0, none⟩) (M.map Sp.vals) → Calls Try.prog 24 #[.slice (some ⟨gN, 0, none⟩) (n + 1) cN] W fun e w' => e = .returned (.tuple #[.string ⟨(hmacM keyB (tableM l)).toArray⟩, .nilIface]) ∧ Below W.heap.size W w') := Lib.hid (fun W h => by
    have := digest_any M (some ⟨gN, 0, none⟩) cN W (by omega) h hMr
    rwa [hMl, hMt] at this)
  have HM2 : Hid (∀ W, SlRow W W.heap.size 3 (some ⟨gN, 0, none⟩) (M.map Sp.vals) → Calls Try.prog 17 #[.slice (some ⟨gN, 0, none⟩) (n + 1) cN] W fun e w' => e = .returned (.bool true) ∧ Below W.heap.size W w') := Lib.hid (fun W h => by
    have := right_any M (some ⟨gN, 0, none⟩) cN W (by omega) h
    rwa [hMl, hMr] at this)
  have HMl := Lib.hid hMl
  clear hMl hMt hMr
  generalize hmacM keyB (tableM l) = D at *
  have hdli : (D.length : Int) = 16 := by omega
  have hbq := bytes_beq D
  have K1 := Lib.hid (HD.out w14 H14.out.below)
  go_wp2_with fail
  refine K1.out.mono ?_
  rintro e w15 ⟨rfl, hb15⟩
  have H15 := Lib.hid (H14.out.ext hb15)
  clear hb15 K1 H14
  have K2 := Lib.hid (HM1.out w15 (own_sl H15.out.head HMl.out))
  go_wp2_with fail
  refine K2.out.mono ?_
  rintro e w16 ⟨rfl, hb16⟩
  have H16 := Lib.hid (H15.out.ext hb16)
  clear hb16 K2 H15
  have K3 := Lib.hid (HM2.out w16 (own_sl H16.out.head HMl.out))
  go_wp2_with fail
  refine K3.out.mono ?_
  rintro e w17 ⟨rfl, hb17⟩
  have H17 := Lib.hid (H16.out.ext hb17)
  clear hb17 K3 H16
  go_wp2_with fail
  go_ret
  exact ⟨rfl, H17.out.below⟩
end Go.Proofs.Ytjekdodboihfhaa
