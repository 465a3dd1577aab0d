/- plainPorts; sets. -/
import Derived.Test.YtoenlcmngdpkmaaBr10
namespace Go.Proofs.Ytoenlcmngdpkmaa
open Go.RowKit
theorem St.grown {B : Nat} {w0 w w' : World} {A : List It} {t size n m g cap : Nat} {sv : Value} {xs news : List Value} (H : St B w0 w (ownI t size sv n xs :: A))
    (ho : w'.ownsRow 0 t size (.slice (some ⟨g, 0, none⟩) (n + m) cap) (n + m) (xs ++ news)) (hgrow : w.grownBy w' sv.ownBlock) (hat : sv.ownBlock = some g ∨ g = w.heap.size) :
    St B w0 w' (ownI t size (.slice (some ⟨g, 0, none⟩) (n + m) cap) (n + m) (xs ++ news) :: A) :=
  H.step (k' := ownI t size (.slice (some ⟨g, 0, none⟩) (n + m) cap) (n + m) (xs ++ news)) ⟨hgrow.os, hgrow.tape, hgrow.output, hgrow.size, fun q hq hn => hgrow.block q hq (fun e => hn (by
    show q ∈ sv.ownBlock.toList
    rw [← e]; simp))⟩ ho (fun q hq => by
    have hq' : q = g := by
      have : q ∈ [g] := hq
      exact List.mem_singleton.1 this
    subst hq'
    rcases hat with h | h
    · left
      show q ∈ sv.ownBlock.toList
      rw [h]; simp
    · right
      rw [h]; exact Nat.le_refl _)
/-- 'append' onto a row of one's own, by what a call owns. -/
theorem wpList_append_st {P : Program} {ops : Array Oper} {rest : List Oper} {d s x : Tmp} {t t' : TypeId} {pos : String} {after : Array Edge} {a : Act} {w w0 : World} {Q : Exit → Act → World → Prop} {e : TypeId} {size bytes n m c B : Nat} {v : Value} {from_ : Addr} {A : List It} (xs news : List Value)
    (E : ElemOk P t e size bytes) (H : St B w0 w (ownI e size v n xs :: A)) (hs : a.eval (.tmp s) = v) (hx : a.eval (.tmp x) = .slice (some from_) m c) (hr : ∀ j u, news[j]? = some u → w.cell? (from_.add j) = some u) (hl : news.length = m * size) (h1 : ∀ u ∈ news, u.oneCell' = true)
    (hm : 0 < m) (h63 : n + m ≤ maxLen) (hbytes : (n + m) * bytes ≤ 140737488355328)
    (h : ∀ g cap W, St B w0 W (ownI e size (.slice (some ⟨g, 0, none⟩) (n + m) cap) (n + m) (xs ++ news) :: A) → wpList P ops Q rest (a.put (some d) (.slice (some ⟨g, 0, none⟩) (n + m) cap)) W) :
    wpList P ops Q (⟨some d, .call { callee := .builtin .append, args := #[.tmp s, .tmp x], argTypes := #[t, t] }, t', pos, after, none⟩ :: rest) a w := by
  obtain ⟨ht, i, z, hi, hz, hsz, hby, hzs, hpos⟩ := E
  refine wpList_append_lies w rfl (.tmp s) (.tmp x) t rfl 0 e i z size bytes ht hi hz hsz hby hzs hpos v n xs hs H.head from_ m c news hx hl hr h1 hm h63 hbytes (Nat.zero_le _) _ rfl ?_
  intro g cap W h2 h3 h4 _
  exact h g cap W (H.grown h2 h3 h4)
theorem PRow.one1 (q : PRow) (h1 : q.iv.oneCell' = true) (h2 : q.bv.oneCell' = true) : ∀ v ∈ q.vals, v.oneCell' = true := fun v hv => by
  simp only [PRow.vals, List.mem_cons, List.not_mem_nil, or_false] at hv
  rcases hv with rfl | rfl | rfl | rfl
  · rfl
  · exact h1
  · exact h2
  · rfl
def plainP : PSet := ⟨1, [1, 2], [1], 3⟩
theorem slat_blk {w : World} {g : Nat} {t : TypeId} {L : List Int} (h : Blk w g t (intL L)) (n : Nat) (hn : L.length = n) : SlAt w 1 (.slice (some ⟨g, 0, none⟩) n n) (intv L) := by
  refine ⟨some ⟨g, 0, none⟩, n, by rw [intv_len, hn], by rw [intv_len, hn]; exact Nat.le_refl _, fun _ => ⟨g, 0, rfl, h.lt, fun k hk => ?_⟩⟩
  rw [intv_len] at hk
  intro j u hj
  have hj0 : j = 0 := by
    have := (List.getElem?_eq_some_iff.1 hj).1
    simp [intv] at this
    exact this
  subst hj0
  have h1 := h.box.cell k
  simp only [intv, List.getElem_map, List.getElem?_cons_zero, Option.some.injEq] at hj
  rw [← hj]
  simp only [Nat.zero_add, Nat.mul_one, Nat.add_zero]
  rw [h1]
  simp [intL, hk]
theorem blk_of_one {g n c : Nat} : ∀ q ∈ blkOf (.slice (some ⟨g, 0, none⟩) n c), q ∈ [g] := fun q hq => by
  cases n with
  | zero => cases hq
  | succ n => exact hq
set_option maxRecDepth 100000 in
set_option maxHeartbeats 4000000 in
theorem plain_any (n : Nat) (hn : n ≤ 8) (w : World) :
    Calls Try.prog 35 #[.int .i64 (n : Int)] w fun e w' => ∃ sv L, e = .returned sv ∧ L.map PRow.p = List.replicate n plainP ∧ St w.heap.size w w' [ownI 44 4 sv L.length (prows L), subP L] := by
  go_enter Try.func35, Try.ntmps35
  go_wp2_with fail
  go_loopw [3, 5] (fun sv i wr => ∃ (k : Nat) (L : List PRow), k ≤ n ∧ i = .int .i64 k ∧ Hid (L.map PRow.p = List.replicate k plainP) ∧ Hid (St w.heap.size w wr [ownI 44 4 sv L.length (prows L), subP L])) (fun _ i _ => n - (intOf i).toNat)
  case atStart =>
    exact ⟨0, [], by omega, rfl, Lib.hid rfl, Lib.hid (((St.init w).add (k := subP []) (Below.refl _ _) (fun _ h => by cases h) (fun g hg => by cases hg)).add (k := ownI 44 4 (.slice none 0 0) 0 (prows [])) (Below.refl _ _) (ownI_nil _ _ _) (fun g hg => by cases hg))⟩
  case round =>
    obtain ⟨k, L, hk, rfl, HL, HS⟩ := hrel
    by_cases hlk : k < n
    · have hLk : L.length = k := by
        have := congrArg List.length HL.out
        simpa using this
      have hLn : L.length ≤ 8 := by omega
      clear hLk
      obtain ⟨Ao, co, rfl⟩ := own_shape (HS.out.item (k := ownI 44 4 u3 L.length (prows L)) (List.mem_of_getElem? (i := 0) rfl))
      have h3 := HS.out.alloc3 (intL [1, 2]) (intL [1]) (PRow.vals ⟨plainP, .slice (some ⟨wr.heap.size, 0, none⟩) 2 2, .slice (some ⟨wr.heap.size + 1, 0, none⟩) 1 1⟩) 3 3 44
      have H3 := Lib.hid h3
      clear h3
      have HH := Lib.hid (H3.out.pull 3 rfl)
      have hn0 := (H3.out.at 0 rfl).box.range
      have hn1 : ∀ j u, (PRow.vals ⟨plainP, .slice (some ⟨wr.heap.size, 0, none⟩) 2 2, .slice (some ⟨wr.heap.size + 1, 0, none⟩) 1 1⟩)[j]? = some u → (((wr.alloc (.cells (intL [1, 2]).toArray 3)).alloc (.cells (intL [1]).toArray 3)).alloc (.cells (PRow.vals ⟨plainP, .slice (some ⟨wr.heap.size, 0, none⟩) 2 2, .slice (some ⟨wr.heap.size + 1, 0, none⟩) 1 1⟩).toArray 44)).cell? ((⟨wr.heap.size + 1 + 1, 0, none⟩ : Addr).add j) = some u := fun j u hj => by
        rw [Addr.add_mid]; exact hn0 j u hj
      have HN := Lib.hid hn1
      clear hn0 hn1
      clear HS H3
      go_wp2_with (
        (with_reducible refine wpList_append_st (B := ?BB) (w0 := ?ww) (A := ?AA) (e := 44) (size := 4) (v := .slice Ao L.length co) (n := L.length) (m := 1) (c := 1) (from_ := ⟨wr.heap.size + 1 + 1, 0, none⟩) (prows L) (PRow.vals ⟨plainP, .slice (some ⟨wr.heap.size, 0, none⟩) 2 2, .slice (some ⟨wr.heap.size + 1, 0, none⟩) 1 1⟩) elemPSet ?ow ?hs ?hx ?hr ?hl ?h1 ?hm ?h63 ?hby ?hk)
        case ow => exact HH.out
        case hs => rfl
        case hx => rfl
        case hr => exact HN.out
        case hl => rfl
        case h1 => exact PRow.one1 _ rfl rfl
        case hm => decide
        case h63 => unfold maxLen; omega
        case hby => omega
        intro g cap' w11 h5)
      have h6 := ((h5.pull 2 rfl).pull 3 rfl)
      have h7 := h6.join (z := allI [slI 1 (.slice (some ⟨wr.heap.size, 0, none⟩) 2 2) (intv [1, 2]), slI 1 (.slice (some ⟨wr.heap.size + 1, 0, none⟩) 1 1) (intv [1])]) (fun k hk => by
        rcases List.mem_cons.1 hk with rfl | hk
        · exact slat_blk (L := [1, 2]) (h6.at 0 rfl) 2 rfl
        · rw [List.mem_singleton.1 hk]; exact slat_blk (L := [1]) (h6.at 1 rfl) 1 rfl) (fun g hg => by
        obtain ⟨k, hk, hg⟩ := List.mem_flatMap.1 hg
        rcases List.mem_cons.1 hk with rfl | hk
        · exact .inl (blk_of_one (n := 2) (c := 2) g hg)
        · rw [List.mem_singleton.1 hk] at hg; exact .inr (blk_of_one (n := 1) (c := 1) g hg))
      have h8 := (h7.pull 3 rfl).join (z := subP (L ++ [(⟨plainP, .slice (some ⟨wr.heap.size, 0, none⟩) 2 2, .slice (some ⟨wr.heap.size + 1, 0, none⟩) 1 1⟩ : PRow)])) (fun r hr => by
        rcases List.mem_append.1 hr with hr | hr
        · exact h7.item (k := subP L) (List.mem_of_getElem? (i := 3) rfl) r hr
        · rw [List.mem_singleton.1 hr]
          exact ⟨h7.head _ (List.mem_cons_self ..), h7.head _ (List.mem_cons_of_mem _ (List.mem_cons_self ..))⟩) (fun g hg => by
        obtain ⟨r, hr, hg⟩ := List.mem_flatMap.1 hg
        rcases List.mem_append.1 hr with hr | hr
        · left
          exact List.mem_flatMap.2 ⟨r, hr, hg⟩
        · right
          rw [List.mem_singleton.1 hr] at hg
          rcases List.mem_append.1 hg with hg | hg
          · exact List.mem_flatMap.2 ⟨slI 1 (.slice (some ⟨wr.heap.size, 0, none⟩) 2 2) (intv [1, 2]), List.mem_cons_self .., hg⟩
          · exact List.mem_flatMap.2 ⟨slI 1 (.slice (some ⟨wr.heap.size + 1, 0, none⟩) 1 1) (intv [1]), List.mem_cons_of_mem _ (List.mem_cons_self ..), hg⟩)
      have h9 := (h8.pull 2 rfl).tail.swap
      have hl' : (L ++ [(⟨plainP, .slice (some ⟨wr.heap.size, 0, none⟩) 2 2, .slice (some ⟨wr.heap.size + 1, 0, none⟩) 1 1⟩ : PRow)]).length = L.length + 1 := by simp
      have HL2 : Hid ((L ++ [(⟨plainP, .slice (some ⟨wr.heap.size, 0, none⟩) 2 2, .slice (some ⟨wr.heap.size + 1, 0, none⟩) 1 1⟩ : PRow)]).map PRow.p = List.replicate (k + 1) plainP) := Lib.hid (by rw [List.map_append, HL.out, List.replicate_succ']; rfl)
      have H9 : Hid (St w.heap.size w w11 [ownI 44 4 (.slice (some ⟨g, 0, none⟩) (L.length + 1) cap') (L ++ [(⟨plainP, .slice (some ⟨wr.heap.size, 0, none⟩) 2 2, .slice (some ⟨wr.heap.size + 1, 0, none⟩) 1 1⟩ : PRow)]).length (prows (L ++ [(⟨plainP, .slice (some ⟨wr.heap.size, 0, none⟩) 2 2, .slice (some ⟨wr.heap.size + 1, 0, none⟩) 1 1⟩ : PRow)])), subP (L ++ [(⟨plainP, .slice (some ⟨wr.heap.size, 0, none⟩) 2 2, .slice (some ⟨wr.heap.size + 1, 0, none⟩) 1 1⟩ : PRow)])]) := Lib.hid (by
        rw [hl', prows_snoc]; exact h9)
      clear h5 h6 h7 h8 h9 HH HN hl'
      go_wp2_with fail
      go_roundw
      case rel => exact ⟨k + 1, _, by omega, by go_num, HL2, H9⟩
      case measure => simp [intOf]; omega
    · obtain rfl : n = k := by omega
      go_wp2_with fail
      exact bodyPost_ret (v := u3) (by simp [results, Try.results35, go_sem]) rfl ⟨_, L, rfl, HL.out, HS.out⟩
end Go.Proofs.Ytoenlcmngdpkmaa
