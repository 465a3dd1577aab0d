/- A strings.Builder of the call's own, as an item of St: what it holds; WriteString, String. -/
import Derived.Test.YtjekdodboihfhaaDoorSt
import Derived.Test.YtjekdodboihfhaaDoorShelf
import Derived.Lib.FrozenHead
import Derived.Lib.OthersKept
set_option linter.all false
namespace Go.Proofs.YtjekdodboihfhaaDoor
open Go.RowKit
/-- An item that holds no row of type e. -/
def It.other (e : TypeId) (x : It) : Prop := ∀ w, x.P w → ∀ g ∈ x.gs, ∀ c fz, w.heap[g]? ≠ some (.cells c e fz)
def Others (e : TypeId) (A : List It) : Prop := ∀ x ∈ A, x.other e
theorem Others.nil {e : TypeId} : Others e [] := fun _ h => by cases h
theorem Others.cons {e : TypeId} {x : It} {A : List It} (h : x.other e) (k : Others e A) : Others e (x :: A) := fun y hy => by
  rcases List.mem_cons.1 hy with rfl | hy
  · exact h
  · exact k y hy
theorem bk_other {g : Nat} {t e : TypeId} {L : List Value} (h : t ≠ e) : (bk g t L).other e := fun w hP g' hg c fz he => by
  rw [List.mem_singleton.1 hg] at he
  have hB : Blk w g t L := hP
  unfold Blk at hB
  rw [hB] at he
  injection he with he
  injection he with _ he _
  exact h he
/-- Where the bytes lie, if anywhere. -/
def sbGs (b : Nat) (v : Value) : List Nat := b :: v.ownBlock.toList
def sb (B b : Nat) (v : Value) (l : List UInt8) : It where
  gs := sbGs b v
  P w := B ≤ b ∧ (∃ p, (p = .pointer none ∨ p = .pointer (some ⟨b, 0, none⟩)) ∧ w.heap[b]? = some (.cells #[p, v] 50 (0, 0))) ∧ w.ownsRowF B 5 1 v (Lib.byteCells l).length (Lib.byteCells l) ∧ v.ownBlock ≠ some b
  lt w h g hg := by
    obtain ⟨_, ⟨p, _, hb⟩, hown, _⟩ := h
    rcases List.mem_cons.1 hg with rfl | hg
    · exact (Array.getElem?_eq_some_iff.1 hb).1
    · rcases hown.2 with ⟨rfl, _⟩ | ⟨g', cap, cur, fz, rfl, _, hg', _⟩
      · simp [Value.ownBlock] at hg
      · simp [Value.ownBlock] at hg
        subst hg
        exact (Array.getElem?_eq_some_iff.1 hg').1
  loc w W h _ hp := by
    obtain ⟨hB, ⟨p, hp, hb⟩, ⟨hl, hown⟩, hne⟩ := hp
    refine ⟨hB, ⟨p, hp, (h b (List.mem_cons_self ..)).trans hb⟩, ⟨hl, ?_⟩, hne⟩
    rcases hown with hx | ⟨g', cap, cur, fz, rfl, h1, hg', hr⟩
    · exact .inl hx
    · exact .inr ⟨g', cap, cur, fz, rfl, h1, (h g' (List.mem_cons_of_mem _ (by simp [Value.ownBlock]))).trans hg', hr⟩
theorem sb_is {B b : Nat} {v : Value} {l : List UInt8} {w : World} (h : (sb B b v l).P w) : Lib.IsBuilderF 50 5 B b (Lib.byteCells l) w := by
  obtain ⟨hB, ⟨p, hp, hb⟩, hown, hne⟩ := h
  rcases hp with rfl | rfl
  · exact .inl ⟨hB, v, hb, hown, hne⟩
  · exact .inr ⟨hB, v, hb, hown, hne⟩
theorem sb_of {B b : Nat} {l : List UInt8} {w : World} (h : Lib.IsBuilderF 50 5 B b (Lib.byteCells l) w) : ∃ v, (sb B b v l).P w := by
  rcases h with ⟨hB, v, hb, hown, hne⟩ | ⟨hB, v, hb, hown, hne⟩
  · exact ⟨v, hB, ⟨_, .inl rfl, hb⟩, hown, hne⟩
  · exact ⟨v, hB, ⟨_, .inr rfl, hb⟩, hown, hne⟩
theorem sb_row {B b : Nat} {v : Value} {l : List UInt8} {w : World} (h : (sb B b v l).P w) : ∀ g ∈ (sb B b v l).gs, g = b ∨ ∃ c fz, w.heap[g]? = some (.cells c 5 fz) := fun g hg => by
  obtain ⟨_, _, hown, _⟩ := h
  rcases List.mem_cons.1 hg with rfl | hg
  · exact .inl rfl
  · rcases hown.2 with ⟨rfl, _⟩ | ⟨g', cap, cur, fz, rfl, _, hg', _⟩
    · simp [Value.ownBlock] at hg
    · simp [Value.ownBlock] at hg
      subst hg
      exact .inr ⟨_, _, hg'⟩
theorem sb_low {B b : Nat} {v : Value} {l : List UInt8} {w : World} (h : (sb B b v l).P w) : ∀ g ∈ (sb B b v l).gs, B ≤ g := fun g hg => by
  obtain ⟨hB, _, hown, _⟩ := h
  rcases List.mem_cons.1 hg with rfl | hg
  · exact hB
  · rcases hown.2 with ⟨rfl, _⟩ | ⟨g', cap, cur, fz, rfl, h1, _⟩
    · simp [Value.ownBlock] at hg
    · simp [Value.ownBlock] at hg
      subst hg; exact h1
/-- What a writing method leaves. -/
theorem St.sb_step {B b : Nat} {w0 w W : World} {A : List It} {v v' : Value} {l l' : List UInt8} (H : St B w0 w (sb B b v l :: A)) (ho : Others 5 A) (hP : (sb B b v' l').P W) (hb : Below B w W) (hk : Lib.OthersKept 5 (some b) w W) : St B w0 W (sb B b v' l' :: A) := by
  have hap := (List.pairwise_cons.1 H.apart)
  have same : ∀ x ∈ A, ∀ g ∈ x.gs, W.heap[g]? = w.heap[g]? := fun x hx g hg => by
    have hlt := x.lt w (H.own x (List.mem_cons_of_mem _ hx)) g hg
    have hw : w.heap[g]? = some w.heap[g] := Array.getElem?_eq_getElem hlt
    rw [hw]
    exact hk g _ hw (fun e => hap.1 x hx b (List.mem_cons_self ..) (by injection e with e; rw [← e]; exact hg)) (fun c fz e => ho x hx w (H.own x (List.mem_cons_of_mem _ hx)) g hg c fz (by rw [hw, e]))
  refine ⟨H.below.trans hb, H.base, ?_, ?_, ?_⟩
  · intro x hx
    rcases List.mem_cons.1 hx with rfl | hx
    · exact hP
    · exact x.loc w W (same x hx) hb.size (H.own x (List.mem_cons_of_mem _ hx))
  · intro x hx g hg
    rcases List.mem_cons.1 hx with rfl | hx
    · exact sb_low hP g hg
    · exact H.low x (List.mem_cons_of_mem _ hx) g hg
  · refine List.pairwise_cons.2 ⟨fun x hx g hg hgx => ?_, hap.2⟩
    rcases sb_row hP g hg with rfl | ⟨c, fz, hc⟩
    · exact hap.1 x hx g (List.mem_cons_self ..) hgx
    · exact ho x hx w (H.own x (List.mem_cons_of_mem _ hx)) g hgx c fz (by rw [← same x hx g hgx]; exact hc)
/-- A builder that was just made. -/
theorem St.sb_new {B : Nat} {w0 w : World} {A : List It} (H : St B w0 w A) : St B w0 (w.alloc (.cells #[.pointer none, .slice none 0 0] 50)) (sb B w.heap.size (.slice none 0 0) [] :: A) := by
  have h1 := H.alloc [.pointer none, .slice none 0 0] 50
  refine h1.step (Fr.refl _ _) ⟨H.le, ⟨_, .inl rfl, ?_⟩, ⟨rfl, .inl ⟨rfl, rfl⟩⟩, by simp [Value.ownBlock]⟩ (fun x hx => .inl hx)
  exact h1.head
/-! The walks: the program's copyCheck ends in a panic that the loader refuses, so the shelf's own do not lay. -/
set_option maxRecDepth 100000 in
set_option maxHeartbeats 1000000 in
theorem bcheck_used (b : Nat) (w : World) (h0 : w.cell? ⟨b, 0, none⟩ = some (.pointer (some ⟨b, 0, none⟩))) :
    Calls Tryd.prog 37 #[.pointer (some ⟨b, 0, none⟩)] w fun e w' => e = .returned (.tuple #[]) ∧ w' = w := by
  obtain ⟨j, hj, _⟩ := Option.map_eq_some_iff.1 (show (Tryd.prog.info? 50).map (·.size) = some 2 by kernel_rfl)
  go_enter Tryd.func37, Tryd.ntmps37
  go_wp2_with fail
  rw [Lib.run_neq_ptr_same w _ Tryd.underlying47 hj]
  go_wp2_with fail
  go_returns
  exact ⟨rfl, rfl⟩
set_option maxRecDepth 100000 in
set_option maxHeartbeats 1000000 in
theorem bcheck_fresh (b : Nat) (w : World) (h0 : w.cell? ⟨b, 0, none⟩ = some (.pointer none)) (hsh : w.shape? b = some (50, 2)) (hfz : w.frozen? ⟨b, 0, none⟩ = false) :
    Calls Tryd.prog 37 #[.pointer (some ⟨b, 0, none⟩)] w fun e w' => e = .returned (.tuple #[]) ∧ w' = w.setCell ⟨b, 0, none⟩ (.pointer (some ⟨b, 0, none⟩)) := by
  obtain ⟨j, hj, hjs⟩ := Option.map_eq_some_iff.1 (show (Tryd.prog.info? 50).map (·.size) = some 2 by kernel_rfl)
  go_enter Tryd.func37, Tryd.ntmps37
  go_wp2_with fail
  rw [Lib.run_to_unsafe w ⟨b, 0, none⟩ Tryd.underlying47 Tryd.underlying86 hj (by rw [hjs]; decide) hsh (Nat.zero_lt_succ 1)]
  simp only [Result.andThen]
  rw [Oper.upon_value]
  go_wp2_with fail
  rw [run_callFunc_extern Tryd.func47 (by kernel_rfl) (by kernel_rfl) (by kernel_rfl) (e := Extern.AbiNoEscape.same) (by kernel_rfl)]
  rw [Lib.run_noEscape]
  simp only [Result.andThen]
  rw [Oper.upon_value]
  go_wp2_with fail
  rw [Lib.run_from_unsafe w ⟨b, 0, none⟩ Tryd.underlying86 Tryd.underlying47 hj hsh (by kernel_rfl)]
  simp only [Result.andThen]
  rw [Oper.upon_value]
  go_wp2_with fail
  go_returns
  exact ⟨rfl, rfl⟩
theorem bcheck_any (B b : Nat) (bs : List Value) (w : World) (h : Lib.IsBuilderF 50 5 B b bs w) :
    Calls Tryd.prog 37 #[.pointer (some ⟨b, 0, none⟩)] w fun e w' => e = .returned (.tuple #[]) ∧ Lib.BuilderAtF 50 5 B b (.pointer (some ⟨b, 0, none⟩)) bs w' ∧ Below B w w' ∧ Lib.OthersKept 5 (some b) w w' := by
  rcases h with h | h
  · refine (bcheck_fresh b w h.cell0 h.shape h.frozen0).mono ?_
    rintro e w' ⟨rfl, rfl⟩
    exact ⟨rfl, h.used _, (Below.refl B w).setCell (p := ⟨b, 0, none⟩) h.1 _, (Lib.OthersKept.refl _ _ _).setCell ⟨b, 0, none⟩ rfl _⟩
  · refine (bcheck_used b w h.cell0).mono ?_
    rintro e w' ⟨rfl, rfl⟩
    exact ⟨rfl, h, Below.refl B _, Lib.OthersKept.refl _ _ _⟩
set_option maxRecDepth 100000 in
set_option maxHeartbeats 2000000 in
theorem bwrite_any (B b : Nat) (bs : List Value) (s : ByteArray) (w : World) (h : Lib.IsBuilderF 50 5 B b bs w) (hlen : bs.length + s.size ≤ 140737488355328) (hBw : B ≤ w.heap.size) :
    Calls Tryd.prog 19 #[.pointer (some ⟨b, 0, none⟩), .string s] w fun e w' => e = .returned (.tuple #[.int .i64 s.size, .nilIface]) ∧ Lib.BuilderAtF 50 5 B b (.pointer (some ⟨b, 0, none⟩)) (bs ++ Lib.strCells s) w' ∧ Below B w w' ∧ Lib.OthersKept 5 (some b) w w' := by
  obtain ⟨i0, hi, hz0, hz1, hz2⟩ := info_parts (show (Tryd.prog.info? 5).map (fun i => (i.zero, i.size, i.bytes)) = some (some (.int .u8 0), 1, 1) by kernel_rfl)
  have HC := Lib.hid (bcheck_any B b bs w h)
  clear h
  go_enter Tryd.func19, Tryd.ntmps19
  go_wp2_with fail
  refine HC.out.mono ?_
  rintro e w1 ⟨rfl, h1, hb1, hk1⟩
  obtain ⟨hB, v, hbk, hown, hne⟩ := h1
  have c0 : w1.cell? ⟨b, 0, none⟩ = some (.pointer (some ⟨b, 0, none⟩)) := by rw [Lib.cell_of_heap hbk]; rfl
  have c1 : w1.cell? ⟨b, 1, none⟩ = some v := by rw [Lib.cell_of_heap hbk]; rfl
  go_wp2_with (at_builtin; refine Lib.wpList_append_own_stringF _ rfl _ _ 48 9 rfl B 5 i0 Tryd.underlying48 Tryd.underlying9 hi hz0 hz1 hz2 _ _ _ rfl hown s rfl ?c3 ?c4 ?c5 ?_)
  case c3 => unfold maxLen; omega
  case c4 => omega
  case c5 => have := hb1.size; omega
  intro v' w2 hown' hgrow _
  have hlt : b < w1.heap.size := by
    rcases Nat.lt_or_ge b w1.heap.size with h' | h'
    · exact h'
    · simp [Array.getElem?_eq_none h'] at hbk
  have hb2 : w2.heap[b]? = some (.cells #[.pointer (some ⟨b, 0, none⟩), v] 50 (0, 0)) := by
    rw [hgrow.block b hlt (fun e => hne e.symm)]
    exact hbk
  have d0 : w2.cell? ⟨b, 0, none⟩ = some (.pointer (some ⟨b, 0, none⟩)) := by rw [Lib.cell_of_heap hb2]; rfl
  have d1 : w2.cell? ⟨b, 1, none⟩ = some v := by rw [Lib.cell_of_heap hb2]; rfl
  have f1 : w2.frozen? ⟨b, 1, none⟩ = false := Lib.frozen_of_heap hb2 1
  obtain ⟨ao, n', cap, rfl⟩ : ∃ ao n' cap, v' = .slice ao n' cap := by
    rcases hown'.2 with ⟨hv, _⟩ | ⟨g, cap, cur, fz, hv, _⟩
    · exact ⟨_, _, _, hv⟩
    · exact ⟨_, _, _, hv⟩
  go_wp2_with fail
  go_ret2
  refine ⟨rfl, ?_, ?_, (hk1.grown hgrow (Lib.ownsRowF_kind hown)).setCell ⟨b, 1, none⟩ rfl _⟩
  · exact Lib.BuilderAtF.put (T := 50) (e := 5) hB hb2 (bs' := bs ++ Lib.strCells s) (by simpa [Lib.strCells_length] using hown') (by decide)
  · exact (hb1.grown hgrow (by have := hb1.size; omega) (fun k hk => (hown.lt k hk).1)).setCell (p := ⟨b, 1, none⟩) hB _
section
variable {B b : Nat} {w0 w : World} {A : List It} {v : Value} {l : List UInt8}
theorem bwrite_st (H : St B w0 w (sb B b v l :: A)) (ho : Others 5 A) (s : List UInt8) (hl : l.length + s.length ≤ 140737488355328) :
    Calls Tryd.prog 19 #[.pointer (some ⟨b, 0, none⟩), .string ⟨s.toArray⟩] w fun e w' => e = .returned (.tuple #[.int .i64 (s.length : Int), .nilIface]) ∧ ∃ v', St B w0 w' (sb B b v' (l ++ s) :: A) := by
  refine (bwrite_any B b (Lib.byteCells l) ⟨s.toArray⟩ w (sb_is H.head) (by rw [Lib.byteCells_length]; exact hl) H.le).mono ?_
  rintro e w1 ⟨rfl, hb, hbl, hk⟩
  refine ⟨rfl, ?_⟩
  have hcs : Lib.byteCells l ++ Lib.strCells ⟨s.toArray⟩ = Lib.byteCells (l ++ s) := by
    simp [Lib.byteCells, Lib.strCells]
  rw [hcs] at hb
  obtain ⟨v', hP⟩ := sb_of (.inr hb)
  exact ⟨v', H.sb_step ho hP hbl hk⟩
theorem bstring_st (H : St B w0 w (sb B b v l :: A)) (ho : Others 5 A) :
    Calls Tryd.prog 22 #[.pointer (some ⟨b, 0, none⟩)] w fun e w' => e = .returned (.string ⟨l.toArray⟩) ∧ ∃ v', St B w0 w' (sb B b v' l :: A) := by
  refine (Tryd.Builder_String_any_k B b l w (sb_is H.head) H.le).mono ?_
  rintro e w1 ⟨rfl, hb, hbl, hk⟩
  refine ⟨rfl, ?_⟩
  obtain ⟨v', hP⟩ := sb_of hb
  exact ⟨v', H.sb_step ho hP hbl hk⟩
end
end Go.Proofs.YtjekdodboihfhaaDoor
