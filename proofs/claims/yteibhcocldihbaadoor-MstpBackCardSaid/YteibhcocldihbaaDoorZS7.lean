/- bpdu.Read, whatever is read. 'pick': a number that stands for one of n. The fact of a BPDU. A strings.Builder of the call's own, as an item of St: what it holds; WriteString, String. mstp: inst, its closure. mstp: Right. mstp: Right, the ways to no. -/
import Derived.Test.YteibhcocldihbaaDoorZS6
import Derived.Test.YteibhcocldihbaaDoorZS2
import Derived.Test.YteibhcocldihbaaDoorRows
import Derived.Test.YteibhcocldihbaaDoorKit
import Derived.Test.YteibhcocldihbaaDoorZS4
import Derived.Test.YteibhcocldihbaaDoorShelf
import Derived.Lib.FrozenHead
import Derived.Lib.OthersKept
import Derived.Test.YteibhcocldihbaaDoorZS3
set_option linter.all false
namespace Go.Proofs.YteibhcocldihbaaDoor
open Go.RowKit
/-- Which kind has been seen, once the kinds below k have been tried. -/
def kindTo (h : List UInt8 × RS) (k : Nat) : Int := if kindM h < k then kindM h else 0
def Bp.onlyK (k : Int) : Bp := ⟨k, Fl.zero, Br.zero, 0, Br.zero, Pt.zero, 0, 0, 0, 0⟩
theorem kindM_le (h : List UInt8 × RS) : 0 ≤ kindM h ∧ kindM h ≤ 3 := by
  unfold kindM
  split
  · split
    · decide
    · split
      · decide
      · split <;> decide
  · decide
theorem kindTo_one (h : List UInt8 × RS) : kindTo h 1 = 0 := by
  have := kindM_le h
  unfold kindTo
  split <;> omega
theorem kindTo_four (h : List UInt8 × RS) : kindTo h 4 = kindM h := by
  have := kindM_le h
  unfold kindTo
  rw [if_pos (by omega)]
theorem kindTo_no {h : List UInt8 × RS} {k : Nat} (hk : kindM h ≠ k) : kindTo h (k + 1) = kindTo h k := by
  unfold kindTo
  split <;> split <;> omega
theorem kindTo_yes {h : List UInt8 × RS} {k : Nat} (hk : kindM h = k) : kindTo h (k + 1) = k := by
  unfold kindTo
  rw [if_pos (by omega), hk]
theorem kindM_not {h : List UInt8 × RS} {k : Nat} (h1 : 1 ≤ k) (h3 : k ≤ 3) (hn : h.1 ≠ headB k) : kindM h ≠ k := by
  unfold kindM
  intro e
  have hk : k = 1 ∨ k = 2 ∨ k = 3 := by omega
  split at e
  · split at e
    · rename_i hc; apply hn; rw [← e]; exact hc
    · split at e
      · rename_i hc; apply hn; rw [← e]; exact hc
      · split at e
        · rename_i hc; apply hn; rw [← e]; exact hc
        · omega
  · omega
def bpGot (s : List UInt8) (g : Nat) : Value := if (readBpM s).2.err = none then .tuple #[.agg (readBpM s).1.vals.toArray, .nilIface] else .tuple #[.agg Bp.zero.vals.toArray, errV (readBpM s).2 g]
theorem bp_zero : Tryd.prog.built 44 [] = some Bp.zero.vals.toArray := by kernel_rfl
theorem readBody_e {B : Nat} {w0 w : World} {A : List It} {b g : Nat} {R : RS} (H : St B w0 w (rd b R g :: A)) (kind : Int) :
    Calls Tryd.prog 66 #[.pointer (some ⟨b, 0, none⟩), .int .i64 kind] w fun e w' => ∃ x R', readBodyM R kind = (x, R') ∧ e = .returned (.agg x.vals.toArray) ∧ RdTo B w0 b R' A w' :=
  (readBody_st H kind).mono fun _ _ h => ⟨_, _, rfl, h.1, h.2⟩
end Go.Proofs.YteibhcocldihbaaDoor
namespace Go.Proofs.YteibhcocldihbaaDoor
open Go.RowKit
def pickN (a : Int) (n : Nat) : Nat := (a % 18446744073709551616).toNat % n
theorem pickN_lt (a : Int) (n : Nat) (h : 1 ≤ n) : pickN a n < n := Nat.mod_lt _ h
theorem pick_val (a : Int) (n : Nat) (hn : 1 ≤ n) (hn2 : n ≤ 9223372036854775807) : wrap64 ((IntKind.u64.wrap a).tmod (n : Int)) = ((pickN a n : Nat) : Int) := by
  unfold pickN
  have e : IntKind.u64.wrap a = a % 18446744073709551616 := by simp [IntKind.wrap, IntKind.bits, IntKind.signed]
  have h1 : 0 ≤ a % 18446744073709551616 := Int.emod_nonneg _ (by decide)
  rw [e, Int.tmod_eq_emod_of_nonneg h1]
  generalize a % 18446744073709551616 = b at h1
  obtain ⟨m, rfl⟩ := Int.eq_ofNat_of_zero_le h1
  rw [Int.toNat_natCast, ← Int.natCast_emod]
  have h3 : m % n < n := Nat.mod_lt _ hn
  exact IntWalk.wrap64_in _ ⟨by omega, by omega⟩
theorem pick_any (a : Int) (n : Nat) (w : World) (hn : 1 ≤ n) (hn2 : n ≤ 9223372036854775807) :
    Calls Tryd.prog 31 #[.int .i64 a, .int .i64 (n : Int)] w fun e w' => e = .returned (.int .i64 (pickN a n : Nat)) ∧ w = w' := by
  go_enter Tryd.func31, Tryd.ntmps31
  go_wp2
  go_ret
  refine ⟨ret_int ?_, rfl⟩
  exact pick_val a n hn hn2
end Go.Proofs.YteibhcocldihbaaDoor
namespace Go.Proofs.YteibhcocldihbaaDoor
open Go.RowKit
def fl0 : Fl := ⟨false, false, 2, false, true, false, false⟩
def bp0 : Bp := ⟨3, fl0, Br.zero, 0, Br.zero, ⟨128, 1⟩, 0, 5120, 0, 0⟩
theorem fl0_built : Tryd.prog.built 38 [(2, .int .i64 2), (4, .bool true)] = some fl0.vals.toArray := by kernel_rfl
theorem pt0_built : Tryd.prog.built 42 [(0, .int .i64 128), (1, .int .i64 1)] = some (Pt.vals ⟨128, 1⟩).toArray := by kernel_rfl
theorem bp0_built : Tryd.prog.built 44 [(0, .int .i64 3), (1, .agg fl0.vals.toArray), (5, .agg (Pt.vals ⟨128, 1⟩).toArray), (7, .int .i64 5120)] = some bp0.vals.toArray := by kernel_rfl
end Go.Proofs.YteibhcocldihbaaDoor
namespace Go.Proofs.YteibhcocldihbaaDoor
open Go.RowKit
/-- An item that holds no row of type e. -/
def It.other (e : TypeId) (x : It) : Prop := ∀ w, x.P w → ∀ g ∈ x.gs, ∀ c fz, w.heap[g]? ≠ some (.cells c e fz)
def Others (e : TypeId) (A : List It) : Prop := ∀ x ∈ A, x.other e
theorem Others.nil {e : TypeId} : Others e [] := fun _ h => by cases h
theorem Others.cons {e : TypeId} {x : It} {A : List It} (h : x.other e) (k : Others e A) : Others e (x :: A) := fun y hy => by
  rcases List.mem_cons.1 hy with rfl | hy
  · exact h
  · exact k y hy
theorem bk_other {g : Nat} {t e : TypeId} {L : List Value} (h : t ≠ e) : (bk g t L).other e := fun w hP g' hg c fz he => by
  rw [List.mem_singleton.1 hg] at he
  have hB : Blk w g t L := hP
  unfold Blk at hB
  rw [hB] at he
  injection he with he
  injection he with _ he _
  exact h he
/-- Where the bytes lie, if anywhere. -/
def sbGs (b : Nat) (v : Value) : List Nat := b :: v.ownBlock.toList
def sb (B b : Nat) (v : Value) (l : List UInt8) : It where
  gs := sbGs b v
  P w := B ≤ b ∧ (∃ p, (p = .pointer none ∨ p = .pointer (some ⟨b, 0, none⟩)) ∧ w.heap[b]? = some (.cells #[p, v] 108 (0, 0))) ∧ w.ownsRowF B 5 1 v (Lib.byteCells l).length (Lib.byteCells l) ∧ v.ownBlock ≠ some b
  lt w h g hg := by
    obtain ⟨_, ⟨p, _, hb⟩, hown, _⟩ := h
    rcases List.mem_cons.1 hg with rfl | hg
    · exact (Array.getElem?_eq_some_iff.1 hb).1
    · rcases hown.2 with ⟨rfl, _⟩ | ⟨g', cap, cur, fz, rfl, _, hg', _⟩
      · simp [Value.ownBlock] at hg
      · simp [Value.ownBlock] at hg
        subst hg
        exact (Array.getElem?_eq_some_iff.1 hg').1
  loc w W h _ hp := by
    obtain ⟨hB, ⟨p, hp, hb⟩, ⟨hl, hown⟩, hne⟩ := hp
    refine ⟨hB, ⟨p, hp, (h b (List.mem_cons_self ..)).trans hb⟩, ⟨hl, ?_⟩, hne⟩
    rcases hown with hx | ⟨g', cap, cur, fz, rfl, h1, hg', hr⟩
    · exact .inl hx
    · exact .inr ⟨g', cap, cur, fz, rfl, h1, (h g' (List.mem_cons_of_mem _ (by simp [Value.ownBlock]))).trans hg', hr⟩
theorem sb_is {B b : Nat} {v : Value} {l : List UInt8} {w : World} (h : (sb B b v l).P w) : Lib.IsBuilderF 108 5 B b (Lib.byteCells l) w := by
  obtain ⟨hB, ⟨p, hp, hb⟩, hown, hne⟩ := h
  rcases hp with rfl | rfl
  · exact .inl ⟨hB, v, hb, hown, hne⟩
  · exact .inr ⟨hB, v, hb, hown, hne⟩
theorem sb_of {B b : Nat} {l : List UInt8} {w : World} (h : Lib.IsBuilderF 108 5 B b (Lib.byteCells l) w) : ∃ v, (sb B b v l).P w := by
  rcases h with ⟨hB, v, hb, hown, hne⟩ | ⟨hB, v, hb, hown, hne⟩
  · exact ⟨v, hB, ⟨_, .inl rfl, hb⟩, hown, hne⟩
  · exact ⟨v, hB, ⟨_, .inr rfl, hb⟩, hown, hne⟩
theorem sb_row {B b : Nat} {v : Value} {l : List UInt8} {w : World} (h : (sb B b v l).P w) : ∀ g ∈ (sb B b v l).gs, g = b ∨ ∃ c fz, w.heap[g]? = some (.cells c 5 fz) := fun g hg => by
  obtain ⟨_, _, hown, _⟩ := h
  rcases List.mem_cons.1 hg with rfl | hg
  · exact .inl rfl
  · rcases hown.2 with ⟨rfl, _⟩ | ⟨g', cap, cur, fz, rfl, _, hg', _⟩
    · simp [Value.ownBlock] at hg
    · simp [Value.ownBlock] at hg
      subst hg
      exact .inr ⟨_, _, hg'⟩
theorem sb_low {B b : Nat} {v : Value} {l : List UInt8} {w : World} (h : (sb B b v l).P w) : ∀ g ∈ (sb B b v l).gs, B ≤ g := fun g hg => by
  obtain ⟨hB, _, hown, _⟩ := h
  rcases List.mem_cons.1 hg with rfl | hg
  · exact hB
  · rcases hown.2 with ⟨rfl, _⟩ | ⟨g', cap, cur, fz, rfl, h1, _⟩
    · simp [Value.ownBlock] at hg
    · simp [Value.ownBlock] at hg
      subst hg; exact h1
/-- What a writing method leaves. -/
theorem St.sb_step {B b : Nat} {w0 w W : World} {A : List It} {v v' : Value} {l l' : List UInt8} (H : St B w0 w (sb B b v l :: A)) (ho : Others 5 A) (hP : (sb B b v' l').P W) (hb : Below B w W) (hk : Lib.OthersKept 5 (some b) w W) : St B w0 W (sb B b v' l' :: A) := by
  have hap := (List.pairwise_cons.1 H.apart)
  have same : ∀ x ∈ A, ∀ g ∈ x.gs, W.heap[g]? = w.heap[g]? := fun x hx g hg => by
    have hlt := x.lt w (H.own x (List.mem_cons_of_mem _ hx)) g hg
    have hw : w.heap[g]? = some w.heap[g] := Array.getElem?_eq_getElem hlt
    rw [hw]
    exact hk g _ hw (fun e => hap.1 x hx b (List.mem_cons_self ..) (by injection e with e; rw [← e]; exact hg)) (fun c fz e => ho x hx w (H.own x (List.mem_cons_of_mem _ hx)) g hg c fz (by rw [hw, e]))
  refine ⟨H.below.trans hb, H.base, ?_, ?_, ?_⟩
  · intro x hx
    rcases List.mem_cons.1 hx with rfl | hx
    · exact hP
    · exact x.loc w W (same x hx) hb.size (H.own x (List.mem_cons_of_mem _ hx))
  · intro x hx g hg
    rcases List.mem_cons.1 hx with rfl | hx
    · exact sb_low hP g hg
    · exact H.low x (List.mem_cons_of_mem _ hx) g hg
  · refine List.pairwise_cons.2 ⟨fun x hx g hg hgx => ?_, hap.2⟩
    rcases sb_row hP g hg with rfl | ⟨c, fz, hc⟩
    · exact hap.1 x hx g (List.mem_cons_self ..) hgx
    · exact ho x hx w (H.own x (List.mem_cons_of_mem _ hx)) g hgx c fz (by rw [← same x hx g hgx]; exact hc)
/-- A builder that was just made. -/
theorem St.sb_new {B : Nat} {w0 w : World} {A : List It} (H : St B w0 w A) : St B w0 (w.alloc (.cells #[.pointer none, .slice none 0 0] 108)) (sb B w.heap.size (.slice none 0 0) [] :: A) := by
  have h1 := H.alloc [.pointer none, .slice none 0 0] 108
  refine h1.step (Fr.refl _ _) ⟨H.le, ⟨_, .inl rfl, ?_⟩, ⟨rfl, .inl ⟨rfl, rfl⟩⟩, by simp [Value.ownBlock]⟩ (fun x hx => .inl hx)
  exact h1.head
/-! The walks: the program's copyCheck ends in a panic that the loader refuses, so the shelf's own do not lay. -/
set_option maxRecDepth 100000 in
set_option maxHeartbeats 1000000 in
theorem bcheck_used (b : Nat) (w : World) (h0 : w.cell? ⟨b, 0, none⟩ = some (.pointer (some ⟨b, 0, none⟩))) :
    Calls Tryd.prog 115 #[.pointer (some ⟨b, 0, none⟩)] w fun e w' => e = .returned (.tuple #[]) ∧ w' = w := by
  obtain ⟨j, hj, _⟩ := Option.map_eq_some_iff.1 (show (Tryd.prog.info? 108).map (·.size) = some 2 by kernel_rfl)
  go_enter Tryd.func115, Tryd.ntmps115
  go_wp2_with fail
  rw [Lib.run_neq_ptr_same w _ Tryd.underlying106 hj]
  go_wp2_with fail
  go_returns
  exact ⟨rfl, rfl⟩
set_option maxRecDepth 100000 in
set_option maxHeartbeats 1000000 in
theorem bcheck_fresh (b : Nat) (w : World) (h0 : w.cell? ⟨b, 0, none⟩ = some (.pointer none)) (hsh : w.shape? b = some (108, 2)) (hfz : w.frozen? ⟨b, 0, none⟩ = false) :
    Calls Tryd.prog 115 #[.pointer (some ⟨b, 0, none⟩)] w fun e w' => e = .returned (.tuple #[]) ∧ w' = w.setCell ⟨b, 0, none⟩ (.pointer (some ⟨b, 0, none⟩)) := by
  obtain ⟨j, hj, hjs⟩ := Option.map_eq_some_iff.1 (show (Tryd.prog.info? 108).map (·.size) = some 2 by kernel_rfl)
  go_enter Tryd.func115, Tryd.ntmps115
  go_wp2_with fail
  rw [Lib.run_to_unsafe w ⟨b, 0, none⟩ Tryd.underlying106 Tryd.underlying180 hj (by rw [hjs]; decide) hsh (Nat.zero_lt_succ 1)]
  simp only [Result.andThen]
  rw [Oper.upon_value]
  go_wp2_with fail
  rw [run_callFunc_extern Tryd.func139 (by kernel_rfl) (by kernel_rfl) (by kernel_rfl) (e := Extern.AbiNoEscape.same) (by kernel_rfl)]
  rw [Lib.run_noEscape]
  simp only [Result.andThen]
  rw [Oper.upon_value]
  go_wp2_with fail
  rw [Lib.run_from_unsafe w ⟨b, 0, none⟩ Tryd.underlying180 Tryd.underlying106 hj hsh (by kernel_rfl)]
  simp only [Result.andThen]
  rw [Oper.upon_value]
  go_wp2_with fail
  go_returns
  exact ⟨rfl, rfl⟩
theorem bcheck_any (B b : Nat) (bs : List Value) (w : World) (h : Lib.IsBuilderF 108 5 B b bs w) :
    Calls Tryd.prog 115 #[.pointer (some ⟨b, 0, none⟩)] w fun e w' => e = .returned (.tuple #[]) ∧ Lib.BuilderAtF 108 5 B b (.pointer (some ⟨b, 0, none⟩)) bs w' ∧ Below B w w' ∧ Lib.OthersKept 5 (some b) w w' := by
  rcases h with h | h
  · refine (bcheck_fresh b w h.cell0 h.shape h.frozen0).mono ?_
    rintro e w' ⟨rfl, rfl⟩
    exact ⟨rfl, h.used _, (Below.refl B w).setCell (p := ⟨b, 0, none⟩) h.1 _, (Lib.OthersKept.refl _ _ _).setCell ⟨b, 0, none⟩ rfl _⟩
  · refine (bcheck_used b w h.cell0).mono ?_
    rintro e w' ⟨rfl, rfl⟩
    exact ⟨rfl, h, Below.refl B _, Lib.OthersKept.refl _ _ _⟩
set_option maxRecDepth 100000 in
set_option maxHeartbeats 2000000 in
theorem bwrite_any (B b : Nat) (bs : List Value) (s : ByteArray) (w : World) (h : Lib.IsBuilderF 108 5 B b bs w) (hlen : bs.length + s.size ≤ 140737488355328) (hBw : B ≤ w.heap.size) :
    Calls Tryd.prog 56 #[.pointer (some ⟨b, 0, none⟩), .string s] w fun e w' => e = .returned (.tuple #[.int .i64 s.size, .nilIface]) ∧ Lib.BuilderAtF 108 5 B b (.pointer (some ⟨b, 0, none⟩)) (bs ++ Lib.strCells s) w' ∧ Below B w w' ∧ Lib.OthersKept 5 (some b) w w' := by
  obtain ⟨i0, hi, hz0, hz1, hz2⟩ := info_parts (show (Tryd.prog.info? 5).map (fun i => (i.zero, i.size, i.bytes)) = some (some (.int .u8 0), 1, 1) by kernel_rfl)
  have HC := Lib.hid (bcheck_any B b bs w h)
  clear h
  go_enter Tryd.func56, Tryd.ntmps56
  go_wp2_with fail
  refine HC.out.mono ?_
  rintro e w1 ⟨rfl, h1, hb1, hk1⟩
  obtain ⟨hB, v, hbk, hown, hne⟩ := h1
  have c0 : w1.cell? ⟨b, 0, none⟩ = some (.pointer (some ⟨b, 0, none⟩)) := by rw [Lib.cell_of_heap hbk]; rfl
  have c1 : w1.cell? ⟨b, 1, none⟩ = some v := by rw [Lib.cell_of_heap hbk]; rfl
  go_wp2_with (at_builtin; refine Lib.wpList_append_own_stringF _ rfl _ _ 90 9 rfl B 5 i0 Tryd.underlying90 Tryd.underlying9 hi hz0 hz1 hz2 _ _ _ rfl hown s rfl ?c3 ?c4 ?c5 ?_)
  case c3 => unfold maxLen; omega
  case c4 => omega
  case c5 => have := hb1.size; omega
  intro v' w2 hown' hgrow _
  have hlt : b < w1.heap.size := by
    rcases Nat.lt_or_ge b w1.heap.size with h' | h'
    · exact h'
    · simp [Array.getElem?_eq_none h'] at hbk
  have hb2 : w2.heap[b]? = some (.cells #[.pointer (some ⟨b, 0, none⟩), v] 108 (0, 0)) := by
    rw [hgrow.block b hlt (fun e => hne e.symm)]
    exact hbk
  have d0 : w2.cell? ⟨b, 0, none⟩ = some (.pointer (some ⟨b, 0, none⟩)) := by rw [Lib.cell_of_heap hb2]; rfl
  have d1 : w2.cell? ⟨b, 1, none⟩ = some v := by rw [Lib.cell_of_heap hb2]; rfl
  have f1 : w2.frozen? ⟨b, 1, none⟩ = false := Lib.frozen_of_heap hb2 1
  obtain ⟨ao, n', cap, rfl⟩ : ∃ ao n' cap, v' = .slice ao n' cap := by
    rcases hown'.2 with ⟨hv, _⟩ | ⟨g, cap, cur, fz, hv, _⟩
    · exact ⟨_, _, _, hv⟩
    · exact ⟨_, _, _, hv⟩
  go_wp2_with fail
  go_ret2
  refine ⟨rfl, ?_, ?_, (hk1.grown hgrow (Lib.ownsRowF_kind hown)).setCell ⟨b, 1, none⟩ rfl _⟩
  · exact Lib.BuilderAtF.put (T := 108) (e := 5) hB hb2 (bs' := bs ++ Lib.strCells s) (by simpa [Lib.strCells_length] using hown') (by decide)
  · exact (hb1.grown hgrow (by have := hb1.size; omega) (fun k hk => (hown.lt k hk).1)).setCell (p := ⟨b, 1, none⟩) hB _
section
variable {B b : Nat} {w0 w : World} {A : List It} {v : Value} {l : List UInt8}
theorem bwrite_st (H : St B w0 w (sb B b v l :: A)) (ho : Others 5 A) (s : List UInt8) (hl : l.length + s.length ≤ 140737488355328) :
    Calls Tryd.prog 56 #[.pointer (some ⟨b, 0, none⟩), .string ⟨s.toArray⟩] w fun e w' => e = .returned (.tuple #[.int .i64 (s.length : Int), .nilIface]) ∧ ∃ v', St B w0 w' (sb B b v' (l ++ s) :: A) := by
  refine (bwrite_any B b (Lib.byteCells l) ⟨s.toArray⟩ w (sb_is H.head) (by rw [Lib.byteCells_length]; exact hl) H.le).mono ?_
  rintro e w1 ⟨rfl, hb, hbl, hk⟩
  refine ⟨rfl, ?_⟩
  have hcs : Lib.byteCells l ++ Lib.strCells ⟨s.toArray⟩ = Lib.byteCells (l ++ s) := by
    simp [Lib.byteCells, Lib.strCells]
  rw [hcs] at hb
  obtain ⟨v', hP⟩ := sb_of (.inr hb)
  exact ⟨v', H.sb_step ho hP hbl hk⟩
theorem bstring_st (H : St B w0 w (sb B b v l :: A)) (ho : Others 5 A) :
    Calls Tryd.prog 59 #[.pointer (some ⟨b, 0, none⟩)] w fun e w' => e = .returned (.string ⟨l.toArray⟩) ∧ ∃ v', St B w0 w' (sb B b v' l :: A) := by
  refine (Tryd.Builder_String_any_k B b l w (sb_is H.head) H.le).mono ?_
  rintro e w1 ⟨rfl, hb, hbl, hk⟩
  refine ⟨rfl, ?_⟩
  obtain ⟨v', hP⟩ := sb_of hb
  exact ⟨v', H.sb_step ho hP hbl hk⟩
end
end Go.Proofs.YteibhcocldihbaaDoor
namespace Go.Proofs.YteibhcocldihbaaDoor
open Go.RowKit
def Ins.vals (x : Ins) : List Value := x.fl.vals ++ (x.root.vals ++ [.int .i64 x.cost, .int .i64 x.bridge, .int .i64 x.port, .int .i64 x.hops])
theorem Ins.len (x : Ins) : x.vals.length = 19 := rfl
theorem Ins.one (x : Ins) : ∀ v ∈ x.vals, v.oneCell' = true := fun v hv => by
  simp only [Ins.vals, List.mem_append, List.mem_cons, List.not_mem_nil, or_false] at hv
  rcases hv with hv | hv | rfl | rfl | rfl | rfl
  · exact Fl.one _ v hv
  · exact Br.one _ v hv
  all_goals rfl
theorem info104 : (Tryd.prog.info? 104).map (·.size) = some 19 := by kernel_rfl
set_option maxRecDepth 100000 in
set_option maxHeartbeats 4000000 in
theorem inst_any (x : Ins) (w : World) :
    Calls Tryd.prog 65 #[.agg x.vals.toArray] w fun e w' => e = .returned (.bool x.okB) ∧ Below w.heap.size w w' := by
  obtain ⟨⟨f0, f1, f2, f3, f4, f5, f6⟩, ⟨bp, be, ⟨a0, a1, a2, a3, a4, a5⟩⟩, co, bi, po, ho⟩ := x
  have HF : Hid (∀ W, Calls Tryd.prog 117 #[.agg #[.bool f0, .bool f1, .int .i64 f2, .bool f3, .bool f4, .bool f5, .bool f6]] W fun e w' => e = .returned (.bool (Fl.okB ⟨f0, f1, f2, f3, f4, f5, f6⟩)) ∧ Below W.heap.size W w') := Lib.hid (fun W => flagsF_any ⟨f0, f1, f2, f3, f4, f5, f6⟩ W)
  have HR : Hid (∀ W, Calls Tryd.prog 62 #[.agg #[.int .i64 bp, .int .i64 be, .int .u8 a0.toNat, .int .u8 a1.toNat, .int .u8 a2.toNat, .int .u8 a3.toNat, .int .u8 a4.toNat, .int .u8 a5.toNat]] W fun e w' => e = .returned (.bool (Br.okB ⟨bp, be, ⟨a0, a1, a2, a3, a4, a5⟩⟩)) ∧ Below W.heap.size W w') := Lib.hid (fun W => prioRight_any ⟨bp, be, ⟨a0, a1, a2, a3, a4, a5⟩⟩ W)
  have H0 := Lib.hid ((St.init w).alloc (Ins.vals ⟨⟨f0, f1, f2, f3, f4, f5, f6⟩, ⟨bp, be, ⟨a0, a1, a2, a3, a4, a5⟩⟩, co, bi, po, ho⟩) 104)
  have hok : Ins.okB ⟨⟨f0, f1, f2, f3, f4, f5, f6⟩, ⟨bp, be, ⟨a0, a1, a2, a3, a4, a5⟩⟩, co, bi, po, ho⟩ = (Fl.okB ⟨f0, f1, f2, f3, f4, f5, f6⟩ && (Br.okB ⟨bp, be, ⟨a0, a1, a2, a3, a4, a5⟩⟩ && (u32 co && (le15 bi && (le15 po && le255 ho))))) := rfl
  rw [hok]
  clear hok
  simp only [Ins.vals, Fl.vals, Br.vals, Ad.vals, List.cons_append, List.nil_append] at H0 ⊢
  generalize Fl.okB ⟨f0, f1, f2, f3, f4, f5, f6⟩ = fb at *
  generalize Br.okB ⟨bp, be, ⟨a0, a1, a2, a3, a4, a5⟩⟩ = rb at *
  go_enter Tryd.func65, Tryd.ntmps65
  go_upto_region 1 with (fail)
  generalize World.alloc _ _ = w0 at *
  have c0 := fun j => H0.out.cell j
  cases fb
  · go_wp2_with (first
      | ((with_reducible refine (HF.out _).mono ?_)
         rintro e w1 ⟨rfl, hb1⟩
         have H1 := Lib.hid (H0.out.ext hb1)
         have c1 := (fun j => H1.out.cell j)
         clear hb1 c0)
      | ((with_reducible refine (HR.out _).mono ?_)
         rintro e w2 ⟨rfl, hb2⟩
         have H2 := Lib.hid (H1.out.ext hb2)
         have c2 := (fun j => H2.out.cell j)
         clear hb2 c1))
    go_ret
    exact ⟨by simp [u32, le15, le255, *] <;> omega, H1.out.below⟩
  cases rb
  · go_wp2_with (first
      | ((with_reducible refine (HF.out _).mono ?_)
         rintro e w1 ⟨rfl, hb1⟩
         have H1 := Lib.hid (H0.out.ext hb1)
         have c1 := (fun j => H1.out.cell j)
         clear hb1 c0)
      | ((with_reducible refine (HR.out _).mono ?_)
         rintro e w2 ⟨rfl, hb2⟩
         have H2 := Lib.hid (H1.out.ext hb2)
         have c2 := (fun j => H2.out.cell j)
         clear hb2 c1))
    go_ret
    exact ⟨by simp [u32, le15, le255, *] <;> omega, H2.out.below⟩
  by_cases h0 : 0 ≤ co
  rotate_left
  · go_wp2_with (first
      | ((with_reducible refine (HF.out _).mono ?_)
         rintro e w1 ⟨rfl, hb1⟩
         have H1 := Lib.hid (H0.out.ext hb1)
         have c1 := (fun j => H1.out.cell j)
         clear hb1 c0)
      | ((with_reducible refine (HR.out _).mono ?_)
         rintro e w2 ⟨rfl, hb2⟩
         have H2 := Lib.hid (H1.out.ext hb2)
         have c2 := (fun j => H2.out.cell j)
         clear hb2 c1))
    go_ret
    exact ⟨by simp [u32, le15, le255, *] <;> omega, H2.out.below⟩
  by_cases h1 : co < 4294967296
  rotate_left
  · go_wp2_with (first
      | ((with_reducible refine (HF.out _).mono ?_)
         rintro e w1 ⟨rfl, hb1⟩
         have H1 := Lib.hid (H0.out.ext hb1)
         have c1 := (fun j => H1.out.cell j)
         clear hb1 c0)
      | ((with_reducible refine (HR.out _).mono ?_)
         rintro e w2 ⟨rfl, hb2⟩
         have H2 := Lib.hid (H1.out.ext hb2)
         have c2 := (fun j => H2.out.cell j)
         clear hb2 c1))
    go_ret
    exact ⟨by simp [u32, le15, le255, *] <;> omega, H2.out.below⟩
  by_cases h2 : 0 ≤ bi
  rotate_left
  · go_wp2_with (first
      | ((with_reducible refine (HF.out _).mono ?_)
         rintro e w1 ⟨rfl, hb1⟩
         have H1 := Lib.hid (H0.out.ext hb1)
         have c1 := (fun j => H1.out.cell j)
         clear hb1 c0)
      | ((with_reducible refine (HR.out _).mono ?_)
         rintro e w2 ⟨rfl, hb2⟩
         have H2 := Lib.hid (H1.out.ext hb2)
         have c2 := (fun j => H2.out.cell j)
         clear hb2 c1))
    go_ret
    exact ⟨by simp [u32, le15, le255, *] <;> omega, H2.out.below⟩
  by_cases h3 : bi ≤ 15
  rotate_left
  · go_wp2_with (first
      | ((with_reducible refine (HF.out _).mono ?_)
         rintro e w1 ⟨rfl, hb1⟩
         have H1 := Lib.hid (H0.out.ext hb1)
         have c1 := (fun j => H1.out.cell j)
         clear hb1 c0)
      | ((with_reducible refine (HR.out _).mono ?_)
         rintro e w2 ⟨rfl, hb2⟩
         have H2 := Lib.hid (H1.out.ext hb2)
         have c2 := (fun j => H2.out.cell j)
         clear hb2 c1))
    go_ret
    exact ⟨by simp [u32, le15, le255, *] <;> omega, H2.out.below⟩
  by_cases h4 : 0 ≤ po
  rotate_left
  · go_wp2_with (first
      | ((with_reducible refine (HF.out _).mono ?_)
         rintro e w1 ⟨rfl, hb1⟩
         have H1 := Lib.hid (H0.out.ext hb1)
         have c1 := (fun j => H1.out.cell j)
         clear hb1 c0)
      | ((with_reducible refine (HR.out _).mono ?_)
         rintro e w2 ⟨rfl, hb2⟩
         have H2 := Lib.hid (H1.out.ext hb2)
         have c2 := (fun j => H2.out.cell j)
         clear hb2 c1))
    go_ret
    exact ⟨by simp [u32, le15, le255, *] <;> omega, H2.out.below⟩
  by_cases h5 : po ≤ 15
  rotate_left
  · go_wp2_with (first
      | ((with_reducible refine (HF.out _).mono ?_)
         rintro e w1 ⟨rfl, hb1⟩
         have H1 := Lib.hid (H0.out.ext hb1)
         have c1 := (fun j => H1.out.cell j)
         clear hb1 c0)
      | ((with_reducible refine (HR.out _).mono ?_)
         rintro e w2 ⟨rfl, hb2⟩
         have H2 := Lib.hid (H1.out.ext hb2)
         have c2 := (fun j => H2.out.cell j)
         clear hb2 c1))
    go_ret
    exact ⟨by simp [u32, le15, le255, *] <;> omega, H2.out.below⟩
  by_cases h6 : 0 ≤ ho
  rotate_left
  · go_wp2_with (first
      | ((with_reducible refine (HF.out _).mono ?_)
         rintro e w1 ⟨rfl, hb1⟩
         have H1 := Lib.hid (H0.out.ext hb1)
         have c1 := (fun j => H1.out.cell j)
         clear hb1 c0)
      | ((with_reducible refine (HR.out _).mono ?_)
         rintro e w2 ⟨rfl, hb2⟩
         have H2 := Lib.hid (H1.out.ext hb2)
         have c2 := (fun j => H2.out.cell j)
         clear hb2 c1))
    go_ret
    exact ⟨by simp [u32, le15, le255, *] <;> omega, H2.out.below⟩
  by_cases h7 : ho ≤ 255
  rotate_left
  · go_wp2_with (first
      | ((with_reducible refine (HF.out _).mono ?_)
         rintro e w1 ⟨rfl, hb1⟩
         have H1 := Lib.hid (H0.out.ext hb1)
         have c1 := (fun j => H1.out.cell j)
         clear hb1 c0)
      | ((with_reducible refine (HR.out _).mono ?_)
         rintro e w2 ⟨rfl, hb2⟩
         have H2 := Lib.hid (H1.out.ext hb2)
         have c2 := (fun j => H2.out.cell j)
         clear hb2 c1))
    go_ret
    exact ⟨by simp [u32, le15, le255, *] <;> omega, H2.out.below⟩
  go_wp2_with (first
    | ((with_reducible refine (HF.out _).mono ?_)
       rintro e w1 ⟨rfl, hb1⟩
       have H1 := Lib.hid (H0.out.ext hb1)
       have c1 := (fun j => H1.out.cell j)
       clear hb1 c0)
    | ((with_reducible refine (HR.out _).mono ?_)
       rintro e w2 ⟨rfl, hb2⟩
       have H2 := Lib.hid (H1.out.ext hb2)
       have c2 := (fun j => H2.out.cell j)
       clear hb2 c1))
  go_ret
  exact ⟨by simp [u32, le15, le255, *] <;> omega, H2.out.below⟩
set_option maxRecDepth 100000 in
set_option maxHeartbeats 1000000 in
theorem instNot_any (x : Ins) (w : World) :
    Calls Tryd.prog 64 #[.agg x.vals.toArray] w fun e w' => e = .returned (.bool (!x.okB)) ∧ Below w.heap.size w w' := by
  have H0 := Lib.hid ((St.init w).alloc x.vals 104)
  go_enter Tryd.func64, Tryd.ntmps64
  go_upto_region 1 with (fail)
  generalize World.alloc _ _ = w0 at *
  go_wp2_with (first
    | (with_reducible refine wpList_load_rng (ty := 104) x.vals (by with_unfolding_all rfl) (Blk.box (H0.out.at 0 rfl)).range Tryd.underlying104 (by with_unfolding_all rfl) (by with_unfolding_all exact info104) ?_)
    | ((with_reducible refine (inst_any x _).mono ?_)
       rintro e w1 ⟨rfl, hb1⟩
       have H1 := Lib.hid (H0.out.ext hb1)
       clear hb1))
  go_ret
  exact ⟨rfl, H1.out.below⟩
end Go.Proofs.YteibhcocldihbaaDoor
namespace Go.Proofs.YteibhcocldihbaaDoor
open Go.RowKit
def Mst.tail (m : Mst) (sv : Value) : List Value := [.string ⟨m.name.toArray⟩, .int .i64 m.rev, .string ⟨m.digest.toArray⟩, .int .i64 m.cost] ++ (m.bridge.vals ++ [.int .i64 m.hops, sv])
def Mst.vals (m : Mst) (sv : Value) : List Value := m.base.vals ++ m.tail sv
theorem info47 : (Tryd.prog.info? 47).map (·.size) = some 45 := by kernel_rfl
theorem Mst.one (m : Mst) (sv : Value) (h : sv.oneCell' = true) : ∀ v ∈ m.vals sv, v.oneCell' = true := fun v hv => by
  simp only [Mst.vals, Mst.tail, List.mem_append, List.mem_cons, List.not_mem_nil, or_false] at hv
  rcases hv with hv | (rfl | rfl | rfl | rfl) | hv | rfl | rfl
  · exact Bp.one _ v hv
  all_goals first | rfl | exact h | exact Br.one _ v hv
structure MstIn (w : World) (g : Nat) (m : Mst) (sv : Value) : Prop where
  base : w.rangeAt g 0 m.base.vals
  kind : w.cell? ⟨g, 0, none⟩ = some (.int .i64 m.base.kind)
  name : w.cell? ⟨g, 31, none⟩ = some (.string ⟨m.name.toArray⟩)
  rev : w.cell? ⟨g, 32, none⟩ = some (.int .i64 m.rev)
  digest : w.cell? ⟨g, 33, none⟩ = some (.string ⟨m.digest.toArray⟩)
  cost : w.cell? ⟨g, 34, none⟩ = some (.int .i64 m.cost)
  bridge : w.rangeAt g 35 m.bridge.vals
  hops : w.cell? ⟨g, 43, none⟩ = some (.int .i64 m.hops)
  insts : w.cell? ⟨g, 44, none⟩ = some sv
theorem mst_in {w : World} {g : Nat} {m : Mst} {sv : Value} (h : Box w g (m.vals sv)) : MstIn w g m sv := by
  have h0 := h.range
  have h1 : w.rangeAt g 31 (m.tail sv) := by
    have := rng_right (a := m.base.vals) h0
    exact this
  have h2 : w.rangeAt g 35 (m.bridge.vals ++ [.int .i64 m.hops, sv]) := by
    have := rng_right (a := [.string ⟨m.name.toArray⟩, .int .i64 m.rev, .string ⟨m.digest.toArray⟩, .int .i64 m.cost]) h1
    exact this
  exact ⟨rng_left h0, h.cell 0, h.cell 31, h.cell 32, h.cell 33, h.cell 34, rng_left h2, h.cell 43, h.cell 44⟩
theorem ret_int' {a b : Int} (h : a = b) : Ending.returned (.int .i64 a) = Ending.returned (.int .i64 b) := by rw [h]
theorem suffix_nought (l : List UInt8) : Lib.hasSuffix l [0] = endsNought l := by
  unfold Lib.hasSuffix endsNought
  rw [Bool.eq_iff_iff, List.isSuffixOf_iff_suffix, decide_eq_true_eq]
  constructor
  · rintro ⟨t, rfl⟩; simp
  · intro h
    obtain ⟨t, rfl⟩ := List.getLast?_eq_some_iff.1 h
    exact ⟨t, rfl⟩
theorem all_ins (L : List Ins) : L.all Ins.okB = !(L.any fun x => !x.okB) := by
  induction L with
  | nil => rfl
  | cons q L ih =>
    simp only [List.all_cons, List.any_cons, ih]
    cases q.okB <;> simp
set_option maxRecDepth 100000 in
set_option maxHeartbeats 1000000 in
theorem idxf_ins (p : Ins → Bool) (L : List Ins) (A : Option Addr) (cap : Nat) (f : Nat) (w : World) (n : Nat) (hlen : L.length = n) (hn : n ≤ 9223372036854775807) (hr : SlRow w w.heap.size 19 A (L.map Ins.vals))
    (hp : ∀ q ∈ L, ∀ (W : World), Below w.heap.size w W → Calls Tryd.prog f #[.agg q.vals.toArray] W fun e w' => e = .returned (.bool (p q)) ∧ Below W.heap.size W w')
    (hf : ∀ (args : Array Value) (W : World), (callFunc f args).run Tryd.prog W = .ok (.enter f args) W) :
    Calls Tryd.prog 121 #[.slice A n cap, .func (.func f) #[] #[]] w fun e w' => e = .returned (.int .i64 (idxP p L)) ∧ Below w.heap.size w w' := by
  have Hr := Lib.hid hr
  have Hp := Lib.hid hp
  have Hlen := Lib.hid hlen
  clear hr hlen hp
  go_enter Tryd.func121, Tryd.ntmps121
  go_wp2_with fail
  go_loopw [5, 8] (fun _ i wr => ∃ k : Nat, k ≤ n ∧ i = .int .i64 k ∧ Hid (∀ j (hj : j < L.length), j < k → p L[j] = false) ∧ Hid (Below w.heap.size w wr)) (fun _ i _ => n - (intOf i).toNat)
  case atStart => exact ⟨0, by omega, rfl, Lib.hid (fun j hj h => absurd h (by omega)), Lib.hid (Below.refl _ _)⟩
  case round =>
    obtain ⟨k, hk, rfl, Hz, Hb⟩ := hrel
    by_cases hlt : k < n
    · have hkx : k < L.length := by rw [Hlen.out]; exact hlt
      obtain ⟨g, o, rfl, hg, hc⟩ := Hr.out (by rw [List.length_map]; omega)
      have hc1 := hc k (by rw [List.length_map]; exact hkx)
      rw [List.getElem_map] at hc1
      have Hc1 := Lib.hid (rangeAt_below hc1 Hb.out hg)
      have hpk := Hp.out L[k] (List.getElem_mem hkx) _ Hb.out
      have HV : p L[k] = false → ∀ j (hj : j < L.length), j < k + 1 → p L[j] = false := fun hv j hj h => by
        by_cases e : j = k
        · subst e; exact hv
        · exact Hz.out j hj (by omega)
      have HZ : p L[k] = true → idxP p L = k := fun hv => idxP_found p L k hkx hv (fun j hj => Hz.out j (by omega) hj)
      clear hc hc1
      generalize L[k] = r at *
      cases hv : p r
      · rw [hv] at hpk
        have HV2 := Lib.hid (HV hv)
        have Hpk := Lib.hid hpk
        clear hv hpk HV HZ Hz
        go_wp2_with (first
          | ((with_reducible refine wpList_load_rng (ty := 104) (b := ?b50) (o := ?o50) (ds := ?ds50) r.vals ?hx50 ?hB50 ?hu50 ?hd50 ?hi50 ?hk50)
             case hx50 => rfl
             case hB50 => exact Hc1.out
             case hu50 => exact Tryd.underlying104
             case hd50 => rfl
             case hi50 => exact info104)
          | ((with_reducible refine Hpk.out.mono ?_)
             rintro e w1 ⟨rfl, hb1⟩
             have Hb1 := Lib.hid (Hb.out.trans (hb1.mono Hb.out.size))
             clear hb1)
          )
        go_roundw
        case rel => exact ⟨k + 1, by omega, by go_num, HV2, Hb1⟩
        case measure => simp [intOf]; omega
      · rw [hv] at hpk
        have HZ2 := Lib.hid (HZ hv)
        have Hpk := Lib.hid hpk
        clear hv hpk HV HZ
        go_wp2_with (first
          | ((with_reducible refine wpList_load_rng (ty := 104) (b := ?b52) (o := ?o52) (ds := ?ds52) r.vals ?hx52 ?hB52 ?hu52 ?hd52 ?hi52 ?hk52)
             case hx52 => rfl
             case hB52 => exact Hc1.out
             case hu52 => exact Tryd.underlying104
             case hd52 => rfl
             case hi52 => exact info104)
          | ((with_reducible refine Hpk.out.mono ?_)
             rintro e w1 ⟨rfl, hb1⟩
             have Hb1 := Lib.hid (Hb.out.trans (hb1.mono Hb.out.size))
             clear hb1)
          )
        go_ret
        exact ⟨ret_int' HZ2.out.symm, Hb1.out⟩
    · have hz : idxP p L = -1 := idxP_none p L (fun j hj => Hz.out j hj (by have := Hlen.out; omega))
      have HZ := Lib.hid hz
      clear hz
      go_wp2_with fail
      go_ret
      exact ⟨ret_int' HZ.out.symm, Hb.out⟩
set_option maxRecDepth 100000 in
theorem anyf_ins (p : Ins → Bool) (L : List Ins) (A : Option Addr) (cap : Nat) (f : Nat) (w : World) (n : Nat) (hlen : L.length = n) (hn : n ≤ 9223372036854775807) (hr : SlRow w w.heap.size 19 A (L.map Ins.vals))
    (hp : ∀ q ∈ L, ∀ (W : World), Below w.heap.size w W → Calls Tryd.prog f #[.agg q.vals.toArray] W fun e w' => e = .returned (.bool (p q)) ∧ Below W.heap.size W w')
    (hf : ∀ (args : Array Value) (W : World), (callFunc f args).run Tryd.prog W = .ok (.enter f args) W) :
    Calls Tryd.prog 63 #[.slice A n cap, .func (.func f) #[] #[]] w fun e w' => e = .returned (.bool (L.any p)) ∧ Below w.heap.size w w' := by
  have H := Lib.hid (idxf_ins p L A cap f w n hlen hn hr hp hf)
  have Ha := Lib.hid (idxP_any p L)
  clear hr hp hf hn hlen
  generalize idxP _ _ = r at *
  generalize L.any p = b at *
  go_enter Tryd.func63, Tryd.ntmps63
  go_wp2_with (first
    | ((with_reducible refine H.out.mono ?_)
       rintro e w1 ⟨rfl, hb1⟩
       skip)
    )
  go_ret
  exact ⟨by rw [← Ha.out]; rfl, hb1⟩
end Go.Proofs.YteibhcocldihbaaDoor
namespace Go.Proofs.YteibhcocldihbaaDoor
open Go.RowKit
set_option maxRecDepth 100000 in
set_option maxHeartbeats 4000000 in
theorem mr_0 (b : Bp) (nm : List UInt8) (rv : Int) (dg : List UInt8) (co : Int) (br : Br) (ho : Int) (L : List Ins) (A : Option Addr) (cap : Nat) (w : World)  (hk : ¬ b.kind = 3) :
    Calls Tryd.prog 21 #[.agg (Mst.vals ⟨b, nm, rv, dg, co, br, ho, L⟩ (.slice A L.length cap)).toArray] w fun e w' => e = .returned (.bool (false)) ∧ Below w.heap.size w w' := by
  obtain ⟨ap, ae, ⟨a0, a1, a2, a3, a4, a5⟩⟩ := br
  have H0 := Lib.hid ((St.init w).alloc (Mst.vals ⟨b, nm, rv, dg, co, ⟨ap, ae, ⟨a0, a1, a2, a3, a4, a5⟩⟩, ho, L⟩ (.slice A L.length cap)) 47)
  have HC : Hid (∀ W, St w.heap.size w W [bk w.heap.size 47 (Mst.vals ⟨b, nm, rv, dg, co, ⟨ap, ae, ⟨a0, a1, a2, a3, a4, a5⟩⟩, ho, L⟩ (.slice A L.length cap))] → W.cell? ⟨w.heap.size, 31, none⟩ = some (.string ⟨nm.toArray⟩) ∧ W.cell? ⟨w.heap.size, 32, none⟩ = some (.int .i64 rv) ∧ W.cell? ⟨w.heap.size, 33, none⟩ = some (.string ⟨dg.toArray⟩) ∧ W.cell? ⟨w.heap.size, 34, none⟩ = some (.int .i64 co) ∧ W.cell? ⟨w.heap.size, 35, none⟩ = some (.int .i64 ap) ∧ W.cell? ⟨w.heap.size, 36, none⟩ = some (.int .i64 ae) ∧ W.cell? ⟨w.heap.size, 37, none⟩ = some (.int .u8 a0.toNat) ∧ W.cell? ⟨w.heap.size, 38, none⟩ = some (.int .u8 a1.toNat) ∧ W.cell? ⟨w.heap.size, 39, none⟩ = some (.int .u8 a2.toNat) ∧ W.cell? ⟨w.heap.size, 40, none⟩ = some (.int .u8 a3.toNat) ∧ W.cell? ⟨w.heap.size, 41, none⟩ = some (.int .u8 a4.toNat) ∧ W.cell? ⟨w.heap.size, 42, none⟩ = some (.int .u8 a5.toNat) ∧ W.cell? ⟨w.heap.size, 43, none⟩ = some (.int .i64 ho) ∧ W.cell? ⟨w.heap.size, 44, none⟩ = some (.slice A L.length cap)) := Lib.hid (fun W h => by
    have B := Blk.box (h.at 0 rfl)
    exact ⟨B.cell 31, B.cell 32, B.cell 33, B.cell 34, B.cell 35, B.cell 36, B.cell 37, B.cell 38, B.cell 39, B.cell 40, B.cell 41, B.cell 42, B.cell 43, B.cell 44⟩)
  have I0 := mst_in (Blk.box (H0.out.at 0 rfl))
  have k0 := I0.kind
  have R0 := Lib.hid I0.base
  clear I0
  have ek : (b.kind == 3) = false := by simp [hk]
  go_enter Tryd.func21, Tryd.ntmps21
  go_upto_region 1 with (fail)
  generalize World.alloc _ _ = w0 at *
  go_step
  dsimp only [List.append]
  go_wp2_with fail
  go_ret
  exact ⟨rfl, H0.out.below⟩
set_option maxRecDepth 100000 in
set_option maxHeartbeats 4000000 in
theorem mr_1 (b : Bp) (nm : List UInt8) (rv : Int) (dg : List UInt8) (co : Int) (br : Br) (ho : Int) (L : List Ins) (A : Option Addr) (cap : Nat) (w : World) (hk : b.kind = 3) (hq1 : b.okB = false) :
    Calls Tryd.prog 21 #[.agg (Mst.vals ⟨b, nm, rv, dg, co, br, ho, L⟩ (.slice A L.length cap)).toArray] w fun e w' => e = .returned (.bool (false)) ∧ Below w.heap.size w w' := by
  obtain ⟨ap, ae, ⟨a0, a1, a2, a3, a4, a5⟩⟩ := br
  have H0 := Lib.hid ((St.init w).alloc (Mst.vals ⟨b, nm, rv, dg, co, ⟨ap, ae, ⟨a0, a1, a2, a3, a4, a5⟩⟩, ho, L⟩ (.slice A L.length cap)) 47)
  have HC : Hid (∀ W, St w.heap.size w W [bk w.heap.size 47 (Mst.vals ⟨b, nm, rv, dg, co, ⟨ap, ae, ⟨a0, a1, a2, a3, a4, a5⟩⟩, ho, L⟩ (.slice A L.length cap))] → W.cell? ⟨w.heap.size, 31, none⟩ = some (.string ⟨nm.toArray⟩) ∧ W.cell? ⟨w.heap.size, 32, none⟩ = some (.int .i64 rv) ∧ W.cell? ⟨w.heap.size, 33, none⟩ = some (.string ⟨dg.toArray⟩) ∧ W.cell? ⟨w.heap.size, 34, none⟩ = some (.int .i64 co) ∧ W.cell? ⟨w.heap.size, 35, none⟩ = some (.int .i64 ap) ∧ W.cell? ⟨w.heap.size, 36, none⟩ = some (.int .i64 ae) ∧ W.cell? ⟨w.heap.size, 37, none⟩ = some (.int .u8 a0.toNat) ∧ W.cell? ⟨w.heap.size, 38, none⟩ = some (.int .u8 a1.toNat) ∧ W.cell? ⟨w.heap.size, 39, none⟩ = some (.int .u8 a2.toNat) ∧ W.cell? ⟨w.heap.size, 40, none⟩ = some (.int .u8 a3.toNat) ∧ W.cell? ⟨w.heap.size, 41, none⟩ = some (.int .u8 a4.toNat) ∧ W.cell? ⟨w.heap.size, 42, none⟩ = some (.int .u8 a5.toNat) ∧ W.cell? ⟨w.heap.size, 43, none⟩ = some (.int .i64 ho) ∧ W.cell? ⟨w.heap.size, 44, none⟩ = some (.slice A L.length cap)) := Lib.hid (fun W h => by
    have B := Blk.box (h.at 0 rfl)
    exact ⟨B.cell 31, B.cell 32, B.cell 33, B.cell 34, B.cell 35, B.cell 36, B.cell 37, B.cell 38, B.cell 39, B.cell 40, B.cell 41, B.cell 42, B.cell 43, B.cell 44⟩)
  have I0 := mst_in (Blk.box (H0.out.at 0 rfl))
  have k0 := I0.kind
  have R0 := Lib.hid I0.base
  clear I0
  have HB : Hid (∀ W, Calls Tryd.prog 60 #[.agg b.vals.toArray] W fun e w' => e = .returned (.bool false) ∧ Below W.heap.size W w') := Lib.hid (fun W => by
    have := bpRight_any b W
    rw [hq1] at this
    exact this)
  clear hq1
  simp only [hk] at k0
  clear hk
  go_enter Tryd.func21, Tryd.ntmps21
  go_upto_region 1 with (fail)
  generalize World.alloc _ _ = w0 at *
  go_step
  dsimp only [List.append]
  go_wp2_with (first
    | (with_reducible refine wpList_load_rngG (ty := 44) b.vals (by with_unfolding_all rfl) (by with_unfolding_all rfl) R0.out Tryd.underlying44 (by with_unfolding_all rfl) (by with_unfolding_all exact info44) ?_)
    | ((with_reducible refine (HB.out _).mono ?_)
       rintro e w1 ⟨rfl, hb1⟩
       have H1 := Lib.hid (H0.out.ext hb1)
       obtain ⟨k31, k32, k33, k34, k35, k36, k37, k38, k39, k40, k41, k42, k43, k44⟩ := HC.out _ H1.out
       clear hb1 k0))
  go_ret
  exact ⟨rfl, H1.out.below⟩
set_option maxRecDepth 100000 in
set_option maxHeartbeats 4000000 in
theorem mr_2 (b : Bp) (nm : List UInt8) (rv : Int) (dg : List UInt8) (co : Int) (br : Br) (ho : Int) (L : List Ins) (A : Option Addr) (cap : Nat) (w : World) (hk : b.kind = 3) (hq1 : b.okB = true) (n32 : ¬ nm.length ≤ 32) :
    Calls Tryd.prog 21 #[.agg (Mst.vals ⟨b, nm, rv, dg, co, br, ho, L⟩ (.slice A L.length cap)).toArray] w fun e w' => e = .returned (.bool (false)) ∧ Below w.heap.size w w' := by
  obtain ⟨ap, ae, ⟨a0, a1, a2, a3, a4, a5⟩⟩ := br
  have H0 := Lib.hid ((St.init w).alloc (Mst.vals ⟨b, nm, rv, dg, co, ⟨ap, ae, ⟨a0, a1, a2, a3, a4, a5⟩⟩, ho, L⟩ (.slice A L.length cap)) 47)
  have HC : Hid (∀ W, St w.heap.size w W [bk w.heap.size 47 (Mst.vals ⟨b, nm, rv, dg, co, ⟨ap, ae, ⟨a0, a1, a2, a3, a4, a5⟩⟩, ho, L⟩ (.slice A L.length cap))] → W.cell? ⟨w.heap.size, 31, none⟩ = some (.string ⟨nm.toArray⟩) ∧ W.cell? ⟨w.heap.size, 32, none⟩ = some (.int .i64 rv) ∧ W.cell? ⟨w.heap.size, 33, none⟩ = some (.string ⟨dg.toArray⟩) ∧ W.cell? ⟨w.heap.size, 34, none⟩ = some (.int .i64 co) ∧ W.cell? ⟨w.heap.size, 35, none⟩ = some (.int .i64 ap) ∧ W.cell? ⟨w.heap.size, 36, none⟩ = some (.int .i64 ae) ∧ W.cell? ⟨w.heap.size, 37, none⟩ = some (.int .u8 a0.toNat) ∧ W.cell? ⟨w.heap.size, 38, none⟩ = some (.int .u8 a1.toNat) ∧ W.cell? ⟨w.heap.size, 39, none⟩ = some (.int .u8 a2.toNat) ∧ W.cell? ⟨w.heap.size, 40, none⟩ = some (.int .u8 a3.toNat) ∧ W.cell? ⟨w.heap.size, 41, none⟩ = some (.int .u8 a4.toNat) ∧ W.cell? ⟨w.heap.size, 42, none⟩ = some (.int .u8 a5.toNat) ∧ W.cell? ⟨w.heap.size, 43, none⟩ = some (.int .i64 ho) ∧ W.cell? ⟨w.heap.size, 44, none⟩ = some (.slice A L.length cap)) := Lib.hid (fun W h => by
    have B := Blk.box (h.at 0 rfl)
    exact ⟨B.cell 31, B.cell 32, B.cell 33, B.cell 34, B.cell 35, B.cell 36, B.cell 37, B.cell 38, B.cell 39, B.cell 40, B.cell 41, B.cell 42, B.cell 43, B.cell 44⟩)
  have I0 := mst_in (Blk.box (H0.out.at 0 rfl))
  have k0 := I0.kind
  have R0 := Lib.hid I0.base
  clear I0
  have HB : Hid (∀ W, Calls Tryd.prog 60 #[.agg b.vals.toArray] W fun e w' => e = .returned (.bool true) ∧ Below W.heap.size W w') := Lib.hid (fun W => by
    have := bpRight_any b W
    rw [hq1] at this
    exact this)
  clear hq1
  simp only [hk] at k0
  clear hk
  go_enter Tryd.func21, Tryd.ntmps21
  go_upto_region 1 with (fail)
  generalize World.alloc _ _ = w0 at *
  go_step
  dsimp only [List.append]
  go_wp2_with (first
    | (with_reducible refine wpList_load_rngG (ty := 44) b.vals (by with_unfolding_all rfl) (by with_unfolding_all rfl) R0.out Tryd.underlying44 (by with_unfolding_all rfl) (by with_unfolding_all exact info44) ?_)
    | ((with_reducible refine (HB.out _).mono ?_)
       rintro e w1 ⟨rfl, hb1⟩
       have H1 := Lib.hid (H0.out.ext hb1)
       obtain ⟨k31, k32, k33, k34, k35, k36, k37, k38, k39, k40, k41, k42, k43, k44⟩ := HC.out _ H1.out
       clear hb1 k0))
  go_ret
  exact ⟨rfl, H1.out.below⟩
set_option maxRecDepth 100000 in
set_option maxHeartbeats 4000000 in
theorem mr_3 (b : Bp) (nm : List UInt8) (rv : Int) (dg : List UInt8) (co : Int) (br : Br) (ho : Int) (L : List Ins) (A : Option Addr) (cap : Nat) (w : World) (hk : b.kind = 3) (hq1 : b.okB = true) (n32 : nm.length ≤ 32) (hq2 : endsNought nm = true) :
    Calls Tryd.prog 21 #[.agg (Mst.vals ⟨b, nm, rv, dg, co, br, ho, L⟩ (.slice A L.length cap)).toArray] w fun e w' => e = .returned (.bool (false)) ∧ Below w.heap.size w w' := by
  obtain ⟨ap, ae, ⟨a0, a1, a2, a3, a4, a5⟩⟩ := br
  have H0 := Lib.hid ((St.init w).alloc (Mst.vals ⟨b, nm, rv, dg, co, ⟨ap, ae, ⟨a0, a1, a2, a3, a4, a5⟩⟩, ho, L⟩ (.slice A L.length cap)) 47)
  have HC : Hid (∀ W, St w.heap.size w W [bk w.heap.size 47 (Mst.vals ⟨b, nm, rv, dg, co, ⟨ap, ae, ⟨a0, a1, a2, a3, a4, a5⟩⟩, ho, L⟩ (.slice A L.length cap))] → W.cell? ⟨w.heap.size, 31, none⟩ = some (.string ⟨nm.toArray⟩) ∧ W.cell? ⟨w.heap.size, 32, none⟩ = some (.int .i64 rv) ∧ W.cell? ⟨w.heap.size, 33, none⟩ = some (.string ⟨dg.toArray⟩) ∧ W.cell? ⟨w.heap.size, 34, none⟩ = some (.int .i64 co) ∧ W.cell? ⟨w.heap.size, 35, none⟩ = some (.int .i64 ap) ∧ W.cell? ⟨w.heap.size, 36, none⟩ = some (.int .i64 ae) ∧ W.cell? ⟨w.heap.size, 37, none⟩ = some (.int .u8 a0.toNat) ∧ W.cell? ⟨w.heap.size, 38, none⟩ = some (.int .u8 a1.toNat) ∧ W.cell? ⟨w.heap.size, 39, none⟩ = some (.int .u8 a2.toNat) ∧ W.cell? ⟨w.heap.size, 40, none⟩ = some (.int .u8 a3.toNat) ∧ W.cell? ⟨w.heap.size, 41, none⟩ = some (.int .u8 a4.toNat) ∧ W.cell? ⟨w.heap.size, 42, none⟩ = some (.int .u8 a5.toNat) ∧ W.cell? ⟨w.heap.size, 43, none⟩ = some (.int .i64 ho) ∧ W.cell? ⟨w.heap.size, 44, none⟩ = some (.slice A L.length cap)) := Lib.hid (fun W h => by
    have B := Blk.box (h.at 0 rfl)
    exact ⟨B.cell 31, B.cell 32, B.cell 33, B.cell 34, B.cell 35, B.cell 36, B.cell 37, B.cell 38, B.cell 39, B.cell 40, B.cell 41, B.cell 42, B.cell 43, B.cell 44⟩)
  have I0 := mst_in (Blk.box (H0.out.at 0 rfl))
  have k0 := I0.kind
  have R0 := Lib.hid I0.base
  clear I0
  have HB : Hid (∀ W, Calls Tryd.prog 60 #[.agg b.vals.toArray] W fun e w' => e = .returned (.bool true) ∧ Below W.heap.size W w') := Lib.hid (fun W => by
    have := bpRight_any b W
    rw [hq1] at this
    exact this)
  clear hq1
  simp only [hk] at k0
  clear hk
  have HN : Hid (∀ W, Calls Tryd.prog 61 #[.string ⟨nm.toArray⟩, .string ⟨#[0]⟩] W fun e w' => e = .returned (.bool true) ∧ w' = W) := Lib.hid (fun W => by
    have := Tryd.strings_HasSuffix ⟨nm.toArray⟩ ⟨#[0]⟩ W (by show nm.toArray.size ≤ _; rw [List.size_toArray]; omega)
    rw [show Lib.hasSuffix nm [0] = endsNought nm from suffix_nought nm, hq2] at this
    exact this)
  go_enter Tryd.func21, Tryd.ntmps21
  go_upto_region 1 with (fail)
  generalize World.alloc _ _ = w0 at *
  go_step
  dsimp only [List.append]
  go_wp2_with (first
    | (with_reducible refine wpList_load_rngG (ty := 44) b.vals (by with_unfolding_all rfl) (by with_unfolding_all rfl) R0.out Tryd.underlying44 (by with_unfolding_all rfl) (by with_unfolding_all exact info44) ?_)
    | ((with_reducible refine (HB.out _).mono ?_)
       rintro e w1 ⟨rfl, hb1⟩
       have H1 := Lib.hid (H0.out.ext hb1)
       obtain ⟨k31, k32, k33, k34, k35, k36, k37, k38, k39, k40, k41, k42, k43, k44⟩ := HC.out _ H1.out
       clear hb1 k0)
    | ((with_reducible refine (HN.out _).mono ?_)
       rintro e w2 ⟨rfl, rfl⟩
       skip))
  go_ret
  exact ⟨rfl, H1.out.below⟩
set_option maxRecDepth 100000 in
set_option maxHeartbeats 4000000 in
theorem mr_4 (b : Bp) (nm : List UInt8) (rv : Int) (dg : List UInt8) (co : Int) (br : Br) (ho : Int) (L : List Ins) (A : Option Addr) (cap : Nat) (w : World) (hk : b.kind = 3) (hq1 : b.okB = true) (n32 : nm.length ≤ 32) (hq2 : endsNought nm = false) (rr0 : ¬ 0 ≤ rv) :
    Calls Tryd.prog 21 #[.agg (Mst.vals ⟨b, nm, rv, dg, co, br, ho, L⟩ (.slice A L.length cap)).toArray] w fun e w' => e = .returned (.bool (false)) ∧ Below w.heap.size w w' := by
  obtain ⟨ap, ae, ⟨a0, a1, a2, a3, a4, a5⟩⟩ := br
  have H0 := Lib.hid ((St.init w).alloc (Mst.vals ⟨b, nm, rv, dg, co, ⟨ap, ae, ⟨a0, a1, a2, a3, a4, a5⟩⟩, ho, L⟩ (.slice A L.length cap)) 47)
  have HC : Hid (∀ W, St w.heap.size w W [bk w.heap.size 47 (Mst.vals ⟨b, nm, rv, dg, co, ⟨ap, ae, ⟨a0, a1, a2, a3, a4, a5⟩⟩, ho, L⟩ (.slice A L.length cap))] → W.cell? ⟨w.heap.size, 31, none⟩ = some (.string ⟨nm.toArray⟩) ∧ W.cell? ⟨w.heap.size, 32, none⟩ = some (.int .i64 rv) ∧ W.cell? ⟨w.heap.size, 33, none⟩ = some (.string ⟨dg.toArray⟩) ∧ W.cell? ⟨w.heap.size, 34, none⟩ = some (.int .i64 co) ∧ W.cell? ⟨w.heap.size, 35, none⟩ = some (.int .i64 ap) ∧ W.cell? ⟨w.heap.size, 36, none⟩ = some (.int .i64 ae) ∧ W.cell? ⟨w.heap.size, 37, none⟩ = some (.int .u8 a0.toNat) ∧ W.cell? ⟨w.heap.size, 38, none⟩ = some (.int .u8 a1.toNat) ∧ W.cell? ⟨w.heap.size, 39, none⟩ = some (.int .u8 a2.toNat) ∧ W.cell? ⟨w.heap.size, 40, none⟩ = some (.int .u8 a3.toNat) ∧ W.cell? ⟨w.heap.size, 41, none⟩ = some (.int .u8 a4.toNat) ∧ W.cell? ⟨w.heap.size, 42, none⟩ = some (.int .u8 a5.toNat) ∧ W.cell? ⟨w.heap.size, 43, none⟩ = some (.int .i64 ho) ∧ W.cell? ⟨w.heap.size, 44, none⟩ = some (.slice A L.length cap)) := Lib.hid (fun W h => by
    have B := Blk.box (h.at 0 rfl)
    exact ⟨B.cell 31, B.cell 32, B.cell 33, B.cell 34, B.cell 35, B.cell 36, B.cell 37, B.cell 38, B.cell 39, B.cell 40, B.cell 41, B.cell 42, B.cell 43, B.cell 44⟩)
  have I0 := mst_in (Blk.box (H0.out.at 0 rfl))
  have k0 := I0.kind
  have R0 := Lib.hid I0.base
  clear I0
  have HB : Hid (∀ W, Calls Tryd.prog 60 #[.agg b.vals.toArray] W fun e w' => e = .returned (.bool true) ∧ Below W.heap.size W w') := Lib.hid (fun W => by
    have := bpRight_any b W
    rw [hq1] at this
    exact this)
  clear hq1
  simp only [hk] at k0
  clear hk
  have HN : Hid (∀ W, Calls Tryd.prog 61 #[.string ⟨nm.toArray⟩, .string ⟨#[0]⟩] W fun e w' => e = .returned (.bool false) ∧ w' = W) := Lib.hid (fun W => by
    have := Tryd.strings_HasSuffix ⟨nm.toArray⟩ ⟨#[0]⟩ W (by show nm.toArray.size ≤ _; rw [List.size_toArray]; omega)
    rw [show Lib.hasSuffix nm [0] = endsNought nm from suffix_nought nm, hq2] at this
    exact this)
  go_enter Tryd.func21, Tryd.ntmps21
  go_upto_region 1 with (fail)
  generalize World.alloc _ _ = w0 at *
  go_step
  dsimp only [List.append]
  go_wp2_with (first
    | (with_reducible refine wpList_load_rngG (ty := 44) b.vals (by with_unfolding_all rfl) (by with_unfolding_all rfl) R0.out Tryd.underlying44 (by with_unfolding_all rfl) (by with_unfolding_all exact info44) ?_)
    | ((with_reducible refine (HB.out _).mono ?_)
       rintro e w1 ⟨rfl, hb1⟩
       have H1 := Lib.hid (H0.out.ext hb1)
       obtain ⟨k31, k32, k33, k34, k35, k36, k37, k38, k39, k40, k41, k42, k43, k44⟩ := HC.out _ H1.out
       clear hb1 k0)
    | ((with_reducible refine (HN.out _).mono ?_)
       rintro e w2 ⟨rfl, rfl⟩
       skip))
  go_ret
  exact ⟨rfl, H1.out.below⟩
set_option maxRecDepth 100000 in
set_option maxHeartbeats 4000000 in
theorem mr_5 (b : Bp) (nm : List UInt8) (rv : Int) (dg : List UInt8) (co : Int) (br : Br) (ho : Int) (L : List Ins) (A : Option Addr) (cap : Nat) (w : World) (hk : b.kind = 3) (hq1 : b.okB = true) (n32 : nm.length ≤ 32) (hq2 : endsNought nm = false) (rr0 : 0 ≤ rv) (rr1 : ¬ rv ≤ 65535) :
    Calls Tryd.prog 21 #[.agg (Mst.vals ⟨b, nm, rv, dg, co, br, ho, L⟩ (.slice A L.length cap)).toArray] w fun e w' => e = .returned (.bool (false)) ∧ Below w.heap.size w w' := by
  obtain ⟨ap, ae, ⟨a0, a1, a2, a3, a4, a5⟩⟩ := br
  have H0 := Lib.hid ((St.init w).alloc (Mst.vals ⟨b, nm, rv, dg, co, ⟨ap, ae, ⟨a0, a1, a2, a3, a4, a5⟩⟩, ho, L⟩ (.slice A L.length cap)) 47)
  have HC : Hid (∀ W, St w.heap.size w W [bk w.heap.size 47 (Mst.vals ⟨b, nm, rv, dg, co, ⟨ap, ae, ⟨a0, a1, a2, a3, a4, a5⟩⟩, ho, L⟩ (.slice A L.length cap))] → W.cell? ⟨w.heap.size, 31, none⟩ = some (.string ⟨nm.toArray⟩) ∧ W.cell? ⟨w.heap.size, 32, none⟩ = some (.int .i64 rv) ∧ W.cell? ⟨w.heap.size, 33, none⟩ = some (.string ⟨dg.toArray⟩) ∧ W.cell? ⟨w.heap.size, 34, none⟩ = some (.int .i64 co) ∧ W.cell? ⟨w.heap.size, 35, none⟩ = some (.int .i64 ap) ∧ W.cell? ⟨w.heap.size, 36, none⟩ = some (.int .i64 ae) ∧ W.cell? ⟨w.heap.size, 37, none⟩ = some (.int .u8 a0.toNat) ∧ W.cell? ⟨w.heap.size, 38, none⟩ = some (.int .u8 a1.toNat) ∧ W.cell? ⟨w.heap.size, 39, none⟩ = some (.int .u8 a2.toNat) ∧ W.cell? ⟨w.heap.size, 40, none⟩ = some (.int .u8 a3.toNat) ∧ W.cell? ⟨w.heap.size, 41, none⟩ = some (.int .u8 a4.toNat) ∧ W.cell? ⟨w.heap.size, 42, none⟩ = some (.int .u8 a5.toNat) ∧ W.cell? ⟨w.heap.size, 43, none⟩ = some (.int .i64 ho) ∧ W.cell? ⟨w.heap.size, 44, none⟩ = some (.slice A L.length cap)) := Lib.hid (fun W h => by
    have B := Blk.box (h.at 0 rfl)
    exact ⟨B.cell 31, B.cell 32, B.cell 33, B.cell 34, B.cell 35, B.cell 36, B.cell 37, B.cell 38, B.cell 39, B.cell 40, B.cell 41, B.cell 42, B.cell 43, B.cell 44⟩)
  have I0 := mst_in (Blk.box (H0.out.at 0 rfl))
  have k0 := I0.kind
  have R0 := Lib.hid I0.base
  clear I0
  have HB : Hid (∀ W, Calls Tryd.prog 60 #[.agg b.vals.toArray] W fun e w' => e = .returned (.bool true) ∧ Below W.heap.size W w') := Lib.hid (fun W => by
    have := bpRight_any b W
    rw [hq1] at this
    exact this)
  clear hq1
  simp only [hk] at k0
  clear hk
  have HN : Hid (∀ W, Calls Tryd.prog 61 #[.string ⟨nm.toArray⟩, .string ⟨#[0]⟩] W fun e w' => e = .returned (.bool false) ∧ w' = W) := Lib.hid (fun W => by
    have := Tryd.strings_HasSuffix ⟨nm.toArray⟩ ⟨#[0]⟩ W (by show nm.toArray.size ≤ _; rw [List.size_toArray]; omega)
    rw [show Lib.hasSuffix nm [0] = endsNought nm from suffix_nought nm, hq2] at this
    exact this)
  go_enter Tryd.func21, Tryd.ntmps21
  go_upto_region 1 with (fail)
  generalize World.alloc _ _ = w0 at *
  go_step
  dsimp only [List.append]
  go_wp2_with (first
    | (with_reducible refine wpList_load_rngG (ty := 44) b.vals (by with_unfolding_all rfl) (by with_unfolding_all rfl) R0.out Tryd.underlying44 (by with_unfolding_all rfl) (by with_unfolding_all exact info44) ?_)
    | ((with_reducible refine (HB.out _).mono ?_)
       rintro e w1 ⟨rfl, hb1⟩
       have H1 := Lib.hid (H0.out.ext hb1)
       obtain ⟨k31, k32, k33, k34, k35, k36, k37, k38, k39, k40, k41, k42, k43, k44⟩ := HC.out _ H1.out
       clear hb1 k0)
    | ((with_reducible refine (HN.out _).mono ?_)
       rintro e w2 ⟨rfl, rfl⟩
       skip))
  go_ret
  exact ⟨rfl, H1.out.below⟩
set_option maxRecDepth 100000 in
set_option maxHeartbeats 4000000 in
theorem mr_6 (b : Bp) (nm : List UInt8) (rv : Int) (dg : List UInt8) (co : Int) (br : Br) (ho : Int) (L : List Ins) (A : Option Addr) (cap : Nat) (w : World) (hk : b.kind = 3) (hq1 : b.okB = true) (n32 : nm.length ≤ 32) (hq2 : endsNought nm = false) (rr0 : 0 ≤ rv) (rr1 : rv ≤ 65535) (hd : ¬ dg.length = 16) :
    Calls Tryd.prog 21 #[.agg (Mst.vals ⟨b, nm, rv, dg, co, br, ho, L⟩ (.slice A L.length cap)).toArray] w fun e w' => e = .returned (.bool (false)) ∧ Below w.heap.size w w' := by
  obtain ⟨ap, ae, ⟨a0, a1, a2, a3, a4, a5⟩⟩ := br
  have H0 := Lib.hid ((St.init w).alloc (Mst.vals ⟨b, nm, rv, dg, co, ⟨ap, ae, ⟨a0, a1, a2, a3, a4, a5⟩⟩, ho, L⟩ (.slice A L.length cap)) 47)
  have HC : Hid (∀ W, St w.heap.size w W [bk w.heap.size 47 (Mst.vals ⟨b, nm, rv, dg, co, ⟨ap, ae, ⟨a0, a1, a2, a3, a4, a5⟩⟩, ho, L⟩ (.slice A L.length cap))] → W.cell? ⟨w.heap.size, 31, none⟩ = some (.string ⟨nm.toArray⟩) ∧ W.cell? ⟨w.heap.size, 32, none⟩ = some (.int .i64 rv) ∧ W.cell? ⟨w.heap.size, 33, none⟩ = some (.string ⟨dg.toArray⟩) ∧ W.cell? ⟨w.heap.size, 34, none⟩ = some (.int .i64 co) ∧ W.cell? ⟨w.heap.size, 35, none⟩ = some (.int .i64 ap) ∧ W.cell? ⟨w.heap.size, 36, none⟩ = some (.int .i64 ae) ∧ W.cell? ⟨w.heap.size, 37, none⟩ = some (.int .u8 a0.toNat) ∧ W.cell? ⟨w.heap.size, 38, none⟩ = some (.int .u8 a1.toNat) ∧ W.cell? ⟨w.heap.size, 39, none⟩ = some (.int .u8 a2.toNat) ∧ W.cell? ⟨w.heap.size, 40, none⟩ = some (.int .u8 a3.toNat) ∧ W.cell? ⟨w.heap.size, 41, none⟩ = some (.int .u8 a4.toNat) ∧ W.cell? ⟨w.heap.size, 42, none⟩ = some (.int .u8 a5.toNat) ∧ W.cell? ⟨w.heap.size, 43, none⟩ = some (.int .i64 ho) ∧ W.cell? ⟨w.heap.size, 44, none⟩ = some (.slice A L.length cap)) := Lib.hid (fun W h => by
    have B := Blk.box (h.at 0 rfl)
    exact ⟨B.cell 31, B.cell 32, B.cell 33, B.cell 34, B.cell 35, B.cell 36, B.cell 37, B.cell 38, B.cell 39, B.cell 40, B.cell 41, B.cell 42, B.cell 43, B.cell 44⟩)
  have I0 := mst_in (Blk.box (H0.out.at 0 rfl))
  have k0 := I0.kind
  have R0 := Lib.hid I0.base
  clear I0
  have HB : Hid (∀ W, Calls Tryd.prog 60 #[.agg b.vals.toArray] W fun e w' => e = .returned (.bool true) ∧ Below W.heap.size W w') := Lib.hid (fun W => by
    have := bpRight_any b W
    rw [hq1] at this
    exact this)
  clear hq1
  simp only [hk] at k0
  clear hk
  have HN : Hid (∀ W, Calls Tryd.prog 61 #[.string ⟨nm.toArray⟩, .string ⟨#[0]⟩] W fun e w' => e = .returned (.bool false) ∧ w' = W) := Lib.hid (fun W => by
    have := Tryd.strings_HasSuffix ⟨nm.toArray⟩ ⟨#[0]⟩ W (by show nm.toArray.size ≤ _; rw [List.size_toArray]; omega)
    rw [show Lib.hasSuffix nm [0] = endsNought nm from suffix_nought nm, hq2] at this
    exact this)
  have ed : ((dg.length : Int) == 16) = false := by simp; omega
  go_enter Tryd.func21, Tryd.ntmps21
  go_upto_region 1 with (fail)
  generalize World.alloc _ _ = w0 at *
  go_step
  dsimp only [List.append]
  go_wp2_with (first
    | (with_reducible refine wpList_load_rngG (ty := 44) b.vals (by with_unfolding_all rfl) (by with_unfolding_all rfl) R0.out Tryd.underlying44 (by with_unfolding_all rfl) (by with_unfolding_all exact info44) ?_)
    | ((with_reducible refine (HB.out _).mono ?_)
       rintro e w1 ⟨rfl, hb1⟩
       have H1 := Lib.hid (H0.out.ext hb1)
       obtain ⟨k31, k32, k33, k34, k35, k36, k37, k38, k39, k40, k41, k42, k43, k44⟩ := HC.out _ H1.out
       clear hb1 k0)
    | ((with_reducible refine (HN.out _).mono ?_)
       rintro e w2 ⟨rfl, rfl⟩
       skip))
  go_ret
  exact ⟨rfl, H1.out.below⟩
set_option maxRecDepth 100000 in
set_option maxHeartbeats 4000000 in
theorem mr_7 (b : Bp) (nm : List UInt8) (rv : Int) (dg : List UInt8) (co : Int) (br : Br) (ho : Int) (L : List Ins) (A : Option Addr) (cap : Nat) (w : World) (hk : b.kind = 3) (hq1 : b.okB = true) (n32 : nm.length ≤ 32) (hq2 : endsNought nm = false) (rr0 : 0 ≤ rv) (rr1 : rv ≤ 65535) (hd : dg.length = 16) (cc0 : ¬ 0 ≤ co) :
    Calls Tryd.prog 21 #[.agg (Mst.vals ⟨b, nm, rv, dg, co, br, ho, L⟩ (.slice A L.length cap)).toArray] w fun e w' => e = .returned (.bool (false)) ∧ Below w.heap.size w w' := by
  obtain ⟨ap, ae, ⟨a0, a1, a2, a3, a4, a5⟩⟩ := br
  have H0 := Lib.hid ((St.init w).alloc (Mst.vals ⟨b, nm, rv, dg, co, ⟨ap, ae, ⟨a0, a1, a2, a3, a4, a5⟩⟩, ho, L⟩ (.slice A L.length cap)) 47)
  have HC : Hid (∀ W, St w.heap.size w W [bk w.heap.size 47 (Mst.vals ⟨b, nm, rv, dg, co, ⟨ap, ae, ⟨a0, a1, a2, a3, a4, a5⟩⟩, ho, L⟩ (.slice A L.length cap))] → W.cell? ⟨w.heap.size, 31, none⟩ = some (.string ⟨nm.toArray⟩) ∧ W.cell? ⟨w.heap.size, 32, none⟩ = some (.int .i64 rv) ∧ W.cell? ⟨w.heap.size, 33, none⟩ = some (.string ⟨dg.toArray⟩) ∧ W.cell? ⟨w.heap.size, 34, none⟩ = some (.int .i64 co) ∧ W.cell? ⟨w.heap.size, 35, none⟩ = some (.int .i64 ap) ∧ W.cell? ⟨w.heap.size, 36, none⟩ = some (.int .i64 ae) ∧ W.cell? ⟨w.heap.size, 37, none⟩ = some (.int .u8 a0.toNat) ∧ W.cell? ⟨w.heap.size, 38, none⟩ = some (.int .u8 a1.toNat) ∧ W.cell? ⟨w.heap.size, 39, none⟩ = some (.int .u8 a2.toNat) ∧ W.cell? ⟨w.heap.size, 40, none⟩ = some (.int .u8 a3.toNat) ∧ W.cell? ⟨w.heap.size, 41, none⟩ = some (.int .u8 a4.toNat) ∧ W.cell? ⟨w.heap.size, 42, none⟩ = some (.int .u8 a5.toNat) ∧ W.cell? ⟨w.heap.size, 43, none⟩ = some (.int .i64 ho) ∧ W.cell? ⟨w.heap.size, 44, none⟩ = some (.slice A L.length cap)) := Lib.hid (fun W h => by
    have B := Blk.box (h.at 0 rfl)
    exact ⟨B.cell 31, B.cell 32, B.cell 33, B.cell 34, B.cell 35, B.cell 36, B.cell 37, B.cell 38, B.cell 39, B.cell 40, B.cell 41, B.cell 42, B.cell 43, B.cell 44⟩)
  have I0 := mst_in (Blk.box (H0.out.at 0 rfl))
  have k0 := I0.kind
  have R0 := Lib.hid I0.base
  clear I0
  have HB : Hid (∀ W, Calls Tryd.prog 60 #[.agg b.vals.toArray] W fun e w' => e = .returned (.bool true) ∧ Below W.heap.size W w') := Lib.hid (fun W => by
    have := bpRight_any b W
    rw [hq1] at this
    exact this)
  clear hq1
  simp only [hk] at k0
  clear hk
  have HN : Hid (∀ W, Calls Tryd.prog 61 #[.string ⟨nm.toArray⟩, .string ⟨#[0]⟩] W fun e w' => e = .returned (.bool false) ∧ w' = W) := Lib.hid (fun W => by
    have := Tryd.strings_HasSuffix ⟨nm.toArray⟩ ⟨#[0]⟩ W (by show nm.toArray.size ≤ _; rw [List.size_toArray]; omega)
    rw [show Lib.hasSuffix nm [0] = endsNought nm from suffix_nought nm, hq2] at this
    exact this)
  have ed : ((dg.length : Int) == 16) = true := by simp [hd]
  go_enter Tryd.func21, Tryd.ntmps21
  go_upto_region 1 with (fail)
  generalize World.alloc _ _ = w0 at *
  go_step
  dsimp only [List.append]
  go_wp2_with (first
    | (with_reducible refine wpList_load_rngG (ty := 44) b.vals (by with_unfolding_all rfl) (by with_unfolding_all rfl) R0.out Tryd.underlying44 (by with_unfolding_all rfl) (by with_unfolding_all exact info44) ?_)
    | ((with_reducible refine (HB.out _).mono ?_)
       rintro e w1 ⟨rfl, hb1⟩
       have H1 := Lib.hid (H0.out.ext hb1)
       obtain ⟨k31, k32, k33, k34, k35, k36, k37, k38, k39, k40, k41, k42, k43, k44⟩ := HC.out _ H1.out
       clear hb1 k0)
    | ((with_reducible refine (HN.out _).mono ?_)
       rintro e w2 ⟨rfl, rfl⟩
       skip))
  go_ret
  exact ⟨rfl, H1.out.below⟩
end Go.Proofs.YteibhcocldihbaaDoor
