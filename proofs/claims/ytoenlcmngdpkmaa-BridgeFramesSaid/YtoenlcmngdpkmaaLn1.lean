/- The table of addresses in memory; address, Group, Look, Len. -/
import Derived.Test.YtoenlcmngdpkmaaLn0
import Derived.Lib.VarintBits
namespace Go.Proofs.Ytoenlcmngdpkmaa
open Go.RowKit
def Ent.vals (e : Ent) : List Value := .int .i64 e.vid :: (e.ad.vals ++ [.int .i64 e.port, .int .i64 e.tm])
theorem Ent.one (e : Ent) : ∀ v ∈ e.vals, v.oneCell' = true := fun v hv => by
  simp only [Ent.vals, List.mem_cons, List.mem_append, List.not_mem_nil, or_false] at hv
  rcases hv with rfl | h | rfl | rfl
  · rfl
  · exact e.ad.one v h
  · rfl
  · rfl
theorem Ent.len (e : Ent) : e.vals.length = 9 := rfl
def zEnt : List Value := [.int .i64 0, .int .u8 0, .int .u8 0, .int .u8 0, .int .u8 0, .int .u8 0, .int .u8 0, .int .i64 0, .int .i64 0]
def erows (es : List Ent) : List Value := (es.map Ent.vals).flatten
theorem erows_len (es : List Ent) : (erows es).length = es.length * 9 := by
  unfold erows
  rw [flat_len (s := 9) (fun c hc => by obtain ⟨m, _, rfl⟩ := List.mem_map.1 hc; rfl), List.length_map]
theorem erows_snoc (es : List Ent) (e : Ent) : erows (es ++ [e]) = erows es ++ e.vals := by simp [erows]
theorem erows_one (es : List Ent) : ∀ u ∈ erows es, u.oneCell' = true := by
  intro u hu
  unfold erows at hu
  simp only [List.mem_flatten, List.mem_map] at hu
  obtain ⟨_, ⟨v, _, rfl⟩, hu⟩ := hu
  exact v.one u hu
theorem info88 : (Try.prog.info? 88).map (·.size) = some 9 := by kernel_rfl
theorem elemEnt : ElemOk Try.prog 84 88 9 32 := by
  have h : (Try.prog.info? 88).map (fun i => (i.zero, i.size, i.bytes)) = some (some (.agg #[.int .i64 0, .int .u8 0, .int .u8 0, .int .u8 0, .int .u8 0, .int .u8 0, .int .u8 0, .int .i64 0, .int .i64 0]), 9, 32) := by kernel_rfl
  obtain ⟨i, hi, hz, hs, hb⟩ := info_parts h
  exact ⟨Try.underlying84, i, _, hi, hz, hs, hb, rfl, by decide⟩
/-- A table in memory: its block, and its row of entries. -/
structure TabIn (w : World) (base T : Nat) (age now : Int) (sv : Value) (es : List Ent) : Prop where
  blk : Blk w T 86 [.int .i64 age, .int .i64 now, sv]
  row : w.ownsRow base 88 9 sv es.length (erows es)
theorem TabIn.below {w W : World} {base T B : Nat} {age now : Int} {sv : Value} {es : List Ent} (h : TabIn w base T age now sv es) (hb : Below B w W) (hB : w.heap.size ≤ B) : TabIn W base T age now sv es :=
  ⟨h.blk.below hb (Nat.lt_of_lt_of_le h.blk.lt hB), own_below h.row hb hB⟩
theorem TabIn.lt {w : World} {base T : Nat} {age now : Int} {sv : Value} {es : List Ent} (h : TabIn w base T age now sv es) : T < w.heap.size := h.blk.lt
/-- The entries of a row. -/
theorem ent_rows {w : World} {base n : Nat} {sv : Value} {es : List Ent} (h : w.ownsRow base 88 9 sv n (erows es)) (hn : es.length = n) :
    ∃ A cap, sv = .slice A n cap ∧ n ≤ cap ∧ (0 < n → ∃ g, A = some ⟨g, 0, none⟩ ∧ base ≤ g ∧ g < w.heap.size ∧ ∀ k (hk : k < es.length), w.rangeAt g (k * 9) es[k].vals) := by
  obtain ⟨A, cap, e, hc, hr⟩ := own_row (C := es.map Ent.vals) h (fun c hc => by obtain ⟨v, _, rfl⟩ := List.mem_map.1 hc; rfl) (by rw [List.length_map]; exact hn)
  refine ⟨A, cap, e, hc, fun h0 => ?_⟩
  obtain ⟨g, e1, e2, e3, hk⟩ := hr h0
  refine ⟨g, e1, e2, e3, fun k hk' => ?_⟩
  have := hk k (by rw [List.length_map]; exact hk')
  rw [List.getElem_map] at this
  exact this
theorem look_at {es : List Ent} {vid : Int} {a : Ad} {now age : Int} {k : Nat} (hk : k < es.length) (h : (es[k].is vid a && es[k].on now age) = true) (hb : ∀ j (hj : j < es.length), j < k → (es[j].is vid a && es[j].on now age) = false) : lookM es vid a now age = es[k].port := by
  unfold lookM
  have : es.find? (fun e => e.is vid a && e.on now age) = some es[k] := by
    rw [List.find?_eq_some_iff_getElem]
    exact ⟨h, k, hk, rfl, fun j hj => by rw [hb j (by omega) hj]; rfl⟩
  rw [this]
theorem look_none {es : List Ent} {vid : Int} {a : Ad} {now age : Int} (hb : ∀ j (hj : j < es.length), (es[j].is vid a && es[j].on now age) = false) : lookM es vid a now age = -1 := by
  unfold lookM
  have : es.find? (fun e => e.is vid a && e.on now age) = none := by
    rw [List.find?_eq_none]
    intro e he
    obtain ⟨j, hj, rfl⟩ := List.getElem_of_mem he
    rw [hb j hj]; simp
  rw [this]
theorem adOf_a (k : Nat) : (adOf k).a = 2 := rfl
set_option maxRecDepth 100000 in
set_option maxHeartbeats 1000000 in
theorem address_any (x : Int) (w : World) :
    Calls Try.prog 18 #[.int .i64 x] w fun e w' => e = .returned (.agg (adOf (pickN x 60)).vals.toArray) ∧ Below w.heap.size w w' := by
  have hp : ∀ W, Calls Try.prog 16 #[.int .i64 x, .int .i64 60] W fun e w' => e = .returned (.int .i64 (pickN x 60 : Nat)) ∧ W = w' := fun W => pick_any x 60 W (by omega) (by omega)
  have hlt := pickN_lt x 60 (by omega)
  generalize pickN x 60 = p at *
  have HP := Lib.hid hp
  clear hp
  have hv : (adOf p).vals = [.int .u8 2, .int .u8 0, .int .u8 0, .int .u8 0, .int .u8 ((p : Int) / 8), .int .u8 (p : Int)] := by
    have h8 : ((p : Int) / 8) = ((p / 8 : Nat) : Int) := by omega
    rw [h8]
    have e1 : (UInt8.ofNat (p / 8)).toNat = p / 8 := by rw [UInt8.toNat_ofNat']; omega
    have e2 : (UInt8.ofNat p).toNat = p := by rw [UInt8.toNat_ofNat']; omega
    unfold adOf Ad.vals
    simp only [e1, e2]
    rfl
  have Hv := Lib.hid hv
  clear hv
  go_enter Try.func18, Try.ntmps18
  go_upto_region 1 with (fail)
  obtain ⟨hA, hfA, lA, hb⟩ := one_box w _ _ _ rfl
  generalize w.alloc _ = W at *
  have ht := Lib.hid (there_of (n := 6) hA hfA rfl)
  clear hA hfA
  go_wp2_with (first
    | ((with_reducible refine (HP.out _).mono ?_)
       rintro e w' ⟨rfl, rfl⟩)
    | ((with_reducible refine wpList_store_tmp (b := ?b) [.int .u8 2, .int .u8 0, .int .u8 0, .int .u8 0, .int .u8 ((p : Int) / 8), .int .u8 (p : Int)] ?hx ?hy ?ht ?hi ?h1 ?hk)
       case hx => rfl
       case hy => rfl
       case ht => exact ht.out
       case hi => exact info30
       case h1 => rw [← Hv.out]; exact (adOf p).one
       intro W2 hr hb2 _))
  refine ret_cell (cs := (adOf p).vals) rfl rfl (by rw [Hv.out]; exact hr) Try.underlying30 rfl info30 rfl ⟨rfl, hb2 _ _ (Nat.le_refl _) hb⟩
theorem u8_low (x : UInt8) : bits .and .u8 (x.toNat : Int) 1 = ((x.toNat % 2 : Nat) : Int) := by
  have h := bits_mask .u8 8 (by decide) wraps_u8 1 (by decide) (x.toNat : Int) (by omega) (by have := x.toNat_lt; omega)
  have h2 : ((2 ^ 1 - 1 : Nat) : Int) = 1 := rfl
  refine Eq.trans h ?_
  omega
set_option maxRecDepth 100000 in
theorem group_any (a : Ad) (w : World) :
    Calls Try.prog 46 #[.agg a.vals.toArray] w fun e w' => e = .returned (.bool (decide (a.a.toNat % 2 = 1))) ∧ Below w.heap.size w w' := by
  obtain ⟨a0, a1, a2, a3, a4, a5⟩ := a
  simp only [Ad.vals]
  have hb := u8_low a0
  have hq : (((a0.toNat % 2 : Nat) : Int) == 1) = decide (a0.toNat % 2 = 1) := by
    rw [Bool.eq_iff_iff]; simp only [beq_iff_eq, decide_eq_true_eq]; omega
  generalize hm : a0.toNat % 2 = m at *
  clear hm
  go_enter Try.func46, Try.ntmps46
  go_wp2_with fail
  go_ret
  exact ⟨rfl, (Below.refl _ _).alloc (Nat.le_refl _) _⟩
end Go.Proofs.Ytoenlcmngdpkmaa
