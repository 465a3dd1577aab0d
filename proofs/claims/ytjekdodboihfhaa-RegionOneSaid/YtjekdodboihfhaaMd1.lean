/- md5: numbers; math/bits.RotateLeft32. (Printed by tools/mkmd1.py.) -/
import Derived.Test.YtjekdodboihfhaaMdM
import Derived.Test.YtjekdodboihfhaaItems
import Derived.Test.YtjekdodboihfhaaShelf
import Derived.Test.YtjekdodboihfhaaHeldG
import Derived.Test.YtjekdodboihfhaaQuietTail
import Derived.StillTailTactics
import Derived.Deep.DeepMust
set_option linter.all false
namespace Go.Proofs.Ytjekdodboihfhaa
open Go.RowKit
theorem wpList_buildA {P : Program} {ops : Array Oper} {rest : List Oper} {d : Tmp} {t : TypeId} {parts : Array (Nat × Operand)} {t' : TypeId} {pos : String} {after : Array Edge} {a : Act} {w : World} {Q : Exit → Act → World → Prop} (vs : List (Nat × Value)) (cells : List Value)
    (hv : (parts.map fun (i, x) => (i, a.eval x)).toList = vs) (hc : P.built t vs = some cells.toArray) (h : wpList P ops Q rest (a.put (some d) (.agg cells.toArray)) w) :
    wpList P ops Q (⟨some d, .build t parts, t', pos, after, none⟩ :: rest) a w := by
  refine wpList_build rfl t parts rfl (by rw [hv, hc]; rfl) ?_
  rw [hv, hc]; exact h
def numV : List Value := [.int .u32 3614090360, .int .u32 3905402710, .int .u32 606105819, .int .u32 3250441966, .int .u32 4118548399, .int .u32 1200080426, .int .u32 2821735955, .int .u32 4249261313, .int .u32 1770035416, .int .u32 2336552879, .int .u32 4294925233, .int .u32 2304563134, .int .u32 1804603682, .int .u32 4254626195, .int .u32 2792965006, .int .u32 1236535329, .int .u32 4129170786, .int .u32 3225465664, .int .u32 643717713, .int .u32 3921069994, .int .u32 3593408605, .int .u32 38016083, .int .u32 3634488961, .int .u32 3889429448, .int .u32 568446438, .int .u32 3275163606, .int .u32 4107603335, .int .u32 1163531501, .int .u32 2850285829, .int .u32 4243563512, .int .u32 1735328473, .int .u32 2368359562, .int .u32 4294588738, .int .u32 2272392833, .int .u32 1839030562, .int .u32 4259657740, .int .u32 2763975236, .int .u32 1272893353, .int .u32 4139469664, .int .u32 3200236656, .int .u32 681279174, .int .u32 3936430074, .int .u32 3572445317, .int .u32 76029189, .int .u32 3654602809, .int .u32 3873151461, .int .u32 530742520, .int .u32 3299628645, .int .u32 4096336452, .int .u32 1126891415, .int .u32 2878612391, .int .u32 4237533241, .int .u32 1700485571, .int .u32 2399980690, .int .u32 4293915773, .int .u32 2240044497, .int .u32 1873313359, .int .u32 4264355552, .int .u32 2734768916, .int .u32 1309151649, .int .u32 4149444226, .int .u32 3174756917, .int .u32 718787259, .int .u32 3951481745]
@[reducible] def z64 : List Value := [.int .u32 0, .int .u32 0, .int .u32 0, .int .u32 0, .int .u32 0, .int .u32 0, .int .u32 0, .int .u32 0, .int .u32 0, .int .u32 0, .int .u32 0, .int .u32 0, .int .u32 0, .int .u32 0, .int .u32 0, .int .u32 0, .int .u32 0, .int .u32 0, .int .u32 0, .int .u32 0, .int .u32 0, .int .u32 0, .int .u32 0, .int .u32 0, .int .u32 0, .int .u32 0, .int .u32 0, .int .u32 0, .int .u32 0, .int .u32 0, .int .u32 0, .int .u32 0, .int .u32 0, .int .u32 0, .int .u32 0, .int .u32 0, .int .u32 0, .int .u32 0, .int .u32 0, .int .u32 0, .int .u32 0, .int .u32 0, .int .u32 0, .int .u32 0, .int .u32 0, .int .u32 0, .int .u32 0, .int .u32 0, .int .u32 0, .int .u32 0, .int .u32 0, .int .u32 0, .int .u32 0, .int .u32 0, .int .u32 0, .int .u32 0, .int .u32 0, .int .u32 0, .int .u32 0, .int .u32 0, .int .u32 0, .int .u32 0, .int .u32 0, .int .u32 0]
theorem numV_one : ∀ v ∈ numV, v.oneCell' = true := by decide
theorem info109 : (Try.prog.info? 109).map (·.size) = some 64 := by kernel_rfl
theorem info64 : (Try.prog.info? 64).map (·.size) = some 4 := by kernel_rfl
theorem num_built : Try.prog.built 109 [(0, .int .u32 3614090360), (1, .int .u32 3905402710), (2, .int .u32 606105819), (3, .int .u32 3250441966), (4, .int .u32 4118548399), (5, .int .u32 1200080426), (6, .int .u32 2821735955), (7, .int .u32 4249261313), (8, .int .u32 1770035416), (9, .int .u32 2336552879), (10, .int .u32 4294925233), (11, .int .u32 2304563134), (12, .int .u32 1804603682), (13, .int .u32 4254626195), (14, .int .u32 2792965006), (15, .int .u32 1236535329), (16, .int .u32 4129170786), (17, .int .u32 3225465664), (18, .int .u32 643717713), (19, .int .u32 3921069994), (20, .int .u32 3593408605), (21, .int .u32 38016083), (22, .int .u32 3634488961), (23, .int .u32 3889429448), (24, .int .u32 568446438), (25, .int .u32 3275163606), (26, .int .u32 4107603335), (27, .int .u32 1163531501), (28, .int .u32 2850285829), (29, .int .u32 4243563512), (30, .int .u32 1735328473), (31, .int .u32 2368359562), (32, .int .u32 4294588738), (33, .int .u32 2272392833), (34, .int .u32 1839030562), (35, .int .u32 4259657740), (36, .int .u32 2763975236), (37, .int .u32 1272893353), (38, .int .u32 4139469664), (39, .int .u32 3200236656), (40, .int .u32 681279174), (41, .int .u32 3936430074), (42, .int .u32 3572445317), (43, .int .u32 76029189), (44, .int .u32 3654602809), (45, .int .u32 3873151461), (46, .int .u32 530742520), (47, .int .u32 3299628645), (48, .int .u32 4096336452), (49, .int .u32 1126891415), (50, .int .u32 2878612391), (51, .int .u32 4237533241), (52, .int .u32 1700485571), (53, .int .u32 2399980690), (54, .int .u32 4293915773), (55, .int .u32 2240044497), (56, .int .u32 1873313359), (57, .int .u32 4264355552), (58, .int .u32 2734768916), (59, .int .u32 1309151649), (60, .int .u32 4149444226), (61, .int .u32 3174756917), (62, .int .u32 718787259), (63, .int .u32 3951481745)] = some numV.toArray := by kernel_rfl
set_option maxRecDepth 100000 in
set_option maxHeartbeats 2000000 in
theorem numbers_any (w : World) : Calls Try.prog 65 #[] w fun e w' => e = .returned (.agg numV.toArray) ∧ Below w.heap.size w w' := by
  go_enter Try.func65, Try.ntmps65
  go_upto_region 1 with (fail)
  go_step
  refine wpList_buildA _ numV rfl (by kernel_rfl) ?_
  simp only [Act.put, List.setIfInBounds_toArray, List.set_cons_zero, List.set_cons_succ]
  go_wp2_with (first
    | (with_reducible refine wpList_store_blk (ty := 109) (o := 0) _ numV (by with_unfolding_all rfl) (by with_unfolding_all rfl) (Blk.new w z64 109) (by with_unfolding_all exact Nat.le_refl _) (by with_unfolding_all exact info109) numV_one (fun W1 hBW1 hoW1 => ?_)))
  have h1 := ((St.init w).alloc z64 109).sets (L' := numV) hBW1 hoW1
  exact ret_cell (cs := numV) Try.results65 (by rfl) (Blk.box h1.head).range Try.underlying109 rfl info109 rfl ⟨rfl, h1.below⟩
set_option maxRecDepth 100000 in
theorem and31_all : ((List.range 32).all fun n => bits .and .u64 ((n : Nat) : Int) 31 == ((n : Nat) : Int)) = true := by kernel_rfl
theorem and31 (r : Nat) (h : r < 32) : bits .and .u64 (r : Int) 31 = (r : Int) := by
  have := List.all_eq_true.1 and31_all r (List.mem_range.2 h)
  exact eq_of_beq this
theorem or32 (a b : Nat) (ha : a < M32) (hb : b < M32) : bits .or .u32 (a : Int) (b : Int) = ((Nat.lor a b : Nat) : Int) := by
  unfold M32 at ha hb
  have h1 : (BitVec.ofInt 32 (a : Int)).toNat = a := by rw [BitVec.ofInt_natCast, BitVec.toNat_ofNat]; exact Nat.mod_eq_of_lt ha
  have h2 : (BitVec.ofInt 32 (b : Int)).toNat = b := by rw [BitVec.ofInt_natCast, BitVec.toNat_ofNat]; exact Nat.mod_eq_of_lt hb
  have hlt := lor_lt (a := a) (b := b) ha hb
  show IntKind.u32.wrap ((BitVec.ofInt 32 (a : Int) ||| BitVec.ofInt 32 (b : Int)).toNat : Int) = _
  rw [BitVec.toNat_or, h1, h2]
  have e : a ||| b = Nat.lor a b := rfl
  rw [e]
  show ((Nat.lor a b : Nat) : Int) % 4294967296 = _
  unfold M32 at hlt
  omega
set_option maxRecDepth 100000 in
set_option maxHeartbeats 2000000 in
theorem rotl_any (x r : Nat) (hx : x < M32) (h1 : 1 ≤ r) (h2 : r ≤ 31) (w : World) : Calls Try.prog 66 #[.int .u32 (x : Int), .int .i64 (r : Int)] w fun e w' => e = .returned (.int .u32 ((rot x r : Nat) : Int)) ∧ Below w.heap.size w w' := by
  have ha := and31 r (by omega)
  have hI1 : (0 : Int) ≤ (r : Int) := by omega
  have hI2 : (r : Int) < 64 := by omega
  go_enter Try.func66, Try.ntmps66
  go_wp2_with fail
  go_ret
  have e1 : ((x : Int) * 2 ^ r % 4294967296) = ((x * 2 ^ r % M32 : Nat) : Int) := by
    rw [Int.natCast_emod, Int.natCast_mul, Int.natCast_pow]; rfl
  have e2 : ((x : Int) / 2 ^ (32 - r)) = ((x / 2 ^ (32 - r) : Nat) : Int) := by
    rw [Int.natCast_ediv, Int.natCast_pow]; rfl
  rw [e1, e2, or32 _ _ (Nat.mod_lt _ (by decide)) (Nat.lt_of_le_of_lt (Nat.div_le_self _ _) hx)]
  exact ⟨rfl, Below.refl _ _⟩
end Go.Proofs.Ytjekdodboihfhaa
