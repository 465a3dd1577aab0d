/- md5.block: its words. -/
import Derived.Test.YtjekdodboihfhaaMd1
set_option linter.all false
namespace Go.Proofs.Ytjekdodboihfhaa
open Go.RowKit
def wpart (s : List UInt8) (i : Nat) : Nat → Nat
  | 0 => 0
  | k + 1 => wpart s i k + (s.getD (4 * i + k) 0).toNat * 2 ^ (8 * k)
def wAt (s : List UInt8) (i k : Nat) : List Nat := (List.range 16).map fun j => if j < i then word s j else if j = i then wpart s i k else 0
def u32C (l : List Nat) : List Value := l.map fun (n : Nat) => Value.int .u32 (n : Int)
theorem wpart_word (s : List UInt8) (i : Nat) : wpart s i 4 = word s i := by
  show 0 + (s.getD (4 * i + 0) 0).toNat * 2 ^ 0 + (s.getD (4 * i + 1) 0).toNat * 2 ^ 8 + (s.getD (4 * i + 2) 0).toNat * 2 ^ 16 + (s.getD (4 * i + 3) 0).toNat * 2 ^ 24 = _
  unfold word
  simp only [Nat.add_zero]
  omega
theorem wpart_lt (s : List UInt8) (i : Nat) : ∀ k, wpart s i k < 2 ^ (8 * k)
  | 0 => Nat.one_pos
  | k + 1 => by
    have h := wpart_lt s i k
    have hc := (s.getD (4 * i + k) 0).toNat_lt
    show wpart s i k + (s.getD (4 * i + k) 0).toNat * 2 ^ (8 * k) < 2 ^ (8 * (k + 1))
    rw [show 8 * (k + 1) = 8 * k + 8 by omega, Nat.pow_add]
    generalize 2 ^ (8 * k) = P at *
    have : (s.getD (4 * i + k) 0).toNat * P ≤ 255 * P := Nat.mul_le_mul_right P (by omega)
    omega
theorem map_set {α : Type} (f : Nat → α) (n i : Nat) (v : α) : ((List.range n).map f).set i v = (List.range n).map fun j => if j = i then v else f j := by
  apply List.ext_getElem?
  intro j
  rw [List.getElem?_set]
  by_cases h : j < n
  · by_cases e : i = j
    · subst e
      simp [h]
    · have e2 : ¬ j = i := fun h => e h.symm
      simp [h, e, e2]
  · by_cases e : i = j
    · subst e
      simp [h]
    · simp [h, e]
theorem wAt_len (s : List UInt8) (i k : Nat) : (wAt s i k).length = 16 := by simp [wAt]
theorem wAt_zero (s : List UInt8) : wAt s 0 0 = List.replicate 16 0 := by rfl
theorem wAt_step (s : List UInt8) (i k : Nat) : (wAt s i k).set i (wpart s i (k + 1)) = wAt s i (k + 1) := by
  unfold wAt
  rw [map_set]
  congr 1
  funext j
  by_cases h : j = i
  · subst h; simp
  · simp [h]
theorem wAt_next (s : List UInt8) (i : Nat) : wAt s i 4 = wAt s (i + 1) 0 := by
  unfold wAt
  congr 1
  funext j
  rw [wpart_word]
  by_cases h : j = i
  · subst h; simp
  · by_cases h2 : j < i
    · rw [if_pos h2, if_pos (by omega)]
    · rw [if_neg h2, if_neg h, if_neg (by omega)]
      split <;> rfl
theorem wAt_all (s : List UInt8) : wAt s 16 0 = words s := by
  unfold wAt words
  apply List.map_congr_left
  intro j hj
  rw [if_pos (List.mem_range.1 hj)]
theorem wAt_get (s : List UInt8) (i k : Nat) (h : i < 16) : (wAt s i k)[i]? = some (wpart s i k) := by
  unfold wAt
  simp [h]
theorem u32C_set (l : List Nat) (i v : Nat) : (u32C l).set i (.int .u32 (v : Int)) = u32C (l.set i v) := by
  unfold u32C
  rw [List.map_set]
theorem or_add (p c k : Nat) (hp : p < 2 ^ (8 * k)) (hc : c < 256) (hk : k < 4) : bits .or .u32 (p : Int) ((c * 2 ^ (8 * k) : Nat) : Int) = ((p + c * 2 ^ (8 * k) : Nat) : Int) := by
  have h1 : 2 ^ (8 * k) ≤ 2 ^ 24 := Nat.pow_le_pow_right (by decide) (by omega)
  have h3 : c * 2 ^ (8 * k) ≤ 255 * 2 ^ 24 := Nat.mul_le_mul (by omega) h1
  rw [or32 p _ (by unfold M32; omega) (by unfold M32; omega)]
  congr 1
  have := Nat.two_pow_add_eq_or_of_lt (i := 8 * k) (b := p) hp c
  rw [Nat.mul_comm (2 ^ (8 * k)) c] at this
  show Nat.lor p (c * 2 ^ (8 * k)) = _
  have e : Nat.lor p (c * 2 ^ (8 * k)) = Nat.lor (c * 2 ^ (8 * k)) p := Nat.or_comm p _
  rw [e]
  show c * 2 ^ (8 * k) ||| p = _
  rw [← this]; omega
theorem str_at (s : List UInt8) (n : Nat) (h : n < s.length) (W : World) : (Instr.index 9 (.string ⟨s.toArray⟩) (.int .i64 (n : Int))).run Try.prog W = .ok (.int .u8 (s.getD n 0).toNat) W := by
  have u := Try.underlying9
  have h2 : (n : Int) < (s.length : Int) := by omega
  go_simp
theorem or_add2 (p c k : Nat) (hp : p < 2 ^ (8 * k)) (hc : c < 256) (hk : k < 4) : bits .or .u32 (p : Int) ((c : Int) * 2 ^ (8 * k) % 4294967296) = ((p + c * 2 ^ (8 * k) : Nat) : Int) := by
  have h1 : 2 ^ (8 * k) ≤ 2 ^ 24 := Nat.pow_le_pow_right (by decide) (by omega)
  have h3 : c * 2 ^ (8 * k) ≤ 255 * 2 ^ 24 := Nat.mul_le_mul (by omega) h1
  rw [← or_add p c k hp hc hk]
  congr 1
  have e : ((c : Int) * 2 ^ (8 * k)) = ((c * 2 ^ (8 * k) : Nat) : Int) := by rw [Int.natCast_mul, Int.natCast_pow]; rfl
  rw [e]
  omega
def Q4.vals (q : Q4) : List Value := [.int .u32 q.a, .int .u32 q.b, .int .u32 q.c, .int .u32 q.d]
theorem Q4.one (q : Q4) : ∀ v ∈ q.vals, v.oneCell' = true := fun v hv => by
  simp only [Q4.vals, List.mem_cons, List.not_mem_nil, or_false] at hv
  rcases hv with rfl | rfl | rfl | rfl <;> rfl
def turnV : List Value := [.int .i64 7, .int .i64 12, .int .i64 17, .int .i64 22, .int .i64 5, .int .i64 9, .int .i64 14, .int .i64 20, .int .i64 4, .int .i64 11, .int .i64 16, .int .i64 23, .int .i64 6, .int .i64 10, .int .i64 15, .int .i64 21]
theorem turnV_one : ∀ v ∈ turnV, v.oneCell' = true := by decide
@[reducible] def z44 : List Value := [.int .i64 0, .int .i64 0, .int .i64 0, .int .i64 0, .int .i64 0, .int .i64 0, .int .i64 0, .int .i64 0, .int .i64 0, .int .i64 0, .int .i64 0, .int .i64 0, .int .i64 0, .int .i64 0, .int .i64 0, .int .i64 0]
theorem info108 : (Try.prog.info? 108).map (·.size) = some 16 := by kernel_rfl
theorem num0 (W : World) : (Instr.index 109 (.agg numV.toArray) (.int .i64 0)).run Try.prog W = .ok (.int .u32 ((nums.getD 0 0 : Nat) : Int)) W := by kernel_rfl
theorem num1 (W : World) : (Instr.index 109 (.agg numV.toArray) (.int .i64 1)).run Try.prog W = .ok (.int .u32 ((nums.getD 1 0 : Nat) : Int)) W := by kernel_rfl
theorem num2 (W : World) : (Instr.index 109 (.agg numV.toArray) (.int .i64 2)).run Try.prog W = .ok (.int .u32 ((nums.getD 2 0 : Nat) : Int)) W := by kernel_rfl
theorem num3 (W : World) : (Instr.index 109 (.agg numV.toArray) (.int .i64 3)).run Try.prog W = .ok (.int .u32 ((nums.getD 3 0 : Nat) : Int)) W := by kernel_rfl
theorem num4 (W : World) : (Instr.index 109 (.agg numV.toArray) (.int .i64 4)).run Try.prog W = .ok (.int .u32 ((nums.getD 4 0 : Nat) : Int)) W := by kernel_rfl
theorem num5 (W : World) : (Instr.index 109 (.agg numV.toArray) (.int .i64 5)).run Try.prog W = .ok (.int .u32 ((nums.getD 5 0 : Nat) : Int)) W := by kernel_rfl
theorem num6 (W : World) : (Instr.index 109 (.agg numV.toArray) (.int .i64 6)).run Try.prog W = .ok (.int .u32 ((nums.getD 6 0 : Nat) : Int)) W := by kernel_rfl
theorem num7 (W : World) : (Instr.index 109 (.agg numV.toArray) (.int .i64 7)).run Try.prog W = .ok (.int .u32 ((nums.getD 7 0 : Nat) : Int)) W := by kernel_rfl
theorem num8 (W : World) : (Instr.index 109 (.agg numV.toArray) (.int .i64 8)).run Try.prog W = .ok (.int .u32 ((nums.getD 8 0 : Nat) : Int)) W := by kernel_rfl
theorem num9 (W : World) : (Instr.index 109 (.agg numV.toArray) (.int .i64 9)).run Try.prog W = .ok (.int .u32 ((nums.getD 9 0 : Nat) : Int)) W := by kernel_rfl
theorem num10 (W : World) : (Instr.index 109 (.agg numV.toArray) (.int .i64 10)).run Try.prog W = .ok (.int .u32 ((nums.getD 10 0 : Nat) : Int)) W := by kernel_rfl
theorem num11 (W : World) : (Instr.index 109 (.agg numV.toArray) (.int .i64 11)).run Try.prog W = .ok (.int .u32 ((nums.getD 11 0 : Nat) : Int)) W := by kernel_rfl
theorem num12 (W : World) : (Instr.index 109 (.agg numV.toArray) (.int .i64 12)).run Try.prog W = .ok (.int .u32 ((nums.getD 12 0 : Nat) : Int)) W := by kernel_rfl
theorem num13 (W : World) : (Instr.index 109 (.agg numV.toArray) (.int .i64 13)).run Try.prog W = .ok (.int .u32 ((nums.getD 13 0 : Nat) : Int)) W := by kernel_rfl
theorem num14 (W : World) : (Instr.index 109 (.agg numV.toArray) (.int .i64 14)).run Try.prog W = .ok (.int .u32 ((nums.getD 14 0 : Nat) : Int)) W := by kernel_rfl
theorem num15 (W : World) : (Instr.index 109 (.agg numV.toArray) (.int .i64 15)).run Try.prog W = .ok (.int .u32 ((nums.getD 15 0 : Nat) : Int)) W := by kernel_rfl
theorem num16 (W : World) : (Instr.index 109 (.agg numV.toArray) (.int .i64 16)).run Try.prog W = .ok (.int .u32 ((nums.getD 16 0 : Nat) : Int)) W := by kernel_rfl
theorem num17 (W : World) : (Instr.index 109 (.agg numV.toArray) (.int .i64 17)).run Try.prog W = .ok (.int .u32 ((nums.getD 17 0 : Nat) : Int)) W := by kernel_rfl
theorem num18 (W : World) : (Instr.index 109 (.agg numV.toArray) (.int .i64 18)).run Try.prog W = .ok (.int .u32 ((nums.getD 18 0 : Nat) : Int)) W := by kernel_rfl
theorem num19 (W : World) : (Instr.index 109 (.agg numV.toArray) (.int .i64 19)).run Try.prog W = .ok (.int .u32 ((nums.getD 19 0 : Nat) : Int)) W := by kernel_rfl
theorem num20 (W : World) : (Instr.index 109 (.agg numV.toArray) (.int .i64 20)).run Try.prog W = .ok (.int .u32 ((nums.getD 20 0 : Nat) : Int)) W := by kernel_rfl
theorem num21 (W : World) : (Instr.index 109 (.agg numV.toArray) (.int .i64 21)).run Try.prog W = .ok (.int .u32 ((nums.getD 21 0 : Nat) : Int)) W := by kernel_rfl
theorem num22 (W : World) : (Instr.index 109 (.agg numV.toArray) (.int .i64 22)).run Try.prog W = .ok (.int .u32 ((nums.getD 22 0 : Nat) : Int)) W := by kernel_rfl
theorem num23 (W : World) : (Instr.index 109 (.agg numV.toArray) (.int .i64 23)).run Try.prog W = .ok (.int .u32 ((nums.getD 23 0 : Nat) : Int)) W := by kernel_rfl
theorem num24 (W : World) : (Instr.index 109 (.agg numV.toArray) (.int .i64 24)).run Try.prog W = .ok (.int .u32 ((nums.getD 24 0 : Nat) : Int)) W := by kernel_rfl
theorem num25 (W : World) : (Instr.index 109 (.agg numV.toArray) (.int .i64 25)).run Try.prog W = .ok (.int .u32 ((nums.getD 25 0 : Nat) : Int)) W := by kernel_rfl
theorem num26 (W : World) : (Instr.index 109 (.agg numV.toArray) (.int .i64 26)).run Try.prog W = .ok (.int .u32 ((nums.getD 26 0 : Nat) : Int)) W := by kernel_rfl
theorem num27 (W : World) : (Instr.index 109 (.agg numV.toArray) (.int .i64 27)).run Try.prog W = .ok (.int .u32 ((nums.getD 27 0 : Nat) : Int)) W := by kernel_rfl
theorem num28 (W : World) : (Instr.index 109 (.agg numV.toArray) (.int .i64 28)).run Try.prog W = .ok (.int .u32 ((nums.getD 28 0 : Nat) : Int)) W := by kernel_rfl
theorem num29 (W : World) : (Instr.index 109 (.agg numV.toArray) (.int .i64 29)).run Try.prog W = .ok (.int .u32 ((nums.getD 29 0 : Nat) : Int)) W := by kernel_rfl
theorem num30 (W : World) : (Instr.index 109 (.agg numV.toArray) (.int .i64 30)).run Try.prog W = .ok (.int .u32 ((nums.getD 30 0 : Nat) : Int)) W := by kernel_rfl
theorem num31 (W : World) : (Instr.index 109 (.agg numV.toArray) (.int .i64 31)).run Try.prog W = .ok (.int .u32 ((nums.getD 31 0 : Nat) : Int)) W := by kernel_rfl
theorem num32 (W : World) : (Instr.index 109 (.agg numV.toArray) (.int .i64 32)).run Try.prog W = .ok (.int .u32 ((nums.getD 32 0 : Nat) : Int)) W := by kernel_rfl
theorem num33 (W : World) : (Instr.index 109 (.agg numV.toArray) (.int .i64 33)).run Try.prog W = .ok (.int .u32 ((nums.getD 33 0 : Nat) : Int)) W := by kernel_rfl
theorem num34 (W : World) : (Instr.index 109 (.agg numV.toArray) (.int .i64 34)).run Try.prog W = .ok (.int .u32 ((nums.getD 34 0 : Nat) : Int)) W := by kernel_rfl
theorem num35 (W : World) : (Instr.index 109 (.agg numV.toArray) (.int .i64 35)).run Try.prog W = .ok (.int .u32 ((nums.getD 35 0 : Nat) : Int)) W := by kernel_rfl
theorem num36 (W : World) : (Instr.index 109 (.agg numV.toArray) (.int .i64 36)).run Try.prog W = .ok (.int .u32 ((nums.getD 36 0 : Nat) : Int)) W := by kernel_rfl
theorem num37 (W : World) : (Instr.index 109 (.agg numV.toArray) (.int .i64 37)).run Try.prog W = .ok (.int .u32 ((nums.getD 37 0 : Nat) : Int)) W := by kernel_rfl
theorem num38 (W : World) : (Instr.index 109 (.agg numV.toArray) (.int .i64 38)).run Try.prog W = .ok (.int .u32 ((nums.getD 38 0 : Nat) : Int)) W := by kernel_rfl
theorem num39 (W : World) : (Instr.index 109 (.agg numV.toArray) (.int .i64 39)).run Try.prog W = .ok (.int .u32 ((nums.getD 39 0 : Nat) : Int)) W := by kernel_rfl
theorem num40 (W : World) : (Instr.index 109 (.agg numV.toArray) (.int .i64 40)).run Try.prog W = .ok (.int .u32 ((nums.getD 40 0 : Nat) : Int)) W := by kernel_rfl
theorem num41 (W : World) : (Instr.index 109 (.agg numV.toArray) (.int .i64 41)).run Try.prog W = .ok (.int .u32 ((nums.getD 41 0 : Nat) : Int)) W := by kernel_rfl
theorem num42 (W : World) : (Instr.index 109 (.agg numV.toArray) (.int .i64 42)).run Try.prog W = .ok (.int .u32 ((nums.getD 42 0 : Nat) : Int)) W := by kernel_rfl
theorem num43 (W : World) : (Instr.index 109 (.agg numV.toArray) (.int .i64 43)).run Try.prog W = .ok (.int .u32 ((nums.getD 43 0 : Nat) : Int)) W := by kernel_rfl
theorem num44 (W : World) : (Instr.index 109 (.agg numV.toArray) (.int .i64 44)).run Try.prog W = .ok (.int .u32 ((nums.getD 44 0 : Nat) : Int)) W := by kernel_rfl
theorem num45 (W : World) : (Instr.index 109 (.agg numV.toArray) (.int .i64 45)).run Try.prog W = .ok (.int .u32 ((nums.getD 45 0 : Nat) : Int)) W := by kernel_rfl
theorem num46 (W : World) : (Instr.index 109 (.agg numV.toArray) (.int .i64 46)).run Try.prog W = .ok (.int .u32 ((nums.getD 46 0 : Nat) : Int)) W := by kernel_rfl
theorem num47 (W : World) : (Instr.index 109 (.agg numV.toArray) (.int .i64 47)).run Try.prog W = .ok (.int .u32 ((nums.getD 47 0 : Nat) : Int)) W := by kernel_rfl
theorem num48 (W : World) : (Instr.index 109 (.agg numV.toArray) (.int .i64 48)).run Try.prog W = .ok (.int .u32 ((nums.getD 48 0 : Nat) : Int)) W := by kernel_rfl
theorem num49 (W : World) : (Instr.index 109 (.agg numV.toArray) (.int .i64 49)).run Try.prog W = .ok (.int .u32 ((nums.getD 49 0 : Nat) : Int)) W := by kernel_rfl
theorem num50 (W : World) : (Instr.index 109 (.agg numV.toArray) (.int .i64 50)).run Try.prog W = .ok (.int .u32 ((nums.getD 50 0 : Nat) : Int)) W := by kernel_rfl
theorem num51 (W : World) : (Instr.index 109 (.agg numV.toArray) (.int .i64 51)).run Try.prog W = .ok (.int .u32 ((nums.getD 51 0 : Nat) : Int)) W := by kernel_rfl
theorem num52 (W : World) : (Instr.index 109 (.agg numV.toArray) (.int .i64 52)).run Try.prog W = .ok (.int .u32 ((nums.getD 52 0 : Nat) : Int)) W := by kernel_rfl
theorem num53 (W : World) : (Instr.index 109 (.agg numV.toArray) (.int .i64 53)).run Try.prog W = .ok (.int .u32 ((nums.getD 53 0 : Nat) : Int)) W := by kernel_rfl
theorem num54 (W : World) : (Instr.index 109 (.agg numV.toArray) (.int .i64 54)).run Try.prog W = .ok (.int .u32 ((nums.getD 54 0 : Nat) : Int)) W := by kernel_rfl
theorem num55 (W : World) : (Instr.index 109 (.agg numV.toArray) (.int .i64 55)).run Try.prog W = .ok (.int .u32 ((nums.getD 55 0 : Nat) : Int)) W := by kernel_rfl
theorem num56 (W : World) : (Instr.index 109 (.agg numV.toArray) (.int .i64 56)).run Try.prog W = .ok (.int .u32 ((nums.getD 56 0 : Nat) : Int)) W := by kernel_rfl
theorem num57 (W : World) : (Instr.index 109 (.agg numV.toArray) (.int .i64 57)).run Try.prog W = .ok (.int .u32 ((nums.getD 57 0 : Nat) : Int)) W := by kernel_rfl
theorem num58 (W : World) : (Instr.index 109 (.agg numV.toArray) (.int .i64 58)).run Try.prog W = .ok (.int .u32 ((nums.getD 58 0 : Nat) : Int)) W := by kernel_rfl
theorem num59 (W : World) : (Instr.index 109 (.agg numV.toArray) (.int .i64 59)).run Try.prog W = .ok (.int .u32 ((nums.getD 59 0 : Nat) : Int)) W := by kernel_rfl
theorem num60 (W : World) : (Instr.index 109 (.agg numV.toArray) (.int .i64 60)).run Try.prog W = .ok (.int .u32 ((nums.getD 60 0 : Nat) : Int)) W := by kernel_rfl
theorem num61 (W : World) : (Instr.index 109 (.agg numV.toArray) (.int .i64 61)).run Try.prog W = .ok (.int .u32 ((nums.getD 61 0 : Nat) : Int)) W := by kernel_rfl
theorem num62 (W : World) : (Instr.index 109 (.agg numV.toArray) (.int .i64 62)).run Try.prog W = .ok (.int .u32 ((nums.getD 62 0 : Nat) : Int)) W := by kernel_rfl
theorem num63 (W : World) : (Instr.index 109 (.agg numV.toArray) (.int .i64 63)).run Try.prog W = .ok (.int .u32 ((nums.getD 63 0 : Nat) : Int)) W := by kernel_rfl
theorem num_at (k : Nat) (h : k < 64) (W : World) : (Instr.index 109 (.agg numV.toArray) (.int .i64 (k : Int))).run Try.prog W = .ok (.int .u32 ((nums.getD k 0 : Nat) : Int)) W := by
  match k, h with
  | 0, _ => exact num0 W
  | 1, _ => exact num1 W
  | 2, _ => exact num2 W
  | 3, _ => exact num3 W
  | 4, _ => exact num4 W
  | 5, _ => exact num5 W
  | 6, _ => exact num6 W
  | 7, _ => exact num7 W
  | 8, _ => exact num8 W
  | 9, _ => exact num9 W
  | 10, _ => exact num10 W
  | 11, _ => exact num11 W
  | 12, _ => exact num12 W
  | 13, _ => exact num13 W
  | 14, _ => exact num14 W
  | 15, _ => exact num15 W
  | 16, _ => exact num16 W
  | 17, _ => exact num17 W
  | 18, _ => exact num18 W
  | 19, _ => exact num19 W
  | 20, _ => exact num20 W
  | 21, _ => exact num21 W
  | 22, _ => exact num22 W
  | 23, _ => exact num23 W
  | 24, _ => exact num24 W
  | 25, _ => exact num25 W
  | 26, _ => exact num26 W
  | 27, _ => exact num27 W
  | 28, _ => exact num28 W
  | 29, _ => exact num29 W
  | 30, _ => exact num30 W
  | 31, _ => exact num31 W
  | 32, _ => exact num32 W
  | 33, _ => exact num33 W
  | 34, _ => exact num34 W
  | 35, _ => exact num35 W
  | 36, _ => exact num36 W
  | 37, _ => exact num37 W
  | 38, _ => exact num38 W
  | 39, _ => exact num39 W
  | 40, _ => exact num40 W
  | 41, _ => exact num41 W
  | 42, _ => exact num42 W
  | 43, _ => exact num43 W
  | 44, _ => exact num44 W
  | 45, _ => exact num45 W
  | 46, _ => exact num46 W
  | 47, _ => exact num47 W
  | 48, _ => exact num48 W
  | 49, _ => exact num49 W
  | 50, _ => exact num50 W
  | 51, _ => exact num51 W
  | 52, _ => exact num52 W
  | 53, _ => exact num53 W
  | 54, _ => exact num54 W
  | 55, _ => exact num55 W
  | 56, _ => exact num56 W
  | 57, _ => exact num57 W
  | 58, _ => exact num58 W
  | 59, _ => exact num59 W
  | 60, _ => exact num60 W
  | 61, _ => exact num61 W
  | 62, _ => exact num62 W
  | 63, _ => exact num63 W
  | n + 64, h => exact absurd h (by omega)
theorem q4_built (a b c d : Nat) : Try.prog.built 64 [(0, .int .u32 (a : Int)), (1, .int .u32 (b : Int)), (2, .int .u32 (c : Int)), (3, .int .u32 (d : Int))] = some (Q4.vals ⟨a, b, c, d⟩).toArray := by kernel_rfl
theorem turn_at {B : Nat} {w0 w : World} {A : List It} {gT : Nat} (H : St B w0 w (bk gT 108 turnV :: A)) (n : Nat) (h : n < 16) : w.cell? ⟨gT, n, none⟩ = some (.int .i64 ((turns.getD n 0 : Nat) : Int)) := by
  rw [H.cell n]
  match n, h with
  | 0, _ | 1, _ | 2, _ | 3, _ | 4, _ | 5, _ | 6, _ | 7, _ | 8, _ | 9, _ | 10, _ | 11, _ | 12, _ | 13, _ | 14, _ | 15, _ => rfl
  | n + 16, h => exact absurd h (by omega)
theorem turn_bound (n : Nat) (h : n < 16) : 1 ≤ turns.getD n 0 ∧ turns.getD n 0 ≤ 31 := by
  match n, h with
  | 0, _ | 1, _ | 2, _ | 3, _ | 4, _ | 5, _ | 6, _ | 7, _ | 8, _ | 9, _ | 10, _ | 11, _ | 12, _ | 13, _ | 14, _ | 15, _ => decide
  | n + 16, h => exact absurd h (by omega)
theorem word_at {B : Nat} {w0 w : World} {A : List It} {x : It} {g n : Nat} {W : List Nat} {s : List UInt8} (H : St B w0 w (x :: bk g 106 (u32C W) :: A)) (hW : words s = W) (h : n < 16) : w.cell? ⟨g, n, none⟩ = some (.int .u32 ((W.getD n 0 : Nat) : Int)) := by
  rw [(Blk.box (H.at 1 rfl)).cell n]
  subst hW
  simp [u32C, words, h]
theorem and32 (a b : Nat) (ha : a < M32) (hb : b < M32) : bits .and .u32 (a : Int) (b : Int) = ((Nat.land a b : Nat) : Int) := by
  have hlt := land_lt (a := a) (b := b) ha
  unfold M32 at ha hb hlt
  have h1 : (BitVec.ofInt 32 (a : Int)).toNat = a := by rw [BitVec.ofInt_natCast, BitVec.toNat_ofNat]; exact Nat.mod_eq_of_lt ha
  have h2 : (BitVec.ofInt 32 (b : Int)).toNat = b := by rw [BitVec.ofInt_natCast, BitVec.toNat_ofNat]; exact Nat.mod_eq_of_lt hb
  show IntKind.u32.wrap ((BitVec.ofInt 32 (a : Int) &&& BitVec.ofInt 32 (b : Int)).toNat : Int) = _
  rw [BitVec.toNat_and, h1, h2]
  have e : a &&& b = Nat.land a b := rfl
  rw [e]
  show ((Nat.land a b : Nat) : Int) % 4294967296 = _
  omega
theorem xor32 (a b : Nat) (ha : a < M32) (hb : b < M32) : bits .xor .u32 (a : Int) (b : Int) = ((Nat.xor a b : Nat) : Int) := by
  have hlt := xor_lt (a := a) (b := b) ha hb
  unfold M32 at ha hb hlt
  have h1 : (BitVec.ofInt 32 (a : Int)).toNat = a := by rw [BitVec.ofInt_natCast, BitVec.toNat_ofNat]; exact Nat.mod_eq_of_lt ha
  have h2 : (BitVec.ofInt 32 (b : Int)).toNat = b := by rw [BitVec.ofInt_natCast, BitVec.toNat_ofNat]; exact Nat.mod_eq_of_lt hb
  show IntKind.u32.wrap ((BitVec.ofInt 32 (a : Int) ^^^ BitVec.ofInt 32 (b : Int)).toNat : Int) = _
  rw [BitVec.toNat_xor, h1, h2]
  have e : a ^^^ b = Nat.xor a b := rfl
  rw [e]
  show ((Nat.xor a b : Nat) : Int) % 4294967296 = _
  omega
theorem inv32 (a : Nat) (ha : a < M32) : bits .xor .u32 (if IntKind.u32.signed = true then -1 else IntKind.u32.max) (a : Int) = ((inv a : Nat) : Int) := by
  have e0 : (if IntKind.u32.signed = true then -1 else IntKind.u32.max) = ((4294967295 : Nat) : Int) := rfl
  rw [e0, xor32 _ _ (by decide) ha]
  congr 1
  unfold inv
  show 4294967295 ^^^ a = _
  unfold M32 at ha
  have h := BitVec.toNat_not (x := BitVec.ofNat 32 a)
  rw [BitVec.not_def, BitVec.toNat_xor, BitVec.toNat_allOnes, BitVec.toNat_ofNat, Nat.mod_eq_of_lt (show a < 2 ^ 32 from ha), Nat.xor_comm] at h
  have e1 : (2 ^ 32 - 1 : Nat) = 4294967295 := rfl
  rw [e1] at h
  first
    | exact h
    | (rw [Nat.xor_comm]; exact h)
@[reducible] def z4 : List Value := [.int .u32 0, .int .u32 0, .int .u32 0, .int .u32 0]
@[reducible] def z16 : List Value := [.int .u32 0, .int .u32 0, .int .u32 0, .int .u32 0, .int .u32 0, .int .u32 0, .int .u32 0, .int .u32 0, .int .u32 0, .int .u32 0, .int .u32 0, .int .u32 0, .int .u32 0, .int .u32 0, .int .u32 0, .int .u32 0]
set_option maxRecDepth 100000 in
set_option maxHeartbeats 4000000 in
theorem block_any (h : Q4) (ho : h.Ok) (s : List UInt8) (hs : s.length = 64) (w : World) :
    Calls Try.prog 38 #[.agg h.vals.toArray, .string ⟨s.toArray⟩] w fun e w' => e = .returned (.agg (blockM h s).vals.toArray) ∧ Below w.heap.size w w' := by
  have H0 := Lib.hid ((St.init w).alloc3 h.vals z4 z16 64 64 106)
  have Hs := Lib.hid hs
  have Ho := Lib.hid ho
  clear hs ho
  go_enter Try.func38, Try.ntmps38
  go_upto_region 2 with (fail)
  generalize World.alloc (World.alloc (World.alloc _ _) _) _ = w1 at *
  have H0 : Hid (St w.heap.size w w1 (bk (w.heap.size + 1 + 1) 106 (u32C (wAt s 0 0)) :: bk (w.heap.size + 1) 64 z4 :: bk w.heap.size 64 h.vals :: [])) := H0
  go_upto_region 3 with (fail)
  go_loopw [17] (fun s17 wr => ∃ i : Nat, i ≤ 16 ∧ s17 = .int .i64 (i : Int) ∧ Hid (St w.heap.size w wr (bk (w.heap.size + 1 + 1) 106 (u32C (wAt s i 0)) :: bk (w.heap.size + 1) 64 z4 :: bk w.heap.size 64 h.vals :: []))) (fun i _ => 16 - (intOf i).toNat)
  case atStart => exact ⟨0, by omega, rfl, H0⟩
  case round =>
    obtain ⟨i, hi0, rfl, HR⟩ := hrel
    by_cases hlt : i < 16
    · have hI : (i : Int) < 16 := by omega
      have hI0 : (0 : Int) ≤ (i : Int) := by omega
      go_upto_region 6 with (fail)
      go_loopw [20] (fun s20 wk => ∃ k : Nat, k ≤ 4 ∧ s20 = .int .i64 (k : Int) ∧ Hid (St w.heap.size w wk (bk (w.heap.size + 1 + 1) 106 (u32C (wAt s i k)) :: bk (w.heap.size + 1) 64 z4 :: bk w.heap.size 64 h.vals :: []))) (fun i _ => 4 - (intOf i).toNat)
      case atStart => exact ⟨0, by omega, rfl, HR⟩
      case round =>
        obtain ⟨k, hk0, rfl, HK⟩ := hrel
        by_cases hkl : k < 4
        · have hK : (k : Int) < 4 := by omega
          have hx : (4 : Int) * (i : Int) + (k : Int) = ((4 * i + k : Nat) : Int) := by omega
          have Hx := Lib.hid hx
          clear hx
          have hbd : 4 * i + k < s.length := by rw [Hs.out]; omega
          have hidx : ∀ W, (Instr.index 9 (.string ⟨s.toArray⟩) (.int .i64 ((4 : Int) * (i : Int) + (k : Int)))).run Try.prog W = .ok (.int .u8 (s.getD (4 * i + k) 0).toNat) W := fun W => by
            rw [Hx.out]
            exact str_at s (4 * i + k) hbd W
          have hcw : wr.cell? ⟨w.heap.size + 1 + 1, i, none⟩ = some (.int .u32 (wpart s i k : Int)) := by
            rw [HK.out.cell i]
            simp [u32C, wAt_get s i k hlt]
          have l0 := (HK.out.at 0 rfl).lt
          have hor := or_add2 (wpart s i k) (s.getD (4 * i + k) 0).toNat k (wpart_lt s i k) (s.getD (4 * i + k) 0).toNat_lt hkl
          have hw : wpart s i k + (s.getD (4 * i + k) 0).toNat * 2 ^ (8 * k) = wpart s i (k + 1) := rfl
          rw [hw] at hor
          have hc := (s.getD (4 * i + k) 0).toNat_lt
          generalize s.getD (4 * i + k) 0 = c at *
          have Hw := Lib.hid hw
          clear hw
          generalize wpart s i k = p at *
          obtain ⟨p2, hp2⟩ : ∃ p2, wpart s i (k + 1) = p2 := ⟨_, rfl⟩
          rw [hp2] at hor
          have Hp2 := Lib.hid hp2
          clear hp2
          go_upto_region 8 with (fail)
          refine wp_region_ext_tail 14 (by kernel_rfl) (by kernel_rfl) ?_
          simp only [List.take_succ_cons, List.take_zero, List.drop_succ_cons, List.drop_zero]
          repeat (go_big_quiet_step (fail))
          refine wpQuiet_nil ?_
          rintro w5 ⟨⟨_, hb5⟩, rfl⟩
          try simp only [] at *
          have H5 := Lib.hid (HK.out.ext hb5)
          have Hset := Lib.hid (H5.out.set i (.int .u32 (p2 : Int)) (by rw [u32C, List.length_map, wAt_len]; exact hlt))
          rw [u32C_set, ← Hp2.out, wAt_step] at Hset
          rw [Hp2.out] at Hset
          have hc5 : w5.cell? ⟨w.heap.size + 1 + 1, i, none⟩ = some (.int .u32 (p : Int)) := laterc hcw hb5 l0
          have hf5 := H5.out.frozen i
          clear hidx hor hcw hb5 hbd
          go_wp2_with fail
          go_roundw
          case rel => exact ⟨k + 1, by omega, by go_num, Hset⟩
          case measure => simp [intOf]; omega
        · obtain rfl : k = 4 := by omega
          have HK2 : Hid (St w.heap.size w wr (bk (w.heap.size + 1 + 1) 106 (u32C (wAt s (i + 1) 0)) :: bk (w.heap.size + 1) 64 z4 :: bk w.heap.size 64 h.vals :: [])) := Lib.hid (by
            have := HK.out
            rwa [wAt_next] at this)
          clear HK
          go_wp2_with fail
          go_roundw
          case rel => exact ⟨i + 1, by omega, by go_num, HK2⟩
          case measure => simp [intOf]; omega
    · obtain rfl : i = 16 := by omega
      rw [wAt_all] at HR
      -- ROUNDS
      have l2 := (HR.out.at 2 rfl).lt
      have e0 : wr.cell? ⟨w.heap.size, 0, none⟩ = some (.int .u32 h.a) := (Blk.box (HR.out.at 2 rfl)).cell 0
      have e1 : wr.cell? ⟨w.heap.size, 1, none⟩ = some (.int .u32 h.b) := (Blk.box (HR.out.at 2 rfl)).cell 1
      have e2 : wr.cell? ⟨w.heap.size, 2, none⟩ = some (.int .u32 h.c) := (Blk.box (HR.out.at 2 rfl)).cell 2
      have e3 : wr.cell? ⟨w.heap.size, 3, none⟩ = some (.int .u32 h.d) := (Blk.box (HR.out.at 2 rfl)).cell 3
      go_upto_region 11 with (fail)
      refine wp_region_ext (by kernel_rfl) (by kernel_rfl) ?_
      repeat (go_big_quiet_step (fail))
      refine wpQuiet_nil ?_
      rintro w5 ⟨⟨_, hb5⟩, rfl⟩
      try simp only [] at *
      have H5 := Lib.hid (HR.out.ext hb5)
      clear e0 e1 e2 e3 l2 hb5 HR
      go_upto_region 13 with (first
        | (with_reducible refine wpList_buildA (t := 107) [(0, .int .i64 7), (1, .int .i64 12), (2, .int .i64 17), (3, .int .i64 22)] [.int .i64 7, .int .i64 12, .int .i64 17, .int .i64 22] (by with_unfolding_all rfl) (by kernel_rfl) ?_)
        | (with_reducible refine wpList_buildA (t := 107) [(0, .int .i64 5), (1, .int .i64 9), (2, .int .i64 14), (3, .int .i64 20)] [.int .i64 5, .int .i64 9, .int .i64 14, .int .i64 20] (by with_unfolding_all rfl) (by kernel_rfl) ?_)
        | (with_reducible refine wpList_buildA (t := 107) [(0, .int .i64 4), (1, .int .i64 11), (2, .int .i64 16), (3, .int .i64 23)] [.int .i64 4, .int .i64 11, .int .i64 16, .int .i64 23] (by with_unfolding_all rfl) (by kernel_rfl) ?_)
        | (with_reducible refine wpList_buildA (t := 107) [(0, .int .i64 6), (1, .int .i64 10), (2, .int .i64 15), (3, .int .i64 21)] [.int .i64 6, .int .i64 10, .int .i64 15, .int .i64 21] (by with_unfolding_all rfl) (by kernel_rfl) ?_)
        | (with_reducible refine wpList_buildA (t := 108) _ turnV rfl (by kernel_rfl) ?_)
        | (with_reducible refine wpList_store_blk (ty := 108) (o := 0) _ turnV (by with_unfolding_all rfl) (by with_unfolding_all rfl) (Blk.new w5 z44 108) (by with_unfolding_all exact Nat.le_refl _) (by with_unfolding_all exact info108) turnV_one (fun W6 hBW6 hoW6 => ?_)))
      have H6 := Lib.hid ((H5.out.alloc z44 108).sets (L' := turnV) hBW6 hoW6)
      clear hBW6 hoW6
      generalize w5.heap.size = gT at *
      have HNm := Lib.hid (numbers_any W6)
      go_upto_region 14 with (first
        | ((with_reducible refine HNm.out.mono ?_)
           rintro e w7 ⟨rfl, hb7⟩
           have H7 := Lib.hid (H6.out.ext hb7)
           clear hb7))
      obtain ⟨W, hW⟩ : ∃ W, words s = W := ⟨_, rfl⟩
      rw [hW] at H7
      have HW := Lib.hid hW
      clear hW H5 H6 HNm
      go_loopw [8, 9, 10, 11, 54] (fun s8 s9 s10 s11 s54 wr => ∃ (k : Nat) (q : Q4), k ≤ 64 ∧ s54 = .int .i64 (k : Int) ∧ s8 = .int .u32 (q.a : Int) ∧ s9 = .int .u32 (q.b : Int) ∧ s10 = .int .u32 (q.c : Int) ∧ s11 = .int .u32 (q.d : Int) ∧ Hid (q = rnds W k h) ∧ Hid q.Ok ∧ Hid (St w.heap.size w wr (bk gT 108 turnV :: bk (w.heap.size + 1 + 1) 106 (u32C W) :: bk (w.heap.size + 1) 64 z4 :: bk w.heap.size 64 h.vals :: []))) (fun _ _ _ _ i _ => 64 - (intOf i).toNat)
      case atStart => exact ⟨0, h, by omega, rfl, rfl, rfl, rfl, rfl, Lib.hid rfl, Ho, H7⟩
      case round =>
        obtain ⟨k, q, hk0, rfl, rfl, rfl, rfl, rfl, Hq, Hok, HR⟩ := hrel
        by_cases hlt : k < 64
        · have hI : (k : Int) < 64 := by omega
          have hI0 : (0 : Int) ≤ (k : Int) := by omega
          have hnum := num_at k hlt
          obtain ⟨qa, qb, qc, qd⟩ := q
          simp only []
          obtain ⟨hA, hB, hC, hD⟩ := Hok.out
          simp only [] at hA hB hC hD
          obtain ⟨tn, htn⟩ : ∃ t, nums.getD k 0 = t := ⟨_, rfl⟩
          rw [htn] at hnum
          have Htn := Lib.hid htn
          obtain ⟨F, hF⟩ : ∃ F, mixF k ⟨qa, qb, qc, qd⟩ = F := ⟨_, rfl⟩
          have HF := Lib.hid hF
          have hFl : F < M32 := by rw [← hF]; exact mixF_lt Hok.out
          obtain ⟨gm, hgm⟩ : ∃ gm, mixG k % 16 = gm := ⟨_, rfl⟩
          have Hgm := Lib.hid hgm
          have hgl : gm < 16 := by rw [← hgm]; exact Nat.mod_lt _ (by decide)
          obtain ⟨wv, hwv⟩ : ∃ wv, W.getD gm 0 = wv := ⟨_, rfl⟩
          have Hwv := Lib.hid hwv
          have hcw : wr.cell? ⟨w.heap.size + 1 + 1, gm, none⟩ = some (.int .u32 (wv : Int)) := by
            rw [← hwv]
            exact word_at HR.out HW.out hgl
          obtain ⟨k4, hk4⟩ : ∃ k4, k % 4 = k4 := ⟨_, rfl⟩
          have hk4i : (k : Int) % 4 = (k4 : Int) := by omega
          have hk4l : k4 < 4 := by omega
          have hk4l2 : (k4 : Int) < 4 := by omega
          have hgl2 : (gm : Int) < 16 := by omega
          obtain ⟨tv, htv⟩ : ∃ tv, turns.getD (k / 16 * 4 + k % 4) 0 = tv := ⟨_, rfl⟩
          have Htv := Lib.hid htv
          have htvb : 1 ≤ tv ∧ tv ≤ 31 := by rw [← htv]; exact turn_bound (k / 16 * 4 + k % 4) (by omega)
          obtain ⟨s3, hs3⟩ : ∃ s3, (F + (qa + tn + wv)) % M32 = s3 := ⟨_, rfl⟩
          have hs3l : s3 < M32 := by rw [← hs3]; exact Nat.mod_lt _ (by decide)
          have hs3i : ((F : Int) + ((qa : Int) + (tn : Int) + (wv : Int)) % 4294967296) % 4294967296 = (s3 : Int) := by
            unfold M32 at hs3
            omega
          obtain ⟨rt, hrt⟩ : ∃ rt, rot s3 tv = rt := ⟨_, rfl⟩
          have HRot := Lib.hid (rotl_any s3 tv hs3l htvb.1 htvb.2)
          rw [hrt] at HRot
          obtain ⟨s4, hs4⟩ : ∃ s4, (qb + rt) % M32 = s4 := ⟨_, rfl⟩
          have hs4i : ((qb : Int) + (rt : Int)) % 4294967296 = (s4 : Int) := by
            unfold M32 at hs4
            omega
          have Hs3 := Lib.hid hs3i
          have Hs4 := Lib.hid hs4i
          have Hnx : Hid (Q4.mk qd s4 qb qc = rnds W (k + 1) h) := Lib.hid (by
            show _ = rnd W k (rnds W k h)
            rw [← Hq.out]
            unfold rnd
            simp only []
            rw [hF, htn, hgm, hwv, htv, hs3, hrt, hs4])
          have Hok2 : Hid (Q4.mk qd s4 qb qc).Ok := Lib.hid (by rw [Hnx.out, show rnds W (k + 1) h = rnd W k (rnds W k h) from rfl, ← Hq.out]; exact rnd_ok Hok.out)
          clear hs3 hs3i hrt hs4 hs4i
          clear htn hF hgm hwv htv
          by_cases c0 : k / 16 = 0
          · have hq0 : (k : Int) / 16 = 0 := by omega
            have hFm : mixF k ⟨qa, qb, qc, qd⟩ = Nat.lor (Nat.land qb qc) (Nat.land (inv qb) qd) := by
              unfold mixF
              simp only [c0]
              rfl
            have hGm : mixG k = k := by
              unfold mixG
              simp only [c0]
              rfl
            have hf : bits .or .u32 (bits .and .u32 (qb : Int) (qc : Int)) (bits .and .u32 (bits .xor .u32 (if IntKind.u32.signed = true then -1 else IntKind.u32.max) (qb : Int)) (qd : Int)) = ((F : Nat) : Int) := by
              rw [inv32 _ hB, and32 _ _ hB hC, and32 _ _ (inv_lt _) hD, or32 _ _ (land_lt hB) (land_lt (inv_lt _))]
              rw [← HF.out, hFm]
            have hgi : (k : Int) % 16 = (gm : Int) := by
              rw [← Hgm.out, hGm]
              omega
            have htc : wr.cell? ⟨gT, k4, none⟩ = some (.int .i64 (tv : Int)) := by
              have := turn_at HR.out (4 * 0 + k4) (by omega)
              rw [← Htv.out, show k / 16 * 4 + k % 4 = 4 * 0 + k4 by omega]
              simpa using this
            clear hFm hGm
            go_upto_region 26 with (fail)
            try rw [hf]
            clear hf hnum
            go_upto_region 28 with (fail)
            rw [Hs3.out]
            clear hcw hgi hgl hgl2 hFl hA hC hD
            go_wp2_with (first
              | ((with_reducible refine (HRot.out _).mono ?_)
                 rintro e w8 ⟨rfl, hb8⟩
                 have H8 := Lib.hid (HR.out.ext hb8)
                 clear hb8))
            go_roundw
            case rel => exact ⟨k + 1, ⟨qd, s4, qb, qc⟩, by omega, by go_num, rfl, by rw [Hs4.out], rfl, rfl, Hnx, Hok2, H8⟩
            case measure => simp [intOf]; omega
          by_cases c1 : k / 16 = 1
          · have hq0 : (k : Int) / 16 = 1 := by omega
            have hFm : mixF k ⟨qa, qb, qc, qd⟩ = Nat.lor (Nat.land qd qb) (Nat.land (inv qd) qc) := by
              unfold mixF
              simp only [c1]
              rfl
            have hGm : mixG k = 5 * k + 1 := by
              unfold mixG
              simp only [c1]
              rfl
            have hf : bits .or .u32 (bits .and .u32 (qd : Int) (qb : Int)) (bits .and .u32 (bits .xor .u32 (if IntKind.u32.signed = true then -1 else IntKind.u32.max) (qd : Int)) (qc : Int)) = ((F : Nat) : Int) := by
              rw [inv32 _ hD, and32 _ _ hD hB, and32 _ _ (inv_lt _) hC, or32 _ _ (land_lt hD) (land_lt (inv_lt _))]
              rw [← HF.out, hFm]
            have hgi : (5 * (k : Int) + 1) % 16 = (gm : Int) := by
              rw [← Hgm.out, hGm]
              omega
            have htc : wr.cell? ⟨gT, 4 + k4, none⟩ = some (.int .i64 (tv : Int)) := by
              have := turn_at HR.out (4 * 1 + k4) (by omega)
              rw [← Htv.out, show k / 16 * 4 + k % 4 = 4 * 1 + k4 by omega]
              simpa using this
            clear hFm hGm
            go_upto_region 26 with (fail)
            try rw [hf]
            clear hf hnum
            go_upto_region 28 with (fail)
            rw [Hs3.out]
            clear hcw hgi hgl hgl2 hFl hA hC hD
            go_wp2_with (first
              | ((with_reducible refine (HRot.out _).mono ?_)
                 rintro e w8 ⟨rfl, hb8⟩
                 have H8 := Lib.hid (HR.out.ext hb8)
                 clear hb8))
            go_roundw
            case rel => exact ⟨k + 1, ⟨qd, s4, qb, qc⟩, by omega, by go_num, rfl, by rw [Hs4.out], rfl, rfl, Hnx, Hok2, H8⟩
            case measure => simp [intOf]; omega
          by_cases c2 : k / 16 = 2
          · have hq0 : (k : Int) / 16 = 2 := by omega
            have hFm : mixF k ⟨qa, qb, qc, qd⟩ = Nat.xor (Nat.xor qb qc) qd := by
              unfold mixF
              simp only [c2]
              rfl
            have hGm : mixG k = 3 * k + 5 := by
              unfold mixG
              simp only [c2]
              rfl
            have hf : bits .xor .u32 (bits .xor .u32 (qb : Int) (qc : Int)) (qd : Int) = ((F : Nat) : Int) := by
              rw [xor32 _ _ hB hC, xor32 _ _ (xor_lt hB hC) hD]
              rw [← HF.out, hFm]
            have hgi : (3 * (k : Int) + 5) % 16 = (gm : Int) := by
              rw [← Hgm.out, hGm]
              omega
            have htc : wr.cell? ⟨gT, 8 + k4, none⟩ = some (.int .i64 (tv : Int)) := by
              have := turn_at HR.out (4 * 2 + k4) (by omega)
              rw [← Htv.out, show k / 16 * 4 + k % 4 = 4 * 2 + k4 by omega]
              simpa using this
            clear hFm hGm
            go_upto_region 26 with (fail)
            try rw [hf]
            clear hf hnum
            go_upto_region 28 with (fail)
            rw [Hs3.out]
            clear hcw hgi hgl hgl2 hFl hA hC hD
            go_wp2_with (first
              | ((with_reducible refine (HRot.out _).mono ?_)
                 rintro e w8 ⟨rfl, hb8⟩
                 have H8 := Lib.hid (HR.out.ext hb8)
                 clear hb8))
            go_roundw
            case rel => exact ⟨k + 1, ⟨qd, s4, qb, qc⟩, by omega, by go_num, rfl, by rw [Hs4.out], rfl, rfl, Hnx, Hok2, H8⟩
            case measure => simp [intOf]; omega
          have c3 : k / 16 = 3 := by omega
          have hq0 : (k : Int) / 16 = 3 := by omega
          have hFm : mixF k ⟨qa, qb, qc, qd⟩ = Nat.xor qc (Nat.lor qb (inv qd)) := by
            unfold mixF
            simp only [c3]
            rfl
          have hGm : mixG k = 7 * k := by
            unfold mixG
            simp only [c3]
            rfl
          have hf : bits .xor .u32 (qc : Int) (bits .or .u32 (qb : Int) (bits .xor .u32 (if IntKind.u32.signed = true then -1 else IntKind.u32.max) (qd : Int))) = ((F : Nat) : Int) := by
            rw [inv32 _ hD, or32 _ _ hB (inv_lt _), xor32 _ _ hC (lor_lt hB (inv_lt _))]
            rw [← HF.out, hFm]
          have hgi : (7 * (k : Int)) % 16 = (gm : Int) := by
            rw [← Hgm.out, hGm]
            omega
          have htc : wr.cell? ⟨gT, 12 + k4, none⟩ = some (.int .i64 (tv : Int)) := by
            have := turn_at HR.out (4 * 3 + k4) (by omega)
            rw [← Htv.out, show k / 16 * 4 + k % 4 = 4 * 3 + k4 by omega]
            simpa using this
          clear hFm hGm
          go_upto_region 26 with (fail)
          try rw [hf]
          clear hf hnum
          go_upto_region 28 with (fail)
          rw [Hs3.out]
          clear hcw hgi hgl hgl2 hFl hA hC hD
          go_wp2_with (first
            | ((with_reducible refine (HRot.out _).mono ?_)
               rintro e w8 ⟨rfl, hb8⟩
               have H8 := Lib.hid (HR.out.ext hb8)
               clear hb8))
          go_roundw
          case rel => exact ⟨k + 1, ⟨qd, s4, qb, qc⟩, by omega, by go_num, rfl, by rw [Hs4.out], rfl, rfl, Hnx, Hok2, H8⟩
          case measure => simp [intOf]; omega
        · obtain rfl : k = 64 := by omega
          obtain ⟨qa, qb, qc, qd⟩ := q
          simp only []
          have f0 : wr.cell? ⟨w.heap.size, 0, none⟩ = some (.int .u32 h.a) := (Blk.box (HR.out.at 3 rfl)).cell 0
          have f1 : wr.cell? ⟨w.heap.size, 1, none⟩ = some (.int .u32 h.b) := (Blk.box (HR.out.at 3 rfl)).cell 1
          have f2 : wr.cell? ⟨w.heap.size, 2, none⟩ = some (.int .u32 h.c) := (Blk.box (HR.out.at 3 rfl)).cell 2
          have f3 : wr.cell? ⟨w.heap.size, 3, none⟩ = some (.int .u32 h.d) := (Blk.box (HR.out.at 3 rfl)).cell 3
          obtain ⟨r0, hr0⟩ : ∃ r, (h.a + qa) % M32 = r := ⟨_, rfl⟩
          have hri0 : ((h.a : Int) + (qa : Int)) % 4294967296 = (r0 : Int) := by
            unfold M32 at hr0
            omega
          have Hr0 := Lib.hid hr0
          clear hr0
          obtain ⟨r1, hr1⟩ : ∃ r, (h.b + qb) % M32 = r := ⟨_, rfl⟩
          have hri1 : ((h.b : Int) + (qb : Int)) % 4294967296 = (r1 : Int) := by
            unfold M32 at hr1
            omega
          have Hr1 := Lib.hid hr1
          clear hr1
          obtain ⟨r2, hr2⟩ : ∃ r, (h.c + qc) % M32 = r := ⟨_, rfl⟩
          have hri2 : ((h.c : Int) + (qc : Int)) % 4294967296 = (r2 : Int) := by
            unfold M32 at hr2
            omega
          have Hr2 := Lib.hid hr2
          clear hr2
          obtain ⟨r3, hr3⟩ : ∃ r, (h.d + qd) % M32 = r := ⟨_, rfl⟩
          have hri3 : ((h.d : Int) + (qd : Int)) % 4294967296 = (r3 : Int) := by
            unfold M32 at hr3
            omega
          have Hr3 := Lib.hid hr3
          clear hr3
          have hfin : (blockM h s) = ⟨r0, r1, r2, r3⟩ := by
            unfold blockM
            simp only []
            rw [HW.out, ← Hq.out, Hr0.out, Hr1.out, Hr2.out, Hr3.out]
          have Hfin := Lib.hid hfin
          have B9 := Lib.hid (HR.out.at 2 rfl)
          clear hfin Hq Hok
          go_wp2_with (first
            | (with_reducible refine wpList_buildA (t := 64) [(0, .int .u32 (r0 : Int)), (1, .int .u32 (r1 : Int)), (2, .int .u32 (r2 : Int)), (3, .int .u32 (r3 : Int))] (Q4.vals ⟨r0, r1, r2, r3⟩) (by with_unfolding_all rfl) (q4_built r0 r1 r2 r3) ?_)
            | (with_reducible refine wpList_store_blk (ty := 64) (o := 0) _ (Q4.vals ⟨r0, r1, r2, r3⟩) (by with_unfolding_all rfl) (by with_unfolding_all rfl) B9.out (by with_unfolding_all exact Nat.le_refl _) (by with_unfolding_all exact info64) (Q4.one _) (fun W9 hBW9 hoW9 => ?_)))
          have h9 := (HR.out.pull 2 rfl).sets (L' := Q4.vals ⟨r0, r1, r2, r3⟩) hBW9 hoW9
          exact ret_cell (cs := Q4.vals ⟨r0, r1, r2, r3⟩) Try.results38 (by rfl) (Blk.box h9.head).range Try.underlying64 rfl info64 rfl ⟨by rw [Hfin.out], h9.below⟩
end Go.Proofs.Ytjekdodboihfhaa
