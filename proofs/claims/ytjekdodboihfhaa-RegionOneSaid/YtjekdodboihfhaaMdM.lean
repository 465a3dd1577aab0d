/- Marks of texts, as plain data. No program in sight. -/
import Derived.Test.YtjekdodboihfhaaBytes
set_option linter.all false
namespace Go.Proofs.Ytjekdodboihfhaa
def M32 : Nat := 4294967296
structure Q4 where
  a : Nat
  b : Nat
  c : Nat
  d : Nat
deriving DecidableEq
def nums : List Nat := [0xd76aa478, 0xe8c7b756, 0x242070db, 0xc1bdceee, 0xf57c0faf, 0x4787c62a, 0xa8304613, 0xfd469501,
 0x698098d8, 0x8b44f7af, 0xffff5bb1, 0x895cd7be, 0x6b901122, 0xfd987193, 0xa679438e, 0x49b40821,
 0xf61e2562, 0xc040b340, 0x265e5a51, 0xe9b6c7aa, 0xd62f105d, 0x02441453, 0xd8a1e681, 0xe7d3fbc8,
 0x21e1cde6, 0xc33707d6, 0xf4d50d87, 0x455a14ed, 0xa9e3e905, 0xfcefa3f8, 0x676f02d9, 0x8d2a4c8a,
 0xfffa3942, 0x8771f681, 0x6d9d6122, 0xfde5380c, 0xa4beea44, 0x4bdecfa9, 0xf6bb4b60, 0xbebfbc70,
 0x289b7ec6, 0xeaa127fa, 0xd4ef3085, 0x04881d05, 0xd9d4d039, 0xe6db99e5, 0x1fa27cf8, 0xc4ac5665,
 0xf4292244, 0x432aff97, 0xab9423a7, 0xfc93a039, 0x655b59c3, 0x8f0ccc92, 0xffeff47d, 0x85845dd1,
 0x6fa87e4f, 0xfe2ce6e0, 0xa3014314, 0x4e0811a1, 0xf7537e82, 0xbd3af235, 0x2ad7d2bb, 0xeb86d391]
def turns : List Nat := [7, 12, 17, 22, 5, 9, 14, 20, 4, 11, 16, 23, 6, 10, 15, 21]
def rot (x r : Nat) : Nat := Nat.lor (x * 2 ^ r % M32) (x / 2 ^ (32 - r))
def inv (x : Nat) : Nat := 4294967295 - x
def mixF (i : Nat) (q : Q4) : Nat :=
  if i / 16 = 0 then Nat.lor (Nat.land q.b q.c) (Nat.land (inv q.b) q.d)
  else if i / 16 = 1 then Nat.lor (Nat.land q.d q.b) (Nat.land (inv q.d) q.c)
  else if i / 16 = 2 then Nat.xor (Nat.xor q.b q.c) q.d
  else Nat.xor q.c (Nat.lor q.b (inv q.d))
def mixG (i : Nat) : Nat := if i / 16 = 0 then i else if i / 16 = 1 then 5 * i + 1 else if i / 16 = 2 then 3 * i + 5 else 7 * i
def rnd (w : List Nat) (i : Nat) (q : Q4) : Q4 :=
  ⟨q.d, (q.b + rot ((mixF i q + (q.a + nums.getD i 0 + w.getD (mixG i % 16) 0)) % M32) (turns.getD (i / 16 * 4 + i % 4) 0)) % M32, q.b, q.c⟩
def rnds (w : List Nat) : Nat → Q4 → Q4
  | 0, q => q
  | k + 1, q => rnd w k (rnds w k q)
def word (s : List UInt8) (i : Nat) : Nat := (s.getD (4 * i) 0).toNat + 256 * (s.getD (4 * i + 1) 0).toNat + 65536 * (s.getD (4 * i + 2) 0).toNat + 16777216 * (s.getD (4 * i + 3) 0).toNat
def words (s : List UInt8) : List Nat := (List.range 16).map (word s)
def blockM (h : Q4) (s : List UInt8) : Q4 := let q := rnds (words s) 64 h; ⟨(h.a + q.a) % M32, (h.b + q.b) % M32, (h.c + q.c) % M32, (h.d + q.d) % M32⟩
def le (x n : Nat) : List UInt8 := (List.range n).map fun i => UInt8.ofNat (x / 2 ^ (8 * i) % 256)
def pad (s : List UInt8) : List UInt8 := s ++ 128 :: (List.replicate ((120 - (s.length + 1) % 64) % 64) 0 ++ le (s.length * 8) 8)
def runM : Nat → Q4 → List UInt8 → Q4
  | 0, h, _ => h
  | f + 1, h, s => if s = [] then h else runM f (blockM h (s.take 64)) (s.drop 64)
def h0 : Q4 := ⟨0x67452301, 0xefcdab89, 0x98badcfe, 0x10325476⟩
def outM (h : Q4) : List UInt8 := le h.a 4 ++ le h.b 4 ++ le h.c 4 ++ le h.d 4
def sumM (s : List UInt8) : List UInt8 := outM (runM (s.length + 100) h0 (pad s))

theorem le_len (x n : Nat) : (le x n).length = n := by simp [le]
theorem outM_len (h : Q4) : (outM h).length = 16 := by simp [outM, le_len]
theorem sumM_len (s : List UInt8) : (sumM s).length = 16 := outM_len _
theorem pad_len (s : List UInt8) : (pad s).length = s.length + 1 + (120 - (s.length + 1) % 64) % 64 + 8 := by
  simp only [pad, List.length_append, List.length_cons, List.length_replicate, le_len]
  omega
theorem pad_mod (s : List UInt8) : (pad s).length % 64 = 0 := by
  rw [pad_len]; omega
/-- A key of sixty-four bytes. -/
def keyM (k : List UInt8) : List UInt8 := k ++ List.replicate (64 - k.length) 0
def xorM (x : UInt8) (k : List UInt8) : List UInt8 := k.map fun c => c ^^^ x
def keyS (k : List UInt8) : List UInt8 := if 64 < k.length then sumM k else k
def hmacM (k s : List UInt8) : List UInt8 := sumM (xorM 92 (keyM (keyS k)) ++ sumM (xorM 54 (keyM (keyS k)) ++ s))
theorem hmacM_len (k s : List UInt8) : (hmacM k s).length = 16 := sumM_len _
theorem keyS_len (k : List UInt8) : (keyS k).length ≤ 64 := by
  unfold keyS
  split
  · rw [sumM_len]; omega
  · omega
theorem keyM_len {k : List UInt8} (h : k.length ≤ 64) : (keyM k).length = 64 := by
  simp only [keyM, List.length_append, List.length_replicate]; omega
theorem hmac_long {k : List UInt8} (s : List UInt8) (h : 64 < k.length) : hmacM k s = hmacM (sumM k) s := by
  have e : keyS k = keyS (sumM k) := by
    unfold keyS
    rw [if_pos h, if_neg (by rw [sumM_len]; omega)]
  unfold hmacM
  rw [e]
theorem hmac_short {k : List UInt8} (s : List UInt8) (h : k.length < 64) : hmacM k s = hmacM (k ++ [0]) s := by
  have e : keyM (keyS k) = keyM (keyS (k ++ [0])) := by
    unfold keyS
    rw [if_neg (by omega), if_neg (by simp; omega)]
    unfold keyM
    rw [List.append_assoc]
    congr 1
    rw [show 64 - k.length = (64 - (k ++ [0]).length) + 1 by simp; omega, List.replicate_succ]
    rfl
  unfold hmacM
  rw [e]
set_option maxRecDepth 1000000 in
theorem md_abc : sumM [97, 98, 99] = [0x90,0x01,0x50,0x98,0x3c,0xd2,0x4f,0xb0,0xd6,0x96,0x3f,0x7d,0x28,0xe1,0x7f,0x72] := by decide +kernel
set_option maxRecDepth 1000000 in
theorem md_jefe : hmacM [74, 101, 102, 101] [119, 104, 97, 116, 32, 100, 111, 32, 121, 97, 32, 119, 97, 110, 116, 32, 102, 111, 114, 32, 110, 111, 116, 104, 105, 110, 103, 63] = [0x75,0x0c,0x78,0x3e,0x6a,0xb0,0xb5,0x03,0xea,0xa8,0x6e,0x31,0x0a,0x5d,0xb7,0x38] := by decide +kernel
/-! ### Numbers of thirty-two bits -/
theorem lor_lt {a b : Nat} (ha : a < M32) (hb : b < M32) : Nat.lor a b < M32 := Nat.or_lt_two_pow (n := 32) ha hb
theorem land_lt {a b : Nat} (ha : a < M32) : Nat.land a b < M32 := Nat.lt_of_le_of_lt Nat.and_le_left ha
theorem xor_lt {a b : Nat} (ha : a < M32) (hb : b < M32) : Nat.xor a b < M32 := Nat.xor_lt_two_pow (n := 32) ha hb
theorem inv_lt (a : Nat) : inv a < M32 := by unfold inv M32; omega
theorem rot_lt {x r : Nat} (hx : x < M32) : rot x r < M32 := by
  unfold rot
  exact lor_lt (Nat.mod_lt _ (by decide)) (Nat.lt_of_le_of_lt (Nat.div_le_self _ _) hx)
structure Q4.Ok (q : Q4) : Prop where
  a : q.a < M32
  b : q.b < M32
  c : q.c < M32
  d : q.d < M32
theorem mixF_lt {i : Nat} {q : Q4} (h : q.Ok) : mixF i q < M32 := by
  unfold mixF
  split
  · exact lor_lt (land_lt h.b) (land_lt (inv_lt _))
  · split
    · exact lor_lt (land_lt h.d) (land_lt (inv_lt _))
    · split
      · exact xor_lt (xor_lt h.b h.c) h.d
      · exact xor_lt h.c (lor_lt h.b (inv_lt _))
theorem rnd_ok {w : List Nat} {i : Nat} {q : Q4} (h : q.Ok) : (rnd w i q).Ok := ⟨h.d, Nat.mod_lt _ (by decide), h.b, h.c⟩
theorem rnds_ok {w : List Nat} {q : Q4} (h : q.Ok) : ∀ k, (rnds w k q).Ok
  | 0 => h
  | k + 1 => rnd_ok (rnds_ok h k)
theorem blockM_ok (h : Q4) (s : List UInt8) : (blockM h s).Ok := ⟨Nat.mod_lt _ (by decide), Nat.mod_lt _ (by decide), Nat.mod_lt _ (by decide), Nat.mod_lt _ (by decide)⟩
theorem h0_ok : h0.Ok := ⟨by decide, by decide, by decide, by decide⟩
end Go.Proofs.Ytjekdodboihfhaa
