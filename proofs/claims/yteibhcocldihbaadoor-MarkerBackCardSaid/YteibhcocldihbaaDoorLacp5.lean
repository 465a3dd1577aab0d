/- lacp: markers; '==' at what both sides know. -/
import Derived.Test.YteibhcocldihbaaDoorLacp4
namespace Go.Proofs.YteibhcocldihbaaDoor
open Go.RowKit
structure Mk where
  reply : Bool
  port : Int
  sys : Ad
  txn : Int
deriving DecidableEq, Inhabited
def Mk.vals (m : Mk) : List Value := .bool m.reply :: .int .i64 m.port :: (m.sys.vals ++ [.int .i64 m.txn])
theorem Mk.len (m : Mk) : m.vals.length = 9 := rfl
theorem Mk.one (m : Mk) : ∀ v ∈ m.vals, v.oneCell' = true := fun v hv => by
  simp only [Mk.vals, Ad.vals, List.cons_append, List.nil_append, List.mem_cons, List.not_mem_nil, or_false] at hv
  rcases hv with rfl | rfl | rfl | rfl | rfl | rfl | rfl | rfl | rfl <;> rfl
theorem info25 : (Tryd.prog.info? 25).map (·.size) = some 9 := by kernel_rfl
def Mk.okB (m : Mk) : Bool := [m.port].all sh && (decide (0 ≤ m.txn) && decide (m.txn < 4294967296))
def Mk.kind (m : Mk) : Nat := if m.reply then 2 else 1
def Mk.bytes (m : Mk) : List UInt8 := [2, 1] ++ beBytes m.kind 1 ++ [16] ++ beBytes m.port.toNat 2 ++ m.sys.list ++ beBytes m.txn.toNat 4 ++ List.replicate 94 0
theorem Mk.bytes_len (m : Mk) : m.bytes.length = 110 := by simp [Mk.bytes, beBytes_len, Ad.list]
theorem Mk.ok_iff {m : Mk} : m.okB = true ↔ 0 ≤ m.port ∧ m.port ≤ 65535 ∧ 0 ≤ m.txn ∧ m.txn < 4294967296 := by
  simp [Mk.okB, sh, and_assoc]
def readMkM (s : List UInt8) : Mk × Bool × RS :=
  let h := headM (newM s 0) [2, 1]
  let k := numM h 1
  let R2 := if k.2.err = none ∧ k.1 ≠ 1 ∧ k.1 ≠ 2 then failM k.2 3 (h.place : Int) else k.2
  let p := numM (headM R2 [16]) 2
  let b := bytesM p.2 6
  let t := numM b.2 4
  let c := bytesM t.2 2
  let d := bytesM (headM c.2 [0, 0]) 90
  (⟨decide (k.1 = 2), p.1, Ad.of b.1, t.1⟩, zerosM d.2)
theorem readMk_bytes (m : Mk) (hm : m.okB = true) : ∃ R, readMkM m.bytes = (m, true, R) ∧ R.err = none := by
  obtain ⟨p0, p1, t0, t1⟩ := Mk.ok_iff.1 hm
  have hk : m.kind = 1 ∨ m.kind = 2 := by unfold Mk.kind; split <;> simp
  have g0 : (newM m.bytes 0).Left ([2, 1] ++ (beBytes m.kind 1 ++ ([16] ++ (beBytes m.port.toNat 2 ++ (m.sys.list ++ (beBytes m.txn.toNat 4 ++ ([0, 0] ++ ([0, 0] ++ (List.replicate 90 0 ++ []))))))))) := by
    have := newM_left m.bytes 0 (by rw [Mk.bytes_len]; decide)
    have e : (List.replicate 94 (0 : UInt8)) = [0, 0] ++ ([0, 0] ++ (List.replicate 90 0 ++ [])) := by decide
    unfold Mk.bytes at this ⊢
    rw [e] at this ⊢
    simpa only [List.append_assoc] using this
  have g1 := g0.skip rfl
  have g2 := g1.skip (beBytes_len _ 1)
  have g3 := g2.skip rfl
  have g4 := g3.skip (beBytes_len _ 2)
  have g5 := g4.skip (Ad.len _)
  have g6 := g5.skip (beBytes_len _ 4)
  have g7 := g6.skip (n := 2) rfl
  have g8 := g7.skip rfl
  have h90 : (List.replicate 90 (0 : UInt8)).length = 90 := by simp
  have g9 := g8.skip h90
  refine ⟨{ ((((((((((newM m.bytes 0).skip 2).skip 1).skip 1).skip 2).skip 6).skip 4).skip 2).skip 2).skip 90) with at_ := ((((((((((newM m.bytes 0).skip 2).skip 1).skip 1).skip 2).skip 6).skip 4).skip 2).skip 2).skip 90).s.length }, ?_, g9.none⟩
  unfold readMkM
  simp only [headM_left g0, numM_be g1 (show m.kind < 256 ^ 1 by omega)]
  rw [if_neg (by omega)]
  simp only [headM_left g2, numM_be g3 (show m.port.toNat < 256 ^ 2 by omega), bytesM_left g4 (Ad.len _), numM_be g5 (show m.txn.toNat < 256 ^ 4 by omega), bytesM_left g6 (n := 2) rfl, headM_left g7, bytesM_left g8 h90, zerosM_left g9 (by simp), Ad.of_list]
  have hd : decide (m.kind = 2) = m.reply := by unfold Mk.kind; cases m.reply <;> simp
  rw [hd, show ((m.port.toNat : Nat) : Int) = m.port by omega, show ((m.txn.toNat : Nat) : Int) = m.txn by omega]
  rfl
/-! ### '==' of a value and itself -/
theorem ad_self (x : Ad) (d : Nat) (W : World) : (Op.equalIn (d + 1 + 1) 23 (.agg x.vals.toArray) (.agg x.vals.toArray)).run Tryd.prog W = .ok true W := by
  rw [ad_eqIn]; simp
theorem pty_self (p : Pty) (d : Nat) (W : World) : (Op.equalIn (d + 1 + 1 + 1) 83 (.agg p.vals.toArray) (.agg p.vals.toArray)).run Tryd.prog W = .ok true W := by
  have u3 := Tryd.underlying3
  have a3 := Tryd.isAgg3
  have z3 := Tryd.sizeOf3
  have a27 := Tryd.isAgg23
  have z27 := Tryd.sizeOf23
  have hS : Tryd.prog.underlying 83 = some (.struct (Tryd.prog.fieldsOf 83)) := by kernel_rfl
  have hp : Tryd.prog.stoodInHeld 83 = false := by kernel_rfl
  obtain ⟨x0, ⟨x1, x2, x3, x4, x5, x6⟩, x7, x8, x9, x10⟩ := p
  have had := ad_self ⟨x1, x2, x3, x4, x5, x6⟩ d W
  simp only [Ad.vals] at had
  simp only [Pty.vals, Ad.vals, List.cons_append, List.nil_append]
  rw [run_equalIn_agg W (d + 1 + 1) 83 _ _ hS hp]
  simp only [Program.fieldsOf, Tryd.underlying83]
  go_simp
set_option maxRecDepth 100000 in
set_option maxHeartbeats 1000000 in
theorem lac_self (l : Lac) (d : Nat) (W : World) : (Op.equalIn (d + 1 + 1 + 1 + 1) 85 (.agg l.vals.toArray) (.agg l.vals.toArray)).run Tryd.prog W = .ok true W := by
  have u3 := Tryd.underlying3
  have a3 := Tryd.isAgg3
  have z3 := Tryd.sizeOf3
  have a54 := Tryd.isAgg83
  have z54 := Tryd.sizeOf83
  have hS : Tryd.prog.underlying 85 = some (.struct (Tryd.prog.fieldsOf 85)) := by kernel_rfl
  have hp : Tryd.prog.stoodInHeld 85 = false := by kernel_rfl
  obtain ⟨p, q, dl⟩ := l
  have h1 : (Op.equalIn (d + 2) 23 (.agg p.sys.vals.toArray) (.agg p.sys.vals.toArray)).run Tryd.prog W = .ok true W := ad_self p.sys d W
  have h2 : (Op.equalIn (d + 2) 23 (.agg q.sys.vals.toArray) (.agg q.sys.vals.toArray)).run Tryd.prog W = .ok true W := ad_self q.sys d W
  obtain ⟨x0, ⟨x1, x2, x3, x4, x5, x6⟩, x7, x8, x9, x10⟩ := p
  obtain ⟨y0, ⟨y1, y2, y3, y4, y5, y6⟩, y7, y8, y9, y10⟩ := q
  simp only [Pty.vals, Ad.vals, List.cons_append, List.nil_append] at h1 h2
  simp only [Lac.vals, Pty.vals, Ad.vals, List.cons_append, List.nil_append]
  rw [run_equalIn_agg W (d + 1 + 1 + 1) 85 _ _ hS hp]
  simp only [Program.fieldsOf, Tryd.underlying85]
  go_simp
theorem lac_eq (l : Lac) (W : World) : (binOp .eql 85 (.agg l.vals.toArray) (.agg l.vals.toArray)).run Tryd.prog W = .ok (.bool true) W := by
  rw [run_eql_struct, show (10000 : Nat) = 9996 + 1 + 1 + 1 + 1 from rfl, lac_self]; rfl
theorem lac_guard (l : Lac) (p q : Operand) (W : World) : (eqGuard .eql 85 p q (.agg l.vals.toArray) (.agg l.vals.toArray)).run Tryd.prog W = .ok () W := run_eqGuard_agg W .eql _ p q _ _ (by kernel_rfl)
theorem mk_self (m : Mk) (d : Nat) (W : World) : (Op.equalIn (d + 1 + 1 + 1) 25 (.agg m.vals.toArray) (.agg m.vals.toArray)).run Tryd.prog W = .ok true W := by
  have u3 := Tryd.underlying3
  have a3 := Tryd.isAgg3
  have z3 := Tryd.sizeOf3
  have u4 := Tryd.underlying4
  have a4 := Tryd.isAgg4
  have z4 := Tryd.sizeOf4
  have a27 := Tryd.isAgg23
  have z27 := Tryd.sizeOf23
  have hS : Tryd.prog.underlying 25 = some (.struct (Tryd.prog.fieldsOf 25)) := by kernel_rfl
  have hp : Tryd.prog.stoodInHeld 25 = false := by kernel_rfl
  obtain ⟨x0, x7, ⟨x1, x2, x3, x4, x5, x6⟩, x8⟩ := m
  have had := ad_self ⟨x1, x2, x3, x4, x5, x6⟩ d W
  simp only [Ad.vals] at had
  simp only [Mk.vals, Ad.vals, List.cons_append, List.nil_append]
  rw [run_equalIn_agg W (d + 1 + 1) 25 _ _ hS hp]
  simp only [Program.fieldsOf, Tryd.underlying25]
  go_simp
theorem mk_eq (m : Mk) (W : World) : (binOp .eql 25 (.agg m.vals.toArray) (.agg m.vals.toArray)).run Tryd.prog W = .ok (.bool true) W := by
  rw [run_eql_struct, show (10000 : Nat) = 9997 + 1 + 1 + 1 from rfl, mk_self]; rfl
theorem mk_guard (m : Mk) (p q : Operand) (W : World) : (eqGuard .eql 25 p q (.agg m.vals.toArray) (.agg m.vals.toArray)).run Tryd.prog W = .ok () W := run_eqGuard_agg W .eql _ p q _ _ (by kernel_rfl)
end Go.Proofs.YteibhcocldihbaaDoor
