/- copy of six bytes; a struct built of opaque parts (out of Lacp3, Lacp4). -/
import Derived.Test.YtkicbabfgahmkaaDoorLacpM
import Derived.Test.YtkicbabfgahmkaaDoorMust
import Derived.Test.YtkicbabfgahmkaaDoorStE
import Derived.Test.YtkicbabfgahmkaaDoorHeld
import Derived.Test.YtkicbabfgahmkaaDoorHeldG
import Derived.Test.YtkicbabfgahmkaaDoorQuietTail
import Derived.Lib.BufferWrite
import Derived.Lib.SlBuf
set_option linter.all false
namespace Go.Proofs.YtkicbabfgahmkaaDoor
open Go.RowKit
section
variable {B : Nat} {w0 w : World} {A : List It} {b g : Nat} {R : RS}
/-- 'string(x[:])' of an address that lies in memory. -/
theorem conv_ad {w : World} {g o : Nat} (x : Ad) (h : w.rangeAt g o x.vals) : (convert 83 9 (.slice (some ⟨g, o, none⟩) 6 6)).run Tryd.prog w = .ok (.string ⟨x.list.toArray⟩) w := by
  have := run_convert_bytes_back (P := Tryd.prog) w 83 9 5 ⟨g, o, none⟩ 6 x.list Tryd.underlying83 Tryd.underlying5 Tryd.underlying9 (fun j hj => by
    rw [Addr.add_lit]
    refine h j _ ?_
    obtain ⟨a, b, c, d, e, f⟩ := x
    match j, hj with
    | 0, _ | 1, _ | 2, _ | 3, _ | 4, _ | 5, _ => rfl)
  exact this
theorem ba_eq_iff (l m : List UInt8) : ((⟨l.toArray⟩ : ByteArray) = ⟨m.toArray⟩) ↔ l = m := by
  constructor
  · intro h
    have := congrArg ByteArray.data h
    simpa using this
  · rintro rfl; rfl
theorem St.copyS {t : TypeId} {L : List Value} (h : St B w0 w (bk g t L :: A)) (o : Nat) (l : List UInt8) (ho : o + l.length ≤ L.length) :
    St B w0 (w.setRow g (L.take o ++ Lib.byteCells l ++ L.drop (o + l.length)).toArray) (bk g t (L.take o ++ Lib.byteCells l ++ L.drop (o + l.length)) :: A) := by
  have hB : w.heap[g]? = some (.cells L.toArray t (0, 0)) := h.head
  refine h.sets ?_ ⟨rfl, rfl, rfl, by simp [World.setRow], fun k hk => setRow_other w g k _ hk⟩
  show Blk _ g t _
  unfold Blk
  rw [setRow_heap w g _ _ t _ hB]
def zero6 : List Value := [.int .u8 0, .int .u8 0, .int .u8 0, .int .u8 0, .int .u8 0, .int .u8 0]
theorem copy_ad (pre rest : List Value) (o : Nat) (ho : pre.length = o) (c : List UInt8) (hc : c = [] ∨ c.length = 6) :
    (pre ++ (zero6 ++ rest)).take o ++ Lib.byteCells c ++ (pre ++ (zero6 ++ rest)).drop (o + c.length) = pre ++ ((Ad.of c).vals ++ rest) := by
  subst ho
  rw [List.take_left' rfl, ← List.drop_drop, List.drop_left' rfl, List.append_assoc]
  congr 1
  rcases hc with rfl | hc
  · rfl
  · match c, hc with
    | [_, _, _, _, _, _], _ => rfl
theorem copy_run {L : List Value} {t : TypeId} (h : St B w0 w (bk g t L :: A)) (o n cap : Nat) (l : List UInt8) (hl : l.length ≤ n) (ho : o + l.length ≤ L.length) (ty : TypeId) :
    (Builtin.copy_ #[83, 9] ty #[.slice (some ⟨g, o, none⟩) n cap, .string ⟨l.toArray⟩]).run Tryd.prog w = .ok (goInt l.length) (w.setRow g (L.take o ++ Lib.byteCells l ++ L.drop (o + l.length)).toArray) :=
  Lib.run_copy_row_string (P := Tryd.prog) w 83 9 ty 5 g o n cap ⟨l.toArray⟩ L.toArray t Tryd.underlying83 (by kernel_rfl) h.head hl (by show o + l.length ≤ _; simpa using ho)
/-- 'copy(p.Addr[:], s)', of six bytes or of none, into noughts. -/
theorem copyAd_run {t : TypeId} (pre rest : List Value) (o cap : Nat) (c : List UInt8) (h : St B w0 w (bk g t (pre ++ (zero6 ++ rest)) :: A)) (ho : pre.length = o) (hc : c = [] ∨ c.length = 6) (ty : TypeId) :
    (Builtin.copy_ #[83, 9] ty #[.slice (some ⟨g, o, none⟩) 6 cap, .string ⟨c.toArray⟩]).run Tryd.prog w = .ok (goInt c.length) (w.setRow g (pre ++ ((Ad.of c).vals ++ rest)).toArray) := by
  have := copy_run h o 6 cap c (by rcases hc with rfl | h <;> simp_all) (by subst ho; simp only [List.length_append, zero6, List.length_cons, List.length_nil]; rcases hc with rfl | h <;> simp_all <;> omega) ty
  rw [copy_ad pre rest o ho c hc] at this
  exact this
theorem St.copyAd {t : TypeId} (pre rest : List Value) (o : Nat) (c : List UInt8) (h : St B w0 w (bk g t (pre ++ (zero6 ++ rest)) :: A)) (ho : pre.length = o) (hc : c = [] ∨ c.length = 6) :
    St B w0 (w.setRow g (pre ++ ((Ad.of c).vals ++ rest)).toArray) (bk g t (pre ++ ((Ad.of c).vals ++ rest)) :: A) := by
  have := h.copyS o c (by subst ho; simp only [List.length_append, zero6, List.length_cons, List.length_nil]; rcases hc with rfl | h <;> simp_all <;> omega)
  rw [copy_ad pre rest o ho c hc] at this
  exact this
end
theorem wpList_buildA {P : Program} {ops : Array Oper} {rest : List Oper} {d : Tmp} {t : TypeId} {parts : Array (Nat × Operand)} {t' : TypeId} {pos : String} {after : Array Edge} {a : Act} {w : World} {Q : Exit → Act → World → Prop} (vs : List (Nat × Value)) (cells : List Value)
    (hv : (parts.map fun (i, x) => (i, a.eval x)).toList = vs) (hc : P.built t vs = some cells.toArray) (h : wpList P ops Q rest (a.put (some d) (.agg cells.toArray)) w) :
    wpList P ops Q (⟨some d, .build t parts, t', pos, after, none⟩ :: rest) a w := by
  refine wpList_build rfl t parts rfl (by rw [hv, hc]; rfl) ?_
  rw [hv, hc]; exact h
end Go.Proofs.YtkicbabfgahmkaaDoor
