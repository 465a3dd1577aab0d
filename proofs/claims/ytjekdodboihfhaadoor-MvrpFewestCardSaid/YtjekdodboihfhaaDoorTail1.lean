/- The same tail, the first operation walked with the others. -/
import Derived.Test.YtjekdodboihfhaaDoorQuietTail
import Derived.Deep.MidRow
set_option linter.all false
namespace Go.Proofs.YtjekdodboihfhaaDoor
open Go.RowKit
theorem wp_region_ext_tailm {P : Program} {id : Nat} {Q : Exit → Act → World → Prop} {a : Act} {w : World} {l : List Oper} {d : Option Tmp} {x : Operand} {t' : TypeId} {pos : String} {after : Array Edge} {r : List Oper} (n : Nat) (hl : l = ⟨d, .move x, t', pos, after, none⟩ :: r) (hm : P.follows .mixedOrders = true) (hB : lexTail1B .any l.toArray n = true)
    (hQ : ∀ c a' w', Q (.panic c) (a'.put d (a.eval x)) w' → Q (.panic c) a' w')
    (h : wpQuiet P l.toArray (fun w' => ∃ y : Ext w, w' = y.val) (fun a' => ∀ w', (∃ y : Ext w, w' = y.val) → wpList P l.toArray Q (l.drop n) a' w') (l.take n) a) : (Code.region id l.toArray true).wp P Q a w := by
  refine wp_region_ext_tail1 n hl hm hB hQ ?_
  have hn : 1 ≤ n := by
    simp only [lexTail1B, Bool.and_eq_true, decide_eq_true_eq] at hB
    exact hB.2.1
  have e : l.take n = ⟨d, .move x, t', pos, after, none⟩ :: (l.take n).drop 1 := by
    rw [hl]
    cases n with
    | zero => omega
    | succ n => simp
  rw [e] at h
  have h1 : Oper.quiet P ⟨d, .move x, t', pos, after, none⟩ a (fun w' => ∃ y : Ext w, w' = y.val) (wpQuiet P l.toArray (fun w' => ∃ y : Ext w, w' = y.val) (fun a' => ∀ w', (∃ y : Ext w, w' = y.val) → wpList P l.toArray Q (l.drop n) a' w') ((l.take n).drop 1)) := by
    have hw : Region.wanted (⟨d, .move x, t', pos, after, none⟩ : Oper) (yielded l.toArray a.tmps) = true := rfl
    unfold wpQuiet at h
    rw [if_pos hw] at h
    exact h
  obtain ⟨v, hv, hk⟩ := h1
  have h2 := hv w.drew ⟨Ext.drew w, rfl⟩
  unfold Oper.quietAt at h2
  rw [BigFrame.run_move x rfl] at h2
  obtain ⟨_, rfl⟩ := h2
  exact hk
/-- A whole load, quietly. -/
theorem quiet_load_rng {P : Program} {C : World → Prop} {K : Act → Prop} {a : Act} {d : Tmp} {ty : TypeId} {p : Tmp} {t' : TypeId} {pos : String} {after : Array Edge} {gd : Option (Nat × Bool)} {b off : Nat} {ds : TypeDesc} (L : List Value)
    (hx : a.eval (.tmp p) = .pointer (some ⟨b, off, none⟩)) (hr : ∀ w, C w → w.rangeAt b off L) (hu : P.underlying ty = some ds) (hd : ds.isRow = true) (hi : (P.info? ty).map (·.size) = some L.length)
    (hk : K (a.put (some d) (.agg L.toArray))) : Oper.quiet P ⟨some d, .load ty (.tmp p), t', pos, after, gd⟩ a C K :=
  ⟨.agg L.toArray, fun w hw => by
    unfold Oper.quietAt execOp
    simp only [hx, Instr.loadAt, Instr.sureAddr, Sem.run_bind, Sem.run_pure, Result.andThen_ok, run_loadVar_mid w b off ty L ds (hr w hw) hu hd hi]
    exact ⟨rfl, rfl⟩, hk⟩
end Go.Proofs.YtjekdodboihfhaaDoor
