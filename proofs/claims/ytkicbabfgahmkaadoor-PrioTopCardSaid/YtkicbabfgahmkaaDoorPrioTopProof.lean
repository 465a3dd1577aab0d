/- The law PrioTop: for every input the call returns true, and each argument reads afterwards as before. (Door: with the variable errors.errorType tied to the program's text.) -/
import Derived.Test.YtkicbabfgahmkaaDoorRows
import Derived.WalkKit
import Derived.ProofKit
import Derived.OpenShut
import Derived.ShutString
import Derived.Test.YtkicbabfgahmkaaDoorPost
import Derived.Test.YtkicbabfgahmkaaDoorNmT
import Derived.Test.YtkicbabfgahmkaaDoorTie
import Derived.Test.YtkicbabfgahmkaaDoorCards
import Derived.ChangeVars
import Derived.JoinedOf
import Derived.LaidLaws
import Derived.LaidHandle
import Derived.Stop.Joined
import Derived.SevenTiedAt
import Derived.Test.YtkicbabfgahmkaaDoorVarP
import Derived.Test.YtkicbabfgahmkaaDoorShapeW
namespace Go.Proofs.YtkicbabfgahmkaaDoor.prioTop
open Go.ChangeShapes Go.WideShapes Go.ChangeAt Go.RowKit
open Go.ChangeMaps (open_string)
set_option linter.unusedVariables false
theorem own : ownKnob Tryd.prog.godebug = none := by kernel_rfl
theorem params_read : ∀ t ∈ Tryd.f13.params.toList, Tryd.prog.readableRec t = true ∧ t < Tryd.prog.types.size := by
  rw [Tryd.params13]
  intro t ht
  simp only [List.mem_cons, List.mem_nil_iff, or_false] at ht
  rcases ht with rfl | rfl
  all_goals exact ⟨by kernel_rfl, of_decide_eq_true (by kernel_rfl)⟩
set_option maxRecDepth 100000 in
theorem lifted (os : Os) (started : os.Started) (H : Type) (enc : TypeId × Value → H) :
    ReturnsInHanded {} Tryd.checked os 13 .any (fun w args => (Rows.prioTopSpec.pre enc Tryd.prog Tryd.f13 [] false w args ∧ laidMetH Tryd.prog Rows.prioTopRow.laid w) ∧ sizedMet enc Tryd.prog Tryd.f13 (OpenSpec.ofChange Rows.prioTopSpec) false w args)
      (Rows.prioTopSpec.post enc Tryd.prog Tryd.f13 false true false false) := by
  refine handed_and_shaped (C := Tryd.checked) (X := fun w _ => laidMetH Tryd.prog Rows.prioTopRow.laid w) (fun _ _ _ hh h => h.of_heap hh) own started (by kernel_rfl) Tryd.func13
    (ChangeSpec.witness_at (enc := enc) (C := Tryd.checked) (os := os) (X := fun w _ => laidMetH Tryd.prog Rows.prioTopRow.laid w) false (prioWorld os) #[.slice none 0 0, .agg #[.int .i64 0, .int .i64 0, .int .u8 0, .int .u8 0, .int .u8 0, .int .u8 0, .int .u8 0, .int .u8 0, .int .i64 0, .int .i64 0, .int .i64 0, .int .u8 0, .int .u8 0, .int .u8 0, .int .u8 0, .int .u8 0, .int .u8 0, .int .i64 0, .int .i64 0, .int .i64 0, .int .i64 0]] 8 rfl (by kernel_rfl) (by kernel_rfl) (by kernel_rfl) (by kernel_rfl) (by kernel_rfl) (prioWorld_met os _)) ?_
  intro W base args ds gs before hval0 hW hsh hL
  have hM := vars_of_prio hL hsh
  have hval : ∀ (j : Nat) t v, Tryd.f13.params[j]? = some t → args[j]? = some v → Value.okWide Tryd.prog W .any base t v := hval0
  have hW' := hW
  obtain ⟨p, q, hA0, hV, rfl, hfz, hnd⟩ := hW
  have hA : DataW.TrodAll enc Tryd.prog W 0 (fun _ => true) true Tryd.f13.params.toList args.toList ds p := hA0
  rw [Tryd.params13] at hA hval
  obtain ⟨v0, vs0, d0, ds0, p0, q0, hargs, rfl, rfl, h0, r0⟩ := trodAll_cons hA
  obtain ⟨v1, vs1, d1, ds1, p1, q1, rfl, rfl, rfl, h1, r1⟩ := trodAll_cons r0
  obtain ⟨rfl, rfl, rfl⟩ := trodAll_nil r1
  obtain rfl : args = #[v0, v1] := by cases args; simp_all
  obtain ⟨a0, hw0⟩ := open_vecs (hval 0 74 v0 rfl rfl) h0
  obtain ⟨a1, hw1⟩ := open_vector (hval 1 71 v1 rfl rfl) h1
  refine (law_PrioTop v0 a0 v1 a1  W hw0 hw1 hM).mono fun e W' ⟨he, hb⟩ => ?_
  subst he
  exact ⟨_, rfl, (post_true (by kernel_rfl) params_read rfl rfl Tryd.underlying4 hW' (fun ds hds => by match ds, hds with | [_d0, _d1], _ => rfl) hb)⟩
theorem over : Rows.prioTopRow.holds Tryd.pinned (OpenSpec.ofChange Rows.prioTopSpec) :=
  OpenClaim.holds_of_wide 13 Tryd.f13 rfl rfl rfl rfl rfl rfl rfl ⟨rfl, rfl, rfl, rfl, rfl⟩ rfl rfl rfl rfl rfl (by kernel_rfl) Tryd.func13 (by kernel_rfl)
    (of_decide_eq_true (by kernel_rfl)) (by unfold Func.isWrapper; first | (rw [if_pos (by decide +kernel)]; kernel_rfl) | (rw [if_neg (by decide +kernel)]; exact ⟨rfl, rfl⟩))
    (fun os started H enc _ => lifted os started H enc)
theorem standIns : ∀ (j : Nat) (t : TypeId), (#[74, 71] : Array TypeId)[j]? = some t → Tryd.prog.wantsStandIn t = false := by
  intro j t ht
  exact match j, ht with
      | 0, ht => by simp at ht; subst ht; kernel_rfl
      | 1, ht => by simp at ht; subst ht; kernel_rfl
      | k + 2, ht => by simp at ht
/-- The statement. -/
theorem proved : Rows.PrioTopCardSaid :=
  Claim7.holds_tied_plain_at .later [] [.data, .data, .data, .data, .sentinel, .sentinel, .pinned] true (true, "85d2ad4d83ecbb7ca8808c45870ae6793bce08017d795310923f513ed85d5460") true
    over (fun _ h => by cases h) (by kernel_rfl) (fun _ h => by cases h) prioTop_row_tie rfl ⟨rfl, rfl⟩ (by kernel_rfl) rfl
    (fun f fn hf hfn => by
      obtain rfl : f = 13 := Option.some.inj ((show Tryd.prog.funcNamed "switchyard/switchyardkeep.PrioTop" = some 13 by kernel_rfl).symm.trans hf) |>.symm
      obtain rfl : fn = Tryd.f13 := (Option.some.inj (Tryd.func13.symm.trans hfn)).symm
      exact ⟨by kernel_rfl, fun j t ht => by
        rw [Tryd.params13] at ht
        exact standIns j t ht⟩)
    (by kernel_rfl)
#print axioms proved
end Go.Proofs.YtkicbabfgahmkaaDoor.prioTop
