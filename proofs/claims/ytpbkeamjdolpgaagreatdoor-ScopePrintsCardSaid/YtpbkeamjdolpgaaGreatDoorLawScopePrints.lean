/- For every text: what scope tells of it hangs on its tree alone, and names that are missing are an error: the law ScopePrints returns true. Conditions: the row's own, and that the listed variables of Go's library and errors.errorType are as the program's text lays them (the card ties them). -/
import Derived.Test.YtpbkeamjdolpgaaGreatDoorLawScopePrintsA
import Derived.Test.YtpbkeamjdolpgaaGreatDoorLawScopePrintsK
import Derived.Test.YtpbkeamjdolpgaaGreatDoorLawScopePrintsL
namespace Go.Proofs.YtpbkeamjdolpgaaGreatDoor
open Go.ChangeShapes Go.WideShapes Go.RowKit Go.Lib Go.ChangeAt
open Go.ChangeMaps (open_string shut_string)

theorem lawScopePrints_closed : joinedFacts Tryz.prog 13 Tryz.f13 Rows.scopePrintsSpec Rows.scopePrintsRow = true := by
  unfold joinedFacts
  rw [lawScopePrints_k1, lawScopePrints_k2, lawScopePrints_k3, lawScopePrints_k4]
  kernel_rfl
theorem lawScopePrints_holds : Rows.ScopePrintsSaid :=
  OpenClaim.holds_of_wide 13 Tryz.f13 rfl rfl rfl rfl rfl rfl rfl ⟨rfl, rfl, rfl, rfl, rfl⟩ rfl rfl rfl rfl rfl (by kernel_rfl) Tryz.func13 lawScopePrints_closed
    (of_decide_eq_true (by kernel_rfl)) (by unfold Func.isWrapper; rw [if_neg (of_decide_eq_false (by kernel_rfl))]; exact ⟨rfl, rfl⟩)
    (fun os started H enc _ => lawScopePrints_lifted os started H enc)
theorem lawScopePrints_card : Rows.ScopePrintsCardSaid :=
  Claim7.holds_tied_plain_at .later [] _ _ _ _ lawScopePrints_holds (fun _ h => by cases h) (by kernel_rfl) (fun _ h => by cases h) scopePrints_row_tie rfl ⟨rfl, rfl⟩ (by kernel_rfl) rfl
    (fun f fn hf hfn => by
      obtain rfl : f = 13 := Option.some.inj ((show Tryz.prog.funcNamed "chamfer/chamferlaw28.ScopePrints" = some 13 by kernel_rfl).symm.trans hf) |>.symm
      obtain rfl : fn = Tryz.f13 := (Option.some.inj (Tryz.func13.symm.trans hfn)).symm
      exact ⟨by kernel_rfl, fun j t ht => by
        rw [Tryz.params13] at ht
        have hm : t ∈ [9] := by have h := Array.mem_of_getElem? ht; simpa using h
        have hall : ([9].all fun u => !Tryz.prog.wantsStandIn u) = true := by kernel_rfl
        exact (show Tryz.prog.wantsStandIn t = false by simpa using List.all_eq_true.1 hall t hm)⟩)
    (by kernel_rfl)
#print axioms lawScopePrints_card
end Go.Proofs.YtpbkeamjdolpgaaGreatDoor
