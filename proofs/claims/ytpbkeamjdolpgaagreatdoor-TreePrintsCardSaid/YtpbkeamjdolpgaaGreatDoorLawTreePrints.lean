/- For every list of nodes: tree.Check and tree.Print tell what the reference tells, and leave the nodes as they were: the law TreePrints returns true. Conditions: the row's own, and that the listed variables of Go's library and errors.errorType are as the program's text lays them (the card ties them). -/
import Derived.Test.YtpbkeamjdolpgaaGreatDoorLawTreePrintsA
import Derived.Test.YtpbkeamjdolpgaaGreatDoorLawTreePrintsK
import Derived.Test.YtpbkeamjdolpgaaGreatDoorLawTreePrintsL
namespace Go.Proofs.YtpbkeamjdolpgaaGreatDoor
open Go.ChangeShapes Go.WideShapes Go.RowKit Go.Lib Go.ChangeAt
open Go.ChangeMaps (open_string shut_string)

theorem lawTreePrints_closed : joinedFacts Tryz.prog 4 Tryz.f4 Rows.treePrintsSpec Rows.treePrintsRow = true := by
  unfold joinedFacts
  rw [lawTreePrints_k1, lawTreePrints_k2, lawTreePrints_k3, lawTreePrints_k4]
  kernel_rfl
theorem lawTreePrints_holds : Rows.TreePrintsSaid :=
  OpenClaim.holds_of_wide 4 Tryz.f4 rfl rfl rfl rfl rfl rfl rfl ⟨rfl, rfl, rfl, rfl, rfl⟩ rfl rfl rfl rfl rfl (by kernel_rfl) Tryz.func4 lawTreePrints_closed
    (of_decide_eq_true (by kernel_rfl)) (by unfold Func.isWrapper; rw [if_neg (of_decide_eq_false (by kernel_rfl))]; exact ⟨rfl, rfl⟩)
    (fun os started H enc _ => lawTreePrints_lifted os started H enc)
theorem lawTreePrints_card : Rows.TreePrintsCardSaid :=
  Claim7.holds_tied_plain_at .later [] _ _ _ _ lawTreePrints_holds (fun _ h => by cases h) (by kernel_rfl) (fun _ h => by cases h) treePrints_row_tie rfl ⟨rfl, rfl⟩ (by kernel_rfl) rfl
    (fun f fn hf hfn => by
      obtain rfl : f = 4 := Option.some.inj ((show Tryz.prog.funcNamed "chamfer/chamferlaw27.TreePrints" = some 4 by kernel_rfl).symm.trans hf) |>.symm
      obtain rfl : fn = Tryz.f4 := (Option.some.inj (Tryz.func4.symm.trans hfn)).symm
      exact ⟨by kernel_rfl, fun j t ht => by
        rw [Tryz.params4] at ht
        have hm : t ∈ [22] := by have h := Array.mem_of_getElem? ht; simpa using h
        have hall : ([22].all fun u => !Tryz.prog.wantsStandIn u) = true := by kernel_rfl
        exact (show Tryz.prog.wantsStandIn t = false by simpa using List.all_eq_true.1 hall t hm)⟩)
    (by kernel_rfl)
#print axioms lawTreePrints_card
end Go.Proofs.YtpbkeamjdolpgaaGreatDoor
