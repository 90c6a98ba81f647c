/- For every text tree.Parse tells what the reference tells, in new memory: the law TreeParses returns true. Conditions: the row's own, and that the listed variables of Go's library and errors.errorType are as the program's text lays them (the card ties them). -/
import Derived.Test.YtpbkeamjdolpgaaGreatDoorLawTreeParsesA
import Derived.Test.YtpbkeamjdolpgaaGreatDoorLawTreeParsesK
import Derived.Test.YtpbkeamjdolpgaaGreatDoorLawTreeParsesL
namespace Go.Proofs.YtpbkeamjdolpgaaGreatDoor
open Go.ChangeShapes Go.WideShapes Go.RowKit Go.Lib Go.ChangeAt
open Go.ChangeMaps (open_string shut_string)

theorem lawTreeParses_closed : joinedFacts Tryz.prog 8 Tryz.f8 Rows.treeParsesSpec Rows.treeParsesRow = true := by
  unfold joinedFacts
  rw [lawTreeParses_k1, lawTreeParses_k2, lawTreeParses_k3, lawTreeParses_k4]
  kernel_rfl
theorem lawTreeParses_holds : Rows.TreeParsesSaid :=
  OpenClaim.holds_of_wide 8 Tryz.f8 rfl rfl rfl rfl rfl rfl rfl ⟨rfl, rfl, rfl, rfl, rfl⟩ rfl rfl rfl rfl rfl (by kernel_rfl) Tryz.func8 lawTreeParses_closed
    (of_decide_eq_true (by kernel_rfl)) (by unfold Func.isWrapper; rw [if_neg (of_decide_eq_false (by kernel_rfl))]; exact ⟨rfl, rfl⟩)
    (fun os started H enc _ => lawTreeParses_lifted os started H enc)
theorem lawTreeParses_card : Rows.TreeParsesCardSaid :=
  Claim7.holds_tied_plain_at .later [] _ _ _ _ lawTreeParses_holds (fun _ h => by cases h) (by kernel_rfl) (fun _ h => by cases h) treeParses_row_tie rfl ⟨rfl, rfl⟩ (by kernel_rfl) rfl
    (fun f fn hf hfn => by
      obtain rfl : f = 8 := Option.some.inj ((show Tryz.prog.funcNamed "chamfer/chamferlaw27.TreeParses" = some 8 by kernel_rfl).symm.trans hf) |>.symm
      obtain rfl : fn = Tryz.f8 := (Option.some.inj (Tryz.func8.symm.trans hfn)).symm
      exact ⟨by kernel_rfl, fun j t ht => by
        rw [Tryz.params8] at ht
        have hm : t ∈ [9] := by have h := Array.mem_of_getElem? ht; simpa using h
        have hall : ([9].all fun u => !Tryz.prog.wantsStandIn u) = true := by kernel_rfl
        exact (show Tryz.prog.wantsStandIn t = false by simpa using List.all_eq_true.1 hall t hm)⟩)
    (by kernel_rfl)
#print axioms lawTreeParses_card
end Go.Proofs.YtpbkeamjdolpgaaGreatDoor
