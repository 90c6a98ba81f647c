/- The chapter's examples: the law TreeKnown returns true. Conditions: the row's own, and that the listed variables of Go's library and errors.errorType are as the program's text lays them (the card ties them). -/
import Derived.Test.YtpbkeamjdolpgaaGreatDoorLawTreeKnownA
import Derived.Test.YtpbkeamjdolpgaaGreatDoorLawTreeKnownK
import Derived.Test.YtpbkeamjdolpgaaGreatDoorLawTreeKnownL
namespace Go.Proofs.YtpbkeamjdolpgaaGreatDoor
open Go.ChangeShapes Go.WideShapes Go.RowKit Go.Lib Go.ChangeAt
open Go.ChangeMaps (open_string shut_string)

theorem lawTreeKnown_closed : joinedFacts Tryz.prog 10 Tryz.f10 Rows.treeKnownSpec Rows.treeKnownRow = true := by
  unfold joinedFacts
  rw [lawTreeKnown_k1, lawTreeKnown_k2, lawTreeKnown_k3, lawTreeKnown_k4]
  kernel_rfl
theorem lawTreeKnown_holds : Rows.TreeKnownSaid :=
  OpenClaim.holds_of_wide 10 Tryz.f10 rfl rfl rfl rfl rfl rfl rfl ⟨rfl, rfl, rfl, rfl, rfl⟩ rfl rfl rfl rfl rfl (by kernel_rfl) Tryz.func10 lawTreeKnown_closed
    (of_decide_eq_true (by kernel_rfl)) (by unfold Func.isWrapper; rw [if_neg (of_decide_eq_false (by kernel_rfl))]; exact ⟨rfl, rfl⟩)
    (fun os started H enc _ => lawTreeKnown_lifted os started H enc)
theorem lawTreeKnown_card : Rows.TreeKnownCardSaid :=
  Claim7.holds_tied_plain_at .later [] _ _ _ _ lawTreeKnown_holds (fun _ h => by cases h) (by kernel_rfl) (fun _ h => by cases h) treeKnown_row_tie rfl ⟨rfl, rfl⟩ (by kernel_rfl) rfl
    (fun f fn hf hfn => by
      obtain rfl : f = 10 := Option.some.inj ((show Tryz.prog.funcNamed "chamfer/chamferlaw27.TreeKnown" = some 10 by kernel_rfl).symm.trans hf) |>.symm
      obtain rfl : fn = Tryz.f10 := (Option.some.inj (Tryz.func10.symm.trans hfn)).symm
      exact ⟨by kernel_rfl, fun j t ht => by
        rw [Tryz.params10] at ht
        simp at ht⟩)
    (by kernel_rfl)
#print axioms lawTreeKnown_card
end Go.Proofs.YtpbkeamjdolpgaaGreatDoor
