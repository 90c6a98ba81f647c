/- The chapter's examples: the law ScopeKnown returns true. Conditions: the row's own, and that the listed variables of Go's library and errors.errorType are as the program's text lays them (the card ties them). -/
import Derived.Test.YtpbkeamjdolpgaaGreatDoorLawScopeKnownA
import Derived.Test.YtpbkeamjdolpgaaGreatDoorLawScopeKnownK
import Derived.Test.YtpbkeamjdolpgaaGreatDoorLawScopeKnownL
namespace Go.Proofs.YtpbkeamjdolpgaaGreatDoor
open Go.ChangeShapes Go.WideShapes Go.RowKit Go.Lib Go.ChangeAt
open Go.ChangeMaps (open_string shut_string)

theorem lawScopeKnown_closed : joinedFacts Tryz.prog 12 Tryz.f12 Rows.scopeKnownSpec Rows.scopeKnownRow = true := by
  unfold joinedFacts
  rw [lawScopeKnown_k1, lawScopeKnown_k2, lawScopeKnown_k3, lawScopeKnown_k4]
  kernel_rfl
theorem lawScopeKnown_holds : Rows.ScopeKnownSaid :=
  OpenClaim.holds_of_wide 12 Tryz.f12 rfl rfl rfl rfl rfl rfl rfl ⟨rfl, rfl, rfl, rfl, rfl⟩ rfl rfl rfl rfl rfl (by kernel_rfl) Tryz.func12 lawScopeKnown_closed
    (of_decide_eq_true (by kernel_rfl)) (by unfold Func.isWrapper; rw [if_neg (of_decide_eq_false (by kernel_rfl))]; exact ⟨rfl, rfl⟩)
    (fun os started H enc _ => lawScopeKnown_lifted os started H enc)
theorem lawScopeKnown_card : Rows.ScopeKnownCardSaid :=
  Claim7.holds_tied_plain_at .later [] _ _ _ _ lawScopeKnown_holds (fun _ h => by cases h) (by kernel_rfl) (fun _ h => by cases h) scopeKnown_row_tie rfl ⟨rfl, rfl⟩ (by kernel_rfl) rfl
    (fun f fn hf hfn => by
      obtain rfl : f = 12 := Option.some.inj ((show Tryz.prog.funcNamed "chamfer/chamferlaw28.ScopeKnown" = some 12 by kernel_rfl).symm.trans hf) |>.symm
      obtain rfl : fn = Tryz.f12 := (Option.some.inj (Tryz.func12.symm.trans hfn)).symm
      exact ⟨by kernel_rfl, fun j t ht => by
        rw [Tryz.params12] at ht
        simp at ht⟩)
    (by kernel_rfl)
#print axioms lawScopeKnown_card
end Go.Proofs.YtpbkeamjdolpgaaGreatDoor
