/- For every text: names turned into others, one to one, change nothing: the law ScopeNames returns true. Conditions: the row's own, and that the listed variables of Go's library and errors.errorType are as the program's text lays them (the card ties them). -/
import Derived.Test.YtpbkeamjdolpgaaGreatDoorLawScopeNamesA
import Derived.Test.YtpbkeamjdolpgaaGreatDoorLawScopeNamesK
import Derived.Test.YtpbkeamjdolpgaaGreatDoorLawScopeNamesL
namespace Go.Proofs.YtpbkeamjdolpgaaGreatDoor
open Go.ChangeShapes Go.WideShapes Go.RowKit Go.Lib Go.ChangeAt
open Go.ChangeMaps (open_string shut_string)

theorem lawScopeNames_closed : joinedFacts Tryz.prog 11 Tryz.f11 Rows.scopeNamesSpec Rows.scopeNamesRow = true := by
  unfold joinedFacts
  rw [lawScopeNames_k1, lawScopeNames_k2, lawScopeNames_k3, lawScopeNames_k4]
  kernel_rfl
theorem lawScopeNames_holds : Rows.ScopeNamesSaid :=
  OpenClaim.holds_of_wide 11 Tryz.f11 rfl rfl rfl rfl rfl rfl rfl ⟨rfl, rfl, rfl, rfl, rfl⟩ rfl rfl rfl rfl rfl (by kernel_rfl) Tryz.func11 lawScopeNames_closed
    (of_decide_eq_true (by kernel_rfl)) (by unfold Func.isWrapper; rw [if_neg (of_decide_eq_false (by kernel_rfl))]; exact ⟨rfl, rfl⟩)
    (fun os started H enc _ => lawScopeNames_lifted os started H enc)
theorem lawScopeNames_card : Rows.ScopeNamesCardSaid :=
  Claim7.holds_tied_plain_at .later [] _ _ _ _ lawScopeNames_holds (fun _ h => by cases h) (by kernel_rfl) (fun _ h => by cases h) scopeNames_row_tie rfl ⟨rfl, rfl⟩ (by kernel_rfl) rfl
    (fun f fn hf hfn => by
      obtain rfl : f = 11 := Option.some.inj ((show Tryz.prog.funcNamed "chamfer/chamferlaw28.ScopeNames" = some 11 by kernel_rfl).symm.trans hf) |>.symm
      obtain rfl : fn = Tryz.f11 := (Option.some.inj (Tryz.func11.symm.trans hfn)).symm
      exact ⟨by kernel_rfl, fun j t ht => by
        rw [Tryz.params11] at ht
        have hm : t ∈ [9] := by have h := Array.mem_of_getElem? ht; simpa using h
        have hall : ([9].all fun u => !Tryz.prog.wantsStandIn u) = true := by kernel_rfl
        exact (show Tryz.prog.wantsStandIn t = false by simpa using List.all_eq_true.1 hall t hm)⟩)
    (by kernel_rfl)
#print axioms lawScopeNames_card
end Go.Proofs.YtpbkeamjdolpgaaGreatDoor
