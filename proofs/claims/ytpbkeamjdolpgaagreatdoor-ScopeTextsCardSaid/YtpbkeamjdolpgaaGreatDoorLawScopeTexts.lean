/- For every text: what scope tells is what the reference tells: the law ScopeTexts returns true. Conditions: the row's own, and that the listed variables of Go's library and errors.errorType are as the program's text lays them (the card ties them). -/
import Derived.Test.YtpbkeamjdolpgaaGreatDoorLawScopeTextsA
import Derived.Test.YtpbkeamjdolpgaaGreatDoorLawScopeTextsK
import Derived.Test.YtpbkeamjdolpgaaGreatDoorLawScopeTextsL
namespace Go.Proofs.YtpbkeamjdolpgaaGreatDoor
open Go.ChangeShapes Go.WideShapes Go.RowKit Go.Lib Go.ChangeAt
open Go.ChangeMaps (open_string shut_string)

theorem lawScopeTexts_closed : joinedFacts Tryz.prog 3 Tryz.f3 Rows.scopeTextsSpec Rows.scopeTextsRow = true := by
  unfold joinedFacts
  rw [lawScopeTexts_k1, lawScopeTexts_k2, lawScopeTexts_k3, lawScopeTexts_k4]
  kernel_rfl
theorem lawScopeTexts_holds : Rows.ScopeTextsSaid :=
  OpenClaim.holds_of_wide 3 Tryz.f3 rfl rfl rfl rfl rfl rfl rfl ⟨rfl, rfl, rfl, rfl, rfl⟩ rfl rfl rfl rfl rfl (by kernel_rfl) Tryz.func3 lawScopeTexts_closed
    (of_decide_eq_true (by kernel_rfl)) (by unfold Func.isWrapper; rw [if_neg (of_decide_eq_false (by kernel_rfl))]; exact ⟨rfl, rfl⟩)
    (fun os started H enc _ => lawScopeTexts_lifted os started H enc)
theorem lawScopeTexts_card : Rows.ScopeTextsCardSaid :=
  Claim7.holds_tied_plain_at .later [] _ _ _ _ lawScopeTexts_holds (fun _ h => by cases h) (by kernel_rfl) (fun _ h => by cases h) scopeTexts_row_tie rfl ⟨rfl, rfl⟩ (by kernel_rfl) rfl
    (fun f fn hf hfn => by
      obtain rfl : f = 3 := Option.some.inj ((show Tryz.prog.funcNamed "chamfer/chamferlaw28.ScopeTexts" = some 3 by kernel_rfl).symm.trans hf) |>.symm
      obtain rfl : fn = Tryz.f3 := (Option.some.inj (Tryz.func3.symm.trans hfn)).symm
      exact ⟨by kernel_rfl, fun j t ht => by
        rw [Tryz.params3] at ht
        have hm : t ∈ [9] := by have h := Array.mem_of_getElem? ht; simpa using h
        have hall : ([9].all fun u => !Tryz.prog.wantsStandIn u) = true := by kernel_rfl
        exact (show Tryz.prog.wantsStandIn t = false by simpa using List.all_eq_true.1 hall t hm)⟩)
    (by kernel_rfl)
#print axioms lawScopeTexts_card
end Go.Proofs.YtpbkeamjdolpgaaGreatDoor
