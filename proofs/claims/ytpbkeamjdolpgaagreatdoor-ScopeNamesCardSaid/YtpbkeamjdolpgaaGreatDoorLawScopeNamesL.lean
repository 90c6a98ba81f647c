/- The law ScopeNames: closed facts of its row. -/
import Derived.Test.YtpbkeamjdolpgaaGreatDoorRows
import Derived.ProofKit
import Derived.ChangeSame
import Derived.JoinedOf
namespace Go.Proofs.YtpbkeamjdolpgaaGreatDoor
theorem lawScopeNames_k3 : (Rows.scopeNamesRow.recurses == Tryz.prog.recurses 11) = true := by kernel_rfl
theorem lawScopeNames_k4 : (Rows.scopeNamesRow.named == Tryz.prog.varsNamed 11) = true := by kernel_rfl
end Go.Proofs.YtpbkeamjdolpgaaGreatDoor
