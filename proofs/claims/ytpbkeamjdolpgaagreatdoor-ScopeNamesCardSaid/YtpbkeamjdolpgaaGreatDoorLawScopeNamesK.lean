/- The law ScopeNames: closed facts of its row. -/
import Derived.Test.YtpbkeamjdolpgaaGreatDoorRows
import Derived.ProofKit
import Derived.ChangeSame
import Derived.JoinedOf
namespace Go.Proofs.YtpbkeamjdolpgaaGreatDoor
theorem lawScopeNames_k1 : (Rows.scopeNamesRow.inPlace == Tryz.prog.inPlace 11) = true := by kernel_rfl
theorem lawScopeNames_k2 : (Rows.scopeNamesRow.unfollowed == Tryz.prog.unfollowed 11) = true := by kernel_rfl
end Go.Proofs.YtpbkeamjdolpgaaGreatDoor
