/- The law ScopeKnown: closed facts of its row. -/
import Derived.Test.YtpbkeamjdolpgaaGreatDoorRows
import Derived.ProofKit
import Derived.ChangeSame
import Derived.JoinedOf
namespace Go.Proofs.YtpbkeamjdolpgaaGreatDoor
theorem lawScopeKnown_k1 : (Rows.scopeKnownRow.inPlace == Tryz.prog.inPlace 12) = true := by kernel_rfl
theorem lawScopeKnown_k2 : (Rows.scopeKnownRow.unfollowed == Tryz.prog.unfollowed 12) = true := by kernel_rfl
end Go.Proofs.YtpbkeamjdolpgaaGreatDoor
