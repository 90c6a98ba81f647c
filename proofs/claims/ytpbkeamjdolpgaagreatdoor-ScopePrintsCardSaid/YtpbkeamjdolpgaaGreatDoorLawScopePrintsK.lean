/- The law ScopePrints: closed facts of its row. -/
import Derived.Test.YtpbkeamjdolpgaaGreatDoorRows
import Derived.ProofKit
import Derived.ChangeSame
import Derived.JoinedOf
namespace Go.Proofs.YtpbkeamjdolpgaaGreatDoor
theorem lawScopePrints_k1 : (Rows.scopePrintsRow.inPlace == Tryz.prog.inPlace 13) = true := by kernel_rfl
theorem lawScopePrints_k2 : (Rows.scopePrintsRow.unfollowed == Tryz.prog.unfollowed 13) = true := by kernel_rfl
end Go.Proofs.YtpbkeamjdolpgaaGreatDoor
