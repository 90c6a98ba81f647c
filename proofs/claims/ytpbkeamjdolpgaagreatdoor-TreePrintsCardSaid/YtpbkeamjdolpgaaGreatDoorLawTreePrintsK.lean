/- The law TreePrints: closed facts of its row. -/
import Derived.Test.YtpbkeamjdolpgaaGreatDoorRows
import Derived.ProofKit
import Derived.ChangeSame
import Derived.JoinedOf
namespace Go.Proofs.YtpbkeamjdolpgaaGreatDoor
theorem lawTreePrints_k1 : (Rows.treePrintsRow.inPlace == Tryz.prog.inPlace 4) = true := by kernel_rfl
theorem lawTreePrints_k2 : (Rows.treePrintsRow.unfollowed == Tryz.prog.unfollowed 4) = true := by kernel_rfl
end Go.Proofs.YtpbkeamjdolpgaaGreatDoor
