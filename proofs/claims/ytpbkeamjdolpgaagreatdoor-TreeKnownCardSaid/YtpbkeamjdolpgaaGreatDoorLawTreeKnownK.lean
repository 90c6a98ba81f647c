/- The law TreeKnown: closed facts of its row. -/
import Derived.Test.YtpbkeamjdolpgaaGreatDoorRows
import Derived.ProofKit
import Derived.ChangeSame
import Derived.JoinedOf
namespace Go.Proofs.YtpbkeamjdolpgaaGreatDoor
theorem lawTreeKnown_k1 : (Rows.treeKnownRow.inPlace == Tryz.prog.inPlace 10) = true := by kernel_rfl
theorem lawTreeKnown_k2 : (Rows.treeKnownRow.unfollowed == Tryz.prog.unfollowed 10) = true := by kernel_rfl
end Go.Proofs.YtpbkeamjdolpgaaGreatDoor
