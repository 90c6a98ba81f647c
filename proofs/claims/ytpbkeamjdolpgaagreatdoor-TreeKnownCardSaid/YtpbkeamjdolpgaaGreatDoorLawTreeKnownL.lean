/- The law TreeKnown: closed facts of its row. -/
import Derived.Test.YtpbkeamjdolpgaaGreatDoorRows
import Derived.ProofKit
import Derived.ChangeSame
import Derived.JoinedOf
namespace Go.Proofs.YtpbkeamjdolpgaaGreatDoor
theorem lawTreeKnown_k3 : (Rows.treeKnownRow.recurses == Tryz.prog.recurses 10) = true := by kernel_rfl
theorem lawTreeKnown_k4 : (Rows.treeKnownRow.named == Tryz.prog.varsNamed 10) = true := by kernel_rfl
end Go.Proofs.YtpbkeamjdolpgaaGreatDoor
