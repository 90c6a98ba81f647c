/- The law TreePrints: closed facts of its row. -/
import Derived.Test.YtpbkeamjdolpgaaGreatDoorRows
import Derived.ProofKit
import Derived.ChangeSame
import Derived.JoinedOf
namespace Go.Proofs.YtpbkeamjdolpgaaGreatDoor
theorem lawTreePrints_k3 : (Rows.treePrintsRow.recurses == Tryz.prog.recurses 4) = true := by kernel_rfl
theorem lawTreePrints_k4 : (Rows.treePrintsRow.named == Tryz.prog.varsNamed 4) = true := by kernel_rfl
end Go.Proofs.YtpbkeamjdolpgaaGreatDoor
