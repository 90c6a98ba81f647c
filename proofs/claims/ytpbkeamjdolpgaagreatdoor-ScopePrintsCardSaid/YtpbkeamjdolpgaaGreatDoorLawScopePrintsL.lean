/- The law ScopePrints: closed facts of its row. -/
import Derived.Test.YtpbkeamjdolpgaaGreatDoorRows
import Derived.ProofKit
import Derived.ChangeSame
import Derived.JoinedOf
namespace Go.Proofs.YtpbkeamjdolpgaaGreatDoor
theorem lawScopePrints_k3 : (Rows.scopePrintsRow.recurses == Tryz.prog.recurses 13) = true := by kernel_rfl
theorem lawScopePrints_k4 : (Rows.scopePrintsRow.named == Tryz.prog.varsNamed 13) = true := by kernel_rfl
end Go.Proofs.YtpbkeamjdolpgaaGreatDoor
