/- The law TreeParses: closed facts of its row. -/
import Derived.Test.YtpbkeamjdolpgaaGreatDoorRows
import Derived.ProofKit
import Derived.ChangeSame
import Derived.JoinedOf
namespace Go.Proofs.YtpbkeamjdolpgaaGreatDoor
theorem lawTreeParses_k3 : (Rows.treeParsesRow.recurses == Tryz.prog.recurses 8) = true := by kernel_rfl
theorem lawTreeParses_k4 : (Rows.treeParsesRow.named == Tryz.prog.varsNamed 8) = true := by kernel_rfl
end Go.Proofs.YtpbkeamjdolpgaaGreatDoor
