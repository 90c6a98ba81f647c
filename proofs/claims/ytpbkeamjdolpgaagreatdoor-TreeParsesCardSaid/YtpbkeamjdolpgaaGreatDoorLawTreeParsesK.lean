/- The law TreeParses: closed facts of its row. -/
import Derived.Test.YtpbkeamjdolpgaaGreatDoorRows
import Derived.ProofKit
import Derived.ChangeSame
import Derived.JoinedOf
namespace Go.Proofs.YtpbkeamjdolpgaaGreatDoor
theorem lawTreeParses_k1 : (Rows.treeParsesRow.inPlace == Tryz.prog.inPlace 8) = true := by kernel_rfl
theorem lawTreeParses_k2 : (Rows.treeParsesRow.unfollowed == Tryz.prog.unfollowed 8) = true := by kernel_rfl
end Go.Proofs.YtpbkeamjdolpgaaGreatDoor
