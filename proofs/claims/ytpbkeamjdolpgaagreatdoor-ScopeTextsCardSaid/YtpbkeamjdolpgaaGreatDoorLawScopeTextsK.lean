/- The law ScopeTexts: closed facts of its row. -/
import Derived.Test.YtpbkeamjdolpgaaGreatDoorRows
import Derived.ProofKit
import Derived.ChangeSame
import Derived.JoinedOf
namespace Go.Proofs.YtpbkeamjdolpgaaGreatDoor
theorem lawScopeTexts_k1 : (Rows.scopeTextsRow.inPlace == Tryz.prog.inPlace 3) = true := by kernel_rfl
theorem lawScopeTexts_k2 : (Rows.scopeTextsRow.unfollowed == Tryz.prog.unfollowed 3) = true := by kernel_rfl
end Go.Proofs.YtpbkeamjdolpgaaGreatDoor
