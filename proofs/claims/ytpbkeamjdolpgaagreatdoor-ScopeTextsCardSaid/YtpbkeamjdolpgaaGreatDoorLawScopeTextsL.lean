/- The law ScopeTexts: closed facts of its row. -/
import Derived.Test.YtpbkeamjdolpgaaGreatDoorRows
import Derived.ProofKit
import Derived.ChangeSame
import Derived.JoinedOf
namespace Go.Proofs.YtpbkeamjdolpgaaGreatDoor
theorem lawScopeTexts_k3 : (Rows.scopeTextsRow.recurses == Tryz.prog.recurses 3) = true := by kernel_rfl
theorem lawScopeTexts_k4 : (Rows.scopeTextsRow.named == Tryz.prog.varsNamed 3) = true := by kernel_rfl
end Go.Proofs.YtpbkeamjdolpgaaGreatDoor
