/- The law ScopeKnown: closed facts of its row. -/
import Derived.Test.YtpbkeamjdolpgaaGreatDoorRows
import Derived.ProofKit
import Derived.ChangeSame
import Derived.JoinedOf
namespace Go.Proofs.YtpbkeamjdolpgaaGreatDoor
theorem lawScopeKnown_k3 : (Rows.scopeKnownRow.recurses == Tryz.prog.recurses 12) = true := by kernel_rfl
theorem lawScopeKnown_k4 : (Rows.scopeKnownRow.named == Tryz.prog.varsNamed 12) = true := by kernel_rfl
end Go.Proofs.YtpbkeamjdolpgaaGreatDoor
