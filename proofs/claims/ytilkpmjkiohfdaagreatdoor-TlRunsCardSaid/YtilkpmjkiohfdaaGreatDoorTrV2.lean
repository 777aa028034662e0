/- What the last text of TlRuns imports. -/
import Derived.Test.YtilkpmjkiohfdaaGreatDoorTrM
import Derived.Test.YtilkpmjkiohfdaaGreatDoorTlW
import Derived.ProofKit
import Derived.ChangeMaps5
namespace Go.Proofs.YtilkpmjkiohfdaaGreatDoor
end Go.Proofs.YtilkpmjkiohfdaaGreatDoor
