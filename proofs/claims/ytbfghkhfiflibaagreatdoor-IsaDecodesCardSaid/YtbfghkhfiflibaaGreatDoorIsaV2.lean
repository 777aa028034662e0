/- What the last text of IsaDecodes imports. -/
import Derived.Test.YtbfghkhfiflibaaGreatDoorIsaV
import Derived.ChangeMaps5
namespace Go.Proofs.YtbfghkhfiflibaaGreatDoor
open Go.RowKit
theorem strOf_back (s : ByteArray) : strOf s.data.toList = s := by
  unfold strOf
  simp
end Go.Proofs.YtbfghkhfiflibaaGreatDoor
