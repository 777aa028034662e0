/- Both walks, for the last text of IsaEncodes. -/
import Derived.Test.YtbfghkhfiflibaaIsaW
import Derived.Test.YtbfghkhfiflibaaIsaH
