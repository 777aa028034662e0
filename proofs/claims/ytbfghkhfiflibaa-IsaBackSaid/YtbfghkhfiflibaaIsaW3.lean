/- Both, for the last text of IsaBack. -/
import Derived.Test.YtbfghkhfiflibaaIsaW
import Derived.Test.YtbfghkhfiflibaaIsaS
import Derived.ChangeMaps5
