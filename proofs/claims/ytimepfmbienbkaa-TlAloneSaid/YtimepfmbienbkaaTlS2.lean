/- What the last text of TlAlone wants. -/
import Derived.Test.YtimepfmbienbkaaTlS
import Derived.Test.YtimepfmbienbkaaTlW
