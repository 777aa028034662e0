/- What the last text of TlGoes wants. -/
import Derived.Test.YtimepfmbienbkaaTlR
import Derived.Test.YtimepfmbienbkaaTlW
