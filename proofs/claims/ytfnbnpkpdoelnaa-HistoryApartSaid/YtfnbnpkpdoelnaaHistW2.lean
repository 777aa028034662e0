/- Both walks, for the last text of HistoryApart. -/
import Derived.Test.YtfnbnpkpdoelnaaHistApart
import Derived.Test.YtfnbnpkpdoelnaaHistW
