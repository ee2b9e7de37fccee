/- The texts that the plain laws of EventAll need. -/
import Derived.Test.YtfgeffmlfbeodaaEvTakeEventAll
import Derived.Test.YtfgeffmlfbeodaaTakeRef
import Derived.Test.YtfgeffmlfbeodaaStru
