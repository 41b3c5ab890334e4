/- Fns: a part of the proof that each law of this seat answers true at every input. No condition. -/
import Derived.Test.YtdnmpaielmfiiaaDoorFn1
import Derived.Test.YtdnmpaielmfiiaaDoorFn2
import Derived.Test.YtdnmpaielmfiiaaDoorFn3
import Derived.Test.YtdnmpaielmfiiaaDoorFn4
import Derived.Test.YtdnmpaielmfiiaaDoorEvH
set_option linter.unusedVariables false
set_option linter.unusedSimpArgs false
set_option maxRecDepth 20000
section
end
