/- Fns: a part of the proof that each law of this seat answers true at every input. No condition. -/
import Derived.Test.YthcjjicplodhjaaDoorFn1
import Derived.Test.YthcjjicplodhjaaDoorFn2
import Derived.Test.YthcjjicplodhjaaDoorFn3
import Derived.Test.YthcjjicplodhjaaDoorFn4
import Derived.Test.YthcjjicplodhjaaDoorEvH
set_option linter.unusedVariables false
set_option linter.unusedSimpArgs false
set_option maxRecDepth 20000
section
/- The printed functions that are used. -/
end

