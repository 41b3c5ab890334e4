/- Fns: a part of the proof that each law of this seat answers true at every input. No condition. -/
import Derived.Test.YtjnkigaiogjfcaaDoorFn1
import Derived.Test.YtjnkigaiogjfcaaDoorFn2
import Derived.Test.YtjnkigaiogjfcaaDoorFn3
import Derived.Test.YtjnkigaiogjfcaaDoorFn4
import Derived.Test.YtjnkigaiogjfcaaDoorEvH
set_option linter.unusedVariables false
set_option linter.unusedSimpArgs false
set_option maxRecDepth 20000
section
/- All printed functions. -/
end

