/- Texts of this claim, one behind the other: . -/
import Derived.Test.YtmhjjhaipcgbiaaBakP18
import Derived.Test.YtmhjjhaipcgbiaaBakP20
import Derived.Test.YtmhjjhaipcgbiaaBakP10
import Derived.Test.YtmhjjhaipcgbiaaBakP7