/- Texts of this claim, one behind the other: . -/
import Derived.Test.YtmhjjhaipcgbiaaSpoP20
import Derived.Test.YtmhjjhaipcgbiaaSpoP27
import Derived.Test.YtmhjjhaipcgbiaaSpoP9
import Derived.Test.YtmhjjhaipcgbiaaSpoP10