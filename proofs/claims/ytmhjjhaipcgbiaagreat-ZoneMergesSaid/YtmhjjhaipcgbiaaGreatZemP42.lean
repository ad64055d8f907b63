/- Texts of this claim, one behind the other: . -/
import Derived.Test.YtmhjjhaipcgbiaaGreatZemP40
import Derived.Test.YtmhjjhaipcgbiaaGreatZemP41
import Derived.BigQuiet
import Derived.Deep.QuietTactic
import Derived.Test.YtmhjjhaipcgbiaaGreatZemP18
import Derived.Test.YtmhjjhaipcgbiaaGreatZemP29