/- IsValidPowerBuffer of the program and of the reference. -/
import Derived.Test.YtbfbjkcmehalhaaPvalI
import Derived.Test.YtbfbjkcmehalhaaPvalS
