/- Nothing of this text is needed here but what it imports. -/
import Derived.Test.YtmfdkhnfjbgbhaaDoorExtU
import Derived.Deep.RegionHeld3
