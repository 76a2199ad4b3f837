/- Nothing of this text is needed here but what it imports. -/
import Derived.Test.YtmfdkhnfjbgbhaaDoorExtF
import Derived.Test.YtmfdkhnfjbgbhaaDoorBuilderT
import Derived.Test.YtmfdkhnfjbgbhaaDoorPx1
import Derived.Test.YtmfdkhnfjbgbhaaDoorDecT
import Derived.WalkSmall
