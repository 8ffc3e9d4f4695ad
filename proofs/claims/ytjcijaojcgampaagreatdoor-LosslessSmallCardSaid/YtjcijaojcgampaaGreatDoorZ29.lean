/- Nothing of its own: the texts below this one. -/
import Derived.Test.YtjcijaojcgampaaGreatDoorZ5
import Derived.Test.YtjcijaojcgampaaGreatDoorZ26
import Derived.Test.YtjcijaojcgampaaGreatDoorZ24

