/- Nothing of its own: the texts below this one. -/
import Derived.Test.YtjcijaojcgampaaGreatDoorZLe5
import Derived.Test.YtjcijaojcgampaaGreatDoorZLe26
import Derived.Test.YtjcijaojcgampaaGreatDoorZLe24

