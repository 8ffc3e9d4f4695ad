/- Nothing of its own: the texts below this one. -/
import Derived.Laws.StructEq
import Derived.Test.YtjcijaojcgampaaGreatDoorZBa1

