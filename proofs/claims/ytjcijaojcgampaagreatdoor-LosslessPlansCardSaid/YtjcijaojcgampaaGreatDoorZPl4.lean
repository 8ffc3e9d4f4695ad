/- Nothing of its own: the texts below this one. -/
import Derived.Laws.StructEq
import Derived.Test.YtjcijaojcgampaaGreatDoorZPl1
set_option linter.unusedVariables false
set_option linter.unusedSimpArgs false
set_option maxHeartbeats 16000000
set_option maxRecDepth 100000

