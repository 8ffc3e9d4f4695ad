/- Nothing of its own: the texts below this one. -/
import Derived.SizedLaws
import Derived.ChangeSlices

