/-
  The frame of the laws.
-/
import Derived.Test.YtolpphmgobeocaaDoorNb
import Derived.Test.YtolpphmgobeocaaDoorNf
