/-
  The frame of the laws.
-/
import Derived.Test.YtheihlalgekojaaDoorNb
import Derived.Test.YtheihlalgekojaaDoorNf
