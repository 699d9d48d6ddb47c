/-
  What the cards' frames need.
-/
import Derived.Test.YtglocckckdjalaaGreatDoorNb
