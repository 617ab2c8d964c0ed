/-
  The contracts lie in one text.
-/
import Derived.Test.YtpfiggokicedbaaGreatDoorShelf
