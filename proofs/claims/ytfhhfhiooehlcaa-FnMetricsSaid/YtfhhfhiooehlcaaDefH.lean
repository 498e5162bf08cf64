/-
  No definitions of its own here: a name that laws import. No condition.
-/
import Derived.Test.YtfhhfhiooehlcaaDefG
