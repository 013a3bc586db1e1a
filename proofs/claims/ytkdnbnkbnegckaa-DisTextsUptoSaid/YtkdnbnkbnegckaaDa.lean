/- All lifted functions. -/
import Derived.Test.YtkdnbnkbnegckaaDa1
