/- The plain statement of FnExactValidLine. -/
import Derived.Test.YtclmedjighnkjaaPLValidLine
