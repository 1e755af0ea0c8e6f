/- The whole of the small program logic. No conditions. -/
import Derived.Test.YtdglignjoojimaaSx20
