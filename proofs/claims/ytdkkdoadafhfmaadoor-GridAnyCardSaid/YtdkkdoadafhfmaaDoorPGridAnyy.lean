import Derived.Test.YtdkkdoadafhfmaaDoorPGridAnyx2
import Derived.Test.YtdkkdoadafhfmaaDoorPGridAnyx4
import Derived.Test.YtdkkdoadafhfmaaDoorPRefStep
import Derived.Test.YtdkkdoadafhfmaaDoorPGridAnyx6
/-! The printed functions that GridAny's proof uses, together. -/
