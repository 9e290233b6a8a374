/- What the printed text of packet copies (M0) calls. -/
import Derived.Test.YtjcejgolcdgipaaClone
import Derived.Test.YtjcejgolcdgipaaM0x0
