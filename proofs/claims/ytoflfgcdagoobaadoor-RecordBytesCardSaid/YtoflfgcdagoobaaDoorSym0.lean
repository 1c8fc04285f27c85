/- The tables of the library that the world holds: blocks, and their cells. -/
import Derived.WalkKit
import Derived.Lib.ItoaNum
import Derived.Lib.TrailingZeros
namespace Go.Proofs.YtoflfgcdagoobaaDoor.Sym
/-- internal/strconv.uint64pow10 and math/bits.deBruijn64tab. -/
def tabs : List (Nat × Array Value) := [(1, (Lib.pow10Tab.map fun z => Value.int .u64 z).toArray), (7, (Lib.deBruijn64tab.map fun z : Nat => Value.int .u8 z).toArray)]
end Go.Proofs.YtoflfgcdagoobaaDoor.Sym
