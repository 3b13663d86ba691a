/- '[]byte(s)', a byte changed, and back; bits of an int. -/
import Derived.Test.YtendgmblgdkiaaaGreatGInternTwins0
import Derived.Test.YtendgmblgdkiaaaGreatGInternTwins24
import Derived.Lib.ConvBytes
namespace Go.Proofs.YtendgmblgdkiaaaGreat
open Go.RowKit
set_option linter.unusedVariables false
set_option linter.unusedSimpArgs false

def byteVals (l : List UInt8) : List Value := l.map fun b => Value.int .u8 (b.toNat : Int)

end Go.Proofs.YtendgmblgdkiaaaGreat
