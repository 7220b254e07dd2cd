/- The laws of layer 2: the example of the chapter, walked. No condition. -/
import Derived.Test.YtonnlcjkgpahoaaIoL
namespace Go.Proofs.Ytonnlcjkgpahoaa
open Go.RowKit

end Go.Proofs.Ytonnlcjkgpahoaa
