/- WriteBits, walked. No condition. -/
import Derived.Test.YteefchbpojcklaaIoW
namespace Go.Proofs.Yteefchbpojcklaa
open Go.RowKit

end Go.Proofs.Yteefchbpojcklaa
