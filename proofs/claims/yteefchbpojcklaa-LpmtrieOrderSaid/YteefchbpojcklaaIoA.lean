/- One call of a reader or a writer, whatever its arguments; first; nil and unmade ones. No condition. -/
import Derived.Test.YteefchbpojcklaaIoR2
import Derived.Test.YteefchbpojcklaaIoW2
namespace Go.Proofs.Yteefchbpojcklaa
open Go.RowKit

end Go.Proofs.Yteefchbpojcklaa
