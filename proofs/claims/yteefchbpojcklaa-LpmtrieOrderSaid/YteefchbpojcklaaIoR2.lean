/- Rest, walked; nil and unmade readers. No condition. -/
import Derived.Test.YteefchbpojcklaaIoR
import Derived.Test.YteefchbpojcklaaTail
namespace Go.Proofs.Yteefchbpojcklaa
open Go.RowKit

end Go.Proofs.Yteefchbpojcklaa
