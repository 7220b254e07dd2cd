/- The writers of layer 2, walked. No condition. -/
import Derived.Test.YteefchbpojcklaaIoR
import Derived.Test.YteefchbpojcklaaTail
import Derived.Test.YteefchbpojcklaaBvW
namespace Go.Proofs.Yteefchbpojcklaa
open Go.RowKit

/-- the blocks that a writer writes into -/
def WS (p : Nat) (oa : Option Addr) (n c : Nat) (k : Nat) : Prop := k = p ∨ some k = (Value.slice oa n c).ownBlock

end Go.Proofs.Yteefchbpojcklaa
