/- The laws of layer 2: the example of the chapter, walked. No condition. -/
import Derived.Test.YtdgepbolfflidaaIoL
namespace Go.Proofs.Ytdgepbolfflidaa
open Go.RowKit

end Go.Proofs.Ytdgepbolfflidaa
