/- The reference of layer 2, walked: Rest. No condition. -/
import Derived.Test.YtdgepbolfflidaaIoF
namespace Go.Proofs.Ytdgepbolfflidaa
open Go.RowKit

end Go.Proofs.Ytdgepbolfflidaa
