/- More basics. No condition. -/
import Derived.Test.YtbepdcodkecboaaDoorWQB
import Derived.StillTailTactics
namespace Go.Proofs.YtbepdcodkecboaaDoor
open Go.RowKit
end Go.Proofs.YtbepdcodkecboaaDoor
