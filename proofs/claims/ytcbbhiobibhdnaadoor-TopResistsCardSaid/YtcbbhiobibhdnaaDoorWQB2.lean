/- More basics. No condition. -/
import Derived.Test.YtcbbhiobibhdnaaDoorWQB
import Derived.StillTailTactics
namespace Go.Proofs.YtcbbhiobibhdnaaDoor
open Go.RowKit
end Go.Proofs.YtcbbhiobibhdnaaDoor
