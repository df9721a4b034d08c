/- More basics. No condition. -/
import Derived.Test.YtbnapejkjaddoaaDoorWQB
import Derived.StillTailTactics
namespace Go.Proofs.YtbnapejkjaddoaaDoor
open Go.RowKit
end Go.Proofs.YtbnapejkjaddoaaDoor
