/- What every card's proof needs: its row's list, and the tie. No condition. -/
import Derived.Test.YtgnkpdpnomdkpaaDoorRow
import Derived.Test.YtgnkpdpnomdkpaaDoorCards
import Derived.Test.YtgnkpdpnomdkpaaDoorTie
import Derived.Test.YtgnkpdpnomdkpaaDoorEnv
import Derived.Deep.DeepHandedRow
import Derived.Lib.LaidTab
import Derived.LaidMore
import Derived.LaidSub
namespace Go.Proofs.YtgnkpdpnomdkpaaDoor
open Go.RowKit
end Go.Proofs.YtgnkpdpnomdkpaaDoor
