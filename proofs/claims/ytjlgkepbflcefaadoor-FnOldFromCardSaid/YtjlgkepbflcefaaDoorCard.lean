/- What every card's proof needs: its row's list, and the tie. No condition. -/
import Derived.Test.YtjlgkepbflcefaaDoorRow
import Derived.Test.YtjlgkepbflcefaaDoorCards
import Derived.Test.YtjlgkepbflcefaaDoorTie
import Derived.Test.YtjlgkepbflcefaaDoorEnv
import Derived.Deep.DeepHandedRow
import Derived.Lib.LaidTab
import Derived.LaidMore
import Derived.LaidSub
namespace Go.Proofs.YtjlgkepbflcefaaDoor
open Go.RowKit
end Go.Proofs.YtjlgkepbflcefaaDoor
