/- What every card's proof needs: its row's list, and the tie. No condition. -/
import Derived.Test.YtfikfihcjddgnaaDoorRow
import Derived.Test.YtfikfihcjddgnaaDoorCards
import Derived.Test.YtfikfihcjddgnaaDoorTie
import Derived.Test.YtfikfihcjddgnaaDoorEnv
import Derived.Deep.DeepHandedRow
import Derived.Lib.LaidTab
import Derived.LaidMore
import Derived.LaidSub
namespace Go.Proofs.YtfikfihcjddgnaaDoor
open Go.RowKit
end Go.Proofs.YtfikfihcjddgnaaDoor
