/- What every card's proof needs: its row's list, and the tie. No condition. -/
import Derived.Test.YthgfldabeaepaaaDoorRow
import Derived.Test.YthgfldabeaepaaaDoorCards
import Derived.Test.YthgfldabeaepaaaDoorTie
import Derived.Test.YthgfldabeaepaaaDoorEnv
import Derived.Deep.DeepHandedRow
import Derived.Lib.LaidTab
import Derived.LaidMore
import Derived.LaidSub
namespace Go.Proofs.YthgfldabeaepaaaDoor
open Go.RowKit
end Go.Proofs.YthgfldabeaepaaaDoor
