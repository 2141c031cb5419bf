/- What every card's proof needs: its row's list, and the tie. No condition. -/
import Derived.Test.YthgfldabeaepaaaGreatDoorRow
import Derived.Test.YthgfldabeaepaaaGreatDoorCards
import Derived.Test.YthgfldabeaepaaaGreatDoorTie
import Derived.Test.YthgfldabeaepaaaGreatDoorEnv
import Derived.Deep.DeepHandedRow
import Derived.Lib.LaidTab
import Derived.LaidMore
import Derived.LaidSub
namespace Go.Proofs.YthgfldabeaepaaaGreatDoor
open Go.RowKit
end Go.Proofs.YthgfldabeaepaaaGreatDoor
