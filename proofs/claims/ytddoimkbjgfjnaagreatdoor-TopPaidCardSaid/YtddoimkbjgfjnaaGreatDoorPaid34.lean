/- A part of the proof of this: Payments and locks of a shard come out as they stand on paper (TopPaid): for every input, with the listed package variables as the program's text lays them, TopPaid answers true and its argument reads as it did. -/
import Derived.Test.YtddoimkbjgfjnaaGreatDoorPaid28
import Derived.Test.YtddoimkbjgfjnaaGreatDoorPaid29
import Derived.Test.YtddoimkbjgfjnaaGreatDoorPaid30
import Derived.Test.YtddoimkbjgfjnaaGreatDoorPaid31
import Derived.Test.YtddoimkbjgfjnaaGreatDoorPaid32
import Derived.Test.YtddoimkbjgfjnaaGreatDoorPaid33
namespace Go.Proofs.YtddoimkbjgfjnaaGreatDoor.TopPaid
open Go Go.Eng Go.ChangeShapes Go.WideShapes Go.ChangeAt Go.RowKit
set_option maxRecDepth 100000
theorem facts7 : joinedFacts Tryz.pinned.checked.prog 7 Tryz.f7 (OpenSpec.ofChange Rows.topPaidSpec).bare Rows.topPaidRow = true := by
  unfold joinedFacts
  rw [fact_b, fact_cc, fact_g, fact_h, fact_i, fact_j]
  kernel_rfl
end Go.Proofs.YtddoimkbjgfjnaaGreatDoor.TopPaid
