/- A part of the proof of this: Payments and locks of a shard come out as they stand on paper (TopPaid): for every input, with the listed package variables as the program's text lays them, TopPaid answers true and its argument reads as it did. -/
import Derived.Test.YtddoimkbjgfjnaaGreatDoorPaid27
namespace Go.Proofs.YtddoimkbjgfjnaaGreatDoor.TopPaid
open Go Go.Eng Go.ChangeShapes Go.WideShapes Go.ChangeAt Go.RowKit
set_option maxRecDepth 100000
theorem fact_g : Tryz.pinned.checked.prog.inPlace 7 = Rows.topPaidRow.inPlace := by kernel_rfl
end Go.Proofs.YtddoimkbjgfjnaaGreatDoor.TopPaid
