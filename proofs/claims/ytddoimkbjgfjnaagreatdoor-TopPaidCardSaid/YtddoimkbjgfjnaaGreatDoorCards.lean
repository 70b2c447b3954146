/-
  DERIVED. GIVEN WITH THE SEED: THE CARDS: each row of YtddoimkbjgfjnaaGreatDoorRows.lean that lists a variable, with what it lists TIED to the program's text (the seventh form; the later family's looks); each row that meets fmt, with fmt's text TOLD by the authors' own Lean function (tested against real Go, not proved from fmt's source: count such statements apart). THE CARD IS WHAT COUNTS. Prove the row's statement (the work); the ties are given (YtddoimkbjgfjnaaGreatDoorTie.lean); close each card by the builder's one call (the guide's Derived/Test/ToyasCard.lean, 'card_holds'). Laid BY PROGRAM, IN A SANDBOX (cutbox-door.mjs). By AI agents, Wed Nov 11 2026. No macro, syntax, notation, axiom, sorry.
-/
import Derived.Test.YtddoimkbjgfjnaaGreatDoorRows
import GoSem.ClaimSeven
namespace Go.Proofs.YtddoimkbjgfjnaaGreatDoor
namespace Rows

/-- THE TIED CARD OF 'wapentaketop.TopNamed'. -/
def topNamedCard : Claim7 := { stood := { row := topNamedRow, standIns := [], harness := (true, "69b7ed29b7fdf2e2c304bb3ce419cfefa12a766d430c943f01da65c8f6f9b45b"), looks := true }, kinds := [], alts := [], laidByText := true, laidKinds := [.data, .handle, .sentinel, .sentinel], laidTests := true, laidLooks := .later }
def TopNamedCardSaid : Prop := Claim7.holds Tryz.pinned (.plain (OpenSpec.ofChange topNamedSpec)) topNamedCard

/-- THE TIED CARD OF 'wapentaketop.TopApart'. -/
def topApartCard : Claim7 := { stood := { row := topApartRow, standIns := [], harness := (true, "69b7ed29b7fdf2e2c304bb3ce419cfefa12a766d430c943f01da65c8f6f9b45b"), looks := true }, kinds := [], alts := [], laidByText := true, laidKinds := [.data, .handle, .sentinel, .sentinel], laidTests := true, laidLooks := .later }
def TopApartCardSaid : Prop := Claim7.holds Tryz.pinned (.plain (OpenSpec.ofChange topApartSpec)) topApartCard

/-- THE TIED CARD OF 'wapentaketop.TopMembers'. -/
def topMembersCard : Claim7 := { stood := { row := topMembersRow, standIns := [], harness := (true, "69b7ed29b7fdf2e2c304bb3ce419cfefa12a766d430c943f01da65c8f6f9b45b"), looks := true }, kinds := [], alts := [], laidByText := true, laidKinds := [.data, .handle, .sentinel, .sentinel], laidTests := true, laidLooks := .later }
def TopMembersCardSaid : Prop := Claim7.holds Tryz.pinned (.plain (OpenSpec.ofChange topMembersSpec)) topMembersCard

/-- THE TIED CARD OF 'wapentaketop.TopRecords'. -/
def topRecordsCard : Claim7 := { stood := { row := topRecordsRow, standIns := [], harness := (true, "69b7ed29b7fdf2e2c304bb3ce419cfefa12a766d430c943f01da65c8f6f9b45b"), looks := true }, kinds := [], alts := [], laidByText := true, laidKinds := [.data, .handle, .sentinel, .sentinel], laidTests := true, laidLooks := .later }
def TopRecordsCardSaid : Prop := Claim7.holds Tryz.pinned (.plain (OpenSpec.ofChange topRecordsSpec)) topRecordsCard

/-- THE TIED CARD OF 'wapentaketop.TopPaid'. -/
def topPaidCard : Claim7 := { stood := { row := topPaidRow, standIns := [], harness := (true, "69b7ed29b7fdf2e2c304bb3ce419cfefa12a766d430c943f01da65c8f6f9b45b"), looks := true }, kinds := [], alts := [], laidByText := true, laidKinds := [.data, .handle, .sentinel, .sentinel], laidTests := true, laidLooks := .later }
def TopPaidCardSaid : Prop := Claim7.holds Tryz.pinned (.plain (OpenSpec.ofChange topPaidSpec)) topPaidCard

/-- THE TIED CARD OF 'wapentaketop.TopBridged'. -/
def topBridgedCard : Claim7 := { stood := { row := topBridgedRow, standIns := [], harness := (true, "69b7ed29b7fdf2e2c304bb3ce419cfefa12a766d430c943f01da65c8f6f9b45b"), looks := true }, kinds := [], alts := [], laidByText := true, laidKinds := [.data, .handle, .sentinel, .sentinel], laidTests := true, laidLooks := .later }
def TopBridgedCardSaid : Prop := Claim7.holds Tryz.pinned (.plain (OpenSpec.ofChange topBridgedSpec)) topBridgedCard

/-- THE TIED CARD OF 'wapentaketop.TopRefused'. -/
def topRefusedCard : Claim7 := { stood := { row := topRefusedRow, standIns := [], harness := (true, "69b7ed29b7fdf2e2c304bb3ce419cfefa12a766d430c943f01da65c8f6f9b45b"), looks := true }, kinds := [], alts := [], laidByText := true, laidKinds := [.data, .handle, .sentinel, .sentinel], laidTests := true, laidLooks := .later }
def TopRefusedCardSaid : Prop := Claim7.holds Tryz.pinned (.plain (OpenSpec.ofChange topRefusedSpec)) topRefusedCard

/-- THE TIED CARD OF 'wapentaketop.TopCut'. -/
def topCutCard : Claim7 := { stood := { row := topCutRow, standIns := [], harness := (true, "69b7ed29b7fdf2e2c304bb3ce419cfefa12a766d430c943f01da65c8f6f9b45b"), looks := true }, kinds := [], alts := [], laidByText := true, laidKinds := [.data, .handle, .sentinel, .sentinel], laidTests := true, laidLooks := .later }
def TopCutCardSaid : Prop := Claim7.holds Tryz.pinned (.plain (OpenSpec.ofChange topCutSpec)) topCutCard

/-- THE SECOND FORM's CARD OF 'wapentaketop.TopNamed'. -/
def topNamedUptoCard : Claim7 := { stood := { row := topNamedUptoRow, standIns := [], harness := (true, "69b7ed29b7fdf2e2c304bb3ce419cfefa12a766d430c943f01da65c8f6f9b45b"), looks := true }, kinds := [], alts := [], laidByText := true, laidKinds := [.data, .handle, .sentinel, .sentinel], laidTests := true, laidLooks := .later }
def TopNamedUptoCardSaid : Prop := Claim7.holds Tryz.pinned (.plain (OpenSpec.upto topNamedSpec)) topNamedUptoCard

/-- THE SECOND FORM's CARD OF 'wapentaketop.TopApart'. -/
def topApartUptoCard : Claim7 := { stood := { row := topApartUptoRow, standIns := [], harness := (true, "69b7ed29b7fdf2e2c304bb3ce419cfefa12a766d430c943f01da65c8f6f9b45b"), looks := true }, kinds := [], alts := [], laidByText := true, laidKinds := [.data, .handle, .sentinel, .sentinel], laidTests := true, laidLooks := .later }
def TopApartUptoCardSaid : Prop := Claim7.holds Tryz.pinned (.plain (OpenSpec.upto topApartSpec)) topApartUptoCard

/-- THE SECOND FORM's CARD OF 'wapentaketop.TopMembers'. -/
def topMembersUptoCard : Claim7 := { stood := { row := topMembersUptoRow, standIns := [], harness := (true, "69b7ed29b7fdf2e2c304bb3ce419cfefa12a766d430c943f01da65c8f6f9b45b"), looks := true }, kinds := [], alts := [], laidByText := true, laidKinds := [.data, .handle, .sentinel, .sentinel], laidTests := true, laidLooks := .later }
def TopMembersUptoCardSaid : Prop := Claim7.holds Tryz.pinned (.plain (OpenSpec.upto topMembersSpec)) topMembersUptoCard

/-- THE SECOND FORM's CARD OF 'wapentaketop.TopRecords'. -/
def topRecordsUptoCard : Claim7 := { stood := { row := topRecordsUptoRow, standIns := [], harness := (true, "69b7ed29b7fdf2e2c304bb3ce419cfefa12a766d430c943f01da65c8f6f9b45b"), looks := true }, kinds := [], alts := [], laidByText := true, laidKinds := [.data, .handle, .sentinel, .sentinel], laidTests := true, laidLooks := .later }
def TopRecordsUptoCardSaid : Prop := Claim7.holds Tryz.pinned (.plain (OpenSpec.upto topRecordsSpec)) topRecordsUptoCard

/-- THE SECOND FORM's CARD OF 'wapentaketop.TopPaid'. -/
def topPaidUptoCard : Claim7 := { stood := { row := topPaidUptoRow, standIns := [], harness := (true, "69b7ed29b7fdf2e2c304bb3ce419cfefa12a766d430c943f01da65c8f6f9b45b"), looks := true }, kinds := [], alts := [], laidByText := true, laidKinds := [.data, .handle, .sentinel, .sentinel], laidTests := true, laidLooks := .later }
def TopPaidUptoCardSaid : Prop := Claim7.holds Tryz.pinned (.plain (OpenSpec.upto topPaidSpec)) topPaidUptoCard

/-- THE SECOND FORM's CARD OF 'wapentaketop.TopBridged'. -/
def topBridgedUptoCard : Claim7 := { stood := { row := topBridgedUptoRow, standIns := [], harness := (true, "69b7ed29b7fdf2e2c304bb3ce419cfefa12a766d430c943f01da65c8f6f9b45b"), looks := true }, kinds := [], alts := [], laidByText := true, laidKinds := [.data, .handle, .sentinel, .sentinel], laidTests := true, laidLooks := .later }
def TopBridgedUptoCardSaid : Prop := Claim7.holds Tryz.pinned (.plain (OpenSpec.upto topBridgedSpec)) topBridgedUptoCard

/-- THE SECOND FORM's CARD OF 'wapentaketop.TopRefused'. -/
def topRefusedUptoCard : Claim7 := { stood := { row := topRefusedUptoRow, standIns := [], harness := (true, "69b7ed29b7fdf2e2c304bb3ce419cfefa12a766d430c943f01da65c8f6f9b45b"), looks := true }, kinds := [], alts := [], laidByText := true, laidKinds := [.data, .handle, .sentinel, .sentinel], laidTests := true, laidLooks := .later }
def TopRefusedUptoCardSaid : Prop := Claim7.holds Tryz.pinned (.plain (OpenSpec.upto topRefusedSpec)) topRefusedUptoCard

/-- THE SECOND FORM's CARD OF 'wapentaketop.TopCut'. -/
def topCutUptoCard : Claim7 := { stood := { row := topCutUptoRow, standIns := [], harness := (true, "69b7ed29b7fdf2e2c304bb3ce419cfefa12a766d430c943f01da65c8f6f9b45b"), looks := true }, kinds := [], alts := [], laidByText := true, laidKinds := [.data, .handle, .sentinel, .sentinel], laidTests := true, laidLooks := .later }
def TopCutUptoCardSaid : Prop := Claim7.holds Tryz.pinned (.plain (OpenSpec.upto topCutSpec)) topCutUptoCard
end Rows
end Go.Proofs.YtddoimkbjgfjnaaGreatDoor
