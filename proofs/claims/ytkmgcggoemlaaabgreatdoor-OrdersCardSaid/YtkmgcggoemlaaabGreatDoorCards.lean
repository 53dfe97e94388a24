/-
  DERIVED. GIVEN WITH THE SEED: THE CARDS: each row of YtkmgcggoemlaaabGreatDoorRows.lean that lists a variable, with what it lists TIED to the program's text (the seventh form; the later family's looks); each row that meets fmt, with fmt's text TOLD by the authors' own Lean function (tested against real Go, not proved from fmt's source: count such statements apart). THE CARD IS WHAT COUNTS. Prove the row's statement (the work); the ties are given (YtkmgcggoemlaaabGreatDoorTie.lean); close each card by the builder's one call (the guide's Derived/Test/ToyasCard.lean, 'card_holds'). Laid BY PROGRAM, IN A SANDBOX (cutbox-door.mjs). By AI agents, Wed Nov 11 2026. No macro, syntax, notation, axiom, sorry.
-/
import Derived.Test.YtkmgcggoemlaaabGreatDoorRows
import GoSem.ClaimSeven
namespace Go.Proofs.YtkmgcggoemlaaabGreatDoor
namespace Rows

/-- THE TIED CARD OF 'firmwarelaw.Lean'. -/
def leanCard : Claim7 := { stood := { row := leanRow, standIns := [], harness := (true, "a3665ffc084b50e5c5fe19f33c4cf9a535fb673a01aaa97271f71c541cad427a"), looks := true }, kinds := [], alts := [], goes := true, laidByText := true, laidKinds := [.handle], laidTests := true, laidLooks := .later }
def LeanCardSaid : Prop := Claim7.holds Tryz.pinned (.plain (OpenSpec.ofChange leanSpec)) leanCard

/-- THE TIED CARD OF 'firmwarelaw.Orders'. -/
def ordersCard : Claim7 := { stood := { row := ordersRow, standIns := [], harness := (true, "a3665ffc084b50e5c5fe19f33c4cf9a535fb673a01aaa97271f71c541cad427a"), looks := true }, kinds := [], alts := [], goes := true, laidByText := true, laidKinds := [.handle], laidTests := true, laidLooks := .later }
def OrdersCardSaid : Prop := Claim7.holds Tryz.pinned (.plain (OpenSpec.ofChange ordersSpec)) ordersCard

/-- THE SECOND FORM's CARD OF 'firmwarelaw.Lean'. -/
def leanUptoCard : Claim7 := { stood := { row := leanUptoRow, standIns := [], harness := (true, "a3665ffc084b50e5c5fe19f33c4cf9a535fb673a01aaa97271f71c541cad427a"), looks := true }, kinds := [], alts := [], goes := true, laidByText := true, laidKinds := [.handle], laidTests := true, laidLooks := .later }
def LeanUptoCardSaid : Prop := Claim7.holds Tryz.pinned (.plain (OpenSpec.upto leanSpec)) leanUptoCard

/-- THE SECOND FORM's CARD OF 'firmwarelaw.Orders'. -/
def ordersUptoCard : Claim7 := { stood := { row := ordersUptoRow, standIns := [], harness := (true, "a3665ffc084b50e5c5fe19f33c4cf9a535fb673a01aaa97271f71c541cad427a"), looks := true }, kinds := [], alts := [], goes := true, laidByText := true, laidKinds := [.handle], laidTests := true, laidLooks := .later }
def OrdersUptoCardSaid : Prop := Claim7.holds Tryz.pinned (.plain (OpenSpec.upto ordersSpec)) ordersUptoCard
end Rows
end Go.Proofs.YtkmgcggoemlaaabGreatDoor
