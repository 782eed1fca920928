/-
  DERIVED. GIVEN WITH THE SEED: THE CARDS: each row of YtnnklobbakdopaaDoorRows.lean that lists a variable, with what it lists TIED to the program's text (the seventh form; the later family's looks); each row that meets fmt, with fmt's text TOLD by the authors' own Lean function (tested against real Go, not proved from fmt's source: count such statements apart). THE CARD IS WHAT COUNTS. Prove the row's statement (the work); the ties are given (YtnnklobbakdopaaDoorTie.lean); close each card by the builder's one call (the guide's Derived/Test/ToyasCard.lean, 'card_holds'). Laid BY PROGRAM, IN A SANDBOX (cutbox-door.mjs). By AI agents, Wed Nov 11 2026. No macro, syntax, notation, axiom, sorry.
-/
import Derived.Test.YtnnklobbakdopaaDoorRows
import GoSem.ClaimSeven
namespace Go.Proofs.YtnnklobbakdopaaDoor
namespace Rows

/-- THE TIED CARD OF 'coffretlaw09.NamesTell'. -/
def namesTellCard : Claim7 := { stood := { row := namesTellRow, standIns := [], harness := (true, "0a793994ffb01c64eeaa75061ceb619c3e2ede713363ac2efdd1e94969a6b442"), looks := false }, kinds := [], alts := [], laidByText := true, laidKinds := [.data, .pinned], laidTests := true, laidLooks := .later }
def NamesTellCardSaid : Prop := Claim7.holds Tryd.pinned (.plain (OpenSpec.ofChange namesTellSpec)) namesTellCard

/-- THE TIED CARD OF 'coffretlaw09.NamesParts'. -/
def namesPartsCard : Claim7 := { stood := { row := namesPartsRow, standIns := [], harness := (true, "0a793994ffb01c64eeaa75061ceb619c3e2ede713363ac2efdd1e94969a6b442"), looks := false }, kinds := [], alts := [], laidByText := true, laidKinds := [.data, .pinned], laidTests := true, laidLooks := .later }
def NamesPartsCardSaid : Prop := Claim7.holds Tryd.pinned (.plain (OpenSpec.ofChange namesPartsSpec)) namesPartsCard

/-- THE TIED CARD OF 'coffretlaw09.NamesLess'. -/
def namesLessCard : Claim7 := { stood := { row := namesLessRow, standIns := [], harness := (true, "0a793994ffb01c64eeaa75061ceb619c3e2ede713363ac2efdd1e94969a6b442"), looks := false }, kinds := [], alts := [], laidByText := true, laidKinds := [.data, .pinned], laidTests := true, laidLooks := .later }
def NamesLessCardSaid : Prop := Claim7.holds Tryd.pinned (.plain (OpenSpec.ofChange namesLessSpec)) namesLessCard

/-- THE TIED CARD OF 'coffretlaw09.NamesOrder'. -/
def namesOrderCard : Claim7 := { stood := { row := namesOrderRow, standIns := [], harness := (true, "0a793994ffb01c64eeaa75061ceb619c3e2ede713363ac2efdd1e94969a6b442"), looks := false }, kinds := [], alts := [], laidByText := true, laidKinds := [.data, .pinned], laidTests := true, laidLooks := .later }
def NamesOrderCardSaid : Prop := Claim7.holds Tryd.pinned (.plain (OpenSpec.ofChange namesOrderSpec)) namesOrderCard

/-- THE SECOND FORM's CARD OF 'coffretlaw09.NamesTell'. -/
def namesTellUptoCard : Claim7 := { stood := { row := namesTellUptoRow, standIns := [], harness := (true, "0a793994ffb01c64eeaa75061ceb619c3e2ede713363ac2efdd1e94969a6b442"), looks := false }, kinds := [], alts := [], laidByText := true, laidKinds := [.data, .pinned], laidTests := true, laidLooks := .later }
def NamesTellUptoCardSaid : Prop := Claim7.holds Tryd.pinned (.plain (OpenSpec.upto namesTellSpec)) namesTellUptoCard

/-- THE SECOND FORM's CARD OF 'coffretlaw09.NamesParts'. -/
def namesPartsUptoCard : Claim7 := { stood := { row := namesPartsUptoRow, standIns := [], harness := (true, "0a793994ffb01c64eeaa75061ceb619c3e2ede713363ac2efdd1e94969a6b442"), looks := false }, kinds := [], alts := [], laidByText := true, laidKinds := [.data, .pinned], laidTests := true, laidLooks := .later }
def NamesPartsUptoCardSaid : Prop := Claim7.holds Tryd.pinned (.plain (OpenSpec.upto namesPartsSpec)) namesPartsUptoCard

/-- THE SECOND FORM's CARD OF 'coffretlaw09.NamesLess'. -/
def namesLessUptoCard : Claim7 := { stood := { row := namesLessUptoRow, standIns := [], harness := (true, "0a793994ffb01c64eeaa75061ceb619c3e2ede713363ac2efdd1e94969a6b442"), looks := false }, kinds := [], alts := [], laidByText := true, laidKinds := [.data, .pinned], laidTests := true, laidLooks := .later }
def NamesLessUptoCardSaid : Prop := Claim7.holds Tryd.pinned (.plain (OpenSpec.upto namesLessSpec)) namesLessUptoCard

/-- THE SECOND FORM's CARD OF 'coffretlaw09.NamesOrder'. -/
def namesOrderUptoCard : Claim7 := { stood := { row := namesOrderUptoRow, standIns := [], harness := (true, "0a793994ffb01c64eeaa75061ceb619c3e2ede713363ac2efdd1e94969a6b442"), looks := false }, kinds := [], alts := [], laidByText := true, laidKinds := [.data, .pinned], laidTests := true, laidLooks := .later }
def NamesOrderUptoCardSaid : Prop := Claim7.holds Tryd.pinned (.plain (OpenSpec.upto namesOrderSpec)) namesOrderUptoCard
end Rows
end Go.Proofs.YtnnklobbakdopaaDoor
