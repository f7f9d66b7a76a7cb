/-
  DERIVED. GIVEN WITH THE SEED: THE CARDS: each row of YtofagdjijpjlgaaDoorRows.lean that lists a variable, with what it lists TIED to the program's text (the seventh form; the later family's looks); each row that meets fmt, with fmt's text TOLD by the authors' own Lean function (tested against real Go, not proved from fmt's source: count such statements apart). THE CARD IS WHAT COUNTS. Prove the row's statement (the work); the ties are given (YtofagdjijpjlgaaDoorTie.lean); close each card by the builder's one call (the guide's Derived/Test/ToyasCard.lean, 'card_holds'). Laid BY PROGRAM, IN A SANDBOX (cutbox-door.mjs). By AI agents, Wed Nov 11 2026. No macro, syntax, notation, axiom, sorry.
-/
import Derived.Test.YtofagdjijpjlgaaDoorRows
import GoSem.ClaimSeven
namespace Go.Proofs.YtofagdjijpjlgaaDoor
namespace Rows

/-- THE TIED CARD OF 'larderlaw02.GtinDays'. -/
def gtinDaysCard : Claim7 := { stood := { row := gtinDaysRow, standIns := [], harness := (true, "4121b3b34c414a5882be7f787fa5e21448e86265e953c86d047950e5d0a59162"), looks := true }, kinds := [], alts := [], laidByText := true, laidKinds := [.data], laidTests := true, laidLooks := .later }
def GtinDaysCardSaid : Prop := Claim7.holds Tryd.pinned (.plain (OpenSpec.ofChange gtinDaysSpec)) gtinDaysCard

/-- THE TIED CARD OF 'larderlaw02.GtinAmounts'. -/
def gtinAmountsCard : Claim7 := { stood := { row := gtinAmountsRow, standIns := [], harness := (true, "4121b3b34c414a5882be7f787fa5e21448e86265e953c86d047950e5d0a59162"), looks := true }, kinds := [], alts := [], laidByText := true, laidKinds := [.data], laidTests := true, laidLooks := .later }
def GtinAmountsCardSaid : Prop := Claim7.holds Tryd.pinned (.plain (OpenSpec.ofChange gtinAmountsSpec)) gtinAmountsCard

/-- THE TIED CARD OF 'larderlaw02.GtinShown'. -/
def gtinShownCard : Claim7 := { stood := { row := gtinShownRow, standIns := [], harness := (true, "4121b3b34c414a5882be7f787fa5e21448e86265e953c86d047950e5d0a59162"), looks := true }, kinds := [], alts := [], laidByText := true, laidKinds := [.data], laidTests := true, laidLooks := .later }
def GtinShownCardSaid : Prop := Claim7.holds Tryd.pinned (.plain (OpenSpec.ofChange gtinShownSpec)) gtinShownCard

/-- THE TIED CARD OF 'larderlaw02.GtinParses'. -/
def gtinParsesCard : Claim7 := { stood := { row := gtinParsesRow, standIns := [], harness := (true, "4121b3b34c414a5882be7f787fa5e21448e86265e953c86d047950e5d0a59162"), looks := true }, kinds := [], alts := [], laidByText := true, laidKinds := [.data], laidTests := true, laidLooks := .later }
def GtinParsesCardSaid : Prop := Claim7.holds Tryd.pinned (.plain (OpenSpec.ofChange gtinParsesSpec)) gtinParsesCard

/-- THE TIED CARD OF 'larderlaw02.GtinSpan'. -/
def gtinSpanCard : Claim7 := { stood := { row := gtinSpanRow, standIns := [], harness := (true, "4121b3b34c414a5882be7f787fa5e21448e86265e953c86d047950e5d0a59162"), looks := true }, kinds := [], alts := [], laidByText := true, laidKinds := [.data], laidTests := true, laidLooks := .later }
def GtinSpanCardSaid : Prop := Claim7.holds Tryd.pinned (.plain (OpenSpec.ofChange gtinSpanSpec)) gtinSpanCard

/-- THE TIED CARD OF 'larderlaw02.GtinSpoilt'. -/
def gtinSpoiltCard : Claim7 := { stood := { row := gtinSpoiltRow, standIns := [], harness := (true, "4121b3b34c414a5882be7f787fa5e21448e86265e953c86d047950e5d0a59162"), looks := true }, kinds := [], alts := [], laidByText := true, laidKinds := [.data], laidTests := true, laidLooks := .later }
def GtinSpoiltCardSaid : Prop := Claim7.holds Tryd.pinned (.plain (OpenSpec.ofChange gtinSpoiltSpec)) gtinSpoiltCard

/-- THE SECOND FORM's CARD OF 'larderlaw02.GtinDays'. -/
def gtinDaysUptoCard : Claim7 := { stood := { row := gtinDaysUptoRow, standIns := [], harness := (true, "4121b3b34c414a5882be7f787fa5e21448e86265e953c86d047950e5d0a59162"), looks := true }, kinds := [], alts := [], laidByText := true, laidKinds := [.data], laidTests := true, laidLooks := .later }
def GtinDaysUptoCardSaid : Prop := Claim7.holds Tryd.pinned (.plain (OpenSpec.upto gtinDaysSpec)) gtinDaysUptoCard

/-- THE SECOND FORM's CARD OF 'larderlaw02.GtinAmounts'. -/
def gtinAmountsUptoCard : Claim7 := { stood := { row := gtinAmountsUptoRow, standIns := [], harness := (true, "4121b3b34c414a5882be7f787fa5e21448e86265e953c86d047950e5d0a59162"), looks := true }, kinds := [], alts := [], laidByText := true, laidKinds := [.data], laidTests := true, laidLooks := .later }
def GtinAmountsUptoCardSaid : Prop := Claim7.holds Tryd.pinned (.plain (OpenSpec.upto gtinAmountsSpec)) gtinAmountsUptoCard

/-- THE SECOND FORM's CARD OF 'larderlaw02.GtinShown'. -/
def gtinShownUptoCard : Claim7 := { stood := { row := gtinShownUptoRow, standIns := [], harness := (true, "4121b3b34c414a5882be7f787fa5e21448e86265e953c86d047950e5d0a59162"), looks := true }, kinds := [], alts := [], laidByText := true, laidKinds := [.data], laidTests := true, laidLooks := .later }
def GtinShownUptoCardSaid : Prop := Claim7.holds Tryd.pinned (.plain (OpenSpec.upto gtinShownSpec)) gtinShownUptoCard

/-- THE SECOND FORM's CARD OF 'larderlaw02.GtinParses'. -/
def gtinParsesUptoCard : Claim7 := { stood := { row := gtinParsesUptoRow, standIns := [], harness := (true, "4121b3b34c414a5882be7f787fa5e21448e86265e953c86d047950e5d0a59162"), looks := true }, kinds := [], alts := [], laidByText := true, laidKinds := [.data], laidTests := true, laidLooks := .later }
def GtinParsesUptoCardSaid : Prop := Claim7.holds Tryd.pinned (.plain (OpenSpec.upto gtinParsesSpec)) gtinParsesUptoCard

/-- THE SECOND FORM's CARD OF 'larderlaw02.GtinSpan'. -/
def gtinSpanUptoCard : Claim7 := { stood := { row := gtinSpanUptoRow, standIns := [], harness := (true, "4121b3b34c414a5882be7f787fa5e21448e86265e953c86d047950e5d0a59162"), looks := true }, kinds := [], alts := [], laidByText := true, laidKinds := [.data], laidTests := true, laidLooks := .later }
def GtinSpanUptoCardSaid : Prop := Claim7.holds Tryd.pinned (.plain (OpenSpec.upto gtinSpanSpec)) gtinSpanUptoCard

/-- THE SECOND FORM's CARD OF 'larderlaw02.GtinSpoilt'. -/
def gtinSpoiltUptoCard : Claim7 := { stood := { row := gtinSpoiltUptoRow, standIns := [], harness := (true, "4121b3b34c414a5882be7f787fa5e21448e86265e953c86d047950e5d0a59162"), looks := true }, kinds := [], alts := [], laidByText := true, laidKinds := [.data], laidTests := true, laidLooks := .later }
def GtinSpoiltUptoCardSaid : Prop := Claim7.holds Tryd.pinned (.plain (OpenSpec.upto gtinSpoiltSpec)) gtinSpoiltUptoCard
end Rows
end Go.Proofs.YtofagdjijpjlgaaDoor
