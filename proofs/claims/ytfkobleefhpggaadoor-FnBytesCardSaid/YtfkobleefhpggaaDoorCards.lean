/-
  DERIVED. GIVEN WITH THE SEED: THE CARDS: each row of YtfkobleefhpggaaDoorRows.lean that lists a variable, with what it lists TIED to the program's text (the seventh form; the later family's looks); each row that meets fmt, with fmt's text TOLD by the authors' own Lean function (tested against real Go, not proved from fmt's source: count such statements apart). THE CARD IS WHAT COUNTS. Prove the row's statement (the work); the ties are given (YtfkobleefhpggaaDoorTie.lean); close each card by the builder's one call (the guide's Derived/Test/ToyasCard.lean, 'card_holds'). Laid BY PROGRAM, IN A SANDBOX (cutbox-door.mjs). By AI agents, Wed Nov 11 2026. No macro, syntax, notation, axiom, sorry.
-/
import Derived.Test.YtfkobleefhpggaaDoorRows
import GoSem.ClaimSeven
namespace Go.Proofs.YtfkobleefhpggaaDoor
namespace Rows

/-- THE TIED CARD OF 'laws.FnExactClusterFrom'. -/
def fnExactClusterFromCard : Claim7 := { stood := { row := fnExactClusterFromRow, standIns := [], harness := (true, "fa651147677ebe16f17a79260dc60def1e443ed69fceceeae98782b45e7ad67a"), looks := true }, kinds := [], alts := [], laidByText := true, laidKinds := [.handle], laidTests := true, laidLooks := .later }
def FnExactClusterFromCardSaid : Prop := Claim7.holds Tryd.pinned (.plain (OpenSpec.ofChange fnExactClusterFromSpec)) fnExactClusterFromCard

/-- THE TIED CARD OF 'laws.FnBytesDamage'. -/
def fnBytesDamageCard : Claim7 := { stood := { row := fnBytesDamageRow, standIns := [], harness := (true, "fa651147677ebe16f17a79260dc60def1e443ed69fceceeae98782b45e7ad67a"), looks := true }, kinds := [], alts := [], laidByText := true, laidKinds := [.handle], laidTests := true, laidLooks := .later }
def FnBytesDamageCardSaid : Prop := Claim7.holds Tryd.pinned (.plain (OpenSpec.ofChange fnBytesDamageSpec)) fnBytesDamageCard

/-- THE TIED CARD OF 'laws.FnBytes'. -/
def fnBytesCard : Claim7 := { stood := { row := fnBytesRow, standIns := [], harness := (true, "fa651147677ebe16f17a79260dc60def1e443ed69fceceeae98782b45e7ad67a"), looks := true }, kinds := [], alts := [], laidByText := true, laidKinds := [.handle], laidTests := true, laidLooks := .later }
def FnBytesCardSaid : Prop := Claim7.holds Tryd.pinned (.plain (OpenSpec.ofChange fnBytesSpec)) fnBytesCard

/-- THE SECOND FORM's CARD OF 'laws.FnExactClusterFrom'. -/
def fnExactClusterFromUptoCard : Claim7 := { stood := { row := fnExactClusterFromUptoRow, standIns := [], harness := (true, "fa651147677ebe16f17a79260dc60def1e443ed69fceceeae98782b45e7ad67a"), looks := true }, kinds := [], alts := [], laidByText := true, laidKinds := [.handle], laidTests := true, laidLooks := .later }
def FnExactClusterFromUptoCardSaid : Prop := Claim7.holds Tryd.pinned (.plain (OpenSpec.upto fnExactClusterFromSpec)) fnExactClusterFromUptoCard

/-- THE SECOND FORM's CARD OF 'laws.FnBytesDamage'. -/
def fnBytesDamageUptoCard : Claim7 := { stood := { row := fnBytesDamageUptoRow, standIns := [], harness := (true, "fa651147677ebe16f17a79260dc60def1e443ed69fceceeae98782b45e7ad67a"), looks := true }, kinds := [], alts := [], laidByText := true, laidKinds := [.handle], laidTests := true, laidLooks := .later }
def FnBytesDamageUptoCardSaid : Prop := Claim7.holds Tryd.pinned (.plain (OpenSpec.upto fnBytesDamageSpec)) fnBytesDamageUptoCard

/-- THE SECOND FORM's CARD OF 'laws.FnBytes'. -/
def fnBytesUptoCard : Claim7 := { stood := { row := fnBytesUptoRow, standIns := [], harness := (true, "fa651147677ebe16f17a79260dc60def1e443ed69fceceeae98782b45e7ad67a"), looks := true }, kinds := [], alts := [], laidByText := true, laidKinds := [.handle], laidTests := true, laidLooks := .later }
def FnBytesUptoCardSaid : Prop := Claim7.holds Tryd.pinned (.plain (OpenSpec.upto fnBytesSpec)) fnBytesUptoCard
end Rows
end Go.Proofs.YtfkobleefhpggaaDoor
