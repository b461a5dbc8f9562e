/-
  DERIVED. GIVEN WITH THE SEED: THE CARDS: each row of YtdkhdfedejbicaaGreatDoorRows.lean that lists a variable, with what it lists TIED to the program's text (the seventh form; the later family's looks); each row that meets fmt, with fmt's text TOLD by the authors' own Lean function (tested against real Go, not proved from fmt's source: count such statements apart). THE CARD IS WHAT COUNTS. Prove the row's statement (the work); the ties are given (YtdkhdfedejbicaaGreatDoorTie.lean); close each card by the builder's one call (the guide's Derived/Test/ToyasCard.lean, 'card_holds'). Laid BY PROGRAM, IN A SANDBOX (cutbox-door.mjs). By AI agents, Wed Nov 11 2026. No macro, syntax, notation, axiom, sorry.
-/
import Derived.Test.YtdkhdfedejbicaaGreatDoorRows
import GoSem.ClaimSeven
namespace Go.Proofs.YtdkhdfedejbicaaGreatDoor
namespace Rows

/-- THE TIED CARD OF 'laws.FnScriptOpen'. -/
def fnScriptOpenCard : Claim7 := { stood := { row := fnScriptOpenRow, standIns := [], harness := (true, "69d5d23adfad78a075ef94b2c36fdce9fbdd90a074af7c55b071943f28474c63"), looks := true }, kinds := [], alts := [], laidByText := true, laidKinds := [.data, .data, .data, .data, .sentinel, .pinned], laidTests := true, laidLooks := .later }
def FnScriptOpenCardSaid : Prop := Claim7.holds Tryz.pinned (.plain (OpenSpec.ofChange fnScriptOpenSpec)) fnScriptOpenCard

/-- THE TIED CARD OF 'laws.FnScriptCut'. -/
def fnScriptCutCard : Claim7 := { stood := { row := fnScriptCutRow, standIns := [], harness := (true, "69d5d23adfad78a075ef94b2c36fdce9fbdd90a074af7c55b071943f28474c63"), looks := true }, kinds := [], alts := [], laidByText := true, laidKinds := [.data, .data, .data, .data, .sentinel, .pinned], laidTests := true, laidLooks := .later }
def FnScriptCutCardSaid : Prop := Claim7.holds Tryz.pinned (.plain (OpenSpec.ofChange fnScriptCutSpec)) fnScriptCutCard

/-- THE TIED CARD OF 'laws.FnScriptWhat'. -/
def fnScriptWhatCard : Claim7 := { stood := { row := fnScriptWhatRow, standIns := [], harness := (true, "69d5d23adfad78a075ef94b2c36fdce9fbdd90a074af7c55b071943f28474c63"), looks := true }, kinds := [], alts := [], laidByText := true, laidKinds := [.data, .data, .data, .data, .sentinel, .pinned], laidTests := true, laidLooks := .later }
def FnScriptWhatCardSaid : Prop := Claim7.holds Tryz.pinned (.plain (OpenSpec.ofChange fnScriptWhatSpec)) fnScriptWhatCard

/-- THE TIED CARD OF 'laws.FnExactExecute'. -/
def fnExactExecuteCard : Claim7 := { stood := { row := fnExactExecuteRow, standIns := [], harness := (true, "69d5d23adfad78a075ef94b2c36fdce9fbdd90a074af7c55b071943f28474c63"), looks := true }, kinds := [], alts := [], laidByText := true, laidKinds := [.data, .data, .data, .data, .sentinel, .pinned], laidTests := true, laidLooks := .later }
def FnExactExecuteCardSaid : Prop := Claim7.holds Tryz.pinned (.plain (OpenSpec.ofChange fnExactExecuteSpec)) fnExactExecuteCard

/-- THE TIED CARD OF 'laws.FnScript'. -/
def fnScriptCard : Claim7 := { stood := { row := fnScriptRow, standIns := [], harness := (true, "69d5d23adfad78a075ef94b2c36fdce9fbdd90a074af7c55b071943f28474c63"), looks := true }, kinds := [], alts := [], laidByText := true, laidKinds := [.data, .data, .data, .data, .sentinel, .pinned], laidTests := true, laidLooks := .later }
def FnScriptCardSaid : Prop := Claim7.holds Tryz.pinned (.plain (OpenSpec.ofChange fnScriptSpec)) fnScriptCard

/-- THE TIED CARD OF 'laws.FnScriptBad'. -/
def fnScriptBadCard : Claim7 := { stood := { row := fnScriptBadRow, standIns := [], harness := (true, "69d5d23adfad78a075ef94b2c36fdce9fbdd90a074af7c55b071943f28474c63"), looks := true }, kinds := [], alts := [], laidByText := true, laidKinds := [.data, .data, .data, .data, .sentinel, .pinned], laidTests := true, laidLooks := .later }
def FnScriptBadCardSaid : Prop := Claim7.holds Tryz.pinned (.plain (OpenSpec.ofChange fnScriptBadSpec)) fnScriptBadCard

/-- THE TIED CARD OF 'laws.FnScriptCodes'. -/
def fnScriptCodesCard : Claim7 := { stood := { row := fnScriptCodesRow, standIns := [], harness := (true, "69d5d23adfad78a075ef94b2c36fdce9fbdd90a074af7c55b071943f28474c63"), looks := true }, kinds := [], alts := [], laidByText := true, laidKinds := [.data, .data, .data, .data, .sentinel, .pinned], laidTests := true, laidLooks := .later }
def FnScriptCodesCardSaid : Prop := Claim7.holds Tryz.pinned (.plain (OpenSpec.ofChange fnScriptCodesSpec)) fnScriptCodesCard

/-- THE TIED CARD OF 'laws.FnScriptGather'. -/
def fnScriptGatherCard : Claim7 := { stood := { row := fnScriptGatherRow, standIns := [], harness := (true, "69d5d23adfad78a075ef94b2c36fdce9fbdd90a074af7c55b071943f28474c63"), looks := true }, kinds := [], alts := [], laidByText := true, laidKinds := [.data, .data, .data, .data, .sentinel, .pinned], laidTests := true, laidLooks := .later }
def FnScriptGatherCardSaid : Prop := Claim7.holds Tryz.pinned (.plain (OpenSpec.ofChange fnScriptGatherSpec)) fnScriptGatherCard

/-- THE TIED CARD OF 'laws.FnScriptGrant'. -/
def fnScriptGrantCard : Claim7 := { stood := { row := fnScriptGrantRow, standIns := [], harness := (true, "69d5d23adfad78a075ef94b2c36fdce9fbdd90a074af7c55b071943f28474c63"), looks := true }, kinds := [], alts := [], laidByText := true, laidKinds := [.data, .data, .data, .data, .sentinel, .pinned], laidTests := true, laidLooks := .later }
def FnScriptGrantCardSaid : Prop := Claim7.holds Tryz.pinned (.plain (OpenSpec.ofChange fnScriptGrantSpec)) fnScriptGrantCard

/-- THE SECOND FORM's CARD OF 'laws.FnScriptOpen'. -/
def fnScriptOpenUptoCard : Claim7 := { stood := { row := fnScriptOpenUptoRow, standIns := [], harness := (true, "69d5d23adfad78a075ef94b2c36fdce9fbdd90a074af7c55b071943f28474c63"), looks := true }, kinds := [], alts := [], laidByText := true, laidKinds := [.data, .data, .data, .data, .sentinel, .pinned], laidTests := true, laidLooks := .later }
def FnScriptOpenUptoCardSaid : Prop := Claim7.holds Tryz.pinned (.plain (OpenSpec.upto fnScriptOpenSpec)) fnScriptOpenUptoCard

/-- THE SECOND FORM's CARD OF 'laws.FnScriptCut'. -/
def fnScriptCutUptoCard : Claim7 := { stood := { row := fnScriptCutUptoRow, standIns := [], harness := (true, "69d5d23adfad78a075ef94b2c36fdce9fbdd90a074af7c55b071943f28474c63"), looks := true }, kinds := [], alts := [], laidByText := true, laidKinds := [.data, .data, .data, .data, .sentinel, .pinned], laidTests := true, laidLooks := .later }
def FnScriptCutUptoCardSaid : Prop := Claim7.holds Tryz.pinned (.plain (OpenSpec.upto fnScriptCutSpec)) fnScriptCutUptoCard

/-- THE SECOND FORM's CARD OF 'laws.FnScriptWhat'. -/
def fnScriptWhatUptoCard : Claim7 := { stood := { row := fnScriptWhatUptoRow, standIns := [], harness := (true, "69d5d23adfad78a075ef94b2c36fdce9fbdd90a074af7c55b071943f28474c63"), looks := true }, kinds := [], alts := [], laidByText := true, laidKinds := [.data, .data, .data, .data, .sentinel, .pinned], laidTests := true, laidLooks := .later }
def FnScriptWhatUptoCardSaid : Prop := Claim7.holds Tryz.pinned (.plain (OpenSpec.upto fnScriptWhatSpec)) fnScriptWhatUptoCard

/-- THE SECOND FORM's CARD OF 'laws.FnExactExecute'. -/
def fnExactExecuteUptoCard : Claim7 := { stood := { row := fnExactExecuteUptoRow, standIns := [], harness := (true, "69d5d23adfad78a075ef94b2c36fdce9fbdd90a074af7c55b071943f28474c63"), looks := true }, kinds := [], alts := [], laidByText := true, laidKinds := [.data, .data, .data, .data, .sentinel, .pinned], laidTests := true, laidLooks := .later }
def FnExactExecuteUptoCardSaid : Prop := Claim7.holds Tryz.pinned (.plain (OpenSpec.upto fnExactExecuteSpec)) fnExactExecuteUptoCard

/-- THE SECOND FORM's CARD OF 'laws.FnScript'. -/
def fnScriptUptoCard : Claim7 := { stood := { row := fnScriptUptoRow, standIns := [], harness := (true, "69d5d23adfad78a075ef94b2c36fdce9fbdd90a074af7c55b071943f28474c63"), looks := true }, kinds := [], alts := [], laidByText := true, laidKinds := [.data, .data, .data, .data, .sentinel, .pinned], laidTests := true, laidLooks := .later }
def FnScriptUptoCardSaid : Prop := Claim7.holds Tryz.pinned (.plain (OpenSpec.upto fnScriptSpec)) fnScriptUptoCard

/-- THE SECOND FORM's CARD OF 'laws.FnScriptBad'. -/
def fnScriptBadUptoCard : Claim7 := { stood := { row := fnScriptBadUptoRow, standIns := [], harness := (true, "69d5d23adfad78a075ef94b2c36fdce9fbdd90a074af7c55b071943f28474c63"), looks := true }, kinds := [], alts := [], laidByText := true, laidKinds := [.data, .data, .data, .data, .sentinel, .pinned], laidTests := true, laidLooks := .later }
def FnScriptBadUptoCardSaid : Prop := Claim7.holds Tryz.pinned (.plain (OpenSpec.upto fnScriptBadSpec)) fnScriptBadUptoCard

/-- THE SECOND FORM's CARD OF 'laws.FnScriptCodes'. -/
def fnScriptCodesUptoCard : Claim7 := { stood := { row := fnScriptCodesUptoRow, standIns := [], harness := (true, "69d5d23adfad78a075ef94b2c36fdce9fbdd90a074af7c55b071943f28474c63"), looks := true }, kinds := [], alts := [], laidByText := true, laidKinds := [.data, .data, .data, .data, .sentinel, .pinned], laidTests := true, laidLooks := .later }
def FnScriptCodesUptoCardSaid : Prop := Claim7.holds Tryz.pinned (.plain (OpenSpec.upto fnScriptCodesSpec)) fnScriptCodesUptoCard

/-- THE SECOND FORM's CARD OF 'laws.FnScriptGather'. -/
def fnScriptGatherUptoCard : Claim7 := { stood := { row := fnScriptGatherUptoRow, standIns := [], harness := (true, "69d5d23adfad78a075ef94b2c36fdce9fbdd90a074af7c55b071943f28474c63"), looks := true }, kinds := [], alts := [], laidByText := true, laidKinds := [.data, .data, .data, .data, .sentinel, .pinned], laidTests := true, laidLooks := .later }
def FnScriptGatherUptoCardSaid : Prop := Claim7.holds Tryz.pinned (.plain (OpenSpec.upto fnScriptGatherSpec)) fnScriptGatherUptoCard

/-- THE SECOND FORM's CARD OF 'laws.FnScriptGrant'. -/
def fnScriptGrantUptoCard : Claim7 := { stood := { row := fnScriptGrantUptoRow, standIns := [], harness := (true, "69d5d23adfad78a075ef94b2c36fdce9fbdd90a074af7c55b071943f28474c63"), looks := true }, kinds := [], alts := [], laidByText := true, laidKinds := [.data, .data, .data, .data, .sentinel, .pinned], laidTests := true, laidLooks := .later }
def FnScriptGrantUptoCardSaid : Prop := Claim7.holds Tryz.pinned (.plain (OpenSpec.upto fnScriptGrantSpec)) fnScriptGrantUptoCard
end Rows
end Go.Proofs.YtdkhdfedejbicaaGreatDoor
