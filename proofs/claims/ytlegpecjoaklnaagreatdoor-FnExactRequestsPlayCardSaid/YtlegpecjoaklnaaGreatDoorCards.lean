/-
  DERIVED. GIVEN WITH THE SEED: THE CARDS: each row of YtlegpecjoaklnaaGreatDoorRows.lean that lists a variable, with what it lists TIED to the program's text (the seventh form; the later family's looks); each row that meets fmt, with fmt's text TOLD by the authors' own Lean function (tested against real Go, not proved from fmt's source: count such statements apart). THE CARD IS WHAT COUNTS. Prove the row's statement (the work); the ties are given (YtlegpecjoaklnaaGreatDoorTie.lean); close each card by the builder's one call (the guide's Derived/Test/ToyasCard.lean, 'card_holds'). Laid BY PROGRAM, IN A SANDBOX (cutbox-door.mjs). By AI agents, Wed Nov 11 2026. No macro, syntax, notation, axiom, sorry.
-/
import Derived.Test.YtlegpecjoaklnaaGreatDoorRows
import GoSem.ClaimSeven
namespace Go.Proofs.YtlegpecjoaklnaaGreatDoor
namespace Rows

/-- THE TIED CARD OF 'laws.FnGatherNone'. -/
def fnGatherNoneCard : Claim7 := { stood := { row := fnGatherNoneRow, standIns := [], harness := (true, "d6938207e076874f089a842be906b72fd0ec5b307436742ac2a8f0ca41e8ac2e"), looks := true }, kinds := [], alts := [], laidByText := true, laidKinds := [.sentinel], laidTests := true, laidLooks := .later }
def FnGatherNoneCardSaid : Prop := Claim7.holds Tryz.pinned (.plain (OpenSpec.ofChange fnGatherNoneSpec)) fnGatherNoneCard

/-- THE TIED CARD OF 'laws.FnFrom'. -/
def fnFromCard : Claim7 := { stood := { row := fnFromRow, standIns := [], harness := (true, "d6938207e076874f089a842be906b72fd0ec5b307436742ac2a8f0ca41e8ac2e"), looks := true }, kinds := [], alts := [], laidByText := true, laidKinds := [.handle], laidTests := true, laidLooks := .later }
def FnFromCardSaid : Prop := Claim7.holds Tryz.pinned (.plain (OpenSpec.ofChange fnFromSpec)) fnFromCard

/-- THE TIED CARD OF 'laws.FnRequest'. -/
def fnRequestCard : Claim7 := { stood := { row := fnRequestRow, standIns := [], harness := (true, "d6938207e076874f089a842be906b72fd0ec5b307436742ac2a8f0ca41e8ac2e"), looks := true }, kinds := [], alts := [], laidByText := true, laidKinds := [.sentinel], laidTests := true, laidLooks := .later }
def FnRequestCardSaid : Prop := Claim7.holds Tryz.pinned (.plain (OpenSpec.ofChange fnRequestSpec)) fnRequestCard

/-- THE TIED CARD OF 'laws.FnRequestBad'. -/
def fnRequestBadCard : Claim7 := { stood := { row := fnRequestBadRow, standIns := [], harness := (true, "d6938207e076874f089a842be906b72fd0ec5b307436742ac2a8f0ca41e8ac2e"), looks := true }, kinds := [], alts := [], laidByText := true, laidKinds := [.sentinel], laidTests := true, laidLooks := .later }
def FnRequestBadCardSaid : Prop := Claim7.holds Tryz.pinned (.plain (OpenSpec.ofChange fnRequestBadSpec)) fnRequestBadCard

/-- THE TIED CARD OF 'laws.FnRequestKinds'. -/
def fnRequestKindsCard : Claim7 := { stood := { row := fnRequestKindsRow, standIns := [], harness := (true, "d6938207e076874f089a842be906b72fd0ec5b307436742ac2a8f0ca41e8ac2e"), looks := true }, kinds := [], alts := [], laidByText := true, laidKinds := [.sentinel], laidTests := true, laidLooks := .later }
def FnRequestKindsCardSaid : Prop := Claim7.holds Tryz.pinned (.plain (OpenSpec.ofChange fnRequestKindsSpec)) fnRequestKindsCard

/-- THE TIED CARD OF 'laws.FnGather'. -/
def fnGatherCard : Claim7 := { stood := { row := fnGatherRow, standIns := [], harness := (true, "d6938207e076874f089a842be906b72fd0ec5b307436742ac2a8f0ca41e8ac2e"), looks := true }, kinds := [], alts := [], laidByText := true, laidKinds := [.sentinel], laidTests := true, laidLooks := .later }
def FnGatherCardSaid : Prop := Claim7.holds Tryz.pinned (.plain (OpenSpec.ofChange fnGatherSpec)) fnGatherCard

/-- THE TIED CARD OF 'laws.FnPlay'. -/
def fnPlayCard : Claim7 := { stood := { row := fnPlayRow, standIns := [], harness := (true, "d6938207e076874f089a842be906b72fd0ec5b307436742ac2a8f0ca41e8ac2e"), looks := true }, kinds := [], alts := [], laidByText := true, laidKinds := [.sentinel], laidTests := true, laidLooks := .later }
def FnPlayCardSaid : Prop := Claim7.holds Tryz.pinned (.plain (OpenSpec.ofChange fnPlaySpec)) fnPlayCard

/-- THE TIED CARD OF 'laws.FnPlayOne'. -/
def fnPlayOneCard : Claim7 := { stood := { row := fnPlayOneRow, standIns := [], harness := (true, "d6938207e076874f089a842be906b72fd0ec5b307436742ac2a8f0ca41e8ac2e"), looks := true }, kinds := [], alts := [], laidByText := true, laidKinds := [.sentinel], laidTests := true, laidLooks := .later }
def FnPlayOneCardSaid : Prop := Claim7.holds Tryz.pinned (.plain (OpenSpec.ofChange fnPlayOneSpec)) fnPlayOneCard

/-- THE TIED CARD OF 'laws.FnPlayRefused'. -/
def fnPlayRefusedCard : Claim7 := { stood := { row := fnPlayRefusedRow, standIns := [], harness := (true, "d6938207e076874f089a842be906b72fd0ec5b307436742ac2a8f0ca41e8ac2e"), looks := true }, kinds := [], alts := [], laidByText := true, laidKinds := [.sentinel], laidTests := true, laidLooks := .later }
def FnPlayRefusedCardSaid : Prop := Claim7.holds Tryz.pinned (.plain (OpenSpec.ofChange fnPlayRefusedSpec)) fnPlayRefusedCard

/-- THE TIED CARD OF 'laws.FnPlayTasks'. -/
def fnPlayTasksCard : Claim7 := { stood := { row := fnPlayTasksRow, standIns := [], harness := (true, "d6938207e076874f089a842be906b72fd0ec5b307436742ac2a8f0ca41e8ac2e"), looks := true }, kinds := [], alts := [], laidByText := true, laidKinds := [.sentinel], laidTests := true, laidLooks := .later }
def FnPlayTasksCardSaid : Prop := Claim7.holds Tryz.pinned (.plain (OpenSpec.ofChange fnPlayTasksSpec)) fnPlayTasksCard

/-- THE TIED CARD OF 'laws.FnExactRequestDo'. -/
def fnExactRequestDoCard : Claim7 := { stood := { row := fnExactRequestDoRow, standIns := [], harness := (true, "d6938207e076874f089a842be906b72fd0ec5b307436742ac2a8f0ca41e8ac2e"), looks := true }, kinds := [], alts := [], laidByText := true, laidKinds := [.sentinel], laidTests := true, laidLooks := .later }
def FnExactRequestDoCardSaid : Prop := Claim7.holds Tryz.pinned (.plain (OpenSpec.ofChange fnExactRequestDoSpec)) fnExactRequestDoCard

/-- THE TIED CARD OF 'laws.FnExactRequestsPlay'. -/
def fnExactRequestsPlayCard : Claim7 := { stood := { row := fnExactRequestsPlayRow, standIns := [], harness := (true, "d6938207e076874f089a842be906b72fd0ec5b307436742ac2a8f0ca41e8ac2e"), looks := true }, kinds := [], alts := [], laidByText := true, laidKinds := [.sentinel], laidTests := true, laidLooks := .later }
def FnExactRequestsPlayCardSaid : Prop := Claim7.holds Tryz.pinned (.plain (OpenSpec.ofChange fnExactRequestsPlaySpec)) fnExactRequestsPlayCard

/-- THE SECOND FORM's CARD OF 'laws.FnGatherNone'. -/
def fnGatherNoneUptoCard : Claim7 := { stood := { row := fnGatherNoneUptoRow, standIns := [], harness := (true, "d6938207e076874f089a842be906b72fd0ec5b307436742ac2a8f0ca41e8ac2e"), looks := true }, kinds := [], alts := [], laidByText := true, laidKinds := [.sentinel], laidTests := true, laidLooks := .later }
def FnGatherNoneUptoCardSaid : Prop := Claim7.holds Tryz.pinned (.plain (OpenSpec.upto fnGatherNoneSpec)) fnGatherNoneUptoCard

/-- THE SECOND FORM's CARD OF 'laws.FnFrom'. -/
def fnFromUptoCard : Claim7 := { stood := { row := fnFromUptoRow, standIns := [], harness := (true, "d6938207e076874f089a842be906b72fd0ec5b307436742ac2a8f0ca41e8ac2e"), looks := true }, kinds := [], alts := [], laidByText := true, laidKinds := [.handle], laidTests := true, laidLooks := .later }
def FnFromUptoCardSaid : Prop := Claim7.holds Tryz.pinned (.plain (OpenSpec.upto fnFromSpec)) fnFromUptoCard

/-- THE SECOND FORM's CARD OF 'laws.FnRequest'. -/
def fnRequestUptoCard : Claim7 := { stood := { row := fnRequestUptoRow, standIns := [], harness := (true, "d6938207e076874f089a842be906b72fd0ec5b307436742ac2a8f0ca41e8ac2e"), looks := true }, kinds := [], alts := [], laidByText := true, laidKinds := [.sentinel], laidTests := true, laidLooks := .later }
def FnRequestUptoCardSaid : Prop := Claim7.holds Tryz.pinned (.plain (OpenSpec.upto fnRequestSpec)) fnRequestUptoCard

/-- THE SECOND FORM's CARD OF 'laws.FnRequestBad'. -/
def fnRequestBadUptoCard : Claim7 := { stood := { row := fnRequestBadUptoRow, standIns := [], harness := (true, "d6938207e076874f089a842be906b72fd0ec5b307436742ac2a8f0ca41e8ac2e"), looks := true }, kinds := [], alts := [], laidByText := true, laidKinds := [.sentinel], laidTests := true, laidLooks := .later }
def FnRequestBadUptoCardSaid : Prop := Claim7.holds Tryz.pinned (.plain (OpenSpec.upto fnRequestBadSpec)) fnRequestBadUptoCard

/-- THE SECOND FORM's CARD OF 'laws.FnRequestKinds'. -/
def fnRequestKindsUptoCard : Claim7 := { stood := { row := fnRequestKindsUptoRow, standIns := [], harness := (true, "d6938207e076874f089a842be906b72fd0ec5b307436742ac2a8f0ca41e8ac2e"), looks := true }, kinds := [], alts := [], laidByText := true, laidKinds := [.sentinel], laidTests := true, laidLooks := .later }
def FnRequestKindsUptoCardSaid : Prop := Claim7.holds Tryz.pinned (.plain (OpenSpec.upto fnRequestKindsSpec)) fnRequestKindsUptoCard

/-- THE SECOND FORM's CARD OF 'laws.FnGather'. -/
def fnGatherUptoCard : Claim7 := { stood := { row := fnGatherUptoRow, standIns := [], harness := (true, "d6938207e076874f089a842be906b72fd0ec5b307436742ac2a8f0ca41e8ac2e"), looks := true }, kinds := [], alts := [], laidByText := true, laidKinds := [.sentinel], laidTests := true, laidLooks := .later }
def FnGatherUptoCardSaid : Prop := Claim7.holds Tryz.pinned (.plain (OpenSpec.upto fnGatherSpec)) fnGatherUptoCard

/-- THE SECOND FORM's CARD OF 'laws.FnPlay'. -/
def fnPlayUptoCard : Claim7 := { stood := { row := fnPlayUptoRow, standIns := [], harness := (true, "d6938207e076874f089a842be906b72fd0ec5b307436742ac2a8f0ca41e8ac2e"), looks := true }, kinds := [], alts := [], laidByText := true, laidKinds := [.sentinel], laidTests := true, laidLooks := .later }
def FnPlayUptoCardSaid : Prop := Claim7.holds Tryz.pinned (.plain (OpenSpec.upto fnPlaySpec)) fnPlayUptoCard

/-- THE SECOND FORM's CARD OF 'laws.FnPlayOne'. -/
def fnPlayOneUptoCard : Claim7 := { stood := { row := fnPlayOneUptoRow, standIns := [], harness := (true, "d6938207e076874f089a842be906b72fd0ec5b307436742ac2a8f0ca41e8ac2e"), looks := true }, kinds := [], alts := [], laidByText := true, laidKinds := [.sentinel], laidTests := true, laidLooks := .later }
def FnPlayOneUptoCardSaid : Prop := Claim7.holds Tryz.pinned (.plain (OpenSpec.upto fnPlayOneSpec)) fnPlayOneUptoCard

/-- THE SECOND FORM's CARD OF 'laws.FnPlayRefused'. -/
def fnPlayRefusedUptoCard : Claim7 := { stood := { row := fnPlayRefusedUptoRow, standIns := [], harness := (true, "d6938207e076874f089a842be906b72fd0ec5b307436742ac2a8f0ca41e8ac2e"), looks := true }, kinds := [], alts := [], laidByText := true, laidKinds := [.sentinel], laidTests := true, laidLooks := .later }
def FnPlayRefusedUptoCardSaid : Prop := Claim7.holds Tryz.pinned (.plain (OpenSpec.upto fnPlayRefusedSpec)) fnPlayRefusedUptoCard

/-- THE SECOND FORM's CARD OF 'laws.FnPlayTasks'. -/
def fnPlayTasksUptoCard : Claim7 := { stood := { row := fnPlayTasksUptoRow, standIns := [], harness := (true, "d6938207e076874f089a842be906b72fd0ec5b307436742ac2a8f0ca41e8ac2e"), looks := true }, kinds := [], alts := [], laidByText := true, laidKinds := [.sentinel], laidTests := true, laidLooks := .later }
def FnPlayTasksUptoCardSaid : Prop := Claim7.holds Tryz.pinned (.plain (OpenSpec.upto fnPlayTasksSpec)) fnPlayTasksUptoCard

/-- THE SECOND FORM's CARD OF 'laws.FnExactRequestDo'. -/
def fnExactRequestDoUptoCard : Claim7 := { stood := { row := fnExactRequestDoUptoRow, standIns := [], harness := (true, "d6938207e076874f089a842be906b72fd0ec5b307436742ac2a8f0ca41e8ac2e"), looks := true }, kinds := [], alts := [], laidByText := true, laidKinds := [.sentinel], laidTests := true, laidLooks := .later }
def FnExactRequestDoUptoCardSaid : Prop := Claim7.holds Tryz.pinned (.plain (OpenSpec.upto fnExactRequestDoSpec)) fnExactRequestDoUptoCard

/-- THE SECOND FORM's CARD OF 'laws.FnExactRequestsPlay'. -/
def fnExactRequestsPlayUptoCard : Claim7 := { stood := { row := fnExactRequestsPlayUptoRow, standIns := [], harness := (true, "d6938207e076874f089a842be906b72fd0ec5b307436742ac2a8f0ca41e8ac2e"), looks := true }, kinds := [], alts := [], laidByText := true, laidKinds := [.sentinel], laidTests := true, laidLooks := .later }
def FnExactRequestsPlayUptoCardSaid : Prop := Claim7.holds Tryz.pinned (.plain (OpenSpec.upto fnExactRequestsPlaySpec)) fnExactRequestsPlayUptoCard
end Rows
end Go.Proofs.YtlegpecjoaklnaaGreatDoor
