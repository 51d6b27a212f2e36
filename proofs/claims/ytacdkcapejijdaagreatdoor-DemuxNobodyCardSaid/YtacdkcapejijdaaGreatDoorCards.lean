/-
  DERIVED. GIVEN WITH THE SEED: THE CARDS: each row of YtacdkcapejijdaaGreatDoorRows.lean that lists a variable, with what it lists TIED to the program's text (the seventh form; the later family's looks); each row that meets fmt, with fmt's text TOLD by the authors' own Lean function (tested against real Go, not proved from fmt's source: count such statements apart). THE CARD IS WHAT COUNTS. Prove the row's statement (the work); the ties are given (YtacdkcapejijdaaGreatDoorTie.lean); close each card by the builder's one call (the guide's Derived/Test/ToyasCard.lean, 'card_holds'). Laid BY PROGRAM, IN A SANDBOX (cutbox-door.mjs). By AI agents, Wed Nov 11 2026. No macro, syntax, notation, axiom, sorry.
-/
import Derived.Test.YtacdkcapejijdaaGreatDoorRows
import GoSem.ClaimSeven
namespace Go.Proofs.YtacdkcapejijdaaGreatDoor
namespace Rows

/-- THE TIED CARD OF 'cloisterlaw18.DemuxOrder'. -/
def demuxOrderCard : Claim7 := { stood := { row := demuxOrderRow, standIns := [], harness := (true, "61e273e62532cc71ea758f89461c0f4ff5c3584b9a5d84715d35b1c4a923c56a"), looks := true }, kinds := [], alts := [], laidByText := true, laidKinds := [.data, .data, .data, .data, .sentinel, .sentinel, .pinned], laidTests := true, laidLooks := .later }
def DemuxOrderCardSaid : Prop := Claim7.holds Tryz.pinned (.plain (OpenSpec.ofChange demuxOrderSpec)) demuxOrderCard

/-- THE TIED CARD OF 'cloisterlaw18.DemuxOwners'. -/
def demuxOwnersCard : Claim7 := { stood := { row := demuxOwnersRow, standIns := [], harness := (true, "61e273e62532cc71ea758f89461c0f4ff5c3584b9a5d84715d35b1c4a923c56a"), looks := true }, kinds := [], alts := [], laidByText := true, laidKinds := [.data, .data, .data, .data, .sentinel, .sentinel, .pinned], laidTests := true, laidLooks := .later }
def DemuxOwnersCardSaid : Prop := Claim7.holds Tryz.pinned (.plain (OpenSpec.ofChange demuxOwnersSpec)) demuxOwnersCard

/-- THE TIED CARD OF 'cloisterlaw18.DemuxAlone'. -/
def demuxAloneCard : Claim7 := { stood := { row := demuxAloneRow, standIns := [], harness := (true, "61e273e62532cc71ea758f89461c0f4ff5c3584b9a5d84715d35b1c4a923c56a"), looks := true }, kinds := [], alts := [], laidByText := true, laidKinds := [.data, .data, .data, .data, .sentinel, .sentinel, .pinned], laidTests := true, laidLooks := .later }
def DemuxAloneCardSaid : Prop := Claim7.holds Tryz.pinned (.plain (OpenSpec.ofChange demuxAloneSpec)) demuxAloneCard

/-- THE TIED CARD OF 'cloisterlaw18.DemuxNobody'. -/
def demuxNobodyCard : Claim7 := { stood := { row := demuxNobodyRow, standIns := [], harness := (true, "61e273e62532cc71ea758f89461c0f4ff5c3584b9a5d84715d35b1c4a923c56a"), looks := true }, kinds := [], alts := [], laidByText := true, laidKinds := [.data, .data, .data, .data, .sentinel, .sentinel, .pinned], laidTests := true, laidLooks := .later }
def DemuxNobodyCardSaid : Prop := Claim7.holds Tryz.pinned (.plain (OpenSpec.ofChange demuxNobodySpec)) demuxNobodyCard

/-- THE SECOND FORM's CARD OF 'cloisterlaw18.DemuxOrder'. -/
def demuxOrderUptoCard : Claim7 := { stood := { row := demuxOrderUptoRow, standIns := [], harness := (true, "61e273e62532cc71ea758f89461c0f4ff5c3584b9a5d84715d35b1c4a923c56a"), looks := true }, kinds := [], alts := [], laidByText := true, laidKinds := [.data, .data, .data, .data, .sentinel, .sentinel, .pinned], laidTests := true, laidLooks := .later }
def DemuxOrderUptoCardSaid : Prop := Claim7.holds Tryz.pinned (.plain (OpenSpec.upto demuxOrderSpec)) demuxOrderUptoCard

/-- THE SECOND FORM's CARD OF 'cloisterlaw18.DemuxOwners'. -/
def demuxOwnersUptoCard : Claim7 := { stood := { row := demuxOwnersUptoRow, standIns := [], harness := (true, "61e273e62532cc71ea758f89461c0f4ff5c3584b9a5d84715d35b1c4a923c56a"), looks := true }, kinds := [], alts := [], laidByText := true, laidKinds := [.data, .data, .data, .data, .sentinel, .sentinel, .pinned], laidTests := true, laidLooks := .later }
def DemuxOwnersUptoCardSaid : Prop := Claim7.holds Tryz.pinned (.plain (OpenSpec.upto demuxOwnersSpec)) demuxOwnersUptoCard

/-- THE SECOND FORM's CARD OF 'cloisterlaw18.DemuxAlone'. -/
def demuxAloneUptoCard : Claim7 := { stood := { row := demuxAloneUptoRow, standIns := [], harness := (true, "61e273e62532cc71ea758f89461c0f4ff5c3584b9a5d84715d35b1c4a923c56a"), looks := true }, kinds := [], alts := [], laidByText := true, laidKinds := [.data, .data, .data, .data, .sentinel, .sentinel, .pinned], laidTests := true, laidLooks := .later }
def DemuxAloneUptoCardSaid : Prop := Claim7.holds Tryz.pinned (.plain (OpenSpec.upto demuxAloneSpec)) demuxAloneUptoCard

/-- THE SECOND FORM's CARD OF 'cloisterlaw18.DemuxNobody'. -/
def demuxNobodyUptoCard : Claim7 := { stood := { row := demuxNobodyUptoRow, standIns := [], harness := (true, "61e273e62532cc71ea758f89461c0f4ff5c3584b9a5d84715d35b1c4a923c56a"), looks := true }, kinds := [], alts := [], laidByText := true, laidKinds := [.data, .data, .data, .data, .sentinel, .sentinel, .pinned], laidTests := true, laidLooks := .later }
def DemuxNobodyUptoCardSaid : Prop := Claim7.holds Tryz.pinned (.plain (OpenSpec.upto demuxNobodySpec)) demuxNobodyUptoCard
end Rows
end Go.Proofs.YtacdkcapejijdaaGreatDoor
