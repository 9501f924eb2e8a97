/-
  DERIVED. GIVEN WITH THE SEED: THE CARDS: each row of YtgnmelnohclpgaaDoorRows.lean that lists a variable, with what it lists TIED to the program's text (the seventh form; the later family's looks); each row that meets fmt, with fmt's text TOLD by the authors' own Lean function (tested against real Go, not proved from fmt's source: count such statements apart). THE CARD IS WHAT COUNTS. Prove the row's statement (the work); the ties are given (YtgnmelnohclpgaaDoorTie.lean); close each card by the builder's one call (the guide's Derived/Test/ToyasCard.lean, 'card_holds'). Laid BY PROGRAM, IN A SANDBOX (cutbox-door.mjs). By AI agents, Wed Nov 11 2026. No macro, syntax, notation, axiom, sorry.
-/
import Derived.Test.YtgnmelnohclpgaaDoorRows
import GoSem.ClaimSeven
namespace Go.Proofs.YtgnmelnohclpgaaDoor
namespace Rows

/-- THE TIED CARD OF 'berthinglaw09.FleetNobody'. -/
def fleetNobodyCard : Claim7 := { stood := { row := fleetNobodyRow, standIns := [], harness := (true, "abe17efad9800fb198d958a30da1c9f3997af9c5b520b6e6fc19bccf376e9d02"), looks := true }, kinds := [], alts := [], laidByText := true, laidKinds := [.data], laidTests := true, laidLooks := .later }
def FleetNobodyCardSaid : Prop := Claim7.holds Tryd.pinned (.plain (OpenSpec.ofChange fleetNobodySpec)) fleetNobodyCard

/-- THE TIED CARD OF 'berthinglaw15.JobReads'. -/
def jobReadsCard : Claim7 := { stood := { row := jobReadsRow, standIns := [], harness := (true, "abe17efad9800fb198d958a30da1c9f3997af9c5b520b6e6fc19bccf376e9d02"), looks := true }, kinds := [], alts := [], laidByText := true, laidKinds := [.handle], laidTests := true, laidLooks := .later }
def JobReadsCardSaid : Prop := Claim7.holds Tryd.pinned (.plain (OpenSpec.ofChange jobReadsSpec)) jobReadsCard

/-- THE TIED CARD OF 'berthinglaw05.JournalFrames'. -/
def journalFramesCard : Claim7 := { stood := { row := journalFramesRow, standIns := [], harness := (true, "abe17efad9800fb198d958a30da1c9f3997af9c5b520b6e6fc19bccf376e9d02"), looks := true }, kinds := [], alts := [], laidByText := true, laidKinds := [.handle], laidTests := true, laidLooks := .later }
def JournalFramesCardSaid : Prop := Claim7.holds Tryd.pinned (.plain (OpenSpec.ofChange journalFramesSpec)) journalFramesCard

/-- THE TIED CARD OF 'berthinglaw05.JournalCuts'. -/
def journalCutsCard : Claim7 := { stood := { row := journalCutsRow, standIns := [], harness := (true, "abe17efad9800fb198d958a30da1c9f3997af9c5b520b6e6fc19bccf376e9d02"), looks := true }, kinds := [], alts := [], laidByText := true, laidKinds := [.handle], laidTests := true, laidLooks := .later }
def JournalCutsCardSaid : Prop := Claim7.holds Tryd.pinned (.plain (OpenSpec.ofChange journalCutsSpec)) journalCutsCard

/-- THE TIED CARD OF 'berthinglaw15.JobRight'. -/
def jobRightCard : Claim7 := { stood := { row := jobRightRow, standIns := [], harness := (true, "abe17efad9800fb198d958a30da1c9f3997af9c5b520b6e6fc19bccf376e9d02"), looks := true }, kinds := [], alts := [], laidByText := true, laidKinds := [.handle], laidTests := true, laidLooks := .later }
def JobRightCardSaid : Prop := Claim7.holds Tryd.pinned (.plain (OpenSpec.ofChange jobRightSpec)) jobRightCard

/-- THE TIED CARD OF 'berthinglaw05.JournalGens'. -/
def journalGensCard : Claim7 := { stood := { row := journalGensRow, standIns := [], harness := (true, "abe17efad9800fb198d958a30da1c9f3997af9c5b520b6e6fc19bccf376e9d02"), looks := true }, kinds := [], alts := [], laidByText := true, laidKinds := [.handle], laidTests := true, laidLooks := .later }
def JournalGensCardSaid : Prop := Claim7.holds Tryd.pinned (.plain (OpenSpec.ofChange journalGensSpec)) journalGensCard

/-- THE TIED CARD OF 'berthinglaw05.JournalNobody'. -/
def journalNobodyCard : Claim7 := { stood := { row := journalNobodyRow, standIns := [], harness := (true, "abe17efad9800fb198d958a30da1c9f3997af9c5b520b6e6fc19bccf376e9d02"), looks := true }, kinds := [], alts := [], laidByText := true, laidKinds := [.handle], laidTests := true, laidLooks := .later }
def JournalNobodyCardSaid : Prop := Claim7.holds Tryd.pinned (.plain (OpenSpec.ofChange journalNobodySpec)) journalNobodyCard

/-- THE TIED CARD OF 'berthinglaw06.SnapsOpens'. -/
def snapsOpensCard : Claim7 := { stood := { row := snapsOpensRow, standIns := [], harness := (true, "abe17efad9800fb198d958a30da1c9f3997af9c5b520b6e6fc19bccf376e9d02"), looks := true }, kinds := [], alts := [], laidByText := true, laidKinds := [.handle], laidTests := true, laidLooks := .later }
def SnapsOpensCardSaid : Prop := Claim7.holds Tryd.pinned (.plain (OpenSpec.ofChange snapsOpensSpec)) snapsOpensCard

/-- THE TIED CARD OF 'berthinglaw06.SnapsNobody'. -/
def snapsNobodyCard : Claim7 := { stood := { row := snapsNobodyRow, standIns := [], harness := (true, "abe17efad9800fb198d958a30da1c9f3997af9c5b520b6e6fc19bccf376e9d02"), looks := true }, kinds := [], alts := [], laidByText := true, laidKinds := [.handle], laidTests := true, laidLooks := .later }
def SnapsNobodyCardSaid : Prop := Claim7.holds Tryd.pinned (.plain (OpenSpec.ofChange snapsNobodySpec)) snapsNobodyCard

/-- THE TIED CARD OF 'berthinglaw06.SnapsBig'. -/
def snapsBigCard : Claim7 := { stood := { row := snapsBigRow, standIns := [], harness := (true, "abe17efad9800fb198d958a30da1c9f3997af9c5b520b6e6fc19bccf376e9d02"), looks := true }, kinds := [], alts := [], laidByText := true, laidKinds := [.handle], laidTests := true, laidLooks := .later }
def SnapsBigCardSaid : Prop := Claim7.holds Tryd.pinned (.plain (OpenSpec.ofChange snapsBigSpec)) snapsBigCard

/-- THE TIED CARD OF 'berthinglaw05.JournalFalls'. -/
def journalFallsCard : Claim7 := { stood := { row := journalFallsRow, standIns := [], harness := (true, "abe17efad9800fb198d958a30da1c9f3997af9c5b520b6e6fc19bccf376e9d02"), looks := true }, kinds := [], alts := [], laidByText := true, laidKinds := [.handle], laidTests := true, laidLooks := .later }
def JournalFallsCardSaid : Prop := Claim7.holds Tryd.pinned (.plain (OpenSpec.ofChange journalFallsSpec)) journalFallsCard

/-- THE TIED CARD OF 'berthinglaw06.SnapsTurns'. -/
def snapsTurnsCard : Claim7 := { stood := { row := snapsTurnsRow, standIns := [], harness := (true, "abe17efad9800fb198d958a30da1c9f3997af9c5b520b6e6fc19bccf376e9d02"), looks := true }, kinds := [], alts := [], laidByText := true, laidKinds := [.handle], laidTests := true, laidLooks := .later }
def SnapsTurnsCardSaid : Prop := Claim7.holds Tryd.pinned (.plain (OpenSpec.ofChange snapsTurnsSpec)) snapsTurnsCard

/-- THE TIED CARD OF 'berthinglaw06.SnapsFalls'. -/
def snapsFallsCard : Claim7 := { stood := { row := snapsFallsRow, standIns := [], harness := (true, "abe17efad9800fb198d958a30da1c9f3997af9c5b520b6e6fc19bccf376e9d02"), looks := true }, kinds := [], alts := [], laidByText := true, laidKinds := [.handle], laidTests := true, laidLooks := .later }
def SnapsFallsCardSaid : Prop := Claim7.holds Tryd.pinned (.plain (OpenSpec.ofChange snapsFallsSpec)) snapsFallsCard

/-- THE TIED CARD OF 'berthinglaw09.FleetReads'. -/
def fleetReadsCard : Claim7 := { stood := { row := fleetReadsRow, standIns := [], harness := (true, "abe17efad9800fb198d958a30da1c9f3997af9c5b520b6e6fc19bccf376e9d02"), looks := true }, kinds := [], alts := [], laidByText := true, laidKinds := [.data, .handle], laidTests := true, laidLooks := .later }
def FleetReadsCardSaid : Prop := Claim7.holds Tryd.pinned (.plain (OpenSpec.ofChange fleetReadsSpec)) fleetReadsCard

/-- THE TIED CARD OF 'berthinglaw09.FleetSpares'. -/
def fleetSparesCard : Claim7 := { stood := { row := fleetSparesRow, standIns := [], harness := (true, "abe17efad9800fb198d958a30da1c9f3997af9c5b520b6e6fc19bccf376e9d02"), looks := true }, kinds := [], alts := [], laidByText := true, laidKinds := [.data, .handle], laidTests := true, laidLooks := .later }
def FleetSparesCardSaid : Prop := Claim7.holds Tryd.pinned (.plain (OpenSpec.ofChange fleetSparesSpec)) fleetSparesCard

/-- THE SECOND FORM's CARD OF 'berthinglaw09.FleetNobody'. -/
def fleetNobodyUptoCard : Claim7 := { stood := { row := fleetNobodyUptoRow, standIns := [], harness := (true, "abe17efad9800fb198d958a30da1c9f3997af9c5b520b6e6fc19bccf376e9d02"), looks := true }, kinds := [], alts := [], laidByText := true, laidKinds := [.data], laidTests := true, laidLooks := .later }
def FleetNobodyUptoCardSaid : Prop := Claim7.holds Tryd.pinned (.plain (OpenSpec.upto fleetNobodySpec)) fleetNobodyUptoCard

/-- THE SECOND FORM's CARD OF 'berthinglaw15.JobReads'. -/
def jobReadsUptoCard : Claim7 := { stood := { row := jobReadsUptoRow, standIns := [], harness := (true, "abe17efad9800fb198d958a30da1c9f3997af9c5b520b6e6fc19bccf376e9d02"), looks := true }, kinds := [], alts := [], laidByText := true, laidKinds := [.handle], laidTests := true, laidLooks := .later }
def JobReadsUptoCardSaid : Prop := Claim7.holds Tryd.pinned (.plain (OpenSpec.upto jobReadsSpec)) jobReadsUptoCard

/-- THE SECOND FORM's CARD OF 'berthinglaw05.JournalFrames'. -/
def journalFramesUptoCard : Claim7 := { stood := { row := journalFramesUptoRow, standIns := [], harness := (true, "abe17efad9800fb198d958a30da1c9f3997af9c5b520b6e6fc19bccf376e9d02"), looks := true }, kinds := [], alts := [], laidByText := true, laidKinds := [.handle], laidTests := true, laidLooks := .later }
def JournalFramesUptoCardSaid : Prop := Claim7.holds Tryd.pinned (.plain (OpenSpec.upto journalFramesSpec)) journalFramesUptoCard

/-- THE SECOND FORM's CARD OF 'berthinglaw05.JournalCuts'. -/
def journalCutsUptoCard : Claim7 := { stood := { row := journalCutsUptoRow, standIns := [], harness := (true, "abe17efad9800fb198d958a30da1c9f3997af9c5b520b6e6fc19bccf376e9d02"), looks := true }, kinds := [], alts := [], laidByText := true, laidKinds := [.handle], laidTests := true, laidLooks := .later }
def JournalCutsUptoCardSaid : Prop := Claim7.holds Tryd.pinned (.plain (OpenSpec.upto journalCutsSpec)) journalCutsUptoCard

/-- THE SECOND FORM's CARD OF 'berthinglaw15.JobRight'. -/
def jobRightUptoCard : Claim7 := { stood := { row := jobRightUptoRow, standIns := [], harness := (true, "abe17efad9800fb198d958a30da1c9f3997af9c5b520b6e6fc19bccf376e9d02"), looks := true }, kinds := [], alts := [], laidByText := true, laidKinds := [.handle], laidTests := true, laidLooks := .later }
def JobRightUptoCardSaid : Prop := Claim7.holds Tryd.pinned (.plain (OpenSpec.upto jobRightSpec)) jobRightUptoCard

/-- THE SECOND FORM's CARD OF 'berthinglaw05.JournalGens'. -/
def journalGensUptoCard : Claim7 := { stood := { row := journalGensUptoRow, standIns := [], harness := (true, "abe17efad9800fb198d958a30da1c9f3997af9c5b520b6e6fc19bccf376e9d02"), looks := true }, kinds := [], alts := [], laidByText := true, laidKinds := [.handle], laidTests := true, laidLooks := .later }
def JournalGensUptoCardSaid : Prop := Claim7.holds Tryd.pinned (.plain (OpenSpec.upto journalGensSpec)) journalGensUptoCard

/-- THE SECOND FORM's CARD OF 'berthinglaw05.JournalNobody'. -/
def journalNobodyUptoCard : Claim7 := { stood := { row := journalNobodyUptoRow, standIns := [], harness := (true, "abe17efad9800fb198d958a30da1c9f3997af9c5b520b6e6fc19bccf376e9d02"), looks := true }, kinds := [], alts := [], laidByText := true, laidKinds := [.handle], laidTests := true, laidLooks := .later }
def JournalNobodyUptoCardSaid : Prop := Claim7.holds Tryd.pinned (.plain (OpenSpec.upto journalNobodySpec)) journalNobodyUptoCard

/-- THE SECOND FORM's CARD OF 'berthinglaw06.SnapsOpens'. -/
def snapsOpensUptoCard : Claim7 := { stood := { row := snapsOpensUptoRow, standIns := [], harness := (true, "abe17efad9800fb198d958a30da1c9f3997af9c5b520b6e6fc19bccf376e9d02"), looks := true }, kinds := [], alts := [], laidByText := true, laidKinds := [.handle], laidTests := true, laidLooks := .later }
def SnapsOpensUptoCardSaid : Prop := Claim7.holds Tryd.pinned (.plain (OpenSpec.upto snapsOpensSpec)) snapsOpensUptoCard

/-- THE SECOND FORM's CARD OF 'berthinglaw06.SnapsNobody'. -/
def snapsNobodyUptoCard : Claim7 := { stood := { row := snapsNobodyUptoRow, standIns := [], harness := (true, "abe17efad9800fb198d958a30da1c9f3997af9c5b520b6e6fc19bccf376e9d02"), looks := true }, kinds := [], alts := [], laidByText := true, laidKinds := [.handle], laidTests := true, laidLooks := .later }
def SnapsNobodyUptoCardSaid : Prop := Claim7.holds Tryd.pinned (.plain (OpenSpec.upto snapsNobodySpec)) snapsNobodyUptoCard

/-- THE SECOND FORM's CARD OF 'berthinglaw06.SnapsBig'. -/
def snapsBigUptoCard : Claim7 := { stood := { row := snapsBigUptoRow, standIns := [], harness := (true, "abe17efad9800fb198d958a30da1c9f3997af9c5b520b6e6fc19bccf376e9d02"), looks := true }, kinds := [], alts := [], laidByText := true, laidKinds := [.handle], laidTests := true, laidLooks := .later }
def SnapsBigUptoCardSaid : Prop := Claim7.holds Tryd.pinned (.plain (OpenSpec.upto snapsBigSpec)) snapsBigUptoCard

/-- THE SECOND FORM's CARD OF 'berthinglaw05.JournalFalls'. -/
def journalFallsUptoCard : Claim7 := { stood := { row := journalFallsUptoRow, standIns := [], harness := (true, "abe17efad9800fb198d958a30da1c9f3997af9c5b520b6e6fc19bccf376e9d02"), looks := true }, kinds := [], alts := [], laidByText := true, laidKinds := [.handle], laidTests := true, laidLooks := .later }
def JournalFallsUptoCardSaid : Prop := Claim7.holds Tryd.pinned (.plain (OpenSpec.upto journalFallsSpec)) journalFallsUptoCard

/-- THE SECOND FORM's CARD OF 'berthinglaw06.SnapsTurns'. -/
def snapsTurnsUptoCard : Claim7 := { stood := { row := snapsTurnsUptoRow, standIns := [], harness := (true, "abe17efad9800fb198d958a30da1c9f3997af9c5b520b6e6fc19bccf376e9d02"), looks := true }, kinds := [], alts := [], laidByText := true, laidKinds := [.handle], laidTests := true, laidLooks := .later }
def SnapsTurnsUptoCardSaid : Prop := Claim7.holds Tryd.pinned (.plain (OpenSpec.upto snapsTurnsSpec)) snapsTurnsUptoCard

/-- THE SECOND FORM's CARD OF 'berthinglaw06.SnapsFalls'. -/
def snapsFallsUptoCard : Claim7 := { stood := { row := snapsFallsUptoRow, standIns := [], harness := (true, "abe17efad9800fb198d958a30da1c9f3997af9c5b520b6e6fc19bccf376e9d02"), looks := true }, kinds := [], alts := [], laidByText := true, laidKinds := [.handle], laidTests := true, laidLooks := .later }
def SnapsFallsUptoCardSaid : Prop := Claim7.holds Tryd.pinned (.plain (OpenSpec.upto snapsFallsSpec)) snapsFallsUptoCard

/-- THE SECOND FORM's CARD OF 'berthinglaw09.FleetReads'. -/
def fleetReadsUptoCard : Claim7 := { stood := { row := fleetReadsUptoRow, standIns := [], harness := (true, "abe17efad9800fb198d958a30da1c9f3997af9c5b520b6e6fc19bccf376e9d02"), looks := true }, kinds := [], alts := [], laidByText := true, laidKinds := [.data, .handle], laidTests := true, laidLooks := .later }
def FleetReadsUptoCardSaid : Prop := Claim7.holds Tryd.pinned (.plain (OpenSpec.upto fleetReadsSpec)) fleetReadsUptoCard

/-- THE SECOND FORM's CARD OF 'berthinglaw09.FleetSpares'. -/
def fleetSparesUptoCard : Claim7 := { stood := { row := fleetSparesUptoRow, standIns := [], harness := (true, "abe17efad9800fb198d958a30da1c9f3997af9c5b520b6e6fc19bccf376e9d02"), looks := true }, kinds := [], alts := [], laidByText := true, laidKinds := [.data, .handle], laidTests := true, laidLooks := .later }
def FleetSparesUptoCardSaid : Prop := Claim7.holds Tryd.pinned (.plain (OpenSpec.upto fleetSparesSpec)) fleetSparesUptoCard
end Rows
end Go.Proofs.YtgnmelnohclpgaaDoor
