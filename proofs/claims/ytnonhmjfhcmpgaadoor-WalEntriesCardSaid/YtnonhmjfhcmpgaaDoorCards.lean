/-
  DERIVED. GIVEN WITH THE SEED: THE CARDS: each row of YtnonhmjfhcmpgaaDoorRows.lean that lists a variable, with what it lists TIED to the program's text (the seventh form; the later family's looks); each row that meets fmt, with fmt's text TOLD by the authors' own Lean function (tested against real Go, not proved from fmt's source: count such statements apart). THE CARD IS WHAT COUNTS. Prove the row's statement (the work); the ties are given (YtnonhmjfhcmpgaaDoorTie.lean); close each card by the builder's one call (the guide's Derived/Test/ToyasCard.lean, 'card_holds'). Laid BY PROGRAM, IN A SANDBOX (cutbox-door.mjs). By AI agents, Wed Nov 11 2026. No macro, syntax, notation, axiom, sorry.
-/
import Derived.Test.YtnonhmjfhcmpgaaDoorRows
import GoSem.ClaimSeven
namespace Go.Proofs.YtnonhmjfhcmpgaaDoor
namespace Rows

/-- THE TIED CARD OF 'scriptorlaw05.WalPlaces'. -/
def walPlacesCard : Claim7 := { stood := { row := walPlacesRow, standIns := [], harness := (true, "0be569a09c35c516491e96b09d1ca21e5136631595e12a60a464abb4c504356b"), looks := false }, kinds := [], alts := [], laidByText := true, laidKinds := [.data], laidTests := true, laidLooks := .later }
def WalPlacesCardSaid : Prop := Claim7.holds Tryd.pinned (.plain (OpenSpec.ofChange walPlacesSpec)) walPlacesCard

/-- THE TIED CARD OF 'scriptorlaw05.WalRounds'. -/
def walRoundsCard : Claim7 := { stood := { row := walRoundsRow, standIns := [], harness := (true, "0be569a09c35c516491e96b09d1ca21e5136631595e12a60a464abb4c504356b"), looks := false }, kinds := [], alts := [], laidByText := true, laidKinds := [.data], laidTests := true, laidLooks := .later }
def WalRoundsCardSaid : Prop := Claim7.holds Tryd.pinned (.plain (OpenSpec.ofChange walRoundsSpec)) walRoundsCard

/-- THE TIED CARD OF 'scriptorlaw05.WalCrashes'. -/
def walCrashesCard : Claim7 := { stood := { row := walCrashesRow, standIns := [], harness := (true, "0be569a09c35c516491e96b09d1ca21e5136631595e12a60a464abb4c504356b"), looks := false }, kinds := [], alts := [], laidByText := true, laidKinds := [.data], laidTests := true, laidLooks := .later }
def WalCrashesCardSaid : Prop := Claim7.holds Tryd.pinned (.plain (OpenSpec.ofChange walCrashesSpec)) walCrashesCard

/-- THE TIED CARD OF 'scriptorlaw05.WalFull'. -/
def walFullCard : Claim7 := { stood := { row := walFullRow, standIns := [], harness := (true, "0be569a09c35c516491e96b09d1ca21e5136631595e12a60a464abb4c504356b"), looks := false }, kinds := [], alts := [], laidByText := true, laidKinds := [.data], laidTests := true, laidLooks := .later }
def WalFullCardSaid : Prop := Claim7.holds Tryd.pinned (.plain (OpenSpec.ofChange walFullSpec)) walFullCard

/-- THE TIED CARD OF 'scriptorlaw05.WalStale'. -/
def walStaleCard : Claim7 := { stood := { row := walStaleRow, standIns := [], harness := (true, "0be569a09c35c516491e96b09d1ca21e5136631595e12a60a464abb4c504356b"), looks := false }, kinds := [], alts := [], laidByText := true, laidKinds := [.data], laidTests := true, laidLooks := .later }
def WalStaleCardSaid : Prop := Claim7.holds Tryd.pinned (.plain (OpenSpec.ofChange walStaleSpec)) walStaleCard

/-- THE TIED CARD OF 'scriptorlaw05.WalEntries'. -/
def walEntriesCard : Claim7 := { stood := { row := walEntriesRow, standIns := [], harness := (true, "0be569a09c35c516491e96b09d1ca21e5136631595e12a60a464abb4c504356b"), looks := false }, kinds := [], alts := [], laidByText := true, laidKinds := [.data], laidTests := true, laidLooks := .later }
def WalEntriesCardSaid : Prop := Claim7.holds Tryd.pinned (.plain (OpenSpec.ofChange walEntriesSpec)) walEntriesCard

/-- THE SECOND FORM's CARD OF 'scriptorlaw05.WalPlaces'. -/
def walPlacesUptoCard : Claim7 := { stood := { row := walPlacesUptoRow, standIns := [], harness := (true, "0be569a09c35c516491e96b09d1ca21e5136631595e12a60a464abb4c504356b"), looks := false }, kinds := [], alts := [], laidByText := true, laidKinds := [.data], laidTests := true, laidLooks := .later }
def WalPlacesUptoCardSaid : Prop := Claim7.holds Tryd.pinned (.plain (OpenSpec.upto walPlacesSpec)) walPlacesUptoCard

/-- THE SECOND FORM's CARD OF 'scriptorlaw05.WalRounds'. -/
def walRoundsUptoCard : Claim7 := { stood := { row := walRoundsUptoRow, standIns := [], harness := (true, "0be569a09c35c516491e96b09d1ca21e5136631595e12a60a464abb4c504356b"), looks := false }, kinds := [], alts := [], laidByText := true, laidKinds := [.data], laidTests := true, laidLooks := .later }
def WalRoundsUptoCardSaid : Prop := Claim7.holds Tryd.pinned (.plain (OpenSpec.upto walRoundsSpec)) walRoundsUptoCard

/-- THE SECOND FORM's CARD OF 'scriptorlaw05.WalCrashes'. -/
def walCrashesUptoCard : Claim7 := { stood := { row := walCrashesUptoRow, standIns := [], harness := (true, "0be569a09c35c516491e96b09d1ca21e5136631595e12a60a464abb4c504356b"), looks := false }, kinds := [], alts := [], laidByText := true, laidKinds := [.data], laidTests := true, laidLooks := .later }
def WalCrashesUptoCardSaid : Prop := Claim7.holds Tryd.pinned (.plain (OpenSpec.upto walCrashesSpec)) walCrashesUptoCard

/-- THE SECOND FORM's CARD OF 'scriptorlaw05.WalFull'. -/
def walFullUptoCard : Claim7 := { stood := { row := walFullUptoRow, standIns := [], harness := (true, "0be569a09c35c516491e96b09d1ca21e5136631595e12a60a464abb4c504356b"), looks := false }, kinds := [], alts := [], laidByText := true, laidKinds := [.data], laidTests := true, laidLooks := .later }
def WalFullUptoCardSaid : Prop := Claim7.holds Tryd.pinned (.plain (OpenSpec.upto walFullSpec)) walFullUptoCard

/-- THE SECOND FORM's CARD OF 'scriptorlaw05.WalStale'. -/
def walStaleUptoCard : Claim7 := { stood := { row := walStaleUptoRow, standIns := [], harness := (true, "0be569a09c35c516491e96b09d1ca21e5136631595e12a60a464abb4c504356b"), looks := false }, kinds := [], alts := [], laidByText := true, laidKinds := [.data], laidTests := true, laidLooks := .later }
def WalStaleUptoCardSaid : Prop := Claim7.holds Tryd.pinned (.plain (OpenSpec.upto walStaleSpec)) walStaleUptoCard

/-- THE SECOND FORM's CARD OF 'scriptorlaw05.WalEntries'. -/
def walEntriesUptoCard : Claim7 := { stood := { row := walEntriesUptoRow, standIns := [], harness := (true, "0be569a09c35c516491e96b09d1ca21e5136631595e12a60a464abb4c504356b"), looks := false }, kinds := [], alts := [], laidByText := true, laidKinds := [.data], laidTests := true, laidLooks := .later }
def WalEntriesUptoCardSaid : Prop := Claim7.holds Tryd.pinned (.plain (OpenSpec.upto walEntriesSpec)) walEntriesUptoCard
end Rows
end Go.Proofs.YtnonhmjfhcmpgaaDoor
