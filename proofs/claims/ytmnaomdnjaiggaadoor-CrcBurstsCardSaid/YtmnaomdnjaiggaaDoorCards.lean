/-
  DERIVED. GIVEN WITH THE SEED: THE CARDS: each row of YtmnaomdnjaiggaaDoorRows.lean that lists a variable, with what it lists TIED to the program's text (the seventh form; the later family's looks); each row that meets fmt, with fmt's text TOLD by the authors' own Lean function (tested against real Go, not proved from fmt's source: count such statements apart). THE CARD IS WHAT COUNTS. Prove the row's statement (the work); the ties are given (YtmnaomdnjaiggaaDoorTie.lean); close each card by the builder's one call (the guide's Derived/Test/ToyasCard.lean, 'card_holds'). Laid BY PROGRAM, IN A SANDBOX (cutbox-door.mjs). By AI agents, Wed Nov 11 2026. No macro, syntax, notation, axiom, sorry.
-/
import Derived.Test.YtmnaomdnjaiggaaDoorRows
import GoSem.ClaimSeven
namespace Go.Proofs.YtmnaomdnjaiggaaDoor
namespace Rows

/-- THE TIED CARD OF 'scriptorlaw02.CrcSums'. -/
def crcSumsCard : Claim7 := { stood := { row := crcSumsRow, standIns := [], harness := (true, "edf96518e62867b57f2d77c7f649f06d72fc9f76248f3d61eb83c7d9c9fe1755"), looks := false }, kinds := [], alts := [], laidByText := true, laidKinds := [.data], laidTests := true, laidLooks := .later }
def CrcSumsCardSaid : Prop := Claim7.holds Tryd.pinned (.plain (OpenSpec.ofChange crcSumsSpec)) crcSumsCard

/-- THE TIED CARD OF 'scriptorlaw02.CrcAdds'. -/
def crcAddsCard : Claim7 := { stood := { row := crcAddsRow, standIns := [], harness := (true, "edf96518e62867b57f2d77c7f649f06d72fc9f76248f3d61eb83c7d9c9fe1755"), looks := false }, kinds := [], alts := [], laidByText := true, laidKinds := [.data], laidTests := true, laidLooks := .later }
def CrcAddsCardSaid : Prop := Claim7.holds Tryd.pinned (.plain (OpenSpec.ofChange crcAddsSpec)) crcAddsCard

/-- THE TIED CARD OF 'scriptorlaw02.CrcApart'. -/
def crcApartCard : Claim7 := { stood := { row := crcApartRow, standIns := [], harness := (true, "edf96518e62867b57f2d77c7f649f06d72fc9f76248f3d61eb83c7d9c9fe1755"), looks := false }, kinds := [], alts := [], laidByText := true, laidKinds := [.data], laidTests := true, laidLooks := .later }
def CrcApartCardSaid : Prop := Claim7.holds Tryd.pinned (.plain (OpenSpec.ofChange crcApartSpec)) crcApartCard

/-- THE TIED CARD OF 'scriptorlaw02.CrcOpens'. -/
def crcOpensCard : Claim7 := { stood := { row := crcOpensRow, standIns := [], harness := (true, "edf96518e62867b57f2d77c7f649f06d72fc9f76248f3d61eb83c7d9c9fe1755"), looks := false }, kinds := [], alts := [], laidByText := true, laidKinds := [.data], laidTests := true, laidLooks := .later }
def CrcOpensCardSaid : Prop := Claim7.holds Tryd.pinned (.plain (OpenSpec.ofChange crcOpensSpec)) crcOpensCard

/-- THE TIED CARD OF 'scriptorlaw02.CrcBursts'. -/
def crcBurstsCard : Claim7 := { stood := { row := crcBurstsRow, standIns := [], harness := (true, "edf96518e62867b57f2d77c7f649f06d72fc9f76248f3d61eb83c7d9c9fe1755"), looks := false }, kinds := [], alts := [], laidByText := true, laidKinds := [.data], laidTests := true, laidLooks := .later }
def CrcBurstsCardSaid : Prop := Claim7.holds Tryd.pinned (.plain (OpenSpec.ofChange crcBurstsSpec)) crcBurstsCard

/-- THE SECOND FORM's CARD OF 'scriptorlaw02.CrcSums'. -/
def crcSumsUptoCard : Claim7 := { stood := { row := crcSumsUptoRow, standIns := [], harness := (true, "edf96518e62867b57f2d77c7f649f06d72fc9f76248f3d61eb83c7d9c9fe1755"), looks := false }, kinds := [], alts := [], laidByText := true, laidKinds := [.data], laidTests := true, laidLooks := .later }
def CrcSumsUptoCardSaid : Prop := Claim7.holds Tryd.pinned (.plain (OpenSpec.upto crcSumsSpec)) crcSumsUptoCard

/-- THE SECOND FORM's CARD OF 'scriptorlaw02.CrcAdds'. -/
def crcAddsUptoCard : Claim7 := { stood := { row := crcAddsUptoRow, standIns := [], harness := (true, "edf96518e62867b57f2d77c7f649f06d72fc9f76248f3d61eb83c7d9c9fe1755"), looks := false }, kinds := [], alts := [], laidByText := true, laidKinds := [.data], laidTests := true, laidLooks := .later }
def CrcAddsUptoCardSaid : Prop := Claim7.holds Tryd.pinned (.plain (OpenSpec.upto crcAddsSpec)) crcAddsUptoCard

/-- THE SECOND FORM's CARD OF 'scriptorlaw02.CrcApart'. -/
def crcApartUptoCard : Claim7 := { stood := { row := crcApartUptoRow, standIns := [], harness := (true, "edf96518e62867b57f2d77c7f649f06d72fc9f76248f3d61eb83c7d9c9fe1755"), looks := false }, kinds := [], alts := [], laidByText := true, laidKinds := [.data], laidTests := true, laidLooks := .later }
def CrcApartUptoCardSaid : Prop := Claim7.holds Tryd.pinned (.plain (OpenSpec.upto crcApartSpec)) crcApartUptoCard

/-- THE SECOND FORM's CARD OF 'scriptorlaw02.CrcOpens'. -/
def crcOpensUptoCard : Claim7 := { stood := { row := crcOpensUptoRow, standIns := [], harness := (true, "edf96518e62867b57f2d77c7f649f06d72fc9f76248f3d61eb83c7d9c9fe1755"), looks := false }, kinds := [], alts := [], laidByText := true, laidKinds := [.data], laidTests := true, laidLooks := .later }
def CrcOpensUptoCardSaid : Prop := Claim7.holds Tryd.pinned (.plain (OpenSpec.upto crcOpensSpec)) crcOpensUptoCard

/-- THE SECOND FORM's CARD OF 'scriptorlaw02.CrcBursts'. -/
def crcBurstsUptoCard : Claim7 := { stood := { row := crcBurstsUptoRow, standIns := [], harness := (true, "edf96518e62867b57f2d77c7f649f06d72fc9f76248f3d61eb83c7d9c9fe1755"), looks := false }, kinds := [], alts := [], laidByText := true, laidKinds := [.data], laidTests := true, laidLooks := .later }
def CrcBurstsUptoCardSaid : Prop := Claim7.holds Tryd.pinned (.plain (OpenSpec.upto crcBurstsSpec)) crcBurstsUptoCard
end Rows
end Go.Proofs.YtmnaomdnjaiggaaDoor
