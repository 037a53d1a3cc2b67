/-
  DERIVED. GIVEN WITH THE SEED: THE CARDS: each row of YtgainlmekgcfnaaDoorRows.lean that lists a variable, with what it lists TIED to the program's text (the seventh form; the later family's looks); each row that meets fmt, with fmt's text TOLD by the authors' own Lean function (tested against real Go, not proved from fmt's source: count such statements apart). THE CARD IS WHAT COUNTS. Prove the row's statement (the work); the ties are given (YtgainlmekgcfnaaDoorTie.lean); close each card by the builder's one call (the guide's Derived/Test/ToyasCard.lean, 'card_holds'). Laid BY PROGRAM, IN A SANDBOX (cutbox-door.mjs). By AI agents, Wed Nov 11 2026. No macro, syntax, notation, axiom, sorry.
-/
import Derived.Test.YtgainlmekgcfnaaDoorRows
import GoSem.ClaimSeven
namespace Go.Proofs.YtgainlmekgcfnaaDoor
namespace Rows

/-- THE TIED CARD OF 'tarnlaw02.CrcOf'. -/
def crcOfCard : Claim7 := { stood := { row := crcOfRow, standIns := [], harness := (true, "aa045325ac4e38a8f3e157a1cddf6248f03954101d0724ac38671773c7a22b2a"), looks := false }, kinds := [], alts := [], laidByText := true, laidKinds := [.data], laidTests := true, laidLooks := .later }
def CrcOfCardSaid : Prop := Claim7.holds Tryd.pinned (.plain (OpenSpec.ofChange crcOfSpec)) crcOfCard

/-- THE TIED CARD OF 'tarnlaw02.CrcMore'. -/
def crcMoreCard : Claim7 := { stood := { row := crcMoreRow, standIns := [], harness := (true, "aa045325ac4e38a8f3e157a1cddf6248f03954101d0724ac38671773c7a22b2a"), looks := false }, kinds := [], alts := [], laidByText := true, laidKinds := [.data], laidTests := true, laidLooks := .later }
def CrcMoreCardSaid : Prop := Claim7.holds Tryd.pinned (.plain (OpenSpec.ofChange crcMoreSpec)) crcMoreCard

/-- THE TIED CARD OF 'tarnlaw02.CrcBit'. -/
def crcBitCard : Claim7 := { stood := { row := crcBitRow, standIns := [], harness := (true, "aa045325ac4e38a8f3e157a1cddf6248f03954101d0724ac38671773c7a22b2a"), looks := false }, kinds := [], alts := [], laidByText := true, laidKinds := [.data], laidTests := true, laidLooks := .later }
def CrcBitCardSaid : Prop := Claim7.holds Tryd.pinned (.plain (OpenSpec.ofChange crcBitSpec)) crcBitCard

/-- THE SECOND FORM's CARD OF 'tarnlaw02.CrcOf'. -/
def crcOfUptoCard : Claim7 := { stood := { row := crcOfUptoRow, standIns := [], harness := (true, "aa045325ac4e38a8f3e157a1cddf6248f03954101d0724ac38671773c7a22b2a"), looks := false }, kinds := [], alts := [], laidByText := true, laidKinds := [.data], laidTests := true, laidLooks := .later }
def CrcOfUptoCardSaid : Prop := Claim7.holds Tryd.pinned (.plain (OpenSpec.upto crcOfSpec)) crcOfUptoCard

/-- THE SECOND FORM's CARD OF 'tarnlaw02.CrcMore'. -/
def crcMoreUptoCard : Claim7 := { stood := { row := crcMoreUptoRow, standIns := [], harness := (true, "aa045325ac4e38a8f3e157a1cddf6248f03954101d0724ac38671773c7a22b2a"), looks := false }, kinds := [], alts := [], laidByText := true, laidKinds := [.data], laidTests := true, laidLooks := .later }
def CrcMoreUptoCardSaid : Prop := Claim7.holds Tryd.pinned (.plain (OpenSpec.upto crcMoreSpec)) crcMoreUptoCard

/-- THE SECOND FORM's CARD OF 'tarnlaw02.CrcBit'. -/
def crcBitUptoCard : Claim7 := { stood := { row := crcBitUptoRow, standIns := [], harness := (true, "aa045325ac4e38a8f3e157a1cddf6248f03954101d0724ac38671773c7a22b2a"), looks := false }, kinds := [], alts := [], laidByText := true, laidKinds := [.data], laidTests := true, laidLooks := .later }
def CrcBitUptoCardSaid : Prop := Claim7.holds Tryd.pinned (.plain (OpenSpec.upto crcBitSpec)) crcBitUptoCard
end Rows
end Go.Proofs.YtgainlmekgcfnaaDoor
