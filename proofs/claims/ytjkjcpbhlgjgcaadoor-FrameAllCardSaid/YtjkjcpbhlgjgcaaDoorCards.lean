/-
  DERIVED. GIVEN WITH THE SEED: THE CARDS: each row of YtjkjcpbhlgjgcaaDoorRows.lean that lists a variable, with what it lists TIED to the program's text (the seventh form; the later family's looks); each row that meets fmt, with fmt's text TOLD by the authors' own Lean function (tested against real Go, not proved from fmt's source: count such statements apart). THE CARD IS WHAT COUNTS. Prove the row's statement (the work); the ties are given (YtjkjcpbhlgjgcaaDoorTie.lean); close each card by the builder's one call (the guide's Derived/Test/ToyasCard.lean, 'card_holds'). Laid BY PROGRAM, IN A SANDBOX (cutbox-door.mjs). By AI agents, Wed Nov 11 2026. No macro, syntax, notation, axiom, sorry.
-/
import Derived.Test.YtjkjcpbhlgjgcaaDoorRows
import GoSem.ClaimSeven
namespace Go.Proofs.YtjkjcpbhlgjgcaaDoor
namespace Rows

/-- THE TIED CARD OF 'tarnlaw03.FramePuts'. -/
def framePutsCard : Claim7 := { stood := { row := framePutsRow, standIns := [], harness := (true, "377a5c988c579e162e204635d4bfdefce990b12c027112ec42828765dd5eee5e"), looks := false }, kinds := [], alts := [], laidByText := true, laidKinds := [.data], laidTests := true, laidLooks := .later }
def FramePutsCardSaid : Prop := Claim7.holds Tryd.pinned (.plain (OpenSpec.ofChange framePutsSpec)) framePutsCard

/-- THE TIED CARD OF 'tarnlaw03.FrameAll'. -/
def frameAllCard : Claim7 := { stood := { row := frameAllRow, standIns := [], harness := (true, "377a5c988c579e162e204635d4bfdefce990b12c027112ec42828765dd5eee5e"), looks := false }, kinds := [], alts := [], laidByText := true, laidKinds := [.data], laidTests := true, laidLooks := .later }
def FrameAllCardSaid : Prop := Claim7.holds Tryd.pinned (.plain (OpenSpec.ofChange frameAllSpec)) frameAllCard

/-- THE TIED CARD OF 'tarnlaw51.TracePuts'. -/
def tracePutsCard : Claim7 := { stood := { row := tracePutsRow, standIns := [], harness := (true, "377a5c988c579e162e204635d4bfdefce990b12c027112ec42828765dd5eee5e"), looks := false }, kinds := [], alts := [], laidByText := true, laidKinds := [.data], laidTests := true, laidLooks := .later }
def TracePutsCardSaid : Prop := Claim7.holds Tryd.pinned (.plain (OpenSpec.ofChange tracePutsSpec)) tracePutsCard

/-- THE TIED CARD OF 'tarnlaw51.TraceGets'. -/
def traceGetsCard : Claim7 := { stood := { row := traceGetsRow, standIns := [], harness := (true, "377a5c988c579e162e204635d4bfdefce990b12c027112ec42828765dd5eee5e"), looks := false }, kinds := [], alts := [], laidByText := true, laidKinds := [.data], laidTests := true, laidLooks := .later }
def TraceGetsCardSaid : Prop := Claim7.holds Tryd.pinned (.plain (OpenSpec.ofChange traceGetsSpec)) traceGetsCard

/-- THE TIED CARD OF 'tarnlaw51.TraceAll'. -/
def traceAllCard : Claim7 := { stood := { row := traceAllRow, standIns := [], harness := (true, "377a5c988c579e162e204635d4bfdefce990b12c027112ec42828765dd5eee5e"), looks := false }, kinds := [], alts := [], laidByText := true, laidKinds := [.data], laidTests := true, laidLooks := .later }
def TraceAllCardSaid : Prop := Claim7.holds Tryd.pinned (.plain (OpenSpec.ofChange traceAllSpec)) traceAllCard

/-- THE SECOND FORM's CARD OF 'tarnlaw03.FramePuts'. -/
def framePutsUptoCard : Claim7 := { stood := { row := framePutsUptoRow, standIns := [], harness := (true, "377a5c988c579e162e204635d4bfdefce990b12c027112ec42828765dd5eee5e"), looks := false }, kinds := [], alts := [], laidByText := true, laidKinds := [.data], laidTests := true, laidLooks := .later }
def FramePutsUptoCardSaid : Prop := Claim7.holds Tryd.pinned (.plain (OpenSpec.upto framePutsSpec)) framePutsUptoCard

/-- THE SECOND FORM's CARD OF 'tarnlaw03.FrameAll'. -/
def frameAllUptoCard : Claim7 := { stood := { row := frameAllUptoRow, standIns := [], harness := (true, "377a5c988c579e162e204635d4bfdefce990b12c027112ec42828765dd5eee5e"), looks := false }, kinds := [], alts := [], laidByText := true, laidKinds := [.data], laidTests := true, laidLooks := .later }
def FrameAllUptoCardSaid : Prop := Claim7.holds Tryd.pinned (.plain (OpenSpec.upto frameAllSpec)) frameAllUptoCard

/-- THE SECOND FORM's CARD OF 'tarnlaw51.TracePuts'. -/
def tracePutsUptoCard : Claim7 := { stood := { row := tracePutsUptoRow, standIns := [], harness := (true, "377a5c988c579e162e204635d4bfdefce990b12c027112ec42828765dd5eee5e"), looks := false }, kinds := [], alts := [], laidByText := true, laidKinds := [.data], laidTests := true, laidLooks := .later }
def TracePutsUptoCardSaid : Prop := Claim7.holds Tryd.pinned (.plain (OpenSpec.upto tracePutsSpec)) tracePutsUptoCard

/-- THE SECOND FORM's CARD OF 'tarnlaw51.TraceGets'. -/
def traceGetsUptoCard : Claim7 := { stood := { row := traceGetsUptoRow, standIns := [], harness := (true, "377a5c988c579e162e204635d4bfdefce990b12c027112ec42828765dd5eee5e"), looks := false }, kinds := [], alts := [], laidByText := true, laidKinds := [.data], laidTests := true, laidLooks := .later }
def TraceGetsUptoCardSaid : Prop := Claim7.holds Tryd.pinned (.plain (OpenSpec.upto traceGetsSpec)) traceGetsUptoCard

/-- THE SECOND FORM's CARD OF 'tarnlaw51.TraceAll'. -/
def traceAllUptoCard : Claim7 := { stood := { row := traceAllUptoRow, standIns := [], harness := (true, "377a5c988c579e162e204635d4bfdefce990b12c027112ec42828765dd5eee5e"), looks := false }, kinds := [], alts := [], laidByText := true, laidKinds := [.data], laidTests := true, laidLooks := .later }
def TraceAllUptoCardSaid : Prop := Claim7.holds Tryd.pinned (.plain (OpenSpec.upto traceAllSpec)) traceAllUptoCard
end Rows
end Go.Proofs.YtjkjcpbhlgjgcaaDoor
