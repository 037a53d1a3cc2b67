/-
  NARROWER THAN 'FOR EVERY INPUT', by the rows' own cells (each row's printed sentence says how): FramePuts: laid · FrameAll: laid · TracePuts: laid · TraceGets: laid · TraceAll: laid.
  DERIVED. THE GIVEN ROWS OF THIS SEAT. 5 by the template 'for every input the law returns true; each argument reads behind the call as it read before'; 0 by the template 'total and deterministic' (their statements: YtjkjcpbhlgjgcaaDoorTotals.lean).
  GIVEN WITH THE SEED: the statements are not yours to turn. If you find one false, say at which input.
  Laid BY PROGRAM, IN A SANDBOX (cutbox-rows.mjs): the forced cells as the released guide's own fill.sh prints them over the translation c64f2677375f7b54… (all of the seat's roots in one cut). By AI agents, Wed Nov 11 2026. No macro, syntax, notation, axiom, sorry.
-/
import Derived.Test.YtjkjcpbhlgjgcaaDoorChecked
import GoSem.Claim
import GoSem.ClaimJoined
import GoSem.ClaimMapViews
import Derived.JoinedTies
import Derived.KernelRfl
namespace Go.Proofs.YtjkjcpbhlgjgcaaDoor
/- THE CELL 'sum', in the pinned program and in every row, IS THE sha256 OF THE DUMP (.gsa) THAT YtjkjcpbhlgjgcaaDoorProg.lean LOADS. Nothing in Lean hashes anything: it is a label: what it is worth is what the hold of that sum in a sandbox is worth. -/
noncomputable def Tryd.pinned : Pinned := { name := "ytjkjcpbhlgjgcaadoor", sum := "c64f2677375f7b54d3fab8350d29d06ce2d39d221f75b86de71758df758a3f93", checked := Tryd.checked }
namespace Rows
def none {H : Type} : Left H := { results := [], args := [] }

/- WHAT THE LISTED PACKAGE-LEVEL VARIABLES READ AS WHEN THE CALL BEGINS. Each datum BY PROGRAM (the guide's laid-datum.mjs) off the statement by which the dump's own 'gosem.cut.vars' lays the variable. In a bare row this is a premise. The card (YtjkjcpbhlgjgcaaDoorCards.lean) ties it to the program's text. -/
def laid_tarn_crc_turns {H : Type} : DataW H := .agg [.lit (.int .u32 0), .lit (.int .u32 498536548), .lit (.int .u32 997073096), .lit (.int .u32 651767980), .lit (.int .u32 1994146192), .lit (.int .u32 1802195444), .lit (.int .u32 1303535960), .lit (.int .u32 1342533948), .lit (.int .u32 3988292384), .lit (.int .u32 4027552580), .lit (.int .u32 3604390888), .lit (.int .u32 3412177804), .lit (.int .u32 2607071920), .lit (.int .u32 2262029012), .lit (.int .u32 2685067896), .lit (.int .u32 3183342108)]

/-- 'tarnlaw03.FramePuts': WHATEVER THE INPUT: true; the input reads as it did. -/
def framePutsSpec : ChangeSpec := { name := "framePuts", fn := fun _ => fun
  | [d1, d2] => { results := [.lit (.bool true)], args := [d1, d2] }
  | _ => none }
def framePutsRow : OpenClaim := { program := "ytjkjcpbhlgjgcaadoor", sum := "c64f2677375f7b54d3fab8350d29d06ce2d39d221f75b86de71758df758a3f93", func := "tarn/tarnlaw03.FramePuts", spec := "framePuts", inPlace := ["internal/abi.NoEscape"], recurses := true, named := ["tarn/crc.turns"], apart := false, laid := [("tarn/crc.turns", laid_tarn_crc_turns)] }
def FramePutsSaid : Prop := framePutsRow.holds Tryd.pinned (OpenSpec.ofChange framePutsSpec)

/-- ITS FALSE NEIGHBOUR: 'it returns false'. Refute it at one input. -/
def framePutsWrong : ChangeSpec := { name := "framePuts", fn := fun _ => fun
  | [d1, d2] => { results := [.lit (.bool false)], args := [d1, d2] }
  | _ => none }
def FramePutsWrongFalsely : Prop := framePutsRow.holds Tryd.pinned (OpenSpec.ofChange framePutsWrong)

/-- 'tarnlaw03.FrameAll': WHATEVER THE INPUT: true; the input reads as it did. -/
def frameAllSpec : ChangeSpec := { name := "frameAll", fn := fun _ => fun
  | [d1, d2] => { results := [.lit (.bool true)], args := [d1, d2] }
  | _ => none }
def frameAllRow : OpenClaim := { program := "ytjkjcpbhlgjgcaadoor", sum := "c64f2677375f7b54d3fab8350d29d06ce2d39d221f75b86de71758df758a3f93", func := "tarn/tarnlaw03.FrameAll", spec := "frameAll", inPlace := ["internal/abi.NoEscape"], recurses := true, named := ["tarn/crc.turns"], apart := false, laid := [("tarn/crc.turns", laid_tarn_crc_turns)] }
def FrameAllSaid : Prop := frameAllRow.holds Tryd.pinned (OpenSpec.ofChange frameAllSpec)

/-- ITS FALSE NEIGHBOUR: 'it returns false'. Refute it at one input. -/
def frameAllWrong : ChangeSpec := { name := "frameAll", fn := fun _ => fun
  | [d1, d2] => { results := [.lit (.bool false)], args := [d1, d2] }
  | _ => none }
def FrameAllWrongFalsely : Prop := frameAllRow.holds Tryd.pinned (OpenSpec.ofChange frameAllWrong)

/-- 'tarnlaw51.TracePuts': WHATEVER THE INPUT: true; the input reads as it did. -/
def tracePutsSpec : ChangeSpec := { name := "tracePuts", fn := fun _ => fun
  | [d1, d2] => { results := [.lit (.bool true)], args := [d1, d2] }
  | _ => none }
def tracePutsRow : OpenClaim := { program := "ytjkjcpbhlgjgcaadoor", sum := "c64f2677375f7b54d3fab8350d29d06ce2d39d221f75b86de71758df758a3f93", func := "tarn/tarnlaw51.TracePuts", spec := "tracePuts", inPlace := ["internal/abi.NoEscape"], recurses := true, named := ["tarn/crc.turns"], apart := false, laid := [("tarn/crc.turns", laid_tarn_crc_turns)] }
def TracePutsSaid : Prop := tracePutsRow.holds Tryd.pinned (OpenSpec.ofChange tracePutsSpec)

/-- ITS FALSE NEIGHBOUR: 'it returns false'. Refute it at one input. -/
def tracePutsWrong : ChangeSpec := { name := "tracePuts", fn := fun _ => fun
  | [d1, d2] => { results := [.lit (.bool false)], args := [d1, d2] }
  | _ => none }
def TracePutsWrongFalsely : Prop := tracePutsRow.holds Tryd.pinned (OpenSpec.ofChange tracePutsWrong)

/-- 'tarnlaw51.TraceGets': WHATEVER THE INPUT: true; the input reads as it did. -/
def traceGetsSpec : ChangeSpec := { name := "traceGets", fn := fun _ => fun
  | [d1, d2, d3] => { results := [.lit (.bool true)], args := [d1, d2, d3] }
  | _ => none }
def traceGetsRow : OpenClaim := { program := "ytjkjcpbhlgjgcaadoor", sum := "c64f2677375f7b54d3fab8350d29d06ce2d39d221f75b86de71758df758a3f93", func := "tarn/tarnlaw51.TraceGets", spec := "traceGets", inPlace := ["internal/abi.NoEscape"], recurses := true, named := ["tarn/crc.turns"], apart := false, laid := [("tarn/crc.turns", laid_tarn_crc_turns)] }
def TraceGetsSaid : Prop := traceGetsRow.holds Tryd.pinned (OpenSpec.ofChange traceGetsSpec)

/-- ITS FALSE NEIGHBOUR: 'it returns false'. Refute it at one input. -/
def traceGetsWrong : ChangeSpec := { name := "traceGets", fn := fun _ => fun
  | [d1, d2, d3] => { results := [.lit (.bool false)], args := [d1, d2, d3] }
  | _ => none }
def TraceGetsWrongFalsely : Prop := traceGetsRow.holds Tryd.pinned (OpenSpec.ofChange traceGetsWrong)

/-- 'tarnlaw51.TraceAll': WHATEVER THE INPUT: true; the input reads as it did. -/
def traceAllSpec : ChangeSpec := { name := "traceAll", fn := fun _ => fun
  | [d1, d2] => { results := [.lit (.bool true)], args := [d1, d2] }
  | _ => none }
def traceAllRow : OpenClaim := { program := "ytjkjcpbhlgjgcaadoor", sum := "c64f2677375f7b54d3fab8350d29d06ce2d39d221f75b86de71758df758a3f93", func := "tarn/tarnlaw51.TraceAll", spec := "traceAll", inPlace := ["internal/abi.NoEscape"], recurses := true, named := ["tarn/crc.turns"], apart := false, laid := [("tarn/crc.turns", laid_tarn_crc_turns)] }
def TraceAllSaid : Prop := traceAllRow.holds Tryd.pinned (OpenSpec.ofChange traceAllSpec)

/-- ITS FALSE NEIGHBOUR: 'it returns false'. Refute it at one input. -/
def traceAllWrong : ChangeSpec := { name := "traceAll", fn := fun _ => fun
  | [d1, d2] => { results := [.lit (.bool false)], args := [d1, d2] }
  | _ => none }
def TraceAllWrongFalsely : Prop := traceAllRow.holds Tryd.pinned (OpenSpec.ofChange traceAllWrong)

/- THE SECOND FORM. 'bulk': how many values and letters a reading holds, each counted each time it is reached (what is shared counts as often as it is met; a slice's spare places count too). A statement '..UptoSaid' is the law's where the arguments, and the package variables that the reading takes, are together of bulk at most 1048576: NARROWER than '..Said'. Prove '..Said' where nothing that the law and all that it calls make is longer than what came in: it says more and counts as full. Else prove '..UptoSaid'. A law counts once. -/
mutual
def uptoBulk {H : Type} : DataW H → Nat
  | .lit (.string bytes) => bytes.length + 1
  | .lit _ => 1
  | .nil => 1
  | .ptr d => uptoBulk d + 1
  | .slice elems spare => uptoBulkAll elems + uptoBulkAll spare + 1
  | .agg parts => uptoBulkAll parts + 1
  | .iface _ d => uptoBulk d + 1
  | .map entries => uptoBulkEntries entries + 1
  | .held _ => 1
def uptoBulkAll {H : Type} : List (DataW H) → Nat
  | [] => 0
  | d :: r => uptoBulk d + uptoBulkAll r
def uptoBulkEntries {H : Type} : List (Lit × DataW H) → Nat
  | [] => 0
  | x :: r => uptoBulkEntry x + uptoBulkEntries r
def uptoBulkEntry {H : Type} : Lit × DataW H → Nat
  | (.string bytes, d) => bytes.length + uptoBulk d + 1
  | (_, d) => uptoBulk d + 1
 end
def uptoSmall : (H : Type) → List (DataW H) → Bool := fun _ ds => decide (uptoBulkAll ds ≤ 1048576)
def OpenSpec.upto (s : _root_.Go.ChangeSpec) : _root_.Go.OpenSpec := { _root_.Go.OpenSpec.ofChange s with cond := some uptoSmall }

/-- 'tarnlaw03.FramePuts', WHERE WHAT IT READS IS OF BULK AT MOST 1048576: true; the input reads as it did. -/
def framePutsUptoRow : OpenClaim := { program := "ytjkjcpbhlgjgcaadoor", sum := "c64f2677375f7b54d3fab8350d29d06ce2d39d221f75b86de71758df758a3f93", func := "tarn/tarnlaw03.FramePuts", spec := "framePuts", inPlace := ["internal/abi.NoEscape"], recurses := true, named := ["tarn/crc.turns"], apart := false, laid := [("tarn/crc.turns", laid_tarn_crc_turns)], narrowed := true }
def FramePutsUptoSaid : Prop := framePutsUptoRow.holds Tryd.pinned (OpenSpec.upto framePutsSpec)

/-- 'tarnlaw03.FrameAll', WHERE WHAT IT READS IS OF BULK AT MOST 1048576: true; the input reads as it did. -/
def frameAllUptoRow : OpenClaim := { program := "ytjkjcpbhlgjgcaadoor", sum := "c64f2677375f7b54d3fab8350d29d06ce2d39d221f75b86de71758df758a3f93", func := "tarn/tarnlaw03.FrameAll", spec := "frameAll", inPlace := ["internal/abi.NoEscape"], recurses := true, named := ["tarn/crc.turns"], apart := false, laid := [("tarn/crc.turns", laid_tarn_crc_turns)], narrowed := true }
def FrameAllUptoSaid : Prop := frameAllUptoRow.holds Tryd.pinned (OpenSpec.upto frameAllSpec)

/-- 'tarnlaw51.TracePuts', WHERE WHAT IT READS IS OF BULK AT MOST 1048576: true; the input reads as it did. -/
def tracePutsUptoRow : OpenClaim := { program := "ytjkjcpbhlgjgcaadoor", sum := "c64f2677375f7b54d3fab8350d29d06ce2d39d221f75b86de71758df758a3f93", func := "tarn/tarnlaw51.TracePuts", spec := "tracePuts", inPlace := ["internal/abi.NoEscape"], recurses := true, named := ["tarn/crc.turns"], apart := false, laid := [("tarn/crc.turns", laid_tarn_crc_turns)], narrowed := true }
def TracePutsUptoSaid : Prop := tracePutsUptoRow.holds Tryd.pinned (OpenSpec.upto tracePutsSpec)

/-- 'tarnlaw51.TraceGets', WHERE WHAT IT READS IS OF BULK AT MOST 1048576: true; the input reads as it did. -/
def traceGetsUptoRow : OpenClaim := { program := "ytjkjcpbhlgjgcaadoor", sum := "c64f2677375f7b54d3fab8350d29d06ce2d39d221f75b86de71758df758a3f93", func := "tarn/tarnlaw51.TraceGets", spec := "traceGets", inPlace := ["internal/abi.NoEscape"], recurses := true, named := ["tarn/crc.turns"], apart := false, laid := [("tarn/crc.turns", laid_tarn_crc_turns)], narrowed := true }
def TraceGetsUptoSaid : Prop := traceGetsUptoRow.holds Tryd.pinned (OpenSpec.upto traceGetsSpec)

/-- 'tarnlaw51.TraceAll', WHERE WHAT IT READS IS OF BULK AT MOST 1048576: true; the input reads as it did. -/
def traceAllUptoRow : OpenClaim := { program := "ytjkjcpbhlgjgcaadoor", sum := "c64f2677375f7b54d3fab8350d29d06ce2d39d221f75b86de71758df758a3f93", func := "tarn/tarnlaw51.TraceAll", spec := "traceAll", inPlace := ["internal/abi.NoEscape"], recurses := true, named := ["tarn/crc.turns"], apart := false, laid := [("tarn/crc.turns", laid_tarn_crc_turns)], narrowed := true }
def TraceAllUptoSaid : Prop := traceAllUptoRow.holds Tryd.pinned (OpenSpec.upto traceAllSpec)

end Rows
end Go.Proofs.YtjkjcpbhlgjgcaaDoor
