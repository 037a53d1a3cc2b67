/-
  No cell of these rows narrows 'for every input' (looked for: loops, veiled, ifaces, maps, wideKeys, modest, calm, conditions, laid).
  DERIVED. THE GIVEN ROWS OF THIS SEAT. 9 by the template 'for every input the law returns true; each argument reads behind the call as it read before'; 0 by the template 'total and deterministic' (their statements: YtgainlmekgcfnaaTotals.lean).
  GIVEN WITH THE SEED: the statements are not yours to turn. If you find one false, say at which input.
  Laid BY PROGRAM, IN A SANDBOX (cutbox-rows.mjs): the forced cells as the released guide's own fill.sh prints them over the translation 4f2a7174e7bcf073… (all of the seat's roots in one cut). By AI agents, Wed Nov 11 2026. No macro, syntax, notation, axiom, sorry.
-/
import Derived.Test.YtgainlmekgcfnaaChecked
import GoSem.Claim
import GoSem.ClaimJoined
import GoSem.ClaimMapViews
import Derived.JoinedTies
import Derived.KernelRfl
namespace Go.Proofs.Ytgainlmekgcfnaa
/- THE CELL 'sum', in the pinned program and in every row, IS THE sha256 OF THE DUMP (.gsa) THAT YtgainlmekgcfnaaProg.lean LOADS. Nothing in Lean hashes anything: it is a label: what it is worth is what the hold of that sum in a sandbox is worth. -/
noncomputable def Try.pinned : Pinned := { name := "ytgainlmekgcfnaa", sum := "4f2a7174e7bcf0730c553b594a9a761e77ccdc858b41ea40c2a3f08bfea6b3d9", checked := Try.checked }
namespace Rows
def none {H : Type} : Left H := { results := [], args := [] }

/-- 'tarnlaw17.VoteCounts': WHATEVER THE INPUT: true; the input reads as it did. -/
def voteCountsSpec : ChangeSpec := { name := "voteCounts", fn := fun _ => fun
  | [d] => { results := [.lit (.bool true)], args := [d] }
  | _ => none }
def voteCountsRow : OpenClaim := { program := "ytgainlmekgcfnaa", sum := "4f2a7174e7bcf0730c553b594a9a761e77ccdc858b41ea40c2a3f08bfea6b3d9", func := "tarn/tarnlaw17.VoteCounts", spec := "voteCounts", apart := false }
def VoteCountsSaid : Prop := voteCountsRow.holds Try.pinned (OpenSpec.ofChange voteCountsSpec)

/-- ITS FALSE NEIGHBOUR: 'it returns false'. Refute it at one input. -/
def voteCountsWrong : ChangeSpec := { name := "voteCounts", fn := fun _ => fun
  | [d] => { results := [.lit (.bool false)], args := [d] }
  | _ => none }
def VoteCountsWrongFalsely : Prop := voteCountsRow.holds Try.pinned (OpenSpec.ofChange voteCountsWrong)

/-- 'tarnlaw17.VoteOnce': WHATEVER THE INPUT: true; the input reads as it did. -/
def voteOnceSpec : ChangeSpec := { name := "voteOnce", fn := fun _ => fun
  | [d1, d2, d3] => { results := [.lit (.bool true)], args := [d1, d2, d3] }
  | _ => none }
def voteOnceRow : OpenClaim := { program := "ytgainlmekgcfnaa", sum := "4f2a7174e7bcf0730c553b594a9a761e77ccdc858b41ea40c2a3f08bfea6b3d9", func := "tarn/tarnlaw17.VoteOnce", spec := "voteOnce", apart := false }
def VoteOnceSaid : Prop := voteOnceRow.holds Try.pinned (OpenSpec.ofChange voteOnceSpec)

/-- ITS FALSE NEIGHBOUR: 'it returns false'. Refute it at one input. -/
def voteOnceWrong : ChangeSpec := { name := "voteOnce", fn := fun _ => fun
  | [d1, d2, d3] => { results := [.lit (.bool false)], args := [d1, d2, d3] }
  | _ => none }
def VoteOnceWrongFalsely : Prop := voteOnceRow.holds Try.pinned (OpenSpec.ofChange voteOnceWrong)

/-- 'tarnlaw29.PendPlays': WHATEVER THE INPUT: true; the input reads as it did. -/
def pendPlaysSpec : ChangeSpec := { name := "pendPlays", fn := fun _ => fun
  | [d1, d2] => { results := [.lit (.bool true)], args := [d1, d2] }
  | _ => none }
def pendPlaysRow : OpenClaim := { program := "ytgainlmekgcfnaa", sum := "4f2a7174e7bcf0730c553b594a9a761e77ccdc858b41ea40c2a3f08bfea6b3d9", func := "tarn/tarnlaw29.PendPlays", spec := "pendPlays", apart := false }
def PendPlaysSaid : Prop := pendPlaysRow.holds Try.pinned (OpenSpec.ofChange pendPlaysSpec)

/-- ITS FALSE NEIGHBOUR: 'it returns false'. Refute it at one input. -/
def pendPlaysWrong : ChangeSpec := { name := "pendPlays", fn := fun _ => fun
  | [d1, d2] => { results := [.lit (.bool false)], args := [d1, d2] }
  | _ => none }
def PendPlaysWrongFalsely : Prop := pendPlaysRow.holds Try.pinned (OpenSpec.ofChange pendPlaysWrong)

/-- 'tarnlaw29.PendOnce': WHATEVER THE INPUT: true; the input reads as it did. -/
def pendOnceSpec : ChangeSpec := { name := "pendOnce", fn := fun _ => fun
  | [d1, d2] => { results := [.lit (.bool true)], args := [d1, d2] }
  | _ => none }
def pendOnceRow : OpenClaim := { program := "ytgainlmekgcfnaa", sum := "4f2a7174e7bcf0730c553b594a9a761e77ccdc858b41ea40c2a3f08bfea6b3d9", func := "tarn/tarnlaw29.PendOnce", spec := "pendOnce", apart := false }
def PendOnceSaid : Prop := pendOnceRow.holds Try.pinned (OpenSpec.ofChange pendOnceSpec)

/-- ITS FALSE NEIGHBOUR: 'it returns false'. Refute it at one input. -/
def pendOnceWrong : ChangeSpec := { name := "pendOnce", fn := fun _ => fun
  | [d1, d2] => { results := [.lit (.bool false)], args := [d1, d2] }
  | _ => none }
def PendOnceWrongFalsely : Prop := pendOnceRow.holds Try.pinned (OpenSpec.ofChange pendOnceWrong)

/-- 'tarnlaw10.VerOf': WHATEVER THE INPUT: true; the input reads as it did. -/
def verOfSpec : ChangeSpec := { name := "verOf", fn := fun _ => fun
  | [d1, d2] => { results := [.lit (.bool true)], args := [d1, d2] }
  | _ => none }
def verOfRow : OpenClaim := { program := "ytgainlmekgcfnaa", sum := "4f2a7174e7bcf0730c553b594a9a761e77ccdc858b41ea40c2a3f08bfea6b3d9", func := "tarn/tarnlaw10.VerOf", spec := "verOf", apart := false }
def VerOfSaid : Prop := verOfRow.holds Try.pinned (OpenSpec.ofChange verOfSpec)

/-- ITS FALSE NEIGHBOUR: 'it returns false'. Refute it at one input. -/
def verOfWrong : ChangeSpec := { name := "verOf", fn := fun _ => fun
  | [d1, d2] => { results := [.lit (.bool false)], args := [d1, d2] }
  | _ => none }
def VerOfWrongFalsely : Prop := verOfRow.holds Try.pinned (OpenSpec.ofChange verOfWrong)

/-- 'tarnlaw10.VerMay': WHATEVER THE INPUT: true; the input reads as it did. -/
def verMaySpec : ChangeSpec := { name := "verMay", fn := fun _ => fun
  | [d1, d2, d3] => { results := [.lit (.bool true)], args := [d1, d2, d3] }
  | _ => none }
def verMayRow : OpenClaim := { program := "ytgainlmekgcfnaa", sum := "4f2a7174e7bcf0730c553b594a9a761e77ccdc858b41ea40c2a3f08bfea6b3d9", func := "tarn/tarnlaw10.VerMay", spec := "verMay", apart := false }
def VerMaySaid : Prop := verMayRow.holds Try.pinned (OpenSpec.ofChange verMaySpec)

/-- ITS FALSE NEIGHBOUR: 'it returns false'. Refute it at one input. -/
def verMayWrong : ChangeSpec := { name := "verMay", fn := fun _ => fun
  | [d1, d2, d3] => { results := [.lit (.bool false)], args := [d1, d2, d3] }
  | _ => none }
def VerMayWrongFalsely : Prop := verMayRow.holds Try.pinned (OpenSpec.ofChange verMayWrong)

/-- 'tarnlaw49.WatchPlays': WHATEVER THE INPUT: true; the input reads as it did. -/
def watchPlaysSpec : ChangeSpec := { name := "watchPlays", fn := fun _ => fun
  | [d1, d2] => { results := [.lit (.bool true)], args := [d1, d2] }
  | _ => none }
def watchPlaysRow : OpenClaim := { program := "ytgainlmekgcfnaa", sum := "4f2a7174e7bcf0730c553b594a9a761e77ccdc858b41ea40c2a3f08bfea6b3d9", func := "tarn/tarnlaw49.WatchPlays", spec := "watchPlays", apart := false }
def WatchPlaysSaid : Prop := watchPlaysRow.holds Try.pinned (OpenSpec.ofChange watchPlaysSpec)

/-- ITS FALSE NEIGHBOUR: 'it returns false'. Refute it at one input. -/
def watchPlaysWrong : ChangeSpec := { name := "watchPlays", fn := fun _ => fun
  | [d1, d2] => { results := [.lit (.bool false)], args := [d1, d2] }
  | _ => none }
def WatchPlaysWrongFalsely : Prop := watchPlaysRow.holds Try.pinned (OpenSpec.ofChange watchPlaysWrong)

/-- 'tarnlaw49.WatchMost': WHATEVER THE INPUT: true; the input reads as it did. -/
def watchMostSpec : ChangeSpec := { name := "watchMost", fn := fun _ => fun
  | [d] => { results := [.lit (.bool true)], args := [d] }
  | _ => none }
def watchMostRow : OpenClaim := { program := "ytgainlmekgcfnaa", sum := "4f2a7174e7bcf0730c553b594a9a761e77ccdc858b41ea40c2a3f08bfea6b3d9", func := "tarn/tarnlaw49.WatchMost", spec := "watchMost", apart := false }
def WatchMostSaid : Prop := watchMostRow.holds Try.pinned (OpenSpec.ofChange watchMostSpec)

/-- ITS FALSE NEIGHBOUR: 'it returns false'. Refute it at one input. -/
def watchMostWrong : ChangeSpec := { name := "watchMost", fn := fun _ => fun
  | [d] => { results := [.lit (.bool false)], args := [d] }
  | _ => none }
def WatchMostWrongFalsely : Prop := watchMostRow.holds Try.pinned (OpenSpec.ofChange watchMostWrong)

/-- 'tarnlaw10.VerNext': WHATEVER THE INPUT: true; the input reads as it did. -/
def verNextSpec : ChangeSpec := { name := "verNext", fn := fun _ => fun
  | [d1, d2, d3] => { results := [.lit (.bool true)], args := [d1, d2, d3] }
  | _ => none }
def verNextRow : OpenClaim := { program := "ytgainlmekgcfnaa", sum := "4f2a7174e7bcf0730c553b594a9a761e77ccdc858b41ea40c2a3f08bfea6b3d9", func := "tarn/tarnlaw10.VerNext", spec := "verNext", apart := false }
def VerNextSaid : Prop := verNextRow.holds Try.pinned (OpenSpec.ofChange verNextSpec)

/-- ITS FALSE NEIGHBOUR: 'it returns false'. Refute it at one input. -/
def verNextWrong : ChangeSpec := { name := "verNext", fn := fun _ => fun
  | [d1, d2, d3] => { results := [.lit (.bool false)], args := [d1, d2, d3] }
  | _ => none }
def VerNextWrongFalsely : Prop := verNextRow.holds Try.pinned (OpenSpec.ofChange verNextWrong)

/- THE SECOND FORM. 'bulk': how many values and letters a reading holds, each counted each time it is reached (what is shared counts as often as it is met; a slice's spare places count too). A statement '..UptoSaid' is the law's where the arguments, and the package variables that the reading takes, are together of bulk at most 1048576: NARROWER than '..Said'. Prove '..Said' where nothing that the law and all that it calls make is longer than what came in: it says more and counts as full. Else prove '..UptoSaid'. A law counts once. -/
mutual
def uptoBulk {H : Type} : DataW H → Nat
  | .lit (.string bytes) => bytes.length + 1
  | .lit _ => 1
  | .nil => 1
  | .ptr d => uptoBulk d + 1
  | .slice elems spare => uptoBulkAll elems + uptoBulkAll spare + 1
  | .agg parts => uptoBulkAll parts + 1
  | .iface _ d => uptoBulk d + 1
  | .map entries => uptoBulkEntries entries + 1
  | .held _ => 1
def uptoBulkAll {H : Type} : List (DataW H) → Nat
  | [] => 0
  | d :: r => uptoBulk d + uptoBulkAll r
def uptoBulkEntries {H : Type} : List (Lit × DataW H) → Nat
  | [] => 0
  | x :: r => uptoBulkEntry x + uptoBulkEntries r
def uptoBulkEntry {H : Type} : Lit × DataW H → Nat
  | (.string bytes, d) => bytes.length + uptoBulk d + 1
  | (_, d) => uptoBulk d + 1
 end
def uptoSmall : (H : Type) → List (DataW H) → Bool := fun _ ds => decide (uptoBulkAll ds ≤ 1048576)
def OpenSpec.upto (s : _root_.Go.ChangeSpec) : _root_.Go.OpenSpec := { _root_.Go.OpenSpec.ofChange s with cond := some uptoSmall }

/-- 'tarnlaw17.VoteCounts', WHERE WHAT IT READS IS OF BULK AT MOST 1048576: true; the input reads as it did. -/
def voteCountsUptoRow : OpenClaim := { program := "ytgainlmekgcfnaa", sum := "4f2a7174e7bcf0730c553b594a9a761e77ccdc858b41ea40c2a3f08bfea6b3d9", func := "tarn/tarnlaw17.VoteCounts", spec := "voteCounts", apart := false, narrowed := true }
def VoteCountsUptoSaid : Prop := voteCountsUptoRow.holds Try.pinned (OpenSpec.upto voteCountsSpec)

/-- 'tarnlaw17.VoteOnce', WHERE WHAT IT READS IS OF BULK AT MOST 1048576: true; the input reads as it did. -/
def voteOnceUptoRow : OpenClaim := { program := "ytgainlmekgcfnaa", sum := "4f2a7174e7bcf0730c553b594a9a761e77ccdc858b41ea40c2a3f08bfea6b3d9", func := "tarn/tarnlaw17.VoteOnce", spec := "voteOnce", apart := false, narrowed := true }
def VoteOnceUptoSaid : Prop := voteOnceUptoRow.holds Try.pinned (OpenSpec.upto voteOnceSpec)

/-- 'tarnlaw29.PendPlays', WHERE WHAT IT READS IS OF BULK AT MOST 1048576: true; the input reads as it did. -/
def pendPlaysUptoRow : OpenClaim := { program := "ytgainlmekgcfnaa", sum := "4f2a7174e7bcf0730c553b594a9a761e77ccdc858b41ea40c2a3f08bfea6b3d9", func := "tarn/tarnlaw29.PendPlays", spec := "pendPlays", apart := false, narrowed := true }
def PendPlaysUptoSaid : Prop := pendPlaysUptoRow.holds Try.pinned (OpenSpec.upto pendPlaysSpec)

/-- 'tarnlaw29.PendOnce', WHERE WHAT IT READS IS OF BULK AT MOST 1048576: true; the input reads as it did. -/
def pendOnceUptoRow : OpenClaim := { program := "ytgainlmekgcfnaa", sum := "4f2a7174e7bcf0730c553b594a9a761e77ccdc858b41ea40c2a3f08bfea6b3d9", func := "tarn/tarnlaw29.PendOnce", spec := "pendOnce", apart := false, narrowed := true }
def PendOnceUptoSaid : Prop := pendOnceUptoRow.holds Try.pinned (OpenSpec.upto pendOnceSpec)

/-- 'tarnlaw10.VerOf', WHERE WHAT IT READS IS OF BULK AT MOST 1048576: true; the input reads as it did. -/
def verOfUptoRow : OpenClaim := { program := "ytgainlmekgcfnaa", sum := "4f2a7174e7bcf0730c553b594a9a761e77ccdc858b41ea40c2a3f08bfea6b3d9", func := "tarn/tarnlaw10.VerOf", spec := "verOf", apart := false, narrowed := true }
def VerOfUptoSaid : Prop := verOfUptoRow.holds Try.pinned (OpenSpec.upto verOfSpec)

/-- 'tarnlaw10.VerMay', WHERE WHAT IT READS IS OF BULK AT MOST 1048576: true; the input reads as it did. -/
def verMayUptoRow : OpenClaim := { program := "ytgainlmekgcfnaa", sum := "4f2a7174e7bcf0730c553b594a9a761e77ccdc858b41ea40c2a3f08bfea6b3d9", func := "tarn/tarnlaw10.VerMay", spec := "verMay", apart := false, narrowed := true }
def VerMayUptoSaid : Prop := verMayUptoRow.holds Try.pinned (OpenSpec.upto verMaySpec)

/-- 'tarnlaw49.WatchPlays', WHERE WHAT IT READS IS OF BULK AT MOST 1048576: true; the input reads as it did. -/
def watchPlaysUptoRow : OpenClaim := { program := "ytgainlmekgcfnaa", sum := "4f2a7174e7bcf0730c553b594a9a761e77ccdc858b41ea40c2a3f08bfea6b3d9", func := "tarn/tarnlaw49.WatchPlays", spec := "watchPlays", apart := false, narrowed := true }
def WatchPlaysUptoSaid : Prop := watchPlaysUptoRow.holds Try.pinned (OpenSpec.upto watchPlaysSpec)

/-- 'tarnlaw49.WatchMost', WHERE WHAT IT READS IS OF BULK AT MOST 1048576: true; the input reads as it did. -/
def watchMostUptoRow : OpenClaim := { program := "ytgainlmekgcfnaa", sum := "4f2a7174e7bcf0730c553b594a9a761e77ccdc858b41ea40c2a3f08bfea6b3d9", func := "tarn/tarnlaw49.WatchMost", spec := "watchMost", apart := false, narrowed := true }
def WatchMostUptoSaid : Prop := watchMostUptoRow.holds Try.pinned (OpenSpec.upto watchMostSpec)

/-- 'tarnlaw10.VerNext', WHERE WHAT IT READS IS OF BULK AT MOST 1048576: true; the input reads as it did. -/
def verNextUptoRow : OpenClaim := { program := "ytgainlmekgcfnaa", sum := "4f2a7174e7bcf0730c553b594a9a761e77ccdc858b41ea40c2a3f08bfea6b3d9", func := "tarn/tarnlaw10.VerNext", spec := "verNext", apart := false, narrowed := true }
def VerNextUptoSaid : Prop := verNextUptoRow.holds Try.pinned (OpenSpec.upto verNextSpec)

end Rows
end Go.Proofs.Ytgainlmekgcfnaa
