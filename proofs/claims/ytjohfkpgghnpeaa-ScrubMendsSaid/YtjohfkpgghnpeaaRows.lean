/-
  No cell of these rows narrows 'for every input' (looked for: loops, veiled, ifaces, maps, wideKeys, modest, calm, conditions, laid).
  DERIVED. THE GIVEN ROWS OF THIS SEAT. 11 by the template 'for every input the law returns true; each argument reads behind the call as it read before'; 0 by the template 'total and deterministic' (their statements: YtjohfkpgghnpeaaTotals.lean).
  GIVEN WITH THE SEED: the statements are not yours to turn. If you find one false, say at which input.
  Laid BY PROGRAM, IN A SANDBOX (cutbox-rows.mjs): the forced cells as the released guide's own fill.sh prints them over the translation 4e91153efce1114a… (all of the seat's roots in one cut). By AI agents, Wed Nov 11 2026. No macro, syntax, notation, axiom, sorry.
-/
import Derived.Test.YtjohfkpgghnpeaaChecked
import GoSem.Claim
import GoSem.ClaimJoined
import GoSem.ClaimMapViews
import Derived.JoinedTies
import Derived.KernelRfl
namespace Go.Proofs.Ytjohfkpgghnpeaa
/- THE CELL 'sum', in the pinned program and in every row, IS THE sha256 OF THE DUMP (.gsa) THAT YtjohfkpgghnpeaaProg.lean LOADS. Nothing in Lean hashes anything: it is a label: what it is worth is what the hold of that sum in a sandbox is worth. -/
noncomputable def Try.pinned : Pinned := { name := "ytjohfkpgghnpeaa", sum := "4e91153efce1114a39ac6d0e2ca712cac4aae4649797f45addd7722c8aea9ce7", checked := Try.checked }
namespace Rows
def none {H : Type} : Left H := { results := [], args := [] }

/-- 'tarnlaw48.ExtentsOf': WHATEVER THE INPUT: true; the input reads as it did. -/
def extentsOfSpec : ChangeSpec := { name := "extentsOf", fn := fun _ => fun
  | [d] => { results := [.lit (.bool true)], args := [d] }
  | _ => none }
def extentsOfRow : OpenClaim := { program := "ytjohfkpgghnpeaa", sum := "4e91153efce1114a39ac6d0e2ca712cac4aae4649797f45addd7722c8aea9ce7", func := "tarn/tarnlaw48.ExtentsOf", spec := "extentsOf", inPlace := ["internal/abi.NoEscape", "internal/bytealg.MakeNoZero", "slices.overlaps[tarn/api.Held]"], unfollowed := true, recurses := true, apart := false }
def ExtentsOfSaid : Prop := extentsOfRow.holds Try.pinned (OpenSpec.ofChange extentsOfSpec)

/-- ITS FALSE NEIGHBOUR: 'it returns false'. Refute it at one input. -/
def extentsOfWrong : ChangeSpec := { name := "extentsOf", fn := fun _ => fun
  | [d] => { results := [.lit (.bool false)], args := [d] }
  | _ => none }
def ExtentsOfWrongFalsely : Prop := extentsOfRow.holds Try.pinned (OpenSpec.ofChange extentsOfWrong)

/-- 'tarnlaw25.ChainPlays': WHATEVER THE INPUT: true; the input reads as it did. -/
def chainPlaysSpec : ChangeSpec := { name := "chainPlays", fn := fun _ => fun
  | [d1, d2] => { results := [.lit (.bool true)], args := [d1, d2] }
  | _ => none }
def chainPlaysRow : OpenClaim := { program := "ytjohfkpgghnpeaa", sum := "4e91153efce1114a39ac6d0e2ca712cac4aae4649797f45addd7722c8aea9ce7", func := "tarn/tarnlaw25.ChainPlays", spec := "chainPlays", inPlace := ["internal/abi.NoEscape", "internal/bytealg.MakeNoZero", "slices.overlaps[tarn/api.Held]"], unfollowed := true, recurses := true, apart := false }
def ChainPlaysSaid : Prop := chainPlaysRow.holds Try.pinned (OpenSpec.ofChange chainPlaysSpec)

/-- ITS FALSE NEIGHBOUR: 'it returns false'. Refute it at one input. -/
def chainPlaysWrong : ChangeSpec := { name := "chainPlays", fn := fun _ => fun
  | [d1, d2] => { results := [.lit (.bool false)], args := [d1, d2] }
  | _ => none }
def ChainPlaysWrongFalsely : Prop := chainPlaysRow.holds Try.pinned (OpenSpec.ofChange chainPlaysWrong)

/-- 'tarnlaw09.ItemsPlay': WHATEVER THE INPUT: true; the input reads as it did. -/
def itemsPlaySpec : ChangeSpec := { name := "itemsPlay", fn := fun _ => fun
  | [d] => { results := [.lit (.bool true)], args := [d] }
  | _ => none }
def itemsPlayRow : OpenClaim := { program := "ytjohfkpgghnpeaa", sum := "4e91153efce1114a39ac6d0e2ca712cac4aae4649797f45addd7722c8aea9ce7", func := "tarn/tarnlaw09.ItemsPlay", spec := "itemsPlay", inPlace := ["internal/abi.NoEscape", "internal/bytealg.MakeNoZero", "slices.overlaps[tarn/api.Held]"], unfollowed := true, recurses := true, apart := false }
def ItemsPlaySaid : Prop := itemsPlayRow.holds Try.pinned (OpenSpec.ofChange itemsPlaySpec)

/-- ITS FALSE NEIGHBOUR: 'it returns false'. Refute it at one input. -/
def itemsPlayWrong : ChangeSpec := { name := "itemsPlay", fn := fun _ => fun
  | [d] => { results := [.lit (.bool false)], args := [d] }
  | _ => none }
def ItemsPlayWrongFalsely : Prop := itemsPlayRow.holds Try.pinned (OpenSpec.ofChange itemsPlayWrong)

/-- 'tarnlaw09.ItemsNone': WHATEVER THE INPUT: true; the input reads as it did. -/
def itemsNoneSpec : ChangeSpec := { name := "itemsNone", fn := fun _ => fun
  | [d1, d2] => { results := [.lit (.bool true)], args := [d1, d2] }
  | _ => none }
def itemsNoneRow : OpenClaim := { program := "ytjohfkpgghnpeaa", sum := "4e91153efce1114a39ac6d0e2ca712cac4aae4649797f45addd7722c8aea9ce7", func := "tarn/tarnlaw09.ItemsNone", spec := "itemsNone", inPlace := ["internal/abi.NoEscape", "internal/bytealg.MakeNoZero", "slices.overlaps[tarn/api.Held]"], unfollowed := true, recurses := true, apart := false }
def ItemsNoneSaid : Prop := itemsNoneRow.holds Try.pinned (OpenSpec.ofChange itemsNoneSpec)

/-- ITS FALSE NEIGHBOUR: 'it returns false'. Refute it at one input. -/
def itemsNoneWrong : ChangeSpec := { name := "itemsNone", fn := fun _ => fun
  | [d1, d2] => { results := [.lit (.bool false)], args := [d1, d2] }
  | _ => none }
def ItemsNoneWrongFalsely : Prop := itemsNoneRow.holds Try.pinned (OpenSpec.ofChange itemsNoneWrong)

/-- 'tarnlaw09.ItemsMerge': WHATEVER THE INPUT: true; the input reads as it did. -/
def itemsMergeSpec : ChangeSpec := { name := "itemsMerge", fn := fun _ => fun
  | [d1, d2] => { results := [.lit (.bool true)], args := [d1, d2] }
  | _ => none }
def itemsMergeRow : OpenClaim := { program := "ytjohfkpgghnpeaa", sum := "4e91153efce1114a39ac6d0e2ca712cac4aae4649797f45addd7722c8aea9ce7", func := "tarn/tarnlaw09.ItemsMerge", spec := "itemsMerge", inPlace := ["internal/abi.NoEscape", "internal/bytealg.MakeNoZero", "slices.overlaps[tarn/api.Held]"], unfollowed := true, recurses := true, apart := false }
def ItemsMergeSaid : Prop := itemsMergeRow.holds Try.pinned (OpenSpec.ofChange itemsMergeSpec)

/-- ITS FALSE NEIGHBOUR: 'it returns false'. Refute it at one input. -/
def itemsMergeWrong : ChangeSpec := { name := "itemsMerge", fn := fun _ => fun
  | [d1, d2] => { results := [.lit (.bool false)], args := [d1, d2] }
  | _ => none }
def ItemsMergeWrongFalsely : Prop := itemsMergeRow.holds Try.pinned (OpenSpec.ofChange itemsMergeWrong)

/-- 'tarnlaw43.ScrubUsed': WHATEVER THE INPUT: true; the input reads as it did. -/
def scrubUsedSpec : ChangeSpec := { name := "scrubUsed", fn := fun _ => fun
  | [d1, d2] => { results := [.lit (.bool true)], args := [d1, d2] }
  | _ => none }
def scrubUsedRow : OpenClaim := { program := "ytjohfkpgghnpeaa", sum := "4e91153efce1114a39ac6d0e2ca712cac4aae4649797f45addd7722c8aea9ce7", func := "tarn/tarnlaw43.ScrubUsed", spec := "scrubUsed", inPlace := ["internal/abi.NoEscape", "internal/bytealg.MakeNoZero", "slices.overlaps[tarn/api.Held]"], unfollowed := true, recurses := true, apart := false }
def ScrubUsedSaid : Prop := scrubUsedRow.holds Try.pinned (OpenSpec.ofChange scrubUsedSpec)

/-- ITS FALSE NEIGHBOUR: 'it returns false'. Refute it at one input. -/
def scrubUsedWrong : ChangeSpec := { name := "scrubUsed", fn := fun _ => fun
  | [d1, d2] => { results := [.lit (.bool false)], args := [d1, d2] }
  | _ => none }
def ScrubUsedWrongFalsely : Prop := scrubUsedRow.holds Try.pinned (OpenSpec.ofChange scrubUsedWrong)

/-- 'tarnlaw43.ScrubUnlike': WHATEVER THE INPUT: true; the input reads as it did. -/
def scrubUnlikeSpec : ChangeSpec := { name := "scrubUnlike", fn := fun _ => fun
  | [d1, d2] => { results := [.lit (.bool true)], args := [d1, d2] }
  | _ => none }
def scrubUnlikeRow : OpenClaim := { program := "ytjohfkpgghnpeaa", sum := "4e91153efce1114a39ac6d0e2ca712cac4aae4649797f45addd7722c8aea9ce7", func := "tarn/tarnlaw43.ScrubUnlike", spec := "scrubUnlike", inPlace := ["internal/abi.NoEscape", "internal/bytealg.MakeNoZero", "slices.overlaps[tarn/api.Held]"], unfollowed := true, recurses := true, apart := false }
def ScrubUnlikeSaid : Prop := scrubUnlikeRow.holds Try.pinned (OpenSpec.ofChange scrubUnlikeSpec)

/-- ITS FALSE NEIGHBOUR: 'it returns false'. Refute it at one input. -/
def scrubUnlikeWrong : ChangeSpec := { name := "scrubUnlike", fn := fun _ => fun
  | [d1, d2] => { results := [.lit (.bool false)], args := [d1, d2] }
  | _ => none }
def ScrubUnlikeWrongFalsely : Prop := scrubUnlikeRow.holds Try.pinned (OpenSpec.ofChange scrubUnlikeWrong)

/-- 'tarnlaw43.ScrubMends': WHATEVER THE INPUT: true; the input reads as it did. -/
def scrubMendsSpec : ChangeSpec := { name := "scrubMends", fn := fun _ => fun
  | [d] => { results := [.lit (.bool true)], args := [d] }
  | _ => none }
def scrubMendsRow : OpenClaim := { program := "ytjohfkpgghnpeaa", sum := "4e91153efce1114a39ac6d0e2ca712cac4aae4649797f45addd7722c8aea9ce7", func := "tarn/tarnlaw43.ScrubMends", spec := "scrubMends", inPlace := ["internal/abi.NoEscape", "internal/bytealg.MakeNoZero", "slices.overlaps[tarn/api.Held]"], unfollowed := true, recurses := true, apart := false }
def ScrubMendsSaid : Prop := scrubMendsRow.holds Try.pinned (OpenSpec.ofChange scrubMendsSpec)

/-- ITS FALSE NEIGHBOUR: 'it returns false'. Refute it at one input. -/
def scrubMendsWrong : ChangeSpec := { name := "scrubMends", fn := fun _ => fun
  | [d] => { results := [.lit (.bool false)], args := [d] }
  | _ => none }
def ScrubMendsWrongFalsely : Prop := scrubMendsRow.holds Try.pinned (OpenSpec.ofChange scrubMendsWrong)

/-- 'tarnlaw09.ItemsTake': WHATEVER THE INPUT: true; the input reads as it did. -/
def itemsTakeSpec : ChangeSpec := { name := "itemsTake", fn := fun _ => fun
  | [d1, d2, d3] => { results := [.lit (.bool true)], args := [d1, d2, d3] }
  | _ => none }
def itemsTakeRow : OpenClaim := { program := "ytjohfkpgghnpeaa", sum := "4e91153efce1114a39ac6d0e2ca712cac4aae4649797f45addd7722c8aea9ce7", func := "tarn/tarnlaw09.ItemsTake", spec := "itemsTake", inPlace := ["internal/abi.NoEscape", "internal/bytealg.MakeNoZero", "slices.overlaps[tarn/api.Held]"], unfollowed := true, recurses := true, apart := false }
def ItemsTakeSaid : Prop := itemsTakeRow.holds Try.pinned (OpenSpec.ofChange itemsTakeSpec)

/-- ITS FALSE NEIGHBOUR: 'it returns false'. Refute it at one input. -/
def itemsTakeWrong : ChangeSpec := { name := "itemsTake", fn := fun _ => fun
  | [d1, d2, d3] => { results := [.lit (.bool false)], args := [d1, d2, d3] }
  | _ => none }
def ItemsTakeWrongFalsely : Prop := itemsTakeRow.holds Try.pinned (OpenSpec.ofChange itemsTakeWrong)

/-- 'tarnlaw09.ItemsPut': WHATEVER THE INPUT: true; the input reads as it did. -/
def itemsPutSpec : ChangeSpec := { name := "itemsPut", fn := fun _ => fun
  | [d] => { results := [.lit (.bool true)], args := [d] }
  | _ => none }
def itemsPutRow : OpenClaim := { program := "ytjohfkpgghnpeaa", sum := "4e91153efce1114a39ac6d0e2ca712cac4aae4649797f45addd7722c8aea9ce7", func := "tarn/tarnlaw09.ItemsPut", spec := "itemsPut", inPlace := ["internal/abi.NoEscape", "internal/bytealg.MakeNoZero", "slices.overlaps[tarn/api.Held]"], unfollowed := true, recurses := true, apart := false }
def ItemsPutSaid : Prop := itemsPutRow.holds Try.pinned (OpenSpec.ofChange itemsPutSpec)

/-- ITS FALSE NEIGHBOUR: 'it returns false'. Refute it at one input. -/
def itemsPutWrong : ChangeSpec := { name := "itemsPut", fn := fun _ => fun
  | [d] => { results := [.lit (.bool false)], args := [d] }
  | _ => none }
def ItemsPutWrongFalsely : Prop := itemsPutRow.holds Try.pinned (OpenSpec.ofChange itemsPutWrong)

/-- 'tarnlaw48.ExtentRises': WHATEVER THE INPUT: true; the input reads as it did. -/
def extentRisesSpec : ChangeSpec := { name := "extentRises", fn := fun _ => fun
  | [d1, d2] => { results := [.lit (.bool true)], args := [d1, d2] }
  | _ => none }
def extentRisesRow : OpenClaim := { program := "ytjohfkpgghnpeaa", sum := "4e91153efce1114a39ac6d0e2ca712cac4aae4649797f45addd7722c8aea9ce7", func := "tarn/tarnlaw48.ExtentRises", spec := "extentRises", inPlace := ["internal/abi.NoEscape", "internal/bytealg.MakeNoZero", "slices.overlaps[tarn/api.Held]"], unfollowed := true, recurses := true, apart := false }
def ExtentRisesSaid : Prop := extentRisesRow.holds Try.pinned (OpenSpec.ofChange extentRisesSpec)

/-- ITS FALSE NEIGHBOUR: 'it returns false'. Refute it at one input. -/
def extentRisesWrong : ChangeSpec := { name := "extentRises", fn := fun _ => fun
  | [d1, d2] => { results := [.lit (.bool false)], args := [d1, d2] }
  | _ => none }
def ExtentRisesWrongFalsely : Prop := extentRisesRow.holds Try.pinned (OpenSpec.ofChange extentRisesWrong)

/- THE SECOND FORM. 'bulk': how many values and letters a reading holds, each counted each time it is reached (what is shared counts as often as it is met; a slice's spare places count too). A statement '..UptoSaid' is the law's where the arguments, and the package variables that the reading takes, are together of bulk at most 1048576: NARROWER than '..Said'. Prove '..Said' where nothing that the law and all that it calls make is longer than what came in: it says more and counts as full. Else prove '..UptoSaid'. A law counts once. -/
mutual
def uptoBulk {H : Type} : DataW H → Nat
  | .lit (.string bytes) => bytes.length + 1
  | .lit _ => 1
  | .nil => 1
  | .ptr d => uptoBulk d + 1
  | .slice elems spare => uptoBulkAll elems + uptoBulkAll spare + 1
  | .agg parts => uptoBulkAll parts + 1
  | .iface _ d => uptoBulk d + 1
  | .map entries => uptoBulkEntries entries + 1
  | .held _ => 1
def uptoBulkAll {H : Type} : List (DataW H) → Nat
  | [] => 0
  | d :: r => uptoBulk d + uptoBulkAll r
def uptoBulkEntries {H : Type} : List (Lit × DataW H) → Nat
  | [] => 0
  | x :: r => uptoBulkEntry x + uptoBulkEntries r
def uptoBulkEntry {H : Type} : Lit × DataW H → Nat
  | (.string bytes, d) => bytes.length + uptoBulk d + 1
  | (_, d) => uptoBulk d + 1
 end
def uptoSmall : (H : Type) → List (DataW H) → Bool := fun _ ds => decide (uptoBulkAll ds ≤ 1048576)
def OpenSpec.upto (s : _root_.Go.ChangeSpec) : _root_.Go.OpenSpec := { _root_.Go.OpenSpec.ofChange s with cond := some uptoSmall }

/-- 'tarnlaw48.ExtentsOf', WHERE WHAT IT READS IS OF BULK AT MOST 1048576: true; the input reads as it did. -/
def extentsOfUptoRow : OpenClaim := { program := "ytjohfkpgghnpeaa", sum := "4e91153efce1114a39ac6d0e2ca712cac4aae4649797f45addd7722c8aea9ce7", func := "tarn/tarnlaw48.ExtentsOf", spec := "extentsOf", inPlace := ["internal/abi.NoEscape", "internal/bytealg.MakeNoZero", "slices.overlaps[tarn/api.Held]"], unfollowed := true, recurses := true, apart := false, narrowed := true }
def ExtentsOfUptoSaid : Prop := extentsOfUptoRow.holds Try.pinned (OpenSpec.upto extentsOfSpec)

/-- 'tarnlaw25.ChainPlays', WHERE WHAT IT READS IS OF BULK AT MOST 1048576: true; the input reads as it did. -/
def chainPlaysUptoRow : OpenClaim := { program := "ytjohfkpgghnpeaa", sum := "4e91153efce1114a39ac6d0e2ca712cac4aae4649797f45addd7722c8aea9ce7", func := "tarn/tarnlaw25.ChainPlays", spec := "chainPlays", inPlace := ["internal/abi.NoEscape", "internal/bytealg.MakeNoZero", "slices.overlaps[tarn/api.Held]"], unfollowed := true, recurses := true, apart := false, narrowed := true }
def ChainPlaysUptoSaid : Prop := chainPlaysUptoRow.holds Try.pinned (OpenSpec.upto chainPlaysSpec)

/-- 'tarnlaw09.ItemsPlay', WHERE WHAT IT READS IS OF BULK AT MOST 1048576: true; the input reads as it did. -/
def itemsPlayUptoRow : OpenClaim := { program := "ytjohfkpgghnpeaa", sum := "4e91153efce1114a39ac6d0e2ca712cac4aae4649797f45addd7722c8aea9ce7", func := "tarn/tarnlaw09.ItemsPlay", spec := "itemsPlay", inPlace := ["internal/abi.NoEscape", "internal/bytealg.MakeNoZero", "slices.overlaps[tarn/api.Held]"], unfollowed := true, recurses := true, apart := false, narrowed := true }
def ItemsPlayUptoSaid : Prop := itemsPlayUptoRow.holds Try.pinned (OpenSpec.upto itemsPlaySpec)

/-- 'tarnlaw09.ItemsNone', WHERE WHAT IT READS IS OF BULK AT MOST 1048576: true; the input reads as it did. -/
def itemsNoneUptoRow : OpenClaim := { program := "ytjohfkpgghnpeaa", sum := "4e91153efce1114a39ac6d0e2ca712cac4aae4649797f45addd7722c8aea9ce7", func := "tarn/tarnlaw09.ItemsNone", spec := "itemsNone", inPlace := ["internal/abi.NoEscape", "internal/bytealg.MakeNoZero", "slices.overlaps[tarn/api.Held]"], unfollowed := true, recurses := true, apart := false, narrowed := true }
def ItemsNoneUptoSaid : Prop := itemsNoneUptoRow.holds Try.pinned (OpenSpec.upto itemsNoneSpec)

/-- 'tarnlaw09.ItemsMerge', WHERE WHAT IT READS IS OF BULK AT MOST 1048576: true; the input reads as it did. -/
def itemsMergeUptoRow : OpenClaim := { program := "ytjohfkpgghnpeaa", sum := "4e91153efce1114a39ac6d0e2ca712cac4aae4649797f45addd7722c8aea9ce7", func := "tarn/tarnlaw09.ItemsMerge", spec := "itemsMerge", inPlace := ["internal/abi.NoEscape", "internal/bytealg.MakeNoZero", "slices.overlaps[tarn/api.Held]"], unfollowed := true, recurses := true, apart := false, narrowed := true }
def ItemsMergeUptoSaid : Prop := itemsMergeUptoRow.holds Try.pinned (OpenSpec.upto itemsMergeSpec)

/-- 'tarnlaw43.ScrubUsed', WHERE WHAT IT READS IS OF BULK AT MOST 1048576: true; the input reads as it did. -/
def scrubUsedUptoRow : OpenClaim := { program := "ytjohfkpgghnpeaa", sum := "4e91153efce1114a39ac6d0e2ca712cac4aae4649797f45addd7722c8aea9ce7", func := "tarn/tarnlaw43.ScrubUsed", spec := "scrubUsed", inPlace := ["internal/abi.NoEscape", "internal/bytealg.MakeNoZero", "slices.overlaps[tarn/api.Held]"], unfollowed := true, recurses := true, apart := false, narrowed := true }
def ScrubUsedUptoSaid : Prop := scrubUsedUptoRow.holds Try.pinned (OpenSpec.upto scrubUsedSpec)

/-- 'tarnlaw43.ScrubUnlike', WHERE WHAT IT READS IS OF BULK AT MOST 1048576: true; the input reads as it did. -/
def scrubUnlikeUptoRow : OpenClaim := { program := "ytjohfkpgghnpeaa", sum := "4e91153efce1114a39ac6d0e2ca712cac4aae4649797f45addd7722c8aea9ce7", func := "tarn/tarnlaw43.ScrubUnlike", spec := "scrubUnlike", inPlace := ["internal/abi.NoEscape", "internal/bytealg.MakeNoZero", "slices.overlaps[tarn/api.Held]"], unfollowed := true, recurses := true, apart := false, narrowed := true }
def ScrubUnlikeUptoSaid : Prop := scrubUnlikeUptoRow.holds Try.pinned (OpenSpec.upto scrubUnlikeSpec)

/-- 'tarnlaw43.ScrubMends', WHERE WHAT IT READS IS OF BULK AT MOST 1048576: true; the input reads as it did. -/
def scrubMendsUptoRow : OpenClaim := { program := "ytjohfkpgghnpeaa", sum := "4e91153efce1114a39ac6d0e2ca712cac4aae4649797f45addd7722c8aea9ce7", func := "tarn/tarnlaw43.ScrubMends", spec := "scrubMends", inPlace := ["internal/abi.NoEscape", "internal/bytealg.MakeNoZero", "slices.overlaps[tarn/api.Held]"], unfollowed := true, recurses := true, apart := false, narrowed := true }
def ScrubMendsUptoSaid : Prop := scrubMendsUptoRow.holds Try.pinned (OpenSpec.upto scrubMendsSpec)

/-- 'tarnlaw09.ItemsTake', WHERE WHAT IT READS IS OF BULK AT MOST 1048576: true; the input reads as it did. -/
def itemsTakeUptoRow : OpenClaim := { program := "ytjohfkpgghnpeaa", sum := "4e91153efce1114a39ac6d0e2ca712cac4aae4649797f45addd7722c8aea9ce7", func := "tarn/tarnlaw09.ItemsTake", spec := "itemsTake", inPlace := ["internal/abi.NoEscape", "internal/bytealg.MakeNoZero", "slices.overlaps[tarn/api.Held]"], unfollowed := true, recurses := true, apart := false, narrowed := true }
def ItemsTakeUptoSaid : Prop := itemsTakeUptoRow.holds Try.pinned (OpenSpec.upto itemsTakeSpec)

/-- 'tarnlaw09.ItemsPut', WHERE WHAT IT READS IS OF BULK AT MOST 1048576: true; the input reads as it did. -/
def itemsPutUptoRow : OpenClaim := { program := "ytjohfkpgghnpeaa", sum := "4e91153efce1114a39ac6d0e2ca712cac4aae4649797f45addd7722c8aea9ce7", func := "tarn/tarnlaw09.ItemsPut", spec := "itemsPut", inPlace := ["internal/abi.NoEscape", "internal/bytealg.MakeNoZero", "slices.overlaps[tarn/api.Held]"], unfollowed := true, recurses := true, apart := false, narrowed := true }
def ItemsPutUptoSaid : Prop := itemsPutUptoRow.holds Try.pinned (OpenSpec.upto itemsPutSpec)

/-- 'tarnlaw48.ExtentRises', WHERE WHAT IT READS IS OF BULK AT MOST 1048576: true; the input reads as it did. -/
def extentRisesUptoRow : OpenClaim := { program := "ytjohfkpgghnpeaa", sum := "4e91153efce1114a39ac6d0e2ca712cac4aae4649797f45addd7722c8aea9ce7", func := "tarn/tarnlaw48.ExtentRises", spec := "extentRises", inPlace := ["internal/abi.NoEscape", "internal/bytealg.MakeNoZero", "slices.overlaps[tarn/api.Held]"], unfollowed := true, recurses := true, apart := false, narrowed := true }
def ExtentRisesUptoSaid : Prop := extentRisesUptoRow.holds Try.pinned (OpenSpec.upto extentRisesSpec)

end Rows
end Go.Proofs.Ytjohfkpgghnpeaa
