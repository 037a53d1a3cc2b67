/-
  No cell of these rows narrows 'for every input' (looked for: loops, veiled, ifaces, maps, wideKeys, modest, calm, conditions, laid).
  DERIVED. THE GIVEN ROWS OF THIS SEAT. 12 by the template 'for every input the law returns true; each argument reads behind the call as it read before'; 0 by the template 'total and deterministic' (their statements: YtfacifhlcaghiaaTotals.lean).
  GIVEN WITH THE SEED: the statements are not yours to turn. If you find one false, say at which input.
  Laid BY PROGRAM, IN A SANDBOX (cutbox-rows.mjs): the forced cells as the released guide's own fill.sh prints them over the translation 3e755ec08990eb94… (all of the seat's roots in one cut). By AI agents, Wed Nov 11 2026. No macro, syntax, notation, axiom, sorry.
-/
import Derived.Test.YtfacifhlcaghiaaChecked
import GoSem.Claim
import GoSem.ClaimJoined
import GoSem.ClaimMapViews
import Derived.JoinedTies
import Derived.KernelRfl
namespace Go.Proofs.Ytfacifhlcaghiaa
/- THE CELL 'sum', in the pinned program and in every row, IS THE sha256 OF THE DUMP (.gsa) THAT YtfacifhlcaghiaaProg.lean LOADS. Nothing in Lean hashes anything: it is a label: what it is worth is what the hold of that sum in a sandbox is worth. -/
noncomputable def Try.pinned : Pinned := { name := "ytfacifhlcaghiaa", sum := "3e755ec08990eb942543d561c4798e18f7f3a2dfcccf10db32859dfdd296aa95", checked := Try.checked }
namespace Rows
def none {H : Type} : Left H := { results := [], args := [] }

/-- 'tarnlaw04.DiskPlays': WHATEVER THE INPUT: true; the input reads as it did. -/
def diskPlaysSpec : ChangeSpec := { name := "diskPlays", fn := fun _ => fun
  | [d1, d2] => { results := [.lit (.bool true)], args := [d1, d2] }
  | _ => none }
def diskPlaysRow : OpenClaim := { program := "ytfacifhlcaghiaa", sum := "3e755ec08990eb942543d561c4798e18f7f3a2dfcccf10db32859dfdd296aa95", func := "tarn/tarnlaw04.DiskPlays", spec := "diskPlays", inPlace := ["internal/abi.NoEscape", "internal/bytealg.MakeNoZero"], unfollowed := true, recurses := true, apart := false }
def DiskPlaysSaid : Prop := diskPlaysRow.holds Try.pinned (OpenSpec.ofChange diskPlaysSpec)

/-- ITS FALSE NEIGHBOUR: 'it returns false'. Refute it at one input. -/
def diskPlaysWrong : ChangeSpec := { name := "diskPlays", fn := fun _ => fun
  | [d1, d2] => { results := [.lit (.bool false)], args := [d1, d2] }
  | _ => none }
def DiskPlaysWrongFalsely : Prop := diskPlaysRow.holds Try.pinned (OpenSpec.ofChange diskPlaysWrong)

/-- 'tarnlaw04.DiskNone': WHATEVER THE INPUT: true; the input reads as it did. -/
def diskNoneSpec : ChangeSpec := { name := "diskNone", fn := fun _ => fun
  | [d1, d2] => { results := [.lit (.bool true)], args := [d1, d2] }
  | _ => none }
def diskNoneRow : OpenClaim := { program := "ytfacifhlcaghiaa", sum := "3e755ec08990eb942543d561c4798e18f7f3a2dfcccf10db32859dfdd296aa95", func := "tarn/tarnlaw04.DiskNone", spec := "diskNone", inPlace := ["internal/abi.NoEscape", "internal/bytealg.MakeNoZero"], unfollowed := true, recurses := true, apart := false }
def DiskNoneSaid : Prop := diskNoneRow.holds Try.pinned (OpenSpec.ofChange diskNoneSpec)

/-- ITS FALSE NEIGHBOUR: 'it returns false'. Refute it at one input. -/
def diskNoneWrong : ChangeSpec := { name := "diskNone", fn := fun _ => fun
  | [d1, d2] => { results := [.lit (.bool false)], args := [d1, d2] }
  | _ => none }
def DiskNoneWrongFalsely : Prop := diskNoneRow.holds Try.pinned (OpenSpec.ofChange diskNoneWrong)

/-- 'tarnlaw06.AreaMay': WHATEVER THE INPUT: true; the input reads as it did. -/
def areaMaySpec : ChangeSpec := { name := "areaMay", fn := fun _ => fun
  | [d1, d2, d3] => { results := [.lit (.bool true)], args := [d1, d2, d3] }
  | _ => none }
def areaMayRow : OpenClaim := { program := "ytfacifhlcaghiaa", sum := "3e755ec08990eb942543d561c4798e18f7f3a2dfcccf10db32859dfdd296aa95", func := "tarn/tarnlaw06.AreaMay", spec := "areaMay", inPlace := ["internal/abi.NoEscape", "internal/bytealg.MakeNoZero"], unfollowed := true, recurses := true, apart := false }
def AreaMaySaid : Prop := areaMayRow.holds Try.pinned (OpenSpec.ofChange areaMaySpec)

/-- ITS FALSE NEIGHBOUR: 'it returns false'. Refute it at one input. -/
def areaMayWrong : ChangeSpec := { name := "areaMay", fn := fun _ => fun
  | [d1, d2, d3] => { results := [.lit (.bool false)], args := [d1, d2, d3] }
  | _ => none }
def AreaMayWrongFalsely : Prop := areaMayRow.holds Try.pinned (OpenSpec.ofChange areaMayWrong)

/-- 'tarnlaw05.SuperPuts': WHATEVER THE INPUT: true; the input reads as it did. -/
def superPutsSpec : ChangeSpec := { name := "superPuts", fn := fun _ => fun
  | [d1, d2] => { results := [.lit (.bool true)], args := [d1, d2] }
  | _ => none }
def superPutsRow : OpenClaim := { program := "ytfacifhlcaghiaa", sum := "3e755ec08990eb942543d561c4798e18f7f3a2dfcccf10db32859dfdd296aa95", func := "tarn/tarnlaw05.SuperPuts", spec := "superPuts", inPlace := ["internal/abi.NoEscape", "internal/bytealg.MakeNoZero"], unfollowed := true, recurses := true, apart := false }
def SuperPutsSaid : Prop := superPutsRow.holds Try.pinned (OpenSpec.ofChange superPutsSpec)

/-- ITS FALSE NEIGHBOUR: 'it returns false'. Refute it at one input. -/
def superPutsWrong : ChangeSpec := { name := "superPuts", fn := fun _ => fun
  | [d1, d2] => { results := [.lit (.bool false)], args := [d1, d2] }
  | _ => none }
def SuperPutsWrongFalsely : Prop := superPutsRow.holds Try.pinned (OpenSpec.ofChange superPutsWrong)

/-- 'tarnlaw05.SuperTorn': WHATEVER THE INPUT: true; the input reads as it did. -/
def superTornSpec : ChangeSpec := { name := "superTorn", fn := fun _ => fun
  | [d1, d2, d3] => { results := [.lit (.bool true)], args := [d1, d2, d3] }
  | _ => none }
def superTornRow : OpenClaim := { program := "ytfacifhlcaghiaa", sum := "3e755ec08990eb942543d561c4798e18f7f3a2dfcccf10db32859dfdd296aa95", func := "tarn/tarnlaw05.SuperTorn", spec := "superTorn", inPlace := ["internal/abi.NoEscape", "internal/bytealg.MakeNoZero"], unfollowed := true, recurses := true, apart := false }
def SuperTornSaid : Prop := superTornRow.holds Try.pinned (OpenSpec.ofChange superTornSpec)

/-- ITS FALSE NEIGHBOUR: 'it returns false'. Refute it at one input. -/
def superTornWrong : ChangeSpec := { name := "superTorn", fn := fun _ => fun
  | [d1, d2, d3] => { results := [.lit (.bool false)], args := [d1, d2, d3] }
  | _ => none }
def SuperTornWrongFalsely : Prop := superTornRow.holds Try.pinned (OpenSpec.ofChange superTornWrong)

/-- 'tarnlaw05.SuperInput': WHATEVER THE INPUT: true; the input reads as it did. -/
def superInputSpec : ChangeSpec := { name := "superInput", fn := fun _ => fun
  | [d1, d2, d3] => { results := [.lit (.bool true)], args := [d1, d2, d3] }
  | _ => none }
def superInputRow : OpenClaim := { program := "ytfacifhlcaghiaa", sum := "3e755ec08990eb942543d561c4798e18f7f3a2dfcccf10db32859dfdd296aa95", func := "tarn/tarnlaw05.SuperInput", spec := "superInput", inPlace := ["internal/abi.NoEscape", "internal/bytealg.MakeNoZero"], unfollowed := true, recurses := true, apart := false }
def SuperInputSaid : Prop := superInputRow.holds Try.pinned (OpenSpec.ofChange superInputSpec)

/-- ITS FALSE NEIGHBOUR: 'it returns false'. Refute it at one input. -/
def superInputWrong : ChangeSpec := { name := "superInput", fn := fun _ => fun
  | [d1, d2, d3] => { results := [.lit (.bool false)], args := [d1, d2, d3] }
  | _ => none }
def SuperInputWrongFalsely : Prop := superInputRow.holds Try.pinned (OpenSpec.ofChange superInputWrong)

/-- 'tarnlaw56.ImagePacks': WHATEVER THE INPUT: true; the input reads as it did. -/
def imagePacksSpec : ChangeSpec := { name := "imagePacks", fn := fun _ => fun
  | [d1, d2] => { results := [.lit (.bool true)], args := [d1, d2] }
  | _ => none }
def imagePacksRow : OpenClaim := { program := "ytfacifhlcaghiaa", sum := "3e755ec08990eb942543d561c4798e18f7f3a2dfcccf10db32859dfdd296aa95", func := "tarn/tarnlaw56.ImagePacks", spec := "imagePacks", inPlace := ["internal/abi.NoEscape", "internal/bytealg.MakeNoZero"], unfollowed := true, recurses := true, apart := false }
def ImagePacksSaid : Prop := imagePacksRow.holds Try.pinned (OpenSpec.ofChange imagePacksSpec)

/-- ITS FALSE NEIGHBOUR: 'it returns false'. Refute it at one input. -/
def imagePacksWrong : ChangeSpec := { name := "imagePacks", fn := fun _ => fun
  | [d1, d2] => { results := [.lit (.bool false)], args := [d1, d2] }
  | _ => none }
def ImagePacksWrongFalsely : Prop := imagePacksRow.holds Try.pinned (OpenSpec.ofChange imagePacksWrong)

/-- 'tarnlaw56.ImageUnpacks': WHATEVER THE INPUT: true; the input reads as it did. -/
def imageUnpacksSpec : ChangeSpec := { name := "imageUnpacks", fn := fun _ => fun
  | [d1, d2] => { results := [.lit (.bool true)], args := [d1, d2] }
  | _ => none }
def imageUnpacksRow : OpenClaim := { program := "ytfacifhlcaghiaa", sum := "3e755ec08990eb942543d561c4798e18f7f3a2dfcccf10db32859dfdd296aa95", func := "tarn/tarnlaw56.ImageUnpacks", spec := "imageUnpacks", inPlace := ["internal/abi.NoEscape", "internal/bytealg.MakeNoZero"], unfollowed := true, recurses := true, apart := false }
def ImageUnpacksSaid : Prop := imageUnpacksRow.holds Try.pinned (OpenSpec.ofChange imageUnpacksSpec)

/-- ITS FALSE NEIGHBOUR: 'it returns false'. Refute it at one input. -/
def imageUnpacksWrong : ChangeSpec := { name := "imageUnpacks", fn := fun _ => fun
  | [d1, d2] => { results := [.lit (.bool false)], args := [d1, d2] }
  | _ => none }
def ImageUnpacksWrongFalsely : Prop := imageUnpacksRow.holds Try.pinned (OpenSpec.ofChange imageUnpacksWrong)

/-- 'tarnlaw06.AreaTorn': WHATEVER THE INPUT: true; the input reads as it did. -/
def areaTornSpec : ChangeSpec := { name := "areaTorn", fn := fun _ => fun
  | [d1, d2, d3] => { results := [.lit (.bool true)], args := [d1, d2, d3] }
  | _ => none }
def areaTornRow : OpenClaim := { program := "ytfacifhlcaghiaa", sum := "3e755ec08990eb942543d561c4798e18f7f3a2dfcccf10db32859dfdd296aa95", func := "tarn/tarnlaw06.AreaTorn", spec := "areaTorn", inPlace := ["internal/abi.NoEscape", "internal/bytealg.MakeNoZero"], unfollowed := true, recurses := true, apart := false }
def AreaTornSaid : Prop := areaTornRow.holds Try.pinned (OpenSpec.ofChange areaTornSpec)

/-- ITS FALSE NEIGHBOUR: 'it returns false'. Refute it at one input. -/
def areaTornWrong : ChangeSpec := { name := "areaTorn", fn := fun _ => fun
  | [d1, d2, d3] => { results := [.lit (.bool false)], args := [d1, d2, d3] }
  | _ => none }
def AreaTornWrongFalsely : Prop := areaTornRow.holds Try.pinned (OpenSpec.ofChange areaTornWrong)

/-- 'tarnlaw05.SuperPlays': WHATEVER THE INPUT: true; the input reads as it did. -/
def superPlaysSpec : ChangeSpec := { name := "superPlays", fn := fun _ => fun
  | [d1, d2, d3] => { results := [.lit (.bool true)], args := [d1, d2, d3] }
  | _ => none }
def superPlaysRow : OpenClaim := { program := "ytfacifhlcaghiaa", sum := "3e755ec08990eb942543d561c4798e18f7f3a2dfcccf10db32859dfdd296aa95", func := "tarn/tarnlaw05.SuperPlays", spec := "superPlays", inPlace := ["internal/abi.NoEscape", "internal/bytealg.MakeNoZero"], unfollowed := true, recurses := true, apart := false }
def SuperPlaysSaid : Prop := superPlaysRow.holds Try.pinned (OpenSpec.ofChange superPlaysSpec)

/-- ITS FALSE NEIGHBOUR: 'it returns false'. Refute it at one input. -/
def superPlaysWrong : ChangeSpec := { name := "superPlays", fn := fun _ => fun
  | [d1, d2, d3] => { results := [.lit (.bool false)], args := [d1, d2, d3] }
  | _ => none }
def SuperPlaysWrongFalsely : Prop := superPlaysRow.holds Try.pinned (OpenSpec.ofChange superPlaysWrong)

/-- 'tarnlaw05.SuperTwice': WHATEVER THE INPUT: true; the input reads as it did. -/
def superTwiceSpec : ChangeSpec := { name := "superTwice", fn := fun _ => fun
  | [d1, d2, d3] => { results := [.lit (.bool true)], args := [d1, d2, d3] }
  | _ => none }
def superTwiceRow : OpenClaim := { program := "ytfacifhlcaghiaa", sum := "3e755ec08990eb942543d561c4798e18f7f3a2dfcccf10db32859dfdd296aa95", func := "tarn/tarnlaw05.SuperTwice", spec := "superTwice", inPlace := ["internal/abi.NoEscape", "internal/bytealg.MakeNoZero"], unfollowed := true, recurses := true, apart := false }
def SuperTwiceSaid : Prop := superTwiceRow.holds Try.pinned (OpenSpec.ofChange superTwiceSpec)

/-- ITS FALSE NEIGHBOUR: 'it returns false'. Refute it at one input. -/
def superTwiceWrong : ChangeSpec := { name := "superTwice", fn := fun _ => fun
  | [d1, d2, d3] => { results := [.lit (.bool false)], args := [d1, d2, d3] }
  | _ => none }
def SuperTwiceWrongFalsely : Prop := superTwiceRow.holds Try.pinned (OpenSpec.ofChange superTwiceWrong)

/-- 'tarnlaw56.ImageLays': WHATEVER THE INPUT: true; the input reads as it did. -/
def imageLaysSpec : ChangeSpec := { name := "imageLays", fn := fun _ => fun
  | [d1, d2, d3] => { results := [.lit (.bool true)], args := [d1, d2, d3] }
  | _ => none }
def imageLaysRow : OpenClaim := { program := "ytfacifhlcaghiaa", sum := "3e755ec08990eb942543d561c4798e18f7f3a2dfcccf10db32859dfdd296aa95", func := "tarn/tarnlaw56.ImageLays", spec := "imageLays", inPlace := ["internal/abi.NoEscape", "internal/bytealg.MakeNoZero"], unfollowed := true, recurses := true, apart := false }
def ImageLaysSaid : Prop := imageLaysRow.holds Try.pinned (OpenSpec.ofChange imageLaysSpec)

/-- ITS FALSE NEIGHBOUR: 'it returns false'. Refute it at one input. -/
def imageLaysWrong : ChangeSpec := { name := "imageLays", fn := fun _ => fun
  | [d1, d2, d3] => { results := [.lit (.bool false)], args := [d1, d2, d3] }
  | _ => none }
def ImageLaysWrongFalsely : Prop := imageLaysRow.holds Try.pinned (OpenSpec.ofChange imageLaysWrong)

/- THE SECOND FORM. 'bulk': how many values and letters a reading holds, each counted each time it is reached (what is shared counts as often as it is met; a slice's spare places count too). A statement '..UptoSaid' is the law's where the arguments, and the package variables that the reading takes, are together of bulk at most 1048576: NARROWER than '..Said'. Prove '..Said' where nothing that the law and all that it calls make is longer than what came in: it says more and counts as full. Else prove '..UptoSaid'. A law counts once. -/
mutual
def uptoBulk {H : Type} : DataW H → Nat
  | .lit (.string bytes) => bytes.length + 1
  | .lit _ => 1
  | .nil => 1
  | .ptr d => uptoBulk d + 1
  | .slice elems spare => uptoBulkAll elems + uptoBulkAll spare + 1
  | .agg parts => uptoBulkAll parts + 1
  | .iface _ d => uptoBulk d + 1
  | .map entries => uptoBulkEntries entries + 1
  | .held _ => 1
def uptoBulkAll {H : Type} : List (DataW H) → Nat
  | [] => 0
  | d :: r => uptoBulk d + uptoBulkAll r
def uptoBulkEntries {H : Type} : List (Lit × DataW H) → Nat
  | [] => 0
  | x :: r => uptoBulkEntry x + uptoBulkEntries r
def uptoBulkEntry {H : Type} : Lit × DataW H → Nat
  | (.string bytes, d) => bytes.length + uptoBulk d + 1
  | (_, d) => uptoBulk d + 1
 end
def uptoSmall : (H : Type) → List (DataW H) → Bool := fun _ ds => decide (uptoBulkAll ds ≤ 1048576)
def OpenSpec.upto (s : _root_.Go.ChangeSpec) : _root_.Go.OpenSpec := { _root_.Go.OpenSpec.ofChange s with cond := some uptoSmall }

/-- 'tarnlaw04.DiskPlays', WHERE WHAT IT READS IS OF BULK AT MOST 1048576: true; the input reads as it did. -/
def diskPlaysUptoRow : OpenClaim := { program := "ytfacifhlcaghiaa", sum := "3e755ec08990eb942543d561c4798e18f7f3a2dfcccf10db32859dfdd296aa95", func := "tarn/tarnlaw04.DiskPlays", spec := "diskPlays", inPlace := ["internal/abi.NoEscape", "internal/bytealg.MakeNoZero"], unfollowed := true, recurses := true, apart := false, narrowed := true }
def DiskPlaysUptoSaid : Prop := diskPlaysUptoRow.holds Try.pinned (OpenSpec.upto diskPlaysSpec)

/-- 'tarnlaw04.DiskNone', WHERE WHAT IT READS IS OF BULK AT MOST 1048576: true; the input reads as it did. -/
def diskNoneUptoRow : OpenClaim := { program := "ytfacifhlcaghiaa", sum := "3e755ec08990eb942543d561c4798e18f7f3a2dfcccf10db32859dfdd296aa95", func := "tarn/tarnlaw04.DiskNone", spec := "diskNone", inPlace := ["internal/abi.NoEscape", "internal/bytealg.MakeNoZero"], unfollowed := true, recurses := true, apart := false, narrowed := true }
def DiskNoneUptoSaid : Prop := diskNoneUptoRow.holds Try.pinned (OpenSpec.upto diskNoneSpec)

/-- 'tarnlaw06.AreaMay', WHERE WHAT IT READS IS OF BULK AT MOST 1048576: true; the input reads as it did. -/
def areaMayUptoRow : OpenClaim := { program := "ytfacifhlcaghiaa", sum := "3e755ec08990eb942543d561c4798e18f7f3a2dfcccf10db32859dfdd296aa95", func := "tarn/tarnlaw06.AreaMay", spec := "areaMay", inPlace := ["internal/abi.NoEscape", "internal/bytealg.MakeNoZero"], unfollowed := true, recurses := true, apart := false, narrowed := true }
def AreaMayUptoSaid : Prop := areaMayUptoRow.holds Try.pinned (OpenSpec.upto areaMaySpec)

/-- 'tarnlaw05.SuperPuts', WHERE WHAT IT READS IS OF BULK AT MOST 1048576: true; the input reads as it did. -/
def superPutsUptoRow : OpenClaim := { program := "ytfacifhlcaghiaa", sum := "3e755ec08990eb942543d561c4798e18f7f3a2dfcccf10db32859dfdd296aa95", func := "tarn/tarnlaw05.SuperPuts", spec := "superPuts", inPlace := ["internal/abi.NoEscape", "internal/bytealg.MakeNoZero"], unfollowed := true, recurses := true, apart := false, narrowed := true }
def SuperPutsUptoSaid : Prop := superPutsUptoRow.holds Try.pinned (OpenSpec.upto superPutsSpec)

/-- 'tarnlaw05.SuperTorn', WHERE WHAT IT READS IS OF BULK AT MOST 1048576: true; the input reads as it did. -/
def superTornUptoRow : OpenClaim := { program := "ytfacifhlcaghiaa", sum := "3e755ec08990eb942543d561c4798e18f7f3a2dfcccf10db32859dfdd296aa95", func := "tarn/tarnlaw05.SuperTorn", spec := "superTorn", inPlace := ["internal/abi.NoEscape", "internal/bytealg.MakeNoZero"], unfollowed := true, recurses := true, apart := false, narrowed := true }
def SuperTornUptoSaid : Prop := superTornUptoRow.holds Try.pinned (OpenSpec.upto superTornSpec)

/-- 'tarnlaw05.SuperInput', WHERE WHAT IT READS IS OF BULK AT MOST 1048576: true; the input reads as it did. -/
def superInputUptoRow : OpenClaim := { program := "ytfacifhlcaghiaa", sum := "3e755ec08990eb942543d561c4798e18f7f3a2dfcccf10db32859dfdd296aa95", func := "tarn/tarnlaw05.SuperInput", spec := "superInput", inPlace := ["internal/abi.NoEscape", "internal/bytealg.MakeNoZero"], unfollowed := true, recurses := true, apart := false, narrowed := true }
def SuperInputUptoSaid : Prop := superInputUptoRow.holds Try.pinned (OpenSpec.upto superInputSpec)

/-- 'tarnlaw56.ImagePacks', WHERE WHAT IT READS IS OF BULK AT MOST 1048576: true; the input reads as it did. -/
def imagePacksUptoRow : OpenClaim := { program := "ytfacifhlcaghiaa", sum := "3e755ec08990eb942543d561c4798e18f7f3a2dfcccf10db32859dfdd296aa95", func := "tarn/tarnlaw56.ImagePacks", spec := "imagePacks", inPlace := ["internal/abi.NoEscape", "internal/bytealg.MakeNoZero"], unfollowed := true, recurses := true, apart := false, narrowed := true }
def ImagePacksUptoSaid : Prop := imagePacksUptoRow.holds Try.pinned (OpenSpec.upto imagePacksSpec)

/-- 'tarnlaw56.ImageUnpacks', WHERE WHAT IT READS IS OF BULK AT MOST 1048576: true; the input reads as it did. -/
def imageUnpacksUptoRow : OpenClaim := { program := "ytfacifhlcaghiaa", sum := "3e755ec08990eb942543d561c4798e18f7f3a2dfcccf10db32859dfdd296aa95", func := "tarn/tarnlaw56.ImageUnpacks", spec := "imageUnpacks", inPlace := ["internal/abi.NoEscape", "internal/bytealg.MakeNoZero"], unfollowed := true, recurses := true, apart := false, narrowed := true }
def ImageUnpacksUptoSaid : Prop := imageUnpacksUptoRow.holds Try.pinned (OpenSpec.upto imageUnpacksSpec)

/-- 'tarnlaw06.AreaTorn', WHERE WHAT IT READS IS OF BULK AT MOST 1048576: true; the input reads as it did. -/
def areaTornUptoRow : OpenClaim := { program := "ytfacifhlcaghiaa", sum := "3e755ec08990eb942543d561c4798e18f7f3a2dfcccf10db32859dfdd296aa95", func := "tarn/tarnlaw06.AreaTorn", spec := "areaTorn", inPlace := ["internal/abi.NoEscape", "internal/bytealg.MakeNoZero"], unfollowed := true, recurses := true, apart := false, narrowed := true }
def AreaTornUptoSaid : Prop := areaTornUptoRow.holds Try.pinned (OpenSpec.upto areaTornSpec)

/-- 'tarnlaw05.SuperPlays', WHERE WHAT IT READS IS OF BULK AT MOST 1048576: true; the input reads as it did. -/
def superPlaysUptoRow : OpenClaim := { program := "ytfacifhlcaghiaa", sum := "3e755ec08990eb942543d561c4798e18f7f3a2dfcccf10db32859dfdd296aa95", func := "tarn/tarnlaw05.SuperPlays", spec := "superPlays", inPlace := ["internal/abi.NoEscape", "internal/bytealg.MakeNoZero"], unfollowed := true, recurses := true, apart := false, narrowed := true }
def SuperPlaysUptoSaid : Prop := superPlaysUptoRow.holds Try.pinned (OpenSpec.upto superPlaysSpec)

/-- 'tarnlaw05.SuperTwice', WHERE WHAT IT READS IS OF BULK AT MOST 1048576: true; the input reads as it did. -/
def superTwiceUptoRow : OpenClaim := { program := "ytfacifhlcaghiaa", sum := "3e755ec08990eb942543d561c4798e18f7f3a2dfcccf10db32859dfdd296aa95", func := "tarn/tarnlaw05.SuperTwice", spec := "superTwice", inPlace := ["internal/abi.NoEscape", "internal/bytealg.MakeNoZero"], unfollowed := true, recurses := true, apart := false, narrowed := true }
def SuperTwiceUptoSaid : Prop := superTwiceUptoRow.holds Try.pinned (OpenSpec.upto superTwiceSpec)

/-- 'tarnlaw56.ImageLays', WHERE WHAT IT READS IS OF BULK AT MOST 1048576: true; the input reads as it did. -/
def imageLaysUptoRow : OpenClaim := { program := "ytfacifhlcaghiaa", sum := "3e755ec08990eb942543d561c4798e18f7f3a2dfcccf10db32859dfdd296aa95", func := "tarn/tarnlaw56.ImageLays", spec := "imageLays", inPlace := ["internal/abi.NoEscape", "internal/bytealg.MakeNoZero"], unfollowed := true, recurses := true, apart := false, narrowed := true }
def ImageLaysUptoSaid : Prop := imageLaysUptoRow.holds Try.pinned (OpenSpec.upto imageLaysSpec)

end Rows
end Go.Proofs.Ytfacifhlcaghiaa
