/-
  No cell of these rows narrows 'for every input' (looked for: loops, veiled, ifaces, maps, wideKeys, modest, calm, conditions, laid).
  DERIVED. THE GIVEN ROWS OF THIS SEAT. 5 by the template 'for every input the law returns true; each argument reads behind the call as it read before'; 0 by the template 'total and deterministic' (their statements: YtjkjcpbhlgjgcaaTotals.lean).
  GIVEN WITH THE SEED: the statements are not yours to turn. If you find one false, say at which input.
  Laid BY PROGRAM, IN A SANDBOX (cutbox-rows.mjs): the forced cells as the released guide's own fill.sh prints them over the translation aa64be0067d3f5a6… (all of the seat's roots in one cut). By AI agents, Wed Nov 11 2026. No macro, syntax, notation, axiom, sorry.
-/
import Derived.Test.YtjkjcpbhlgjgcaaChecked
import GoSem.Claim
import GoSem.ClaimJoined
import GoSem.ClaimMapViews
import Derived.JoinedTies
import Derived.KernelRfl
namespace Go.Proofs.Ytjkjcpbhlgjgcaa
/- THE CELL 'sum', in the pinned program and in every row, IS THE sha256 OF THE DUMP (.gsa) THAT YtjkjcpbhlgjgcaaProg.lean LOADS. Nothing in Lean hashes anything: it is a label: what it is worth is what the hold of that sum in a sandbox is worth. -/
noncomputable def Try.pinned : Pinned := { name := "ytjkjcpbhlgjgcaa", sum := "aa64be0067d3f5a69be11e109ef51b5f3bb5a0ee164eb5d96c73613f54688591", checked := Try.checked }
namespace Rows
def none {H : Type} : Left H := { results := [], args := [] }

/-- 'tarnlaw01.NumNone': WHATEVER THE INPUT: true; the input reads as it did. -/
def numNoneSpec : ChangeSpec := { name := "numNone", fn := fun _ => fun
  | [d1, d2] => { results := [.lit (.bool true)], args := [d1, d2] }
  | _ => none }
def numNoneRow : OpenClaim := { program := "ytjkjcpbhlgjgcaa", sum := "aa64be0067d3f5a69be11e109ef51b5f3bb5a0ee164eb5d96c73613f54688591", func := "tarn/tarnlaw01.NumNone", spec := "numNone", inPlace := ["internal/abi.NoEscape"], apart := false }
def NumNoneSaid : Prop := numNoneRow.holds Try.pinned (OpenSpec.ofChange numNoneSpec)

/-- ITS FALSE NEIGHBOUR: 'it returns false'. Refute it at one input. -/
def numNoneWrong : ChangeSpec := { name := "numNone", fn := fun _ => fun
  | [d1, d2] => { results := [.lit (.bool false)], args := [d1, d2] }
  | _ => none }
def NumNoneWrongFalsely : Prop := numNoneRow.holds Try.pinned (OpenSpec.ofChange numNoneWrong)

/-- 'tarnlaw01.NumPuts': WHATEVER THE INPUT: true; the input reads as it did. -/
def numPutsSpec : ChangeSpec := { name := "numPuts", fn := fun _ => fun
  | [d1, d2, d3] => { results := [.lit (.bool true)], args := [d1, d2, d3] }
  | _ => none }
def numPutsRow : OpenClaim := { program := "ytjkjcpbhlgjgcaa", sum := "aa64be0067d3f5a69be11e109ef51b5f3bb5a0ee164eb5d96c73613f54688591", func := "tarn/tarnlaw01.NumPuts", spec := "numPuts", inPlace := ["internal/abi.NoEscape"], recurses := true, apart := false }
def NumPutsSaid : Prop := numPutsRow.holds Try.pinned (OpenSpec.ofChange numPutsSpec)

/-- ITS FALSE NEIGHBOUR: 'it returns false'. Refute it at one input. -/
def numPutsWrong : ChangeSpec := { name := "numPuts", fn := fun _ => fun
  | [d1, d2, d3] => { results := [.lit (.bool false)], args := [d1, d2, d3] }
  | _ => none }
def NumPutsWrongFalsely : Prop := numPutsRow.holds Try.pinned (OpenSpec.ofChange numPutsWrong)

/-- 'tarnlaw01.NumBack': WHATEVER THE INPUT: true; the input reads as it did. -/
def numBackSpec : ChangeSpec := { name := "numBack", fn := fun _ => fun
  | [d1, d2, d3] => { results := [.lit (.bool true)], args := [d1, d2, d3] }
  | _ => none }
def numBackRow : OpenClaim := { program := "ytjkjcpbhlgjgcaa", sum := "aa64be0067d3f5a69be11e109ef51b5f3bb5a0ee164eb5d96c73613f54688591", func := "tarn/tarnlaw01.NumBack", spec := "numBack", inPlace := ["internal/abi.NoEscape"], recurses := true, apart := false }
def NumBackSaid : Prop := numBackRow.holds Try.pinned (OpenSpec.ofChange numBackSpec)

/-- ITS FALSE NEIGHBOUR: 'it returns false'. Refute it at one input. -/
def numBackWrong : ChangeSpec := { name := "numBack", fn := fun _ => fun
  | [d1, d2, d3] => { results := [.lit (.bool false)], args := [d1, d2, d3] }
  | _ => none }
def NumBackWrongFalsely : Prop := numBackRow.holds Try.pinned (OpenSpec.ofChange numBackWrong)

/-- 'tarnlaw08.ItemOf': WHATEVER THE INPUT: true; the input reads as it did. -/
def itemOfSpec : ChangeSpec := { name := "itemOf", fn := fun _ => fun
  | [d1, d2, d3] => { results := [.lit (.bool true)], args := [d1, d2, d3] }
  | _ => none }
def itemOfRow : OpenClaim := { program := "ytjkjcpbhlgjgcaa", sum := "aa64be0067d3f5a69be11e109ef51b5f3bb5a0ee164eb5d96c73613f54688591", func := "tarn/tarnlaw08.ItemOf", spec := "itemOf", inPlace := ["internal/abi.NoEscape", "internal/bytealg.MakeNoZero"], apart := false }
def ItemOfSaid : Prop := itemOfRow.holds Try.pinned (OpenSpec.ofChange itemOfSpec)

/-- ITS FALSE NEIGHBOUR: 'it returns false'. Refute it at one input. -/
def itemOfWrong : ChangeSpec := { name := "itemOf", fn := fun _ => fun
  | [d1, d2, d3] => { results := [.lit (.bool false)], args := [d1, d2, d3] }
  | _ => none }
def ItemOfWrongFalsely : Prop := itemOfRow.holds Try.pinned (OpenSpec.ofChange itemOfWrong)

/-- 'tarnlaw08.ItemPuts': WHATEVER THE INPUT: true; the input reads as it did. -/
def itemPutsSpec : ChangeSpec := { name := "itemPuts", fn := fun _ => fun
  | [d1, d2] => { results := [.lit (.bool true)], args := [d1, d2] }
  | _ => none }
def itemPutsRow : OpenClaim := { program := "ytjkjcpbhlgjgcaa", sum := "aa64be0067d3f5a69be11e109ef51b5f3bb5a0ee164eb5d96c73613f54688591", func := "tarn/tarnlaw08.ItemPuts", spec := "itemPuts", inPlace := ["internal/abi.NoEscape", "internal/bytealg.MakeNoZero"], recurses := true, apart := false }
def ItemPutsSaid : Prop := itemPutsRow.holds Try.pinned (OpenSpec.ofChange itemPutsSpec)

/-- ITS FALSE NEIGHBOUR: 'it returns false'. Refute it at one input. -/
def itemPutsWrong : ChangeSpec := { name := "itemPuts", fn := fun _ => fun
  | [d1, d2] => { results := [.lit (.bool false)], args := [d1, d2] }
  | _ => none }
def ItemPutsWrongFalsely : Prop := itemPutsRow.holds Try.pinned (OpenSpec.ofChange itemPutsWrong)

/- THE SECOND FORM. 'bulk': how many values and letters a reading holds, each counted each time it is reached (what is shared counts as often as it is met; a slice's spare places count too). A statement '..UptoSaid' is the law's where the arguments, and the package variables that the reading takes, are together of bulk at most 1048576: NARROWER than '..Said'. Prove '..Said' where nothing that the law and all that it calls make is longer than what came in: it says more and counts as full. Else prove '..UptoSaid'. A law counts once. -/
mutual
def uptoBulk {H : Type} : DataW H → Nat
  | .lit (.string bytes) => bytes.length + 1
  | .lit _ => 1
  | .nil => 1
  | .ptr d => uptoBulk d + 1
  | .slice elems spare => uptoBulkAll elems + uptoBulkAll spare + 1
  | .agg parts => uptoBulkAll parts + 1
  | .iface _ d => uptoBulk d + 1
  | .map entries => uptoBulkEntries entries + 1
  | .held _ => 1
def uptoBulkAll {H : Type} : List (DataW H) → Nat
  | [] => 0
  | d :: r => uptoBulk d + uptoBulkAll r
def uptoBulkEntries {H : Type} : List (Lit × DataW H) → Nat
  | [] => 0
  | x :: r => uptoBulkEntry x + uptoBulkEntries r
def uptoBulkEntry {H : Type} : Lit × DataW H → Nat
  | (.string bytes, d) => bytes.length + uptoBulk d + 1
  | (_, d) => uptoBulk d + 1
 end
def uptoSmall : (H : Type) → List (DataW H) → Bool := fun _ ds => decide (uptoBulkAll ds ≤ 1048576)
def OpenSpec.upto (s : _root_.Go.ChangeSpec) : _root_.Go.OpenSpec := { _root_.Go.OpenSpec.ofChange s with cond := some uptoSmall }

/-- 'tarnlaw01.NumNone', WHERE WHAT IT READS IS OF BULK AT MOST 1048576: true; the input reads as it did. -/
def numNoneUptoRow : OpenClaim := { program := "ytjkjcpbhlgjgcaa", sum := "aa64be0067d3f5a69be11e109ef51b5f3bb5a0ee164eb5d96c73613f54688591", func := "tarn/tarnlaw01.NumNone", spec := "numNone", inPlace := ["internal/abi.NoEscape"], apart := false, narrowed := true }
def NumNoneUptoSaid : Prop := numNoneUptoRow.holds Try.pinned (OpenSpec.upto numNoneSpec)

/-- 'tarnlaw01.NumPuts', WHERE WHAT IT READS IS OF BULK AT MOST 1048576: true; the input reads as it did. -/
def numPutsUptoRow : OpenClaim := { program := "ytjkjcpbhlgjgcaa", sum := "aa64be0067d3f5a69be11e109ef51b5f3bb5a0ee164eb5d96c73613f54688591", func := "tarn/tarnlaw01.NumPuts", spec := "numPuts", inPlace := ["internal/abi.NoEscape"], recurses := true, apart := false, narrowed := true }
def NumPutsUptoSaid : Prop := numPutsUptoRow.holds Try.pinned (OpenSpec.upto numPutsSpec)

/-- 'tarnlaw01.NumBack', WHERE WHAT IT READS IS OF BULK AT MOST 1048576: true; the input reads as it did. -/
def numBackUptoRow : OpenClaim := { program := "ytjkjcpbhlgjgcaa", sum := "aa64be0067d3f5a69be11e109ef51b5f3bb5a0ee164eb5d96c73613f54688591", func := "tarn/tarnlaw01.NumBack", spec := "numBack", inPlace := ["internal/abi.NoEscape"], recurses := true, apart := false, narrowed := true }
def NumBackUptoSaid : Prop := numBackUptoRow.holds Try.pinned (OpenSpec.upto numBackSpec)

/-- 'tarnlaw08.ItemOf', WHERE WHAT IT READS IS OF BULK AT MOST 1048576: true; the input reads as it did. -/
def itemOfUptoRow : OpenClaim := { program := "ytjkjcpbhlgjgcaa", sum := "aa64be0067d3f5a69be11e109ef51b5f3bb5a0ee164eb5d96c73613f54688591", func := "tarn/tarnlaw08.ItemOf", spec := "itemOf", inPlace := ["internal/abi.NoEscape", "internal/bytealg.MakeNoZero"], apart := false, narrowed := true }
def ItemOfUptoSaid : Prop := itemOfUptoRow.holds Try.pinned (OpenSpec.upto itemOfSpec)

/-- 'tarnlaw08.ItemPuts', WHERE WHAT IT READS IS OF BULK AT MOST 1048576: true; the input reads as it did. -/
def itemPutsUptoRow : OpenClaim := { program := "ytjkjcpbhlgjgcaa", sum := "aa64be0067d3f5a69be11e109ef51b5f3bb5a0ee164eb5d96c73613f54688591", func := "tarn/tarnlaw08.ItemPuts", spec := "itemPuts", inPlace := ["internal/abi.NoEscape", "internal/bytealg.MakeNoZero"], recurses := true, apart := false, narrowed := true }
def ItemPutsUptoSaid : Prop := itemPutsUptoRow.holds Try.pinned (OpenSpec.upto itemPutsSpec)

end Rows
end Go.Proofs.Ytjkjcpbhlgjgcaa
