/-
  No cell of these rows narrows 'for every input' (looked for: loops, veiled, ifaces, maps, wideKeys, modest, calm, conditions, laid).
  DERIVED. THE GIVEN ROWS OF THIS SEAT. 6 by the template 'for every input the law returns true; each argument reads behind the call as it read before'; 0 by the template 'total and deterministic' (their statements: YtanggnjifckhmaaTotals.lean).
  GIVEN WITH THE SEED: the statements are not yours to turn. If you find one false, say at which input.
  Laid BY PROGRAM, IN A SANDBOX (cutbox-rows.mjs): the forced cells as the released guide's own fill.sh prints them over the translation bb56ccd1b63b3775… (all of the seat's roots in one cut). By AI agents, Wed Nov 11 2026. No macro, syntax, notation, axiom, sorry.
-/
import Derived.Test.YtanggnjifckhmaaChecked
import GoSem.Claim
import GoSem.ClaimJoined
import GoSem.ClaimMapViews
import Derived.JoinedTies
import Derived.KernelRfl
namespace Go.Proofs.Ytanggnjifckhmaa
/- THE CELL 'sum', in the pinned program and in every row, IS THE sha256 OF THE DUMP (.gsa) THAT YtanggnjifckhmaaProg.lean LOADS. Nothing in Lean hashes anything: it is a label: what it is worth is what the hold of that sum in a sandbox is worth. -/
noncomputable def Try.pinned : Pinned := { name := "ytanggnjifckhmaa", sum := "bb56ccd1b63b3775f700e4555a3111f1e584a4975bce1a7cee1de79ee3bdeee2", checked := Try.checked }
namespace Rows
def none {H : Type} : Left H := { results := [], args := [] }

/-- 'tarnlaw29.PendPlays': WHATEVER THE INPUT: true; the input reads as it did. -/
def pendPlaysSpec : ChangeSpec := { name := "pendPlays", fn := fun _ => fun
  | [d1, d2] => { results := [.lit (.bool true)], args := [d1, d2] }
  | _ => none }
def pendPlaysRow : OpenClaim := { program := "ytanggnjifckhmaa", sum := "bb56ccd1b63b3775f700e4555a3111f1e584a4975bce1a7cee1de79ee3bdeee2", func := "tarn/tarnlaw29.PendPlays", spec := "pendPlays", apart := false }
def PendPlaysSaid : Prop := pendPlaysRow.holds Try.pinned (OpenSpec.ofChange pendPlaysSpec)

/-- ITS FALSE NEIGHBOUR: 'it returns false'. Refute it at one input. -/
def pendPlaysWrong : ChangeSpec := { name := "pendPlays", fn := fun _ => fun
  | [d1, d2] => { results := [.lit (.bool false)], args := [d1, d2] }
  | _ => none }
def PendPlaysWrongFalsely : Prop := pendPlaysRow.holds Try.pinned (OpenSpec.ofChange pendPlaysWrong)

/-- 'tarnlaw29.PendOnce': WHATEVER THE INPUT: true; the input reads as it did. -/
def pendOnceSpec : ChangeSpec := { name := "pendOnce", fn := fun _ => fun
  | [d1, d2] => { results := [.lit (.bool true)], args := [d1, d2] }
  | _ => none }
def pendOnceRow : OpenClaim := { program := "ytanggnjifckhmaa", sum := "bb56ccd1b63b3775f700e4555a3111f1e584a4975bce1a7cee1de79ee3bdeee2", func := "tarn/tarnlaw29.PendOnce", spec := "pendOnce", apart := false }
def PendOnceSaid : Prop := pendOnceRow.holds Try.pinned (OpenSpec.ofChange pendOnceSpec)

/-- ITS FALSE NEIGHBOUR: 'it returns false'. Refute it at one input. -/
def pendOnceWrong : ChangeSpec := { name := "pendOnce", fn := fun _ => fun
  | [d1, d2] => { results := [.lit (.bool false)], args := [d1, d2] }
  | _ => none }
def PendOnceWrongFalsely : Prop := pendOnceRow.holds Try.pinned (OpenSpec.ofChange pendOnceWrong)

/-- 'tarnlaw49.WatchPlays': WHATEVER THE INPUT: true; the input reads as it did. -/
def watchPlaysSpec : ChangeSpec := { name := "watchPlays", fn := fun _ => fun
  | [d1, d2] => { results := [.lit (.bool true)], args := [d1, d2] }
  | _ => none }
def watchPlaysRow : OpenClaim := { program := "ytanggnjifckhmaa", sum := "bb56ccd1b63b3775f700e4555a3111f1e584a4975bce1a7cee1de79ee3bdeee2", func := "tarn/tarnlaw49.WatchPlays", spec := "watchPlays", apart := false }
def WatchPlaysSaid : Prop := watchPlaysRow.holds Try.pinned (OpenSpec.ofChange watchPlaysSpec)

/-- ITS FALSE NEIGHBOUR: 'it returns false'. Refute it at one input. -/
def watchPlaysWrong : ChangeSpec := { name := "watchPlays", fn := fun _ => fun
  | [d1, d2] => { results := [.lit (.bool false)], args := [d1, d2] }
  | _ => none }
def WatchPlaysWrongFalsely : Prop := watchPlaysRow.holds Try.pinned (OpenSpec.ofChange watchPlaysWrong)

/-- 'tarnlaw49.WatchMost': WHATEVER THE INPUT: true; the input reads as it did. -/
def watchMostSpec : ChangeSpec := { name := "watchMost", fn := fun _ => fun
  | [d] => { results := [.lit (.bool true)], args := [d] }
  | _ => none }
def watchMostRow : OpenClaim := { program := "ytanggnjifckhmaa", sum := "bb56ccd1b63b3775f700e4555a3111f1e584a4975bce1a7cee1de79ee3bdeee2", func := "tarn/tarnlaw49.WatchMost", spec := "watchMost", apart := false }
def WatchMostSaid : Prop := watchMostRow.holds Try.pinned (OpenSpec.ofChange watchMostSpec)

/-- ITS FALSE NEIGHBOUR: 'it returns false'. Refute it at one input. -/
def watchMostWrong : ChangeSpec := { name := "watchMost", fn := fun _ => fun
  | [d] => { results := [.lit (.bool false)], args := [d] }
  | _ => none }
def WatchMostWrongFalsely : Prop := watchMostRow.holds Try.pinned (OpenSpec.ofChange watchMostWrong)

/-- 'tarnlaw21.OrderPlays': WHATEVER THE INPUT: true; the input reads as it did. -/
def orderPlaysSpec : ChangeSpec := { name := "orderPlays", fn := fun _ => fun
  | [d] => { results := [.lit (.bool true)], args := [d] }
  | _ => none }
def orderPlaysRow : OpenClaim := { program := "ytanggnjifckhmaa", sum := "bb56ccd1b63b3775f700e4555a3111f1e584a4975bce1a7cee1de79ee3bdeee2", func := "tarn/tarnlaw21.OrderPlays", spec := "orderPlays", inPlace := ["slices.overlaps[int]"], apart := false }
def OrderPlaysSaid : Prop := orderPlaysRow.holds Try.pinned (OpenSpec.ofChange orderPlaysSpec)

/-- ITS FALSE NEIGHBOUR: 'it returns false'. Refute it at one input. -/
def orderPlaysWrong : ChangeSpec := { name := "orderPlays", fn := fun _ => fun
  | [d] => { results := [.lit (.bool false)], args := [d] }
  | _ => none }
def OrderPlaysWrongFalsely : Prop := orderPlaysRow.holds Try.pinned (OpenSpec.ofChange orderPlaysWrong)

/-- 'tarnlaw21.OrderNone': WHATEVER THE INPUT: true; the input reads as it did. -/
def orderNoneSpec : ChangeSpec := { name := "orderNone", fn := fun _ => fun
  | [d] => { results := [.lit (.bool true)], args := [d] }
  | _ => none }
def orderNoneRow : OpenClaim := { program := "ytanggnjifckhmaa", sum := "bb56ccd1b63b3775f700e4555a3111f1e584a4975bce1a7cee1de79ee3bdeee2", func := "tarn/tarnlaw21.OrderNone", spec := "orderNone", inPlace := ["slices.overlaps[int]"], apart := false }
def OrderNoneSaid : Prop := orderNoneRow.holds Try.pinned (OpenSpec.ofChange orderNoneSpec)

/-- ITS FALSE NEIGHBOUR: 'it returns false'. Refute it at one input. -/
def orderNoneWrong : ChangeSpec := { name := "orderNone", fn := fun _ => fun
  | [d] => { results := [.lit (.bool false)], args := [d] }
  | _ => none }
def OrderNoneWrongFalsely : Prop := orderNoneRow.holds Try.pinned (OpenSpec.ofChange orderNoneWrong)

/- THE SECOND FORM. 'bulk': how many values and letters a reading holds, each counted each time it is reached (what is shared counts as often as it is met; a slice's spare places count too). A statement '..UptoSaid' is the law's where the arguments, and the package variables that the reading takes, are together of bulk at most 1048576: NARROWER than '..Said'. Prove '..Said' where nothing that the law and all that it calls make is longer than what came in: it says more and counts as full. Else prove '..UptoSaid'. A law counts once. -/
mutual
def uptoBulk {H : Type} : DataW H → Nat
  | .lit (.string bytes) => bytes.length + 1
  | .lit _ => 1
  | .nil => 1
  | .ptr d => uptoBulk d + 1
  | .slice elems spare => uptoBulkAll elems + uptoBulkAll spare + 1
  | .agg parts => uptoBulkAll parts + 1
  | .iface _ d => uptoBulk d + 1
  | .map entries => uptoBulkEntries entries + 1
  | .held _ => 1
def uptoBulkAll {H : Type} : List (DataW H) → Nat
  | [] => 0
  | d :: r => uptoBulk d + uptoBulkAll r
def uptoBulkEntries {H : Type} : List (Lit × DataW H) → Nat
  | [] => 0
  | x :: r => uptoBulkEntry x + uptoBulkEntries r
def uptoBulkEntry {H : Type} : Lit × DataW H → Nat
  | (.string bytes, d) => bytes.length + uptoBulk d + 1
  | (_, d) => uptoBulk d + 1
 end
def uptoSmall : (H : Type) → List (DataW H) → Bool := fun _ ds => decide (uptoBulkAll ds ≤ 1048576)
def OpenSpec.upto (s : _root_.Go.ChangeSpec) : _root_.Go.OpenSpec := { _root_.Go.OpenSpec.ofChange s with cond := some uptoSmall }

/-- 'tarnlaw29.PendPlays', WHERE WHAT IT READS IS OF BULK AT MOST 1048576: true; the input reads as it did. -/
def pendPlaysUptoRow : OpenClaim := { program := "ytanggnjifckhmaa", sum := "bb56ccd1b63b3775f700e4555a3111f1e584a4975bce1a7cee1de79ee3bdeee2", func := "tarn/tarnlaw29.PendPlays", spec := "pendPlays", apart := false, narrowed := true }
def PendPlaysUptoSaid : Prop := pendPlaysUptoRow.holds Try.pinned (OpenSpec.upto pendPlaysSpec)

/-- 'tarnlaw29.PendOnce', WHERE WHAT IT READS IS OF BULK AT MOST 1048576: true; the input reads as it did. -/
def pendOnceUptoRow : OpenClaim := { program := "ytanggnjifckhmaa", sum := "bb56ccd1b63b3775f700e4555a3111f1e584a4975bce1a7cee1de79ee3bdeee2", func := "tarn/tarnlaw29.PendOnce", spec := "pendOnce", apart := false, narrowed := true }
def PendOnceUptoSaid : Prop := pendOnceUptoRow.holds Try.pinned (OpenSpec.upto pendOnceSpec)

/-- 'tarnlaw49.WatchPlays', WHERE WHAT IT READS IS OF BULK AT MOST 1048576: true; the input reads as it did. -/
def watchPlaysUptoRow : OpenClaim := { program := "ytanggnjifckhmaa", sum := "bb56ccd1b63b3775f700e4555a3111f1e584a4975bce1a7cee1de79ee3bdeee2", func := "tarn/tarnlaw49.WatchPlays", spec := "watchPlays", apart := false, narrowed := true }
def WatchPlaysUptoSaid : Prop := watchPlaysUptoRow.holds Try.pinned (OpenSpec.upto watchPlaysSpec)

/-- 'tarnlaw49.WatchMost', WHERE WHAT IT READS IS OF BULK AT MOST 1048576: true; the input reads as it did. -/
def watchMostUptoRow : OpenClaim := { program := "ytanggnjifckhmaa", sum := "bb56ccd1b63b3775f700e4555a3111f1e584a4975bce1a7cee1de79ee3bdeee2", func := "tarn/tarnlaw49.WatchMost", spec := "watchMost", apart := false, narrowed := true }
def WatchMostUptoSaid : Prop := watchMostUptoRow.holds Try.pinned (OpenSpec.upto watchMostSpec)

/-- 'tarnlaw21.OrderPlays', WHERE WHAT IT READS IS OF BULK AT MOST 1048576: true; the input reads as it did. -/
def orderPlaysUptoRow : OpenClaim := { program := "ytanggnjifckhmaa", sum := "bb56ccd1b63b3775f700e4555a3111f1e584a4975bce1a7cee1de79ee3bdeee2", func := "tarn/tarnlaw21.OrderPlays", spec := "orderPlays", inPlace := ["slices.overlaps[int]"], apart := false, narrowed := true }
def OrderPlaysUptoSaid : Prop := orderPlaysUptoRow.holds Try.pinned (OpenSpec.upto orderPlaysSpec)

/-- 'tarnlaw21.OrderNone', WHERE WHAT IT READS IS OF BULK AT MOST 1048576: true; the input reads as it did. -/
def orderNoneUptoRow : OpenClaim := { program := "ytanggnjifckhmaa", sum := "bb56ccd1b63b3775f700e4555a3111f1e584a4975bce1a7cee1de79ee3bdeee2", func := "tarn/tarnlaw21.OrderNone", spec := "orderNone", inPlace := ["slices.overlaps[int]"], apart := false, narrowed := true }
def OrderNoneUptoSaid : Prop := orderNoneUptoRow.holds Try.pinned (OpenSpec.upto orderNoneSpec)

end Rows
end Go.Proofs.Ytanggnjifckhmaa
