/- Layer 2 handed to the print (gprint.py): the check of bytes, where the table is laid; the reference's. -/
import Derived.Test.YtjkjcpbhlgjgcaaDoorCrcC
import Derived.Test.YtjkjcpbhlgjgcaaDoorGvNum
namespace Go.Proofs.YtjkjcpbhlgjgcaaDoor.Gv
open Go Go.RowKit
open Go.Proofs.YtjkjcpbhlgjgcaaDoor.Gen
open Go.Proofs.YtjkjcpbhlgjgcaaDoor.CrcC (Tab ofN of_any refOf_any)
set_option linter.unusedVariables false
/-- The table is laid. -/
def TabH (w : World) : Prop := Tab w
theorem TabH.below {w W : World} (h : TabH w) (hb : Below w.heap.size w W) : TabH W := Tab.b h hb
def crc_Of.f (a0 : ByteArray) : Option Int := if a0.size ≤ 140737488355328 then some (ofN a0.data.toList : Int) else none
theorem crc_Of.calls (a0 : ByteArray) (r : Int) (w : World) (hT : TabH w) (h : crc_Of.f a0 = some r) : Calls Tryd.prog 27 #[.string a0] w fun e w' => e = .returned (.int .u32 r) ∧ Below w.heap.size w w' := by
  unfold crc_Of.f at h
  split at h
  · rename_i hb
    injection h with h
    subst h
    have := of_any a0.data.toList (by rw [size_list]; exact hb) w hT
    rwa [mk_list] at this
  · cases h
def tarnref02_Of.f (a0 : ByteArray) : Option Int := if a0.size ≤ 140737488355328 then some (ofN a0.data.toList : Int) else none
theorem tarnref02_Of.calls (a0 : ByteArray) (r : Int) (w : World) (h : tarnref02_Of.f a0 = some r) : Calls Tryd.prog 33 #[.string a0] w fun e w' => e = .returned (.int .u32 r) ∧ Below w.heap.size w w' := by
  unfold tarnref02_Of.f at h
  split at h
  · rename_i hb
    injection h with h
    subst h
    have := refOf_any a0.data.toList (by rw [size_list]; exact hb) w
    rwa [mk_list] at this
  · cases h
end Go.Proofs.YtjkjcpbhlgjgcaaDoor.Gv
