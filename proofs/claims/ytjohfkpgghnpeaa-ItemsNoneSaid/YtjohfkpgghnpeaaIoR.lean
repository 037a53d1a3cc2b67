-- packed by pack.py, a program of this claim's repo
import Derived.Test.YtjohfkpgghnpeaaIoC
import Derived.Test.YtjohfkpgghnpeaaIoD
import Derived.Test.YtjohfkpgghnpeaaIoE
import Derived.Test.YtjohfkpgghnpeaaIoB
import Derived.Test.YtjohfkpgghnpeaaIoF
import Derived.Test.YtjohfkpgghnpeaaIoG
import Derived.Test.YtjohfkpgghnpeaaIoH
import Derived.Test.YtjohfkpgghnpeaaIoA
import Derived.Test.YtjohfkpgghnpeaaIoI
import Derived.Test.YtjohfkpgghnpeaaIoJ
import Derived.Test.YtjohfkpgghnpeaaIoK
import Derived.Test.YtjohfkpgghnpeaaIoL
import Derived.Test.YtjohfkpgghnpeaaIoM
import Derived.Test.YtjohfkpgghnpeaaIoN
import Derived.Test.YtjohfkpgghnpeaaIoO
import Derived.Test.YtjohfkpgghnpeaaIoP
import Derived.Test.YtjohfkpgghnpeaaIoQ
section
namespace Go.Proofs.Ytjohfkpgghnpeaa.itemsNone
open Go Go.RowKit
open Go.Proofs.Ytjohfkpgghnpeaa.Gen
set_option linter.unusedVariables false
theorem get_nil (b : Int) (W : World) : Calls Try.prog 32 #[.pointer none, .int .i64 b] W fun e w' => e = .returned (.tuple #[.agg #[.int .u64 0, .string ⟨#[]⟩], .bool false]) ∧ Below W.heap.size W w' := by
  go_enter Try.func32, Try.ntmps32
  go_wp2_with fail
  exact bodyPost_ret (v := .tuple #[.agg #[.int .u64 0, .string ⟨#[]⟩], .bool false]) (by simp [results, Try.results32, go_sem]) rfl ⟨rfl, (Below.refl _ W).alloc (Nat.le_refl _) _⟩
theorem put_nil (b n : Int) (s : ByteArray) (W : World) : Calls Try.prog 31 #[.pointer none, .int .i64 b, .agg #[.int .u64 n, .string s]] W fun e w' => e = .returned (.bool false) ∧ Below W.heap.size W w' := by
  go_enter Try.func31, Try.ntmps31
  go_wp2_with fail
  go_ret
  exact ⟨rfl, (Below.refl _ W).alloc (Nat.le_refl _) _⟩
theorem drop_nil (b n : Int) (W : World) : Calls Try.prog 30 #[.pointer none, .int .i64 b, .int .u64 n] W fun e w' => e = .returned (.bool false) ∧ Below W.heap.size W w' := by
  go_enter Try.func30, Try.ntmps30
  go_wp2_with fail
  go_ret
  exact ⟨rfl, Below.refl _ W⟩
theorem len_nil (W : World) : Calls Try.prog 33 #[.pointer none] W fun e w' => e = .returned (.int .i64 0) ∧ Below W.heap.size W w' := by
  go_enter Try.func33, Try.ntmps33
  go_wp2_with fail
  go_ret
  exact ⟨rfl, Below.refl _ W⟩
theorem all_nil (W : World) : Calls Try.prog 34 #[.pointer none] W fun e w' => e = .returned (.slice none 0 0) ∧ Below W.heap.size W w' := by
  go_enter Try.func34, Try.ntmps34
  go_wp2_with fail
  go_ret
  exact ⟨rfl, Below.refl _ W⟩
set_option maxHeartbeats 2000000 in
theorem none_walk (b n : Int) (s : ByteArray) (W : World) : Calls Try.prog 6 #[.int .i64 b, .agg #[.int .u64 n, .string s]] W fun e w' => e = .returned (.bool true) ∧ Below W.heap.size W w' := by
  obtain ⟨w0, hw0⟩ : ∃ w0, w0 = W.alloc (.cells #[.int .u64 n, .string s] 28) := ⟨_, rfl⟩
  have hb0 : Below W.heap.size W w0 := by rw [hw0]; exact (Below.refl _ W).alloc (Nat.le_refl _) _
  have hk0 : Blk w0 W.heap.size 28 #[.int .u64 n, .string s] := by rw [hw0]; exact Blk.fresh W _ _
  go_enter Try.func6, Try.ntmps6
  go_wp2_with fail
  rw [← hw0]
  clear hw0
  refine (get_nil b _).mono ?_; rintro e w1 ⟨rfl, hb⟩
  have hb1 := hb0.trans (hb.mono hb0.size)
  have hk1 := hk0.b hb
  clear hb hb0 hk0
  obtain ⟨w2, hw2⟩ : ∃ w2, w2 = w1.alloc (.cells #[.int .u64 0, .string ⟨#[]⟩] 28) := ⟨_, rfl⟩
  have hb2' : Below w1.heap.size w1 w2 := by rw [hw2]; exact (Below.refl _ w1).alloc (Nat.le_refl _) _
  have hb2 := hb1.trans (hb2'.mono hb1.size)
  have hk2 := hk1.b hb2'
  clear hb2' hb1 hk1
  go_wp2_with fail
  rw [← hw2]
  clear hw2
  refine (SetC.awake_calls _).mono ?_; rintro e w3 ⟨rfl, hb⟩
  have hb3 := hb2.trans (hb.mono hb2.size)
  have hk3 := hk2.b hb
  clear hb hb2 hk2
  have k0 := hk3.cell 0
  have k1 := hk3.cell 1
  go_wp2_with fail
  refine (put_nil b n s _).mono ?_; rintro e w4 ⟨rfl, hb⟩
  have hb4 := hb3.trans (hb.mono hb3.size)
  have hk4 := hk3.b hb
  clear hb hb3 hk3 k0 k1
  have k0 := hk4.cell 0
  go_wp2_with fail
  refine (drop_nil b n _).mono ?_; rintro e w5 ⟨rfl, hb⟩
  have hb5 := hb4.trans (hb.mono hb4.size)
  clear hb hb4 hk4 k0
  go_wp2_with fail
  refine (len_nil _).mono ?_; rintro e w6 ⟨rfl, hb⟩
  have hb6 := hb5.trans (hb.mono hb5.size)
  clear hb hb5
  go_wp2_with fail
  refine (all_nil _).mono ?_; rintro e w7 ⟨rfl, hb⟩
  have hb7 := hb6.trans (hb.mono hb6.size)
  clear hb hb6
  go_wp2_with fail
  go_ret
  exact ⟨rfl, hb7⟩
set_option maxRecDepth 20000 in
theorem walk {H : Type} {enc : TypeId × Value → H} {W : World} {b : Nat} (a0 : Int) (w0 : (Lit.int .i64 a0).wf = true) {v1 : Value} (ok1 : Value.okWide Try.prog W .any b 28 v1) {d1 : DataW H} {p1 : List MemPlace} (h1 : DataW.Trod enc Try.prog W 0 (fun _ => true) true 28 v1 d1 p1) :
    Calls Try.prog 6 #[.int .i64 a0, v1] W fun e w' => e = .returned (.bool true) ∧ Below W.heap.size W w' := by
  obtain ⟨y, rfl, h1, h2⟩ := Open.open_agg (.pair (.int .u64) .str) (by kernel_rfl) (by kernel_rfl) ok1 h1
  exact none_walk a0 y.1 y.2 W
end Go.Proofs.Ytjohfkpgghnpeaa.itemsNone
end
