/- The walk of the law DiskNone. -/
import Derived.Test.YtfacifhlcaghiaaDskL
import Derived.Test.YtfacifhlcaghiaaOpen
namespace Go.Proofs.Ytfacifhlcaghiaa.Dsk
open Go Go.RowKit
open Go.Proofs.Ytfacifhlcaghiaa.Gen
open Go.Proofs.Ytfacifhlcaghiaa.Own
open Go.Proofs.Ytfacifhlcaghiaa.RowK
set_option linter.unusedVariables false
set_option maxRecDepth 20000 in
set_option maxHeartbeats 4000000 in
theorem none_walk (n : Int) (s : Sec) (hs : s.length ≤ 140737488351232) (W : World) : Calls Try.prog 4 #[.int .i64 n, .string ⟨s.toArray⟩] W fun e w' => e = .returned (.bool true) ∧ Below W.heap.size W w' := by
  have hrd := fun w => Lib.hid (read_out w none 0 [] [] n (fun h e => by cases e))
  have hwr := fun w => Lib.hid (write_out w none 0 [] [] n s (by omega) (fun h e => by cases e))
  have HRD := Lib.hid hrd
  have HWR := Lib.hid hwr
  clear hrd hwr
  by_cases hin : 1 ≤ n ∧ n ≤ 4096
  · obtain ⟨m, rfl⟩ : ∃ m : Nat, n = m := ⟨n.toNat, by omega⟩
    have hnw := fun w => new_in w m (by omega) (by omega)
    unfold NewPost at hnw
    have HNW := Lib.hid hnw
    have t1 : decide (1 ≤ (m : Int)) = true := decide_eq_true hin.1
    have t2 : decide ((m : Int) ≤ 4096) = true := decide_eq_true hin.2
    clear hnw hin
    go_enter Try.func4, Try.ntmps4
    go_wp2_with fail
    refine (sync_nil _).mono ?_; rintro e w1 ⟨rfl, rfl⟩
    go_wp2_with fail
    refine (crash_nil _ _).mono ?_; rintro e w1 ⟨rfl, rfl⟩
    go_wp2_with fail
    refine (wipe_nil _).mono ?_; rintro e w1 ⟨rfl, rfl⟩
    go_wp2_with fail
    refine (HRD.out _).out.mono ?_; rintro e w1 ⟨rfl, b1⟩
    go_wp2_with fail
    refine (HNW.out _).mono ?_; rintro e w2 ⟨h, rfl, _, b2⟩
    replace b2 := b1.trans (b2.mono b1.size)
    go_wp2_with fail
    refine (awake4_any _).mono ?_; rintro e w3 ⟨rfl, b3⟩
    replace b3 := b2.trans (b3.mono b2.size)
    go_wp2_with fail
    refine (sectors_nil _).mono ?_; rintro e w4 ⟨rfl, rfl⟩
    go_wp2_with fail
    refine (later_nil _).mono ?_; rintro e w4 ⟨rfl, rfl⟩
    go_wp2_with fail
    refine (HWR.out _).out.mono ?_; rintro e w4 ⟨rfl, rfl⟩
    go_wp2_with fail
    go_ret
    exact ⟨rfl, b3⟩
  · have hnw := fun w => new_out w n (by omega)
    have HNW := Lib.hid hnw
    have hx : (decide (1 ≤ n) && decide (n ≤ 4096)) = false := by simpa using hin
    clear hnw
    by_cases h1 : 1 ≤ n
    · have t1 : decide (1 ≤ n) = true := decide_eq_true h1
      have t2 : decide (n ≤ 4096) = false := decide_eq_false (fun h => hin ⟨h1, h⟩)
      clear hin hx h1
      go_enter Try.func4, Try.ntmps4
      go_wp2_with fail
      refine (sync_nil _).mono ?_; rintro e w1 ⟨rfl, rfl⟩
      go_wp2_with fail
      refine (crash_nil _ _).mono ?_; rintro e w1 ⟨rfl, rfl⟩
      go_wp2_with fail
      refine (wipe_nil _).mono ?_; rintro e w1 ⟨rfl, rfl⟩
      go_wp2_with fail
      refine (HRD.out _).out.mono ?_; rintro e w1 ⟨rfl, b1⟩
      go_wp2_with fail
      refine (HNW.out _).mono ?_; rintro e w2 ⟨rfl, rfl⟩
      go_wp2_with fail
      refine (awake4_any _).mono ?_; rintro e w3 ⟨rfl, b3⟩
      replace b3 := b1.trans (b3.mono b1.size)
      go_wp2_with fail
      refine (sectors_nil _).mono ?_; rintro e w4 ⟨rfl, rfl⟩
      go_wp2_with fail
      refine (later_nil _).mono ?_; rintro e w4 ⟨rfl, rfl⟩
      go_wp2_with fail
      refine (HWR.out _).out.mono ?_; rintro e w4 ⟨rfl, rfl⟩
      go_wp2_with fail
      go_ret
      exact ⟨rfl, b3⟩
    · have t1 : decide (1 ≤ n) = false := decide_eq_false h1
      clear hin hx h1
      go_enter Try.func4, Try.ntmps4
      go_wp2_with fail
      refine (sync_nil _).mono ?_; rintro e w1 ⟨rfl, rfl⟩
      go_wp2_with fail
      refine (crash_nil _ _).mono ?_; rintro e w1 ⟨rfl, rfl⟩
      go_wp2_with fail
      refine (wipe_nil _).mono ?_; rintro e w1 ⟨rfl, rfl⟩
      go_wp2_with fail
      refine (HRD.out _).out.mono ?_; rintro e w1 ⟨rfl, b1⟩
      go_wp2_with fail
      refine (HNW.out _).mono ?_; rintro e w2 ⟨rfl, rfl⟩
      go_wp2_with fail
      refine (awake4_any _).mono ?_; rintro e w3 ⟨rfl, b3⟩
      replace b3 := b1.trans (b3.mono b1.size)
      go_wp2_with fail
      refine (sectors_nil _).mono ?_; rintro e w4 ⟨rfl, rfl⟩
      go_wp2_with fail
      refine (later_nil _).mono ?_; rintro e w4 ⟨rfl, rfl⟩
      go_wp2_with fail
      refine (HWR.out _).out.mono ?_; rintro e w4 ⟨rfl, rfl⟩
      go_wp2_with fail
      go_ret
      exact ⟨rfl, b3⟩
end Go.Proofs.Ytfacifhlcaghiaa.Dsk
namespace Go.Proofs.Ytfacifhlcaghiaa.diskNone
open Go Go.RowKit
theorem walk (a0 : Int) (w0 : (Lit.int .i64 a0).wf = true) (a1 : ByteArray) (w1 : a1.size ≤ 140737488351232) {W : World} :
    Calls Try.prog 4 #[.int .i64 a0, .string a1] W fun e w' => e = .returned (.bool true) ∧ Below W.heap.size W w' := by
  obtain ⟨⟨l⟩⟩ := a1
  exact Dsk.none_walk a0 l w1 W
end Go.Proofs.Ytfacifhlcaghiaa.diskNone
