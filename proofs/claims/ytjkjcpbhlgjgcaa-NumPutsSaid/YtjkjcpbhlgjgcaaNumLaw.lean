/- Layer 1: the walks of the laws NumNone, NumPuts. -/
import Derived.Test.YtjkjcpbhlgjgcaaNumNil
import Derived.Test.YtjkjcpbhlgjgcaaOpen
namespace Go.Proofs.Ytjkjcpbhlgjgcaa.numNone
open Go Go.RowKit
open Go.Proofs.Ytjkjcpbhlgjgcaa.Gen
open Go.Proofs.Ytjkjcpbhlgjgcaa.Num
open Go.Proofs.Ytjkjcpbhlgjgcaa.NumC
set_option linter.unusedVariables false
set_option maxHeartbeats 4000000 in
theorem walk (a0 : Int) (w0 : (Lit.int .i64 a0).wf = true) (a1 : Int) (w1 : (Lit.int .u64 a1).wf = true) (W : World) :
    Calls Try.prog 3 #[.int .i64 a0, .int .u64 a1] W fun e w' => e = .returned (.bool true) ∧ Below W.heap.size W w' := by
  go_enter Try.func3, Try.ntmps3
  go_wp2_with fail
  refine (wrong_nil _ _).mono ?_; rintro e w1 ⟨rfl, hb⟩
  go_wp2_with fail
  refine (awake_any _).mono ?_; rintro e w2 ⟨rfl, hb2⟩
  replace hb := thenB hb hb2; clear hb2
  go_wp2_with fail
  refine (err_nil _).mono ?_; rintro e w2 ⟨rfl, hb2⟩
  replace hb := thenB hb hb2; clear hb2
  go_wp2_with fail
  refine (left_nil _).mono ?_; rintro e w2 ⟨rfl, hb2⟩
  replace hb := thenB hb hb2; clear hb2
  go_wp2_with fail
  refine (take_nil _ _).mono ?_; rintro e w2 ⟨rfl, hb2⟩
  replace hb := thenB hb hb2; clear hb2
  go_wp2_with fail
  refine (num_nil _ _).mono ?_; rintro e w2 ⟨rfl, hb2⟩
  replace hb := thenB hb hb2; clear hb2
  go_wp2_with fail
  refine (int_nil _ _).mono ?_; rintro e w2 ⟨rfl, hb2⟩
  replace hb := thenB hb hb2; clear hb2
  go_wp2_with fail
  refine (word_nil _).mono ?_; rintro e w2 ⟨rfl, hb2⟩
  replace hb := thenB hb hb2; clear hb2
  go_wp2_with fail
  refine (text_nil _ _).mono ?_; rintro e w2 ⟨rfl, hb2⟩
  replace hb := thenB hb hb2; clear hb2
  go_wp2_with fail
  refine (bool_nil _).mono ?_; rintro e w2 ⟨rfl, hb2⟩
  replace hb := thenB hb hb2; clear hb2
  go_wp2_with fail
  refine (list_nil _ _ _).mono ?_; rintro e w2 ⟨rfl, hb2⟩
  replace hb := thenB hb hb2; clear hb2
  go_wp2_with fail
  refine (end_nil _).mono ?_; rintro e w2 ⟨rfl, hb2⟩
  replace hb := thenB hb hb2; clear hb2
  go_wp2_with fail
  go_ret
  exact ⟨rfl, hb⟩
end Go.Proofs.Ytjkjcpbhlgjgcaa.numNone
namespace Go.Proofs.Ytjkjcpbhlgjgcaa.numPuts
open Go Go.RowKit
open Go.Proofs.Ytjkjcpbhlgjgcaa.Gen
open Go.Proofs.Ytjkjcpbhlgjgcaa.Num
open Go.Proofs.Ytjkjcpbhlgjgcaa.NumC
set_option linter.unusedVariables false
set_option maxHeartbeats 4000000 in
theorem puts_walk (n : Nat) (hn : n < 18446744073709551616) (s : ByteArray) (hs : s.size ≤ 140737488351232) (A : Option Addr) (cap : Nat) (l : List Int) (hl : l.length ≤ 9223372036854775807) (hcap : l.length ≤ cap) (W : World) (hc : Ints W A l) (hr : ∀ n ∈ l, n ≤ 9223372036854775807) :
    Calls Try.prog 4 #[.int .u64 n, .string s, .slice A l.length cap] W fun e w' => e = .returned (.bool true) ∧ Below W.heap.size W w' := by
  go_enter Try.func4, Try.ntmps4
  go_wp2_with fail
  go_quiet (fail)
  obtain ⟨t, ht⟩ : ∃ t, t = s.extract 0 (min (s.size : Int) 300).toNat := ⟨_, rfl⟩
  have hts : t.size ≤ 300 := by rw [ht, ByteArray.size_extract]; omega
  rw [← ht]
  clear ht
  have hm : (min (l.length : Int) 40).toNat = (l.take 40).length := by rw [List.length_take]; omega
  rw [hm]
  have hk1 : (l.take 40).length ≤ 40 := by rw [List.length_take]; omega
  have hk2 : Ints W A (l.take 40) := fun i hi => by
    have hi2 : i < 40 := by omega
    obtain ⟨ad, h1, h2⟩ := hc i (by rw [List.length_take] at hi; omega)
    exact ⟨ad, h1, by rw [h2, List.getElem?_take_of_lt hi2]⟩
  have hk3 : ∀ n ∈ l.take 40, n ≤ 9223372036854775807 := fun n hn => hr n (List.mem_of_mem_take hn)
  clear hm hc hr hcap
  generalize l.take 40 = k at hk1 hk2 hk3
  have hk4 := Lib.hid hk3
  clear hk3
  refine name_exit (fun w' => Below W.heap.size W w') (drewB _ _) ?_
  intro w1 hb
  have hn2 : n % 4294967296 < 4294967296 := by omega
  have hw32 : IntKind.u32.wrap (n : Int) = ((n % 4294967296 : Nat) : Int) := by rw [IntKind.wrap_u32]; omega
  generalize n % 4294967296 = m at hn2 hw32
  simp only [Exit.then]
  go_wp2_with fail
  refine (awake_any _).mono ?_; rintro e w2 ⟨rfl, hb2⟩
  replace hb := thenB hb hb2; clear hb2
  go_wp2_with fail
  refine (put_any n hn _).mono ?_; rintro e w2 ⟨rfl, hb2⟩
  replace hb := thenB hb hb2; clear hb2
  go_wp2_with fail
  refine (refPut_any n hn _).mono ?_; rintro e w2 ⟨rfl, hb2⟩
  replace hb := thenB hb hb2; clear hb2
  go_wp2_with fail
  refine (word_any m hn2 _).mono ?_; rintro e w2 ⟨rfl, hb2⟩
  replace hb := thenB hb hb2; clear hb2
  go_wp2_with fail
  refine (refWord_any m hn2 _).mono ?_; rintro e w2 ⟨rfl, hb2⟩
  replace hb := thenB hb hb2; clear hb2
  go_wp2_with fail
  refine (text_any t (by omega) _).mono ?_; rintro e w2 ⟨rfl, hb2⟩
  replace hb := thenB hb hb2; clear hb2
  go_wp2_with fail
  refine (refText_any t (by omega) _).mono ?_; rintro e w2 ⟨rfl, hb2⟩
  replace hb := thenB hb hb2; clear hb2
  go_wp2_with fail
  refine (bool_any _ _).mono ?_; rintro e w2 ⟨rfl, rfl⟩
  go_wp2_with fail
  refine (refBool_any _ _).mono ?_; rintro e w2 ⟨rfl, rfl⟩
  go_wp2_with fail
  refine (list_any A cap k (by omega) hk4.out _ (hk2.below hb)).mono ?_; rintro e w2 ⟨rfl, hb2⟩
  replace hb := thenB hb hb2; clear hb2
  go_wp2_with fail
  refine (refList_any A cap k (by omega) hk4.out _ (hk2.below hb)).mono ?_; rintro e w2 ⟨rfl, hb2⟩
  replace hb := thenB hb hb2; clear hb2
  go_wp2_with fail
  go_ret
  exact ⟨rfl, hb⟩
theorem walk {H : Type} {enc : TypeId × Value → H} {W : World} {b : Nat} (a0 : Int) (w0 : (Lit.int .u64 a0).wf = true) (a1 : ByteArray) (w1 : a1.size ≤ 140737488351232) {v2 : Value} (ok2 : Value.okWide Try.prog W .any b 34 v2) {d2 : DataW H} {p2 : List MemPlace} (h2 : DataW.Trod enc Try.prog W 0 (fun _ => true) true 34 v2 d2 p2) :
    Calls Try.prog 4 #[.int .u64 a0, .string a1, v2] W fun e w' => e = .returned (.bool true) ∧ Below W.heap.size W w' := by
  obtain ⟨x, rfl, hok⟩ := Open.open_sl (.int .i64) Try.underlying34 (by kernel_rfl) ok2 h2
  have hb := bounds_u64 w0
  obtain ⟨n, rfl⟩ : ∃ n : Nat, a0 = n := ⟨a0.toNat, by omega⟩
  exact puts_walk n (by omega) a1 w1 x.A x.cap x.l (Open.ints_cells hok).1 hok.1 W (Open.ints_cells hok).2 (fun n hn => (Open.ints_range hok n hn).2)
end Go.Proofs.Ytjkjcpbhlgjgcaa.numPuts
