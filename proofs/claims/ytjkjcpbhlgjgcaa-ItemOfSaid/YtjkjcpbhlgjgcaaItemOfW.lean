/- Layer 8: the walk of the law ItemOf. -/
import Derived.Test.YtjkjcpbhlgjgcaaItemC
import Derived.Test.YtjkjcpbhlgjgcaaOpen
namespace Go.Proofs.Ytjkjcpbhlgjgcaa.itemOf
open Go Go.RowKit
open Go.Proofs.Ytjkjcpbhlgjgcaa.Gen
open Go.Proofs.Ytjkjcpbhlgjgcaa.Num
open Go.Proofs.Ytjkjcpbhlgjgcaa.NumC
open Go.Proofs.Ytjkjcpbhlgjgcaa.ItemC
set_option linter.unusedVariables false
set_option linter.unusedSimpArgs false
theorem of_32 (v : Int) (l : List UInt8) (h : l.length = 32) : ∃ d, (∀ w : World, Calls Try.prog 34 #[.int .u64 v, .string ⟨l.toArray⟩] w fun e w' => e = .returned (.tuple #[.agg #[.int .u64 v, .string ⟨d.toArray⟩], .int .i64 0]) ∧ Below w.heap.size w w') ∧
    (if d = [] then zer else d) = l ∧ mayB d = true ∧ d.length ≤ 32 := by
  by_cases hz : l = zer
  · subst hz
    exact ⟨[], fun w => of_zeros v w, if_pos rfl, rfl, Nat.zero_le _⟩
  · have hne : l ≠ [] := by intro h2; rw [h2] at h; simp at h
    exact ⟨l, fun w => of_full v l h hz w, if_neg hne, by simp [mayB, hz, h], by omega⟩
set_option maxHeartbeats 4000000 in
theorem of_walk (n : Nat) (hn : n < 18446744073709551616) (l : List UInt8) (hl : l.length ≤ 140737488351232) (odd : Bool) (W : World) :
    Calls Try.prog 6 #[.int .u64 n, .string ⟨l.toArray⟩, .bool odd] W fun e w' => e = .returned (.bool true) ∧ Below W.heap.size W w' := by
  have c40 : (⟨l.toArray⟩ : ByteArray).extract 0 (min (l.length : Int) 40).toNat = ⟨(l.take 40).toArray⟩ := cut l 40
  have hb40 := Lib.hid (fun W : World => block_any (l.take 40) (by rw [List.length_take]; omega) W)
  have hbl := blk_len (l.take 40)
  have hl4 : (l.take 40).length ≤ 40 := by rw [List.length_take]; omega
  generalize blk (l.take 40) = B at hb40 hbl
  generalize l.take 40 = t at hb40 c40 hl4
  obtain ⟨b, hb, hbo⟩ : ∃ b : List UInt8, b.length ≤ 40 ∧ b = (if odd then t else B) := ⟨_, by split <;> omega, rfl⟩
  by_cases h32 : b.length = 32
  · obtain ⟨d, hof, hby, hmay, hd⟩ := of_32 n b h32
    have hby2 := Lib.hid (fun W : World => bytes_any n d W)
    rw [hby] at hby2
    have Hof := Lib.hid hof
    clear hof hby
    have e2 := Lib.hid (show (n : Int) / 2 = ((n / 2 : Nat) : Int) by omega)
    have hn2 : n / 2 ≤ n := by omega
    cases odd
    all_goals
      simp only [Bool.false_eq_true, if_false, if_true] at hbo
      subst hbo
      go_enter Try.func6, Try.ntmps6
      go_wp2_with fail
      refine (hb40.out _).mono ?_; rintro e w2 ⟨rfl, hb2⟩
      go_wp2_with fail
      refine (Hof.out _).mono ?_; rintro e w3 ⟨rfl, hb3⟩
      replace hb2 := thenB hb2 hb3
      clear hb3
      go_wp2_with fail
      have hk := Blk.fresh w3 48 #[.int .u64 n, .string ⟨d.toArray⟩]
      replace hb2 := hb2.alloc hb2.size (.cells #[.int .u64 n, .string ⟨d.toArray⟩] 48)
      generalize w3.alloc (.cells #[.int .u64 n, .string ⟨d.toArray⟩] 48) = w4 at hk hb2
      generalize w3.heap.size = g at hk
      refine (ItemC.awake_any _).mono ?_; rintro e w5 ⟨rfl, hb5⟩
      replace hk := hk.b hb5
      replace hb2 := thenB hb2 hb5
      clear hb5
      have k0 := hk.cell 0
      have k1 := hk.cell 1
      go_wp2_with fail
      refine (may_any n d (by omega) _).mono ?_; rintro e w6 ⟨rfl, hb6⟩
      replace hk := hk.b hb6
      replace hb2 := thenB hb2 hb6
      clear hb6
      clear k0 k1
      have k0 := hk.cell 0
      have k1 := hk.cell 1
      go_wp2_with fail
      refine (hby2.out _).mono ?_; rintro e w7 ⟨rfl, hb7⟩
      replace hk := hk.b hb7
      replace hb2 := thenB hb2 hb7
      clear hb7
      clear k0 k1
      have k0 := hk.cell 0
      have k1 := hk.cell 1
      go_wp2_with fail
      rw [e2.out]
      refine (newer_any n ((n / 2 : Nat) : Int) _ _ _).mono ?_; rintro e w8 ⟨rfl, hb8⟩
      replace hb2 := thenB hb2 hb8
      go_wp2_with fail
      go_ret
      exact ⟨rfl, hb2⟩
  · have hof := Lib.hid (fun W : World => of_short n b h32 (by omega) W)
    cases odd
    · simp only [Bool.false_eq_true, if_false] at hbo
      subst hbo
      omega
    · simp only [if_true] at hbo
      subst hbo
      go_enter Try.func6, Try.ntmps6
      go_wp2_with fail
      refine (hb40.out _).mono ?_; rintro e w2 ⟨rfl, hb2⟩
      go_wp2_with fail
      refine (hof.out _).mono ?_; rintro e w3 ⟨rfl, hb3⟩
      replace hb2 := thenB hb2 hb3
      clear hb3
      go_wp2_with fail
      have hk := Blk.fresh w3 48 #[.int .u64 0, .string ⟨#[]⟩]
      replace hb2 := hb2.alloc hb2.size (.cells #[.int .u64 0, .string ⟨#[]⟩] 48)
      generalize w3.alloc (.cells #[.int .u64 0, .string ⟨#[]⟩] 48) = w4 at hk hb2
      generalize w3.heap.size = g at hk
      refine (ItemC.awake_any _).mono ?_; rintro e w5 ⟨rfl, hb5⟩
      replace hk := hk.b hb5
      replace hb2 := thenB hb2 hb5
      clear hb5
      have k0 := hk.cell 0
      have k1 := hk.cell 1
      go_wp2_with fail
      go_ret
      exact ⟨rfl, hb2⟩
theorem walk (a0 : Int) (w0 : (Lit.int .u64 a0).wf = true) (a1 : ByteArray) (w1 : a1.size ≤ 140737488351232) (a2 : Bool) (W : World) :
    Calls Try.prog 6 #[.int .u64 a0, .string a1, .bool a2] W fun e w' => e = .returned (.bool true) ∧ Below W.heap.size W w' := by
  have hb := bounds_u64 w0
  obtain ⟨n, rfl⟩ : ∃ n : Nat, a0 = n := ⟨a0.toNat, by omega⟩
  obtain ⟨⟨l⟩⟩ := a1
  exact of_walk n (by omega) l w1 a2 W
end Go.Proofs.Ytjkjcpbhlgjgcaa.itemOf
