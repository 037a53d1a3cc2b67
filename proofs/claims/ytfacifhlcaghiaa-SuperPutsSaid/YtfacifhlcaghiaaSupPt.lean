/- The walk of the law SuperPuts. -/
import Derived.Test.YtfacifhlcaghiaaSupL
import Derived.Deep.DeepCutAuto
import Derived.Deep.CutBlock
namespace Go.Proofs.Ytfacifhlcaghiaa.Sup
open Go Go.RowKit
open Go.Proofs.Ytfacifhlcaghiaa.Gen
open Go.Proofs.Ytfacifhlcaghiaa.Own
open Go.Proofs.Ytfacifhlcaghiaa.RowK
open Go.Proofs.Ytfacifhlcaghiaa.Num
open Go.Proofs.Ytfacifhlcaghiaa.NumC
open Go.Proofs.Ytfacifhlcaghiaa.Dsk
set_option linter.unusedVariables false
set_option linter.unusedSimpArgs false
theorem getS_put_out {n : Nat} {t : Sec} (h : 48 < t.length ∨ n = 0) : getS (putL n t) = (0, [], false) := by
  rw [show putL n t = [] from if_pos h]
  rfl
/-- From a world behind w on. -/
theorem word5_b (t : Sec) (ht : t.length ≤ 48) (w : World) : ∀ w', Below w.heap.size w w' → Calls Try.prog 33 #[.string ⟨t.toArray⟩] w' fun e w'' => e = .returned (.string ⟨(padW t).toArray⟩) ∧ Below w.heap.size w w'' := fun w' h => by
  refine (word5_any t ht w').mono ?_
  rintro e w'' ⟨rfl, b⟩
  exact ⟨rfl, thenB h b⟩
set_option maxRecDepth 20000 in
set_option maxHeartbeats 8000000 in
theorem puts_walk (W : World) (n : Nat) (hn : n < 18446744073709551616) (s : Sec) (hs : s.length ≤ 140737488351232) :
    Calls Try.prog 6 #[.int .u64 n, .string ⟨s.toArray⟩] W fun e w' => e = .returned (.bool true) ∧ Below W.heap.size W w' := by
  have x1 : (⟨s.toArray⟩ : ByteArray).extract 0 (min s.length 60) = ⟨(s.take 60).toArray⟩ := by
    rw [quiet_extract, List.drop_zero]
    congr 2
    rw [Nat.sub_zero, List.take_eq_take_iff]
    omega
  have lt60 : (s.take 60).length ≤ 60 := by rw [List.length_take]; omega
  have hm : min (s.length : Int) 60 = ((min s.length 60 : Nat) : Int) := by omega
  have hm2 : min s.length 60 ≤ s.length := by omega
  generalize s.take 60 = t at x1 lt60
  have HPT := Lib.hid (fun w => put_any n hn t (by omega) w)
  have lp : (putL n t).length ≤ 64 := by
    by_cases h : 48 < t.length ∨ n = 0
    · rw [show putL n t = [] from if_pos h]; simp
    · rw [putL_len (by omega) (by omega)]; omega
  have HGT := Lib.hid (fun w => get_any (putL n t) (by omega) w)
  by_cases ho : n = 0 ∨ 48 < t.length
  · have hg := getS_put_out (n := n) (t := t) ho.symm
    have hp : putL n t = [] := if_pos ho.symm
    have HGT' := HGT.out
    have HPT' := HPT.out
    rw [hg] at HGT'
    rw [hp] at HGT' HPT'
    clear HGT HPT
    have HGT := Lib.hid HGT'
    have HPT := Lib.hid HPT'
    clear HGT' HPT' hg hp lp
    by_cases h0 : n = 0
    · subst h0
      clear ho
      go_enter Try.func6, Try.ntmps6
      go_wp2_with fail
      refine (HPT.out _).mono ?_; rintro e w1 ⟨rfl, b1⟩
      go_wp2_with fail
      refine (HGT.out _).mono ?_; rintro e w2 ⟨rfl, b2⟩
      have hb2 := b1.trans (b2.mono b1.size)
      go_wp2_with fail
      refine (awake5_any _).mono ?_; rintro e w3 ⟨rfl, b3⟩
      have hb3 := hb2.trans (b3.mono hb2.size)
      go_wp2_with fail
      go_ret
      exact ⟨rfl, hb3⟩
    · have d2 : ((n : Int) == 0) = false := by simp; omega
      have d3 : decide (48 < (t.length : Int)) = true := decide_eq_true (by omega)
      have d3n : decide (48 < t.length) = true := decide_eq_true (by omega)
      clear ho h0
      go_enter Try.func6, Try.ntmps6
      go_wp2_with fail
      refine (HPT.out _).mono ?_; rintro e w1 ⟨rfl, b1⟩
      go_wp2_with fail
      refine (HGT.out _).mono ?_; rintro e w2 ⟨rfl, b2⟩
      have hb2 := b1.trans (b2.mono b1.size)
      go_wp2_with fail
      refine (awake5_any _).mono ?_; rintro e w3 ⟨rfl, b3⟩
      have hb3 := hb2.trans (b3.mono hb2.size)
      go_wp2_with fail
      go_ret
      exact ⟨rfl, hb3⟩
  · have h0 : n ≠ 0 := fun h => ho (.inl h)
    have h48 : t.length ≤ 48 := by omega
    have HGT' := HGT.out
    rw [get_put h0 hn h48] at HGT'
    clear HGT
    have HGT := Lib.hid HGT'
    have HPE := Lib.hid (show e8 n ++ (padW t).take 24 ++ e8 n ++ (padW t).drop 24 = putL n t from (if_neg (by omega)).symm)
    have d2 : ((n : Int) == 0) = false := by simp; omega
    have d3 : decide (48 < (t.length : Int)) = false := decide_eq_false (by omega)
    have d3n : decide (48 < t.length) = false := decide_eq_false (by omega)
    have lpw := padW_len h48
    have HWD := Lib.hid (fun w => word5_b t h48 w)
    generalize putL n t = p at HPT HGT HPE lp
    generalize padW t = q at HGT HPE lpw HWD
    clear HGT' ho h48
    go_enter Try.func6, Try.ntmps6
    go_wp2_with fail
    refine (HPT.out _).mono ?_; rintro e w1 ⟨rfl, b1⟩
    go_wp2_with fail
    refine (HGT.out _).mono ?_; rintro e w2 ⟨rfl, b2⟩
    have hb2 := b1.trans (b2.mono b1.size)
    clear b1 b2 HPT HGT
    go_wp2_with fail
    go_loopw [10, 11] (fun a c wr => ∃ (k : Nat) (l : List UInt8), a = .string ⟨l.toArray⟩ ∧ c = .int .i64 (8 * (k : Int) - 8) ∧ k ≤ 8 ∧ l.length + k = 8 ∧ Below W.heap.size W wr ∧ Hid (l ++ bigs n k = e8 n)) (fun _ c _ => (intOf c + 8).toNat)
    case atStart => exact ⟨8, [], rfl, rfl, by omega, rfl, hb2, rfl⟩
    case round =>
      obtain ⟨k, l, rfl, rfl, hk, hl, hb, H⟩ := hrel
      by_cases hk0 : 0 < k
      · obtain ⟨k, rfl⟩ : ∃ q, k = q + 1 := ⟨k - 1, by omega⟩
        rw [show 8 * ((k + 1 : Nat) : Int) - 8 = ((8 * k : Nat) : Int) by omega]
        have hd : decide ((0 : Int) ≤ 8 * (k : Int)) = true := by simp; omega
        have hc := conv_bytes [UInt8.ofNat (n / 256 ^ k % 256)] (wr.alloc (.cells #[.int .u8 ((n / 256 ^ k % 256 : Nat) : Int)] 5)) wr.heap.size (fun j hj => by
          obtain rfl : j = 0 := by simp at hj; omega
          rw [(Blk.fresh wr _ _).cell 0]
          simp)
        rw [← byte_eq n k] at hc
        simp only [List.length_singleton] at hc
        have hq1 : ¬ 9223372036854775807 < l.length + 1 := by omega
        have hs1 := str_add l [UInt8.ofNat (n / 256 ^ k % 256)]
        go_wp2_with fail
        go_roundw
        case rel => exact ⟨k, l ++ [UInt8.ofNat (n / 256 ^ k % 256)], rfl, by go_num, by omega, by simp; omega, hb.alloc hb.size _, by have := H.out; rw [bigs] at this; show _ = _; simpa using this⟩
        case measure => simp [intOf]; omega
      · obtain rfl : k = 0 := by omega
        obtain rfl : l = e8 n := by have := H.out; rw [bigs, List.append_nil] at this; exact this
        clear hk hk0 H hb2
        generalize e8 n = E at HPE hl
        have y1 : (⟨q.toArray⟩ : ByteArray).extract 0 24 = ⟨(q.take 24).toArray⟩ := quiet_extract q 0 24
        have y2 : (⟨q.toArray⟩ : ByteArray).extract 24 q.length = ⟨(q.drop 24).toArray⟩ := by
          rw [quiet_extract, List.take_of_length_le (by rw [List.length_drop]; omega)]
        rw [lpw] at y2
        have la : (q.take 24).length = 24 := by rw [List.length_take]; omega
        have lb : (q.drop 24).length = 24 := by rw [List.length_drop]; omega
        generalize q.take 24 = a at HPE y1 la
        generalize q.drop 24 = b at HPE y2 lb
        have z1 := str_add E a
        have z2 := str_add (E ++ a) E
        have z3 := str_add (E ++ a ++ E) b
        rw [HPE.out] at z3
        have le : E.length = 8 := by omega
        have l1 : (E ++ a).length = 32 := by rw [List.length_append]; omega
        have l2 : (E ++ a ++ E).length = 40 := by rw [List.length_append, l1]; omega
        clear HPE
        generalize E ++ a ++ E = u2 at z2 z3 l2
        generalize E ++ a = u1 at z1 z2 l1
        have HAW := Lib.hid (awake5_b W)
        have HWD2 := Lib.hid (fun w' (h : Below W.heap.size W w') => HWD.out W w' h)
        clear HWD hl
        go_wp2_with fail
        go_region_held3 (fun w' => Below W.heap.size W w') (first | exact hb.drew | assumption)
          (first | (go_at_call 32; refine (HAW.out _ (by assumption)).mono ?_; rintro e w3 ⟨rfl, b3⟩) | (go_at_call 33; refine (HWD2.out _ (by assumption)).mono ?_; rintro e w3 ⟨rfl, b3⟩))
        rename_i hHeld
        go_wp2_with fail
        go_ret
        exact ⟨rfl, hHeld⟩
end Go.Proofs.Ytfacifhlcaghiaa.Sup
namespace Go.Proofs.Ytfacifhlcaghiaa.superPuts
open Go Go.RowKit
theorem walk (a0 : Int) (w0 : (Lit.int .u64 a0).wf = true) (a1 : ByteArray) (w1 : a1.size ≤ 140737488351232) {W : World} :
    Calls Try.prog 6 #[.int .u64 a0, .string a1] W fun e w' => e = .returned (.bool true) ∧ Below W.heap.size W w' := by
  obtain ⟨⟨l⟩⟩ := a1
  have h0 := bounds_u64 w0
  obtain ⟨n, rfl⟩ : ∃ n : Nat, a0 = n := ⟨a0.toNat, by omega⟩
  exact Sup.puts_walk W n (by omega) l w1
end Go.Proofs.Ytfacifhlcaghiaa.superPuts
