/- Layer 5's laws: the next number as the law has it. -/
import Derived.Test.YtfacifhlcaghiaaSupV
import Derived.BigFrame
import Derived.Deep.DeepCutAuto
namespace Go.Proofs.Ytfacifhlcaghiaa.Sup
open Go Go.RowKit
open Go.Proofs.Ytfacifhlcaghiaa.Gen
open Go.Proofs.Ytfacifhlcaghiaa.Own
open Go.Proofs.Ytfacifhlcaghiaa.RowK
open Go.Proofs.Ytfacifhlcaghiaa.Num
open Go.Proofs.Ytfacifhlcaghiaa.NumC
open Go.Proofs.Ytfacifhlcaghiaa.Dsk
set_option linter.unusedVariables false
set_option linter.unusedSimpArgs false
theorem idx8 (s : List UInt8) (j : Nat) (h : j < s.length) (h2 : j < (⟨s.toArray⟩ : ByteArray).size) : ((⟨s.toArray⟩ : ByteArray)[j]'h2).toNat = s[j].toNat := rfl
theorem n8_step (s : Sec) (k : Nat) (hk : k < 8) (h : k < s.length) : value (s.take (k + 1)) = value (s.take k) * 256 + s[k].toNat ∧ value (s.take k) < 72057594037927936 := by
  refine ⟨value_take s k h, ?_⟩
  have h1 := value_lt (s.take k)
  have h2 : (s.take k).length ≤ 7 := by rw [List.length_take]; omega
  have h3 : 256 ^ (s.take k).length ≤ 256 ^ 7 := Nat.pow_le_pow_right (by decide) h2
  omega
set_option maxRecDepth 20000 in
set_option maxHeartbeats 4000000 in
theorem half_any (s : Sec) (hs : 8 ≤ s.length) (hs2 : s.length ≤ 9223372036854775807) (w : World) : Calls Try.prog 70 #[.string ⟨s.toArray⟩] w fun e w' => e = .returned (.int .u64 (n8 s)) ∧ w = w' := by
  unfold n8
  go_enter Try.func70, Try.ntmps70
  go_wp2_with fail
  go_loop [3, 4] (fun a i => ∃ m k : Nat, a = .int .u64 m ∧ i = .int .i64 k ∧ k ≤ 8 ∧ Hid (m = value (s.take k))) (fun _ i => 8 - (intOf i).toNat)
  case atStart => exact ⟨0, 0, rfl, rfl, by omega, rfl⟩
  case round =>
    obtain ⟨m, k, rfl, rfl, hk, H⟩ := hrel
    by_cases hlt : k < 8
    · have hks : k < s.length := by omega
      have hv := n8_step s k hlt hks
      rw [← H.out] at hv
      have hbl := UInt8.toNat_lt s[k]
      have HV := Lib.hid hv.1
      have hm := hv.2
      clear hv H
      have hz := idx8 s k hks (by rw [size_mk]; exact hks)
      go_wp2_with fail
      exact ⟨⟨m * 256 + s[k].toNat, k + 1, by go_num, by go_num, by omega, HV.out.symm⟩, by simp [intOf]; omega⟩
    · obtain rfl : k = 8 := by omega
      go_wp2_with fail
      go_ret
      exact ⟨ret_int (by rw [H.out]), rfl⟩
theorem dk_sec {W1 w : World} {g : Nat} {S : List Sec} (h : DkF W1 g S [] w) (j : Nat) (hj : j < S.length) :
    Calls Try.prog 23 #[.pointer (some ⟨g, 0, none⟩), .int .i64 j] w fun e w' => e = .returned (.tuple #[.string ⟨(S.getD j []).toArray⟩, .int .i64 0]) ∧ DkF W1 g S [] w' := by
  obtain ⟨vA, vB, d, b⟩ := h
  have := read_any w W1.heap.size (some ⟨g, vA, vB⟩) S [] d j
  unfold secR errR at this
  rw [if_pos (by omega), if_pos (by omega), Int.toNat_natCast] at this
  refine this.mono ?_
  rintro e w' ⟨rfl, b'⟩
  exact ⟨rfl, DkF.b ⟨vA, vB, d, b⟩ b'⟩
theorem best_step {S : List Sec} (hs : ∀ s ∈ S, s.length = 64) (i : Nat) (h : i < S.length) : bestN S [] 0 (i + 1) + 1 = max (max (bestN S [] 0 i + 1) (n8 (S.getD i []) + 1)) (n8 ((S.getD i []).drop 32) + 1) := by
  have e : bestN S [] 0 (i + 1) = max (max (bestN S [] 0 i) (numS (secR S [] ((0 : Int) + (i : Int)))).1) (numS (secR S [] ((0 : Int) + (i : Int)))).2 := rfl
  rw [e, secR_get S i h, numS_64 (getD_sz hs h)]
  show max (max _ (n8 _)) (n8 _) + 1 = _
  omega
set_option maxRecDepth 20000 in
set_option maxHeartbeats 4000000 in
theorem lnext_any {W1 w : World} {g : Nat} {S : List Sec} {a : Nat} {t : Sec} {M : Nat} (h : DkF W1 g S [] w) (q : Two S a t M) (hM : M + 2 < 18446744073709551616) :
    Calls Try.prog 42 #[.pointer (some ⟨g, 0, none⟩), .int .u64 a] w fun e w' => e = .returned (.int .u64 (nextN S [] 0)) ∧ DkF W1 g S [] w' := by
  have hsz := q.sz
  have hl2 := q.len
  have hbM := q.best.1
  have hnums := q.nums
  have hnx := q.next.2.2.2.2
  have HNX := Lib.hid hnx
  have HST := Lib.hid (fun i h => best_step hsz i h)
  have HSZ := Lib.hid (fun j (hj : j < S.length) => getD_sz hsz hj)
  have HNM := Lib.hid (fun j (hj : j < 2) => show n8 (S.getD j []) ≤ M ∧ n8 ((S.getD j []).drop 32) ≤ M by have := hnums j hj; rw [numS_64 (getD_sz hsz (by omega))] at this; exact this)
  have HL2 := Lib.hid hl2
  have hmx := fun w ts t x y z => run_max3 (P := Try.prog) w ts t .u64 .u64 .u64 x y z
  have hlea := Lib.hid q.le
  clear hsz hnx hnums q hl2
  go_enter Try.func42, Try.ntmps42
  go_wp2_with fail
  go_loopw [5, 6] (fun nv iv wr => ∃ i : Nat, iv = .int .i64 i ∧ i ≤ 2 ∧ (∃ c : Nat, Hid (c = bestN S [] 0 i + 1) ∧ nv = .int .u64 c) ∧ DkF W1 g S [] wr) (fun nv iv _ => 2 - (intOf iv).toNat)
  case atStart => exact ⟨0, rfl, by omega, ⟨1, Lib.hid rfl, rfl⟩, h⟩
  case round =>
    obtain ⟨i, rfl, hi, ⟨c, HC, rfl⟩, d⟩ := hrel
    clear h
    by_cases hlt : i < 2
    · have hst := HST.out i (by have := HL2.out; omega)
      rw [← HC.out] at hst
      have hlx := HSZ.out i (by have := HL2.out; omega)
      have hnm := HNM.out i hlt
      have HRD := Lib.hid (dk_sec d i (by have := HL2.out; omega))
      generalize S.getD i [] = x at hst hlx hnm HRD
      have y1 : (⟨x.toArray⟩ : ByteArray).extract 32 x.length = ⟨(x.drop 32).toArray⟩ := by
        rw [quiet_extract, List.take_of_length_le (by rw [List.length_drop]; omega)]
      rw [hlx] at y1
      have hly : (x.drop 32).length = 32 := by rw [List.length_drop]; omega
      generalize x.drop 32 = y at hst hnm y1 hly
      have HHX := Lib.hid (fun w => half_any x (by omega) (by omega) w)
      have HHY := Lib.hid (fun w => half_any y (by omega) (by omega) w)
      generalize n8 x = nx at hst hnm HHX
      generalize n8 y = ny at hst hnm HHY
      have HST' := Lib.hid hst
      have hn1 := hnm.1
      have hn2 := hnm.2
      have hlx1 : ((x.length : Int) != 64) = false := by rw [hlx]; rfl
      clear hnm hst
      go_wp2_with fail
      refine HRD.out.mono ?_; rintro e w2 ⟨rfl, d2⟩
      go_wp2_with fail
      refine wp_region_noPanic ?_
      refine wp_region_held_drew (S := fun w' => DkF W1 g S [] w') (by kernel_rfl) (by first | exact d3 | exact d4 | exact d2.b (Below.refl _ _).drew) (fun hHeld => ?_)
      refine wpAnyH_take (i := 0) (v := ?_) rfl (by kernel_rfl) (by kernel_rfl) (by kernel_rfl) (fun _ _ _ h => h) (Or.inl ⟨by rfl, ?_⟩) (by assumption) ?_
      rotate_left
      · intro w hSw; (try dsimp only at hSw); go_simp; (first | done | with_reducible rfl)
      try simp only [Act.put, List.setIfInBounds_toArray, List.set_cons_zero, List.set_cons_succ]
      refine wpAnyH_take (i := 1) (v := ?_) rfl (by kernel_rfl) (by kernel_rfl) (by kernel_rfl) (fun _ _ _ h => h) (Or.inl ⟨by rfl, ?_⟩) (by assumption) ?_
      rotate_left
      · intro w hSw; (try dsimp only at hSw); go_simp; (first | done | with_reducible rfl)
      try simp only [Act.put, List.setIfInBounds_toArray, List.set_cons_zero, List.set_cons_succ]
      refine wpAnyH_take (i := 4) (v := ?_) rfl (by kernel_rfl) (by kernel_rfl) (by kernel_rfl) (fun _ _ _ h => h) (Or.inl ⟨by rfl, ?_⟩) (by assumption) ?_
      rotate_left
      · intro w hSw; (try dsimp only at hSw); go_simp; (first | done | with_reducible rfl)
      try simp only [Act.put, List.setIfInBounds_toArray, List.set_cons_zero, List.set_cons_succ]
      refine wpAnyH_take (i := 5) (v := ?_) rfl (by kernel_rfl) (by kernel_rfl) (by kernel_rfl) (fun _ _ _ h => h) (Or.inl ⟨by rfl, ?_⟩) (by assumption) ?_
      rotate_left
      · intro w hSw; (try dsimp only at hSw); go_simp; (first | done | with_reducible rfl)
      try simp only [Act.put, List.setIfInBounds_toArray, List.set_cons_zero, List.set_cons_succ]
      refine wpAnyH_ready (rs := [2]) (by kernel_rfl) (by simp) ?_
      refine AllReadyH.cons rfl (fun K hK => ?_) (AllReadyH.nil)
      go_simp
      refine (HHX.out _).mono ?_
      rintro e w3 ⟨rfl, rfl⟩
      go_simp
      refine hK.out _ _ (by first | exact d3 | exact d4 | exact d2.b (Below.refl _ _).drew) (fun hHeld => ?_)
      clear hK K
      try simp only [Act.put, List.setIfInBounds_toArray, List.set_cons_zero, List.set_cons_succ]
      refine wpAnyH_take (i := 3) (v := ?_) rfl (by kernel_rfl) (by kernel_rfl) (by kernel_rfl) (fun _ _ _ h => h) (Or.inl ⟨by rfl, ?_⟩) (by assumption) ?_
      rotate_left
      · intro w hSw; (try dsimp only at hSw); go_simp; (first | done | with_reducible rfl)
      try simp only [Act.put, List.setIfInBounds_toArray, List.set_cons_zero, List.set_cons_succ]
      refine wpAnyH_ready (rs := [6]) (by kernel_rfl) (by simp) ?_
      refine AllReadyH.cons rfl (fun K hK => ?_) (AllReadyH.nil)
      go_simp
      refine (HHY.out _).mono ?_
      rintro e w4 ⟨rfl, rfl⟩
      go_simp
      refine hK.out _ _ (by first | exact d3 | exact d4 | exact d2.b (Below.refl _ _).drew) (fun hHeld => ?_)
      clear hK K
      try simp only [Act.put, List.setIfInBounds_toArray, List.set_cons_zero, List.set_cons_succ]
      refine wpAnyH_take (i := 7) (v := ?_) rfl (by kernel_rfl) (by kernel_rfl) (by kernel_rfl) (fun _ _ _ h => h) (Or.inl ⟨by rfl, ?_⟩) (by assumption) ?_
      rotate_left
      · intro w hSw; (try dsimp only at hSw); go_simp; (first | done | with_reducible rfl)
      try simp only [Act.put, List.setIfInBounds_toArray, List.set_cons_zero, List.set_cons_succ]
      refine wpAnyH_take (i := 8) (v := ?_) rfl (by kernel_rfl) (by kernel_rfl) (by kernel_rfl) (fun _ _ _ h => h) (Or.inl ⟨by rfl, ?_⟩) (by assumption) ?_
      rotate_left
      · intro w hSw; (try dsimp only at hSw); go_simp; (first | done | with_reducible rfl)
      try simp only [Act.put, List.setIfInBounds_toArray, List.set_cons_zero, List.set_cons_succ]
      refine wpAnyH_take (i := 9) (v := ?_) rfl (by kernel_rfl) (by kernel_rfl) (by kernel_rfl) (fun _ _ _ h => h) (Or.inl ⟨by rfl, ?_⟩) (by assumption) ?_
      rotate_left
      · intro w hSw; (try dsimp only at hSw); go_simp; (first | done | with_reducible rfl)
      try simp only [Act.put, List.setIfInBounds_toArray, List.set_cons_zero, List.set_cons_succ]
      refine wpAnyH_done (by kernel_rfl) ?_ _
      refine NoPanic.normal ?_
      skip
      go_wp2_with fail
      exact ⟨⟨i + 1, by go_num, by omega, ⟨_, Lib.hid HST'.out.symm, by rw [show ((max (max c (nx + 1)) (ny + 1) : Nat) : Int) = max (c : Int) (max ((nx : Int) + 1) ((ny : Int) + 1)) by omega]⟩, d2.b (Below.refl _ _).drew⟩, by simp [intOf]; omega⟩
    · obtain rfl : i = 2 := by omega
      have hc := HC.out
      have hnx := HNX.out
      have hcM : c ≤ M + 1 := by omega
      have hnx2 : nextN S [] 0 = if 0 < a ∧ c % 2 = a % 2 then c + 1 else c := by
        rw [hnx, hc]
      have HX := Lib.hid hnx2
      have HA := hlea.out
      have m1 : (c : Int).tmod 2 = ((c % 2 : Nat) : Int) := by rw [Int.tmod_eq_emod_of_nonneg (by omega)]; omega
      have m2 : (a : Int).tmod 2 = ((a % 2 : Nat) : Int) := by rw [Int.tmod_eq_emod_of_nonneg (by omega)]; omega
      have hn8 : c + 1 < 18446744073709551616 := by omega
      clear hc hnx hnx2 HC HST HSZ HNM HNX hbM
      by_cases ha0 : 0 < a
      · have t1 : decide (0 < (a : Int)) = true := decide_eq_true (by omega)
        have t1n : decide (0 < a) = true := decide_eq_true ha0
        by_cases hp : c % 2 = a % 2
        · have HN := Lib.hid (show nextN S [] 0 = c + 1 by rw [HX.out, if_pos ⟨ha0, hp⟩])
          rw [hp] at m1
          clear HX hp
          go_wp2_with fail
          go_ret
          exact ⟨ret_int (by rw [HN.out]; omega), d⟩
        · have HN := Lib.hid (show nextN S [] 0 = c by rw [HX.out, if_neg (fun e => hp e.2)])
          have hp1 : (((c % 2 : Nat) : Int) == ((a % 2 : Nat) : Int)) = false := by simp; omega
          have hp2 : (c % 2 == a % 2) = false := by simp [hp]
          have hp3 : ((c : Int) % 2 == (a : Int) % 2) = false := by simp; omega
          clear HX
          generalize c % 2 = x at m1 hp hp1 hp2
          generalize a % 2 = y at m2 hp hp1 hp2
          clear hp
          go_wp2_with fail
          go_ret
          exact ⟨ret_int (by rw [HN.out]), d⟩
      · have t1 : decide (0 < (a : Int)) = false := decide_eq_false (by omega)
        have t1n : decide (0 < a) = false := decide_eq_false ha0
        have HN := Lib.hid (show nextN S [] 0 = c by rw [HX.out, if_neg (fun e => ha0 e.1)])
        clear HX
        go_wp2_with fail
        go_ret
        exact ⟨ret_int (by rw [HN.out]), d⟩
end Go.Proofs.Ytfacifhlcaghiaa.Sup
