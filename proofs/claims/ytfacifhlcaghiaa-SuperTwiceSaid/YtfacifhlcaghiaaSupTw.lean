/- The walk of the law SuperTwice. -/
import Derived.Test.YtfacifhlcaghiaaSupV
import Derived.BigFrame
import Derived.BigRegion
import Derived.Deep.DeepCutAuto
import Derived.Deep.CutBlock
namespace Go.Proofs.Ytfacifhlcaghiaa.Sup
open Go Go.RowKit
open Go.Proofs.Ytfacifhlcaghiaa.Gen
open Go.Proofs.Ytfacifhlcaghiaa.Own
open Go.Proofs.Ytfacifhlcaghiaa.RowK
open Go.Proofs.Ytfacifhlcaghiaa.Num
open Go.Proofs.Ytfacifhlcaghiaa.NumC
open Go.Proofs.Ytfacifhlcaghiaa.Dsk
set_option linter.unusedVariables false
set_option linter.unusedSimpArgs false
theorem keepT {W1 w : World} {g k j : Nat} {S : List Sec} {L : List Wr} {v : Value} (hc : W1.cell? ⟨k, j, none⟩ = some v) (h : DkF W1 g S L w) : w.cell? ⟨k, j, none⟩ = some v ∧ Below W1.heap.size W1 w := ⟨cellB h.below hc, h.below⟩
theorem cut48 (u : Sec) : (⟨u.toArray⟩ : ByteArray).extract 0 (min u.length 48) = ⟨(u.take 48).toArray⟩ := by
  rw [quiet_extract, List.drop_zero]
  congr 2
  rw [Nat.sub_zero, List.take_eq_take_iff]
  omega
set_option maxRecDepth 20000 in
set_option maxHeartbeats 8000000 in
theorem twice_walk (W : World) (ls : Nat → Sec) (hls : ∀ j, j < 3 → (ls j).length ≤ 9223372036854775807) (xs : Nat → Int) (hxs : ∀ j, j < 6 → 0 ≤ xs j ∧ xs j < 18446744073709551616) (many : Int) :
    Calls Try.prog 13 #[.agg #[.string ⟨(ls 0).toArray⟩, .string ⟨(ls 1).toArray⟩, .string ⟨(ls 2).toArray⟩], .agg #[.int .u64 (xs 0), .int .u64 (xs 1), .int .u64 (xs 2), .int .u64 (xs 3), .int .u64 (xs 4), .int .u64 (xs 5)], .int .i64 many] W fun e w' => e = .returned (.bool true) ∧ Below W.heap.size W w' := by
  have hk1 := Blk.fresh W 72 #[.string ⟨(ls 0).toArray⟩, .string ⟨(ls 1).toArray⟩, .string ⟨(ls 2).toArray⟩]
  have hb1 := (Below.refl W.heap.size W).alloc (Nat.le_refl _) (.cells #[.string ⟨(ls 0).toArray⟩, .string ⟨(ls 1).toArray⟩, .string ⟨(ls 2).toArray⟩] 72)
  have hb2 := hb1.alloc (by simp) (.cells #[.int .u64 (xs 0), .int .u64 (xs 1), .int .u64 (xs 2), .int .u64 (xs 3), .int .u64 (xs 4), .int .u64 (xs 5)] 73)
  have hw : ∃ w1 : World, w1 = (W.alloc (.cells #[.string ⟨(ls 0).toArray⟩, .string ⟨(ls 1).toArray⟩, .string ⟨(ls 2).toArray⟩] 72)).alloc (.cells #[.int .u64 (xs 0), .int .u64 (xs 1), .int .u64 (xs 2), .int .u64 (xs 3), .int .u64 (xs 4), .int .u64 (xs 5)] 73) ∧ (∀ j, j < 3 → w1.cell? ⟨W.heap.size, j, none⟩ = some (.string ⟨(ls j).toArray⟩)) ∧ (∀ j, j < 6 → w1.cell? ⟨W.heap.size + 1, j, none⟩ = some (.int .u64 (xs j))) ∧ Below W.heap.size W w1 := by
    refine ⟨_, rfl, fun j hj => ?_, fun j hj => ?_, hb2⟩
    · have e := ((Below.refl _ (W.alloc (.cells #[.string ⟨(ls 0).toArray⟩, .string ⟨(ls 1).toArray⟩, .string ⟨(ls 2).toArray⟩] 72))).alloc (Nat.le_refl _) (.cells #[.int .u64 (xs 0), .int .u64 (xs 1), .int .u64 (xs 2), .int .u64 (xs 3), .int .u64 (xs 4), .int .u64 (xs 5)] 73))
      refine cellB e ?_
      rw [hk1.cell j]
      rcases (by omega : j = 0 ∨ j = 1 ∨ j = 2) with rfl | rfl | rfl <;> rfl
    · have hk2 := Blk.fresh (W.alloc (.cells #[.string ⟨(ls 0).toArray⟩, .string ⟨(ls 1).toArray⟩, .string ⟨(ls 2).toArray⟩] 72)) 73 #[.int .u64 (xs 0), .int .u64 (xs 1), .int .u64 (xs 2), .int .u64 (xs 3), .int .u64 (xs 4), .int .u64 (xs 5)]
      have e := hk2.cell j
      rw [show (W.alloc (.cells #[.string ⟨(ls 0).toArray⟩, .string ⟨(ls 1).toArray⟩, .string ⟨(ls 2).toArray⟩] 72)).heap.size = W.heap.size + 1 by simp] at e
      rw [e]
      rcases (by omega : j = 0 ∨ j = 1 ∨ j = 2 ∨ j = 3 ∨ j = 4 ∨ j = 5) with rfl | rfl | rfl | rfl | rfl | rfl <;> rfl
  obtain ⟨w1, ew, c3, c4, bW⟩ := hw
  have hmin0 : min ((ls 0).length : Int) 48 = ((min (ls 0).length 48 : Nat) : Int) := by omega
  have hmin1 : min (ls 0).length 48 ≤ (ls 0).length := by omega
  have x0 := cut48 (ls 0)
  have l0 : ((ls 0).take 48).length ≤ 48 := by rw [List.length_take]; omega
  generalize (ls 0).take 48 = t0 at x0 l0
  have Q2 := two_blank 2 (by omega)
  have n1 : Hid (nextN (List.replicate 2 blankL) [] 0 = 1) := Lib.hid (by have h := Q2.next; have h2 := Q2.best.1; have h3 := h.2.2.1 rfl; omega)
  have q2 := Lib.hid Q2
  have Q3 := Q2.lay (by omega) l0 1 n1.out.symm
  rw [if_pos rfl, if_pos rfl, ← sync_one] at Q3
  have q3 := Lib.hid Q3
  obtain ⟨c, hc⟩ : ∃ c : Nat, many % 8 = (c : Int) := ⟨(many % 8).toNat, by omega⟩
  have hc8 : c < 8 := by omega
  have e7 : Go.bits .and .i64 many 7 = (c : Int) := by rw [← hc]; exact and_mask_i64 many 3 (by decide)
  have HNW := Lib.hid (dk_new w1 2 (by omega) (by omega))
  rw [show ((2 : Nat) : Int) = 2 from rfl] at HNW
  clear hc Q2 Q3 hk1 hb1 hb2
  go_enter Try.func13, Try.ntmps13
  go_wp2_with fail
  rw [← ew]
  clear ew
  refine HNW.out.mono ?_; rintro e w2 ⟨g, rfl, d2⟩
  have c30 := c3 0 (by omega)
  have C3 := Lib.hid c3
  have C4 := Lib.hid c4
  clear c3 c4 HNW
  go_wp2_with fail
  refine wp_region_noPanic ?_
  refine wp_region_held_drew (S := fun w' => w'.cell? ⟨W.heap.size, 0, none⟩ = some (.string ⟨(ls 0).toArray⟩) ∧ Below w1.heap.size w1 w') (by kernel_rfl) (by first | exact keepT (c30) d4 | exact keepT (c30) d3 | exact keepT (c30) (d2.b (Below.refl _ _).drew)) (fun hHeld => ?_)
  refine wpAnyH_take (i := 0) (v := ?_) rfl (by kernel_rfl) (by kernel_rfl) (by kernel_rfl) (fun _ _ _ h => h) (Or.inl ⟨by rfl, ?_⟩) (by assumption) ?_
  rotate_left
  · intro w hSw; (try dsimp only at hSw); go_simp; (first | done | with_reducible rfl)
  try simp only [Act.put, List.setIfInBounds_toArray, List.set_cons_zero, List.set_cons_succ]
  refine wpAnyH_take (i := 1) (v := ?_) rfl (by kernel_rfl) (by kernel_rfl) (by kernel_rfl) (fun _ _ _ h => h) (Or.inl ⟨by rfl, ?_⟩) (by assumption) ?_
  rotate_left
  · intro w hSw; (try dsimp only at hSw); go_simp; (first | done | with_reducible rfl)
  try simp only [Act.put, List.setIfInBounds_toArray, List.set_cons_zero, List.set_cons_succ]
  refine wpAnyH_take (i := 3) (v := ?_) rfl (by kernel_rfl) (by kernel_rfl) (by kernel_rfl) (fun _ _ _ h => h) (Or.inl ⟨by rfl, ?_⟩) (by assumption) ?_
  rotate_left
  · intro w hSw; (try dsimp only at hSw); go_simp; (first | done | with_reducible rfl)
  try simp only [Act.put, List.setIfInBounds_toArray, List.set_cons_zero, List.set_cons_succ]
  refine wpAnyH_take (i := 4) (v := ?_) rfl (by kernel_rfl) (by kernel_rfl) (by kernel_rfl) (fun _ _ _ h => h) (Or.inl ⟨by rfl, ?_⟩) (by assumption) ?_
  rotate_left
  · intro w hSw; (try dsimp only at hSw); go_simp; (first | done | with_reducible rfl)
  try simp only [Act.put, List.setIfInBounds_toArray, List.set_cons_zero, List.set_cons_succ]
  refine wpAnyH_take (i := 5) (v := ?_) rfl (by kernel_rfl) (by kernel_rfl) (by kernel_rfl) (fun _ _ _ h => h) (Or.inl ⟨by rfl, ?_⟩) (by assumption) ?_
  rotate_left
  · intro w hSw; (try dsimp only at hSw); go_simp; (first | done | with_reducible rfl)
  try simp only [Act.put, List.setIfInBounds_toArray, List.set_cons_zero, List.set_cons_succ]
  refine wpAnyH_take (i := 6) (v := ?_) rfl (by kernel_rfl) (by kernel_rfl) (by kernel_rfl) (fun _ _ _ h => h) (Or.inl ⟨by rfl, ?_⟩) (by assumption) ?_
  rotate_left
  · intro w hSw; (try dsimp only at hSw); go_simp; (first | done | with_reducible rfl)
  try simp only [Act.put, List.setIfInBounds_toArray, List.set_cons_zero, List.set_cons_succ]
  refine wpAnyH_take (i := 7) (v := ?_) rfl (by kernel_rfl) (by kernel_rfl) (by kernel_rfl) (fun _ _ _ h => h) (Or.inl ⟨by rfl, ?_⟩) (by assumption) ?_
  rotate_left
  · intro w hSw; (try dsimp only at hSw); go_simp; (first | done | with_reducible rfl)
  try simp only [Act.put, List.setIfInBounds_toArray, List.set_cons_zero, List.set_cons_succ]
  refine wpAnyH_take (i := 8) (v := ?_) rfl (by kernel_rfl) (by kernel_rfl) (by kernel_rfl) (fun _ _ _ h => h) (Or.inl ⟨by rfl, ?_⟩) (by assumption) ?_
  rotate_left
  · intro w hSw; (try dsimp only at hSw); go_simp; (first | done | with_reducible rfl)
  try simp only [Act.put, List.setIfInBounds_toArray, List.set_cons_zero, List.set_cons_succ]
  refine wpAnyH_take (i := 9) (v := ?_) rfl (by kernel_rfl) (by kernel_rfl) (by kernel_rfl) (fun _ _ _ h => h) (Or.inl ⟨by rfl, ?_⟩) (by assumption) ?_
  rotate_left
  · intro w hSw; (try dsimp only at hSw); go_simp; (first | done | with_reducible rfl)
  try simp only [Act.put, List.setIfInBounds_toArray, List.set_cons_zero, List.set_cons_succ]
  refine wpAnyH_ready (rs := [2]) (by kernel_rfl) (by simp) ?_
  refine AllReadyH.cons rfl (fun K hK => ?_) (AllReadyH.nil)
  go_simp
  refine (dk_next (d2.b (Below.refl _ _).drew) q2.out (by omega)).mono ?_
  rintro e w3 ⟨rfl, d3⟩
  rw [n1.out]
  go_simp
  refine hK.out _ _ (by first | exact keepT (c30) d4 | exact keepT (c30) d3 | exact keepT (c30) (d2.b (Below.refl _ _).drew)) (fun hHeld => ?_)
  clear hK K
  try simp only [Act.put, List.setIfInBounds_toArray, List.set_cons_zero, List.set_cons_succ]
  refine wpAnyH_ready (rs := [10]) (by kernel_rfl) (by simp) ?_
  refine AllReadyH.cons rfl (fun K hK => ?_) (AllReadyH.nil)
  go_simp
  refine (dk_write d3 (n := 1) (by omega) (by omega) t0 l0 (by simp)).mono ?_
  rintro e w4 ⟨rfl, d4⟩
  go_simp
  refine hK.out _ _ (by first | exact keepT (c30) d4 | exact keepT (c30) d3 | exact keepT (c30) (d2.b (Below.refl _ _).drew)) (fun hHeld => ?_)
  clear hK K
  try simp only [Act.put, List.setIfInBounds_toArray, List.set_cons_zero, List.set_cons_succ]
  refine wpAnyH_take (i := 11) (v := ?_) rfl (by kernel_rfl) (by kernel_rfl) (by kernel_rfl) (fun _ _ _ h => h) (Or.inl ⟨by rfl, ?_⟩) (by assumption) ?_
  rotate_left
  · intro w hSw; (try dsimp only at hSw); go_simp; (first | done | with_reducible rfl)
  try simp only [Act.put, List.setIfInBounds_toArray, List.set_cons_zero, List.set_cons_succ]
  refine wpAnyH_done (by kernel_rfl) ?_ _
  refine NoPanic.normal ?_
  skip
  clear x0 l0 hmin0 hmin1 n1 q2 d2 d3
  go_wp2_with fail
  refine (dk_sync d4).mono ?_; rintro e w5 ⟨rfl, d5⟩
  clear d4
  generalize syncL _ _ = S5 at d5 q3
  generalize padW t0 = P at q3
  go_wp2_with fail
  refine (dk_read d5 q3.out).mono ?_; rintro e w6 ⟨rfl, d6⟩
  clear d5
  go_wp2_with fail
  go_loopw [13] (fun v wr => ∃ (i : Nat) (S : List Sec), v = .int .i64 i ∧ i ≤ c ∧ DkF w1 g S [] wr ∧ Hid (Two S 1 P (2 * i + 2))) (fun v _ => 8 - (intOf v).toNat)
  case atStart => exact ⟨0, S5, rfl, by omega, d6, q3⟩
  case round =>
    obtain ⟨i, S, rfl, hi, d, q⟩ := hrel
    clear q3 d6
    by_cases hlt : i < c
    · have t1 : decide ((i : Int) < (c : Int)) = true := decide_eq_true (by omega)
      have t1n : decide (i < c) = true := decide_eq_true hlt
      obtain ⟨b, hb⟩ : ∃ b : Nat, b = i % 2 := ⟨_, rfl⟩
      have e1 : Go.bits .and .i64 (i : Int) 1 = (b : Int) := by rw [hb]; exact (and_mask_i64 i 1 (by decide)).trans (by omega)
      obtain ⟨qn, hq⟩ : ∃ qn : Nat, qn = 1 + b := ⟨_, rfl⟩
      have e2 : (1 : Int) + (b : Int) = (qn : Int) := by omega
      have hq3 : qn < 3 := by omega
      clear hb hq
      have hcell := (keepT (C3.out qn hq3) d).1
      have hu := hls qn hq3
      generalize ls qn = u at hcell hu
      have i0 : (0 : Int) ≤ (qn : Int) := by omega
      have i1 : (qn : Int) < 3 := by omega
      have hm1 : min (u.length : Int) 48 = ((min u.length 48 : Nat) : Int) := by omega
      have hm2 : min u.length 48 ≤ u.length := by omega
      have x1 := cut48 u
      have lv : (u.take 48).length ≤ 48 := by rw [List.length_take]; omega
      generalize u.take 48 = v at x1 lv
      obtain ⟨k, hk⟩ : ∃ k, k = nextN S [] 0 := ⟨_, rfl⟩
      have hnx := q.out.next
      have hnx4 := hnx.2.2.2.1 (by omega)
      rw [← hk] at hnx hnx4
      have hk1 : 1 < k := hnx4.2
      have hkn : k < 18446744073709551616 := by omega
      have t2 : decide ((k : Int) ≤ 1) = false := decide_eq_false (by omega)
      have t2n : decide (k ≤ 1) = false := decide_eq_false (by omega)
      have t3 : (k : Int).tmod 2 = 0 := by rw [Int.tmod_eq_emod_of_nonneg (by omega)]; omega
      have HLY := Lib.hid fun f => q.out.lay (by omega) lv f hk
      have HNX := Lib.hid (dk_next (d.b (Below.refl _ _).drew) q.out (by omega))
      rw [← hk] at HNX
      have hl2 := q.out.len
      obtain ⟨r, hr⟩ : ∃ r : Nat, r = i % 6 := ⟨_, rfl⟩
      have e3 : (i : Int).tmod 6 = (r : Int) := by rw [Int.tmod_eq_emod_of_nonneg (by omega)]; omega
      have hr6 : r < 6 := by omega
      have j0 : (0 : Int) ≤ (r : Int) := by omega
      have j1 : (r : Int) < 6 := by omega
      have HL2 := Lib.hid hl2
      clear hnx hnx4 hk hr hi hl2
      go_wp2_with fail
      go_region
      go_wp2_with fail
      refine HNX.out.mono ?_; rintro e w7 ⟨rfl, d7⟩
      clear HNX
      go_wp2_with fail
      refine (dk_write d7 (by omega) hkn v lv HL2.out).mono ?_; rintro e w8 ⟨rfl, d8⟩
      have hcx := (keepT (C4.out r hr6) d8).1
      obtain ⟨y, hy⟩ : ∃ y : Nat, Go.bits .and .u64 (xs r) 1 = (y : Int) ∧ y < 2 := ⟨(xs r % 2).toNat, by rw [show Go.bits .and .u64 (xs r) 1 = xs r % 2 from and_mask_u64 (xs r) 1 (by decide)]; omega, by omega⟩
      obtain ⟨e4, hy2⟩ := hy
      obtain ⟨z, hz⟩ : ∃ z : Nat, z = 2 + y := ⟨_, rfl⟩
      have e5 : (2 : Int) + (y : Int) = (z : Int) := by omega
      have hz4 : z < 4 := by omega
      have hz1 : z ≠ 1 := by omega
      clear hz
      go_wp2_with fail
      refine (dk_crash d8 (z : Int) (by omega) (by omega)).mono ?_; rintro e w9 ⟨rfl, d9⟩
      have hf : fate (z : Int) 0 = z := by
        show ((z : Int).toNat >>> 0) % 4 = z
        rw [Int.toNat_natCast, Nat.shiftRight_zero]
        omega
      have q9 := HLY.out z
      rw [crash_one, hf] at d9
      rw [if_neg hz1, if_neg hz1] at q9
      clear hf HLY
      generalize S.set _ _ = S9 at d9 q9
      have Q9 := Lib.hid q9
      clear q9
      go_wp2_with fail
      refine (dk_read d9 Q9.out).mono ?_; rintro e w10 ⟨rfl, d10⟩
      go_wp2_with fail
      go_roundw
      case rel => exact ⟨i + 1, S9, by go_num, by omega, d10, Lib.hid (show Two S9 1 P (2 * (i + 1) + 2) from (show 2 * i + 2 + 2 = 2 * (i + 1) + 2 by omega) ▸ Q9.out)⟩
      case measure => simp [intOf]; omega
    · have t1 : decide ((i : Int) < (c : Int)) = false := decide_eq_false (by omega)
      have t1n : decide (i < c) = false := decide_eq_false hlt
      clear hlt
      go_wp2_with fail
      refine (awake5_f d).mono ?_; rintro e w7 ⟨rfl, d7⟩
      go_wp2_with fail
      refine (next_none _).mono ?_; rintro e w8 ⟨rfl, b8⟩
      have d8 := d7.b b8
      go_wp2_with fail
      refine (next_out _ _ (-1) (by omega)).mono ?_; rintro e w9 ⟨rfl, rfl⟩
      go_wp2_with fail
      refine (next_out _ _ 4097 (by omega)).mono ?_; rintro e w9 ⟨rfl, rfl⟩
      go_wp2_with fail
      go_ret
      exact ⟨rfl, bW.trans (d8.below.mono bW.size)⟩
end Go.Proofs.Ytfacifhlcaghiaa.Sup
namespace Go.Proofs.Ytfacifhlcaghiaa.superTwice
open Go Go.RowKit
set_option linter.unusedVariables false
set_option maxRecDepth 20000 in
theorem walk {H : Type} {enc : TypeId × Value → H} {W : World} {b : Nat} {v0 : Value} (ok0 : Value.okWide Try.prog W .any b 72 v0) {d0 : DataW H} {p0 : List MemPlace} (h0 : DataW.Trod enc Try.prog W 0 (fun _ => true) true 72 v0 d0 p0)
    {v1 : Value} (ok1 : Value.okWide Try.prog W .any b 73 v1) {d1 : DataW H} {p1 : List MemPlace} (h1 : DataW.Trod enc Try.prog W 0 (fun _ => true) true 73 v1 d1 p1) (a2 : Int) (w2 : (Lit.int .i64 a2).wf = true) :
    Calls Try.prog 13 #[v0, v1, .int .i64 a2] W fun e w' => e = .returned (.bool true) ∧ Below W.heap.size W w' := by
  obtain ⟨⟨⟨⟨s0⟩⟩, ⟨⟨s1⟩⟩, ⟨⟨s2⟩⟩⟩, rfl, hs0, hs1, hs2⟩ := Open.open_agg (.pair .str (.pair .str .str)) (by kernel_rfl) (by kernel_rfl) ok0 h0
  obtain ⟨⟨x0, x1, x2, x3, x4, x5⟩, rfl, hx0, hx1, hx2, hx3, hx4, hx5⟩ := Open.open_agg (.pair (.int .u64) (.pair (.int .u64) (.pair (.int .u64) (.pair (.int .u64) (.pair (.int .u64) (.int .u64)))))) (by kernel_rfl) (by kernel_rfl) ok1 h1
  have g0 : s0.length ≤ maxLen := hs0
  have g1 : s1.length ≤ maxLen := hs1
  have g2 : s2.length ≤ maxLen := hs2
  unfold maxLen at g0 g1 g2
  have y0 : 0 ≤ x0 ∧ x0 ≤ 18446744073709551615 := bounds_u64 hx0
  have y1 : 0 ≤ x1 ∧ x1 ≤ 18446744073709551615 := bounds_u64 hx1
  have y2 : 0 ≤ x2 ∧ x2 ≤ 18446744073709551615 := bounds_u64 hx2
  have y3 : 0 ≤ x3 ∧ x3 ≤ 18446744073709551615 := bounds_u64 hx3
  have y4 : 0 ≤ x4 ∧ x4 ≤ 18446744073709551615 := bounds_u64 hx4
  have y5 : 0 ≤ x5 ∧ x5 ≤ 18446744073709551615 := bounds_u64 hx5
  refine Sup.twice_walk W (fun j => match j with | 0 => s0 | 1 => s1 | _ => s2) (fun j hj => ?_) (fun j => match j with | 0 => x0 | 1 => x1 | 2 => x2 | 3 => x3 | 4 => x4 | _ => x5) (fun j hj => ?_) a2
  · rcases (by omega : j = 0 ∨ j = 1 ∨ j = 2) with rfl | rfl | rfl
    · show s0.length ≤ _; omega
    · show s1.length ≤ _; omega
    · show s2.length ≤ _; omega
  · rcases (by omega : j = 0 ∨ j = 1 ∨ j = 2 ∨ j = 3 ∨ j = 4 ∨ j = 5) with rfl | rfl | rfl | rfl | rfl | rfl
    · exact ⟨y0.1, Int.lt_of_le_of_lt y0.2 (by decide)⟩
    · exact ⟨y1.1, Int.lt_of_le_of_lt y1.2 (by decide)⟩
    · exact ⟨y2.1, Int.lt_of_le_of_lt y2.2 (by decide)⟩
    · exact ⟨y3.1, Int.lt_of_le_of_lt y3.2 (by decide)⟩
    · exact ⟨y4.1, Int.lt_of_le_of_lt y4.2 (by decide)⟩
    · exact ⟨y5.1, Int.lt_of_le_of_lt y5.2 (by decide)⟩
end Go.Proofs.Ytfacifhlcaghiaa.superTwice
