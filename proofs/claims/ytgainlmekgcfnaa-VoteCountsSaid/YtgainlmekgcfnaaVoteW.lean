/- The walks of the laws of layer 17 (vote): VoteCounts, VoteOnce. -/
import Derived.Test.YtgainlmekgcfnaaVoteC
import Derived.Test.YtgainlmekgcfnaaOpen
import Derived.Deep.RegionWith
namespace Go.Proofs.Ytgainlmekgcfnaa.Vote
open Go Go.RowKit
open Go.Proofs.Ytgainlmekgcfnaa.Gen
open Go.Proofs.Ytgainlmekgcfnaa.Open (Sl Sh)
set_option linter.unusedVariables false

theorem awake_any (w : World) : Calls Try.prog 16 #[] w fun e w' => e = .returned (.bool true) ∧ Below w.heap.size w w' := by
  go_enter Try.func16, Try.ntmps16
  go_wp2_with fail
  refine (none_any _).mono ?_; rintro e w1 ⟨rfl, b1⟩
  go_wp2_with fail
  refine (with0 _ _ _ _).mono ?_; rintro e w2 ⟨rfl, b2⟩
  go_wp2_with fail
  refine (show Calls Try.prog 15 _ _ (fun e w' => e = .returned (.bool false) ∧ Below w2.heap.size w2 w') from won_any true false false _).mono ?_; rintro e w3 ⟨rfl, b3⟩
  go_wp2_with fail
  refine (none_any _).mono ?_; rintro e w4 ⟨rfl, b4⟩
  go_wp2_with fail
  refine (with0 _ _ _ _).mono ?_; rintro e w5 ⟨rfl, b5⟩
  go_wp2_with fail
  refine (with2 _ _ _ _).mono ?_; rintro e w6 ⟨rfl, b6⟩
  go_wp2_with fail
  refine (show Calls Try.prog 15 _ _ (fun e w' => e = .returned (.bool true) ∧ Below w6.heap.size w6 w') from won_any true false true _).mono ?_; rintro e w7 ⟨rfl, b7⟩
  go_wp2_with fail
  refine (show Calls Try.prog 17 _ _ (fun e w' => e = .returned (.bool true) ∧ w7 = w') from may_any 3 (-1) 3 1 true _).mono ?_; rintro e w8 ⟨rfl, rfl⟩
  go_wp2_with fail
  go_ret
  exact ⟨rfl, thenB b1 (thenB b2 (thenB b3 (thenB b4 (thenB b5 (thenB b6 b7)))))⟩

/-- A block of three truths. -/
def Is3 (w : World) (g : Nat) (t : TypeId) (f : Nat → Bool) : Prop := w.heap[g]? = some (.cells #[.bool (f 0), .bool (f 1), .bool (f 2)] t (0, 0))
def cnt (f : Nat → Bool) : Nat → Int
  | 0 => 0
  | j + 1 => cnt f j + if f j then 1 else 0

theorem cnt_range (f : Nat → Bool) (j : Nat) : 0 ≤ cnt f j ∧ cnt f j ≤ j := by
  induction j with
  | zero => simp [cnt]
  | succ j ih => simp only [cnt]; split <;> omega
theorem cnt3 (f : Nat → Bool) : cnt f 3 = count (f 0) (f 1) (f 2) := by simp [cnt, count]
theorem Is3.cell {w : World} {g : Nat} {t : TypeId} {f : Nat → Bool} (h : Is3 w g t f) (j : Nat) (hj : j < 3) : w.cell? ⟨g, j, none⟩ = some (.bool (f j)) := by
  rw [cell_of_row w g j _ t (0, 0) h]
  match j with
  | 0 => rfl
  | 1 => rfl
  | 2 => rfl
  | j + 3 => omega
theorem Is3.free {w : World} {g : Nat} {t : TypeId} {f : Nat → Bool} (h : Is3 w g t f) (j : Nat) : w.frozen? ⟨g, j, none⟩ = false := by
  unfold Is3 at h
  simp [World.frozen?, h]
theorem Is3.lt {w : World} {g : Nat} {t : TypeId} {f : Nat → Bool} (h : Is3 w g t f) : g < w.heap.size := (Array.getElem?_eq_some_iff.1 h).1
theorem Is3.below {w w' : World} {g : Nat} {t : TypeId} {f : Nat → Bool} (h : Is3 w g t f) (hb : Below w.heap.size w w') : Is3 w' g t f := (hb.block g h.lt).trans h
theorem Is3.belowD {w w' : World} {g : Nat} {t : TypeId} {f : Nat → Bool} (h : Is3 w g t f) (hb : Below w.drew.heap.size w.drew w') : Is3 w' g t f := Is3.below (w := w.drew) h hb
theorem set3 {w : World} {g : Nat} {t : TypeId} {x y z : Value} (h : w.heap[g]? = some (.cells #[x, y, z] t (0, 0))) (x' y' z' : Value) :
    (((w.setCell ⟨g, 0, none⟩ x').setCell ⟨g, 1, none⟩ y').setCell ⟨g, 2, none⟩ z').heap[g]? = some (.cells #[x', y', z'] t (0, 0)) := by
  simp [World.setCell, Array.getElem?_modify, h]
theorem Is3.set1 {w : World} {g : Nat} {t : TypeId} {f f' : Nat → Bool} (h : Is3 w g t f) (j : Nat) (hj : j < 3) (hf : ∀ i, i < 3 → f' i = (f i || decide (i = j))) : Is3 (w.setCell ⟨g, j, none⟩ (.bool true)) g t f' := by
  unfold Is3 at h ⊢
  rw [hf 0 (by omega), hf 1 (by omega), hf 2 (by omega)]
  match j with
  | 0 => simp [World.setCell, Array.getElem?_modify, h]
  | 1 => simp [World.setCell, Array.getElem?_modify, h]
  | 2 => simp [World.setCell, Array.getElem?_modify, h]
  | j + 3 => omega
theorem Is3.other {w : World} {g : Nat} {t : TypeId} {f : Nat → Bool} (h : Is3 w g t f) {p : Addr} (hp : g ≠ p.block) (u : Value) : Is3 (w.setCell p u) g t f := (Below.heap_setCell w p u g hp).trans h
theorem Is3.congr {w : World} {g : Nat} {t : TypeId} {f f' : Nat → Bool} (h : Is3 w g t f) (hf : ∀ i, i < 3 → f' i = f i) : Is3 w g t f' := by
  unfold Is3 at h ⊢
  rw [hf 0 (by omega), hf 1 (by omega), hf 2 (by omega)]
  exact h
theorem many_f (f : Nat → Bool) (w : World) : Calls Try.prog 14 #[.agg #[.bool (f 0), .bool (f 1), .bool (f 2)]] w fun e w' => e = .returned (.int .i64 (cnt f 3)) ∧ Below w.heap.size w w' := by
  rw [cnt3]; exact many_any _ _ _ w
theorem won_f (f : Nat → Bool) (w : World) : Calls Try.prog 15 #[.agg #[.bool (f 0), .bool (f 1), .bool (f 2)]] w fun e w' => e = .returned (.bool (decide (2 ≤ cnt f 3))) ∧ Below w.heap.size w w' := by
  rw [cnt3]
  have := won_any (f 0) (f 1) (f 2) w
  rwa [show decide (1 < count (f 0) (f 1) (f 2)) = decide (2 ≤ count (f 0) (f 1) (f 2)) from decide_eq_decide.2 (by omega)] at this
/-- What is known between the two halves of a round. -/
def Mid (B : Nat) (f g : Nat → Bool) (W w : World) : Prop := Is3 w B 25 f ∧ Is3 w (B + 1) 23 g ∧ Below W.heap.size W w
set_option maxHeartbeats 2000000 in
theorem counts_walk (A : Option Addr) (cap : Nat) (l : List Int) (W : World) (hl : l.length ≤ 9223372036854775807) (hc : ∀ i, i < l.length → ∃ ad, A = some ad ∧ W.cell? (ad.add i) = some (.int .i64 (l[i]?.getD 0))) :
    Calls Try.prog 3 #[.slice A l.length cap] W fun e w' => e = .returned (.bool true) ∧ Below W.heap.size W w' := by
  go_enter Try.func3, Try.ntmps3
  go_wp2_with fail
  refine (none_any _).mono ?_; rintro e w1 ⟨rfl, b1⟩
  go_wp2_with fail
  go_loopw [5] (fun i wr => ∃ k : Nat, ∃ f : Nat → Bool, i = .int .i64 k ∧ k ≤ 30 ∧ Is3 wr w1.heap.size 25 f ∧ Is3 wr (w1.heap.size + 1) 23 f ∧ Below W.heap.size W wr) (fun i _ => 30 - (intOf i).toNat)
  case atStart => 
    refine ⟨0, fun _ => false, rfl, by omega, ?_, ?_, ?_⟩
    · exact heap_alloc2_old _ _ _
    · exact heap_alloc2_new _ _ _
    · exact (b1.alloc b1.size _).alloc (by have := b1.size; simp; omega) _
  case round =>
    obtain ⟨k, f, rfl, hk, i1, i2, hb⟩ := hrel
    by_cases hlt : k < l.length ∧ k < 30
    · obtain ⟨h1, h2⟩ := hlt
      obtain ⟨ad, rfl, hcell⟩ := hc k h1
      generalize l[k]?.getD 0 = n at hcell
      have hcell' := cellB hb hcell
      have c0 := i1.cell 0 (by omega)
      have c1 := i1.cell 1 (by omega)
      have c2 := i1.cell 2 (by omega)
      have z0 := i1.free 0
      have z1 := i1.free 1
      have z2 := i1.free 2
      go_wp2_with fail
      go_region_with (go_at_call 13; refine (with_any _ _ _ _ _).mono ?_; rintro e w2 ⟨rfl, b2⟩; have i3 := i1.belowD b2; have i4 := i2.belowD b2; have c3 := i3.cell 0 (by omega); have c4 := i3.cell 1 (by omega); have c5 := i3.cell 2 (by omega); have z3 := i3.free 0; have z4 := i3.free 1; have z5 := i3.free 2)
      all_goals
        refine name_exit (Mid w1.heap.size (fun j => f j || n == (j : Int)) f W) ⟨set3 i3 _ _ _, ((i4.other (by simp) _).other (by simp) _).other (by simp) _, ((((thenB (w1 := wr.drew) hb.drew b2).setCell b1.size _).setCell b1.size _).setCell b1.size _)⟩ ?_
        clear c0 c1 c2 z0 z1 z2 c3 c4 c5 z3 z4 z5 hcell'
        rintro w3 ⟨j1, j2, hb3⟩
        have hcell' := cellB hb3 hcell
        obtain ⟨f', hf'⟩ : ∃ f' : Nat → Bool, ∀ j, f' j = (f j || n == (j : Int)) := ⟨_, fun _ => rfl⟩
        have HF := Lib.hid hf'
        clear hf'
        by_cases hin : 0 ≤ n ∧ n < 3
        · obtain ⟨n0, n1⟩ := hin
          have c0 := j2.cell n.toNat (by omega)
          have z0 := j2.free n.toNat
          go_wp2_with fail
          refine name_world (Mid w1.heap.size f' f' W) ?m ?_
          case m => exact ⟨(j1.other (by simp) _).congr (fun i _ => HF.out i), j2.set1 n.toNat (by omega) (fun i _ => by rw [HF.out i]; congr 1; rw [Bool.eq_iff_iff]; simp; omega), hb3.setCell (by have := b1.size; show W.heap.size ≤ w1.heap.size + 1; omega) _⟩
          clear hcell' c0 z0 j1 j2 hb3
          rintro w4 ⟨j1, j2, hb4⟩
          have c0 := j1.cell 0 (by omega)
          have c1 := j1.cell 1 (by omega)
          have c2 := j1.cell 2 (by omega)
          go_loop [6, 7] (fun n i => ∃ j : Nat, j ≤ 3 ∧ i = .int .i64 j ∧ n = .int .i64 (cnt f' j)) (fun _ i => 3 - (intOf i).toNat)
          case atStart => exact ⟨0, by omega, rfl, rfl⟩
          case round =>
            obtain ⟨j, hj, rfl, rfl⟩ := hrel
            have hcr := cnt_range f' j
            by_cases hj3 : j < 3
            · have d0 := j2.cell j hj3
              go_wp2_with fail
              all_goals
                go_round
                case rel => exact ⟨j + 1, by omega, by go_num, by simp [cnt, *]⟩
                case measure => simp [intOf]; omega
            · obtain rfl : j = 3 := by omega
              go_wp2_with fail
              refine (many_f f' _).mono ?_; rintro e w5 ⟨rfl, b5⟩
              have j1' := j1.below b5
              have c0' := j1'.cell 0 (by omega)
              have c1' := j1'.cell 1 (by omega)
              have c2' := j1'.cell 2 (by omega)
              go_wp2_with fail
              refine (won_f f' _).mono ?_; rintro e w6 ⟨rfl, b6⟩
              go_wp2_with fail
              go_roundw
              case rel => exact ⟨k + 1, f', by go_num, by omega, j1'.below b6, (j2.below b5).below b6, thenB (thenB hb4 b5) b6⟩
              case measure => simp [intOf]; omega
        · have hout : ∀ i : Nat, i < 3 → f' i = f i := fun i hi => by rw [HF.out i, show (n == (i : Int)) = false by simp; omega, Bool.or_false]
          have HO := Lib.hid hout
          clear hout
          by_cases hneg : n < 0
          · go_wp2_with fail
            refine name_world (Mid w1.heap.size f' f' W) ?m ?_
            case m => exact ⟨j1.congr (fun i _ => HF.out i), j2.congr HO.out, hb3⟩
            clear hcell' j1 j2 hb3
            rintro w4 ⟨j1, j2, hb4⟩
            have c0 := j1.cell 0 (by omega)
            have c1 := j1.cell 1 (by omega)
            have c2 := j1.cell 2 (by omega)
            go_loop [6, 7] (fun n i => ∃ j : Nat, j ≤ 3 ∧ i = .int .i64 j ∧ n = .int .i64 (cnt f' j)) (fun _ i => 3 - (intOf i).toNat)
            case atStart => exact ⟨0, by omega, rfl, rfl⟩
            case round =>
              obtain ⟨j, hj, rfl, rfl⟩ := hrel
              have hcr := cnt_range f' j
              by_cases hj3 : j < 3
              · have d0 := j2.cell j hj3
                go_wp2_with fail
                all_goals
                  go_round
                  case rel => exact ⟨j + 1, by omega, by go_num, by simp [cnt, *]⟩
                  case measure => simp [intOf]; omega
              · obtain rfl : j = 3 := by omega
                go_wp2_with fail
                refine (many_f f' _).mono ?_; rintro e w5 ⟨rfl, b5⟩
                have j1' := j1.below b5
                have c0' := j1'.cell 0 (by omega)
                have c1' := j1'.cell 1 (by omega)
                have c2' := j1'.cell 2 (by omega)
                go_wp2_with fail
                refine (won_f f' _).mono ?_; rintro e w6 ⟨rfl, b6⟩
                go_wp2_with fail
                go_roundw
                case rel => exact ⟨k + 1, f', by go_num, by omega, j1'.below b6, (j2.below b5).below b6, thenB (thenB hb4 b5) b6⟩
                case measure => simp [intOf]; omega

          · go_wp2_with fail
            refine name_world (Mid w1.heap.size f' f' W) ?m ?_
            case m => exact ⟨j1.congr (fun i _ => HF.out i), j2.congr HO.out, hb3⟩
            clear hcell' j1 j2 hb3
            rintro w4 ⟨j1, j2, hb4⟩
            have c0 := j1.cell 0 (by omega)
            have c1 := j1.cell 1 (by omega)
            have c2 := j1.cell 2 (by omega)
            go_loop [6, 7] (fun n i => ∃ j : Nat, j ≤ 3 ∧ i = .int .i64 j ∧ n = .int .i64 (cnt f' j)) (fun _ i => 3 - (intOf i).toNat)
            case atStart => exact ⟨0, by omega, rfl, rfl⟩
            case round =>
              obtain ⟨j, hj, rfl, rfl⟩ := hrel
              have hcr := cnt_range f' j
              by_cases hj3 : j < 3
              · have d0 := j2.cell j hj3
                go_wp2_with fail
                all_goals
                  go_round
                  case rel => exact ⟨j + 1, by omega, by go_num, by simp [cnt, *]⟩
                  case measure => simp [intOf]; omega
              · obtain rfl : j = 3 := by omega
                go_wp2_with fail
                refine (many_f f' _).mono ?_; rintro e w5 ⟨rfl, b5⟩
                have j1' := j1.below b5
                have c0' := j1'.cell 0 (by omega)
                have c1' := j1'.cell 1 (by omega)
                have c2' := j1'.cell 2 (by omega)
                go_wp2_with fail
                refine (won_f f' _).mono ?_; rintro e w6 ⟨rfl, b6⟩
                go_wp2_with fail
                go_roundw
                case rel => exact ⟨k + 1, f', by go_num, by omega, j1'.below b6, (j2.below b5).below b6, thenB (thenB hb4 b5) b6⟩
                case measure => simp [intOf]; omega

    · by_cases h1 : k < l.length
      all_goals
        go_wp2_with fail
        refine (awake_any _).mono ?_; rintro e w2 ⟨rfl, b2⟩
        go_wp2_with fail
        refine (none_any _).mono ?_; rintro e w3 ⟨rfl, b3⟩
        go_wp2_with fail
        refine (many_any _ _ _ _).mono ?_; rintro e w4 ⟨rfl, b4⟩
        go_wp2_with fail
        go_ret
        exact ⟨rfl, thenB hb (thenB b2 (thenB b3 b4))⟩
open Go.Proofs.Ytgainlmekgcfnaa.Open in
theorem ints_cells {W : World} {y : Sl Int} (h : (Sh.sl (.int .i64)).ok W y) : y.l.length ≤ 9223372036854775807 ∧ ∀ i, i < y.l.length → ∃ ad, y.A = some ad ∧ W.cell? (ad.add i) = some (.int .i64 (y.l[i]?.getD 0)) := by
  obtain ⟨h1, h2, h3, h4, _⟩ := h
  refine ⟨by unfold maxLen at h2; omega, fun i hi => ?_⟩
  cases hA : y.A with
  | none => rw [(h3 hA).1] at hi; simp at hi
  | some a =>
    refine ⟨a, rfl, ?_⟩
    have := h4 a hA i y.l[i] (List.getElem?_eq_getElem hi) 0 (.int .i64 y.l[i]) rfl
    simpa [Sh.size, hi] using this

theorem m2 (a : Int) : Go.bits .and .i64 a 3 = a % 4 := and_mask_i64 a 2 (by decide)
theorem m4 (a : Int) : Go.bits .and .i64 a 15 = a % 16 := and_mask_i64 a 4 (by decide)
theorem may_first (t x : Int) (n : Bool) (hx : 0 ≤ x) (w : World) : Calls Try.prog 17 #[.int .i64 t, .int .i64 (-1), .int .i64 t, .int .i64 x, .bool n] w fun e w' => e = .returned (.bool (decide (x < 3) && n)) ∧ w = w' := by
  have := may_any t (-1) t x n w
  rwa [show mayB t (-1) t x n = (decide (x < 3) && n) by simp [mayB, hx]] at this
theorem may_second (t x y : Int) (n : Bool) (hx : 0 ≤ x) (hy : 0 ≤ y) (w : World) : Calls Try.prog 17 #[.int .i64 t, .int .i64 x, .int .i64 t, .int .i64 y, .bool n] w fun e w' => ∃ b : Bool, e = .returned (.bool b) ∧ (b = true → (x == y) = true) ∧ w = w' :=
  (may_any t x t y n w).mono fun e w' ⟨h1, h2⟩ => ⟨_, h1, fun hb => by
    simp only [mayB, Bool.and_eq_true, Bool.or_eq_true, decide_eq_true_eq] at hb
    rcases hb.2 with (h | h) | h
    · omega
    · omega
    · exact h, h2⟩

end Go.Proofs.Ytgainlmekgcfnaa.Vote
namespace Go.Proofs.Ytgainlmekgcfnaa.voteCounts
open Go Go.RowKit Go.Proofs.Ytgainlmekgcfnaa.Open Go.Proofs.Ytgainlmekgcfnaa.Vote
theorem walk {H : Type} {enc : TypeId × Value → H} {W : World} {b : Nat} {v1 : Value} (ok1 : Value.okWide Try.prog W .any b 22 v1) {d1 : DataW H} {p1 : List MemPlace} (h1 : DataW.Trod enc Try.prog W 0 (fun _ => true) true 22 v1 d1 p1) :
    Calls Try.prog 3 #[v1] W fun e w' => e = .returned (.bool true) ∧ Below W.heap.size W w' := by
  obtain ⟨x, rfl, hok⟩ := open_sl (.int .i64) Try.underlying22 (by kernel_rfl) ok1 h1
  exact counts_walk x.A x.cap x.l W (ints_cells hok).1 (ints_cells hok).2
end Go.Proofs.Ytgainlmekgcfnaa.voteCounts
