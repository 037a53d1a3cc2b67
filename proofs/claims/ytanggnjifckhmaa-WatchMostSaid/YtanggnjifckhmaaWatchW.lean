/- The walk of the law WatchPlays. -/
import Derived.Test.YtanggnjifckhmaaWatchC
import Derived.Test.YtanggnjifckhmaaOpen
import Derived.Deep.DeepCutAuto
import Derived.Deep.CutBlock
import Derived.Deep.LoopGhost
namespace Go.Proofs.Ytanggnjifckhmaa.Watch
open Go Go.RowKit
open Go.Proofs.Ytanggnjifckhmaa.Gen
open Go.Proofs.Ytanggnjifckhmaa.Own
open Go.Proofs.Ytanggnjifckhmaa.Pend (lf lf_len lf_yes lf_no lf_get lf_le LeftPost iinfo idx5 Is5)
set_option linter.unusedVariables false
/-- A block of five numbers. -/
def I5 (w : World) (g : Nat) (q : Nat → Int) : Prop := w.heap[g]? = some (.cells #[.int .i64 (q 0), .int .i64 (q 1), .int .i64 (q 2), .int .i64 (q 3), .int .i64 (q 4)] 36 (0, 0))
theorem I5.cell {w : World} {g : Nat} {q : Nat → Int} (h : I5 w g q) (j : Nat) (hj : j < 5) : w.cell? ⟨g, j, none⟩ = some (.int .i64 (q j)) := by
  rw [cell_of_row w g j _ _ (0, 0) h]
  match j with
  | 0 => rfl
  | 1 => rfl
  | 2 => rfl
  | 3 => rfl
  | 4 => rfl
  | j + 5 => omega
theorem I5.free {w : World} {g : Nat} {q : Nat → Int} (h : I5 w g q) (j : Nat) : w.frozen? ⟨g, j, none⟩ = false := by
  unfold I5 at h
  simp [World.frozen?, h]
theorem I5.lt {w : World} {g : Nat} {q : Nat → Int} (h : I5 w g q) : g < w.heap.size := (Array.getElem?_eq_some_iff.1 h).1
theorem I5.b {w w' : World} {g : Nat} {q : Nat → Int} (h : I5 w g q) (hb : Below w.heap.size w w') : I5 w' g q := (hb.block g h.lt).trans h
theorem I5.g {w w' : World} {g g' : Nat} {q : Nat → Int} (h : I5 w g q) (hb : w.grownBy w' (some g')) (hne : g ≠ g') : I5 w' g q := (hb.block g h.lt (by intro e; injection e with e; exact hne e)).trans h
theorem I5.other {w : World} {g : Nat} {q : Nat → Int} (h : I5 w g q) {p : Addr} (hp : g ≠ p.block) (u : Value) : I5 (w.setCell p u) g q := (Below.heap_setCell w p u g hp).trans h
theorem IsW.other {w : World} {g : Nat} {k : Int} {q : Nat → Int} (h : IsW w g k q) {p : Addr} (hp : g ≠ p.block) (u : Value) : IsW (w.setCell p u) g k q := (Below.heap_setCell w p u g hp).trans h
theorem I5.set1 {w : World} {g : Nat} {q q' : Nat → Int} {x : Int} (h : I5 w g q) (j : Nat) (hj : j < 5) (hf : ∀ i, i < 5 → q' i = if i = j then x else q i) : I5 (w.setCell ⟨g, j, none⟩ (.int .i64 x)) g q' := by
  unfold I5 at h ⊢
  rw [hf 0 (by omega), hf 1 (by omega), hf 2 (by omega), hf 3 (by omega), hf 4 (by omega)]
  match j with
  | 0 => simp [World.setCell, Array.getElem?_modify, h]
  | 1 => simp [World.setCell, Array.getElem?_modify, h]
  | 2 => simp [World.setCell, Array.getElem?_modify, h]
  | 3 => simp [World.setCell, Array.getElem?_modify, h]
  | 4 => simp [World.setCell, Array.getElem?_modify, h]
  | j + 5 => omega
theorem I5.congr {w : World} {g : Nat} {q q' : Nat → Int} (h : I5 w g q) (hf : ∀ i, i < 5 → q' i = q i) : I5 w g q' := by
  unfold I5 at h ⊢
  rw [hf 0 (by omega), hf 1 (by omega), hf 2 (by omega), hf 3 (by omega), hf 4 (by omega)]
  exact h
theorem below_grown {B : Nat} {w w1 w2 : World} {g : Nat} (h : Below B w w1) (hg : w1.grownBy w2 (some g)) (hB : B ≤ w1.heap.size) (hgB : B ≤ g) : Below B w w2 :=
  h.grown hg hB (fun k hk => by injection hk with hk; omega)
theorem fit0 : Fit (fun _ => 0) := fun j _ => by
  show (0 : Int) ≤ 0 ∧ (0 : Int) ≤ 1000
  omega
theorem fit1 : Fit (fun _ => up1 0) := fun j _ => by
  show (0 : Int) ≤ up1 0 ∧ up1 0 ≤ 1000
  decide
theorem awake_any (w : World) : Calls Try.prog 19 #[] w fun e w' => e = .returned (.bool true) ∧ Below w.heap.size w w' := by
  have heq : ∀ w, (binOp .eql 23 (.agg #[.bool (isUp 1 (fun _ => 0) 0), .bool (isUp 1 (fun _ => 0) 1), .bool (isUp 1 (fun _ => 0) 2), .bool (isUp 1 (fun _ => 0) 3), .bool (isUp 1 (fun _ => 0) 4)]) (.agg #[.bool true, .bool true, .bool true, .bool true, .bool true])).run Try.prog w = .ok (.bool true) w := fun w => by
    have h := Pend.eq_arr 9998 (isUp 1 (fun _ => 0)) (fun _ => true) w
    simp only [binOp, Op.equal, Op.maxDepth]
    simp [h]
    decide
  go_enter Try.func19, Try.ntmps19
  go_wp2_with fail
  refine (new_any 1 _).mono ?_; rintro e w1 ⟨rfl, i1, b1⟩
  have e1 : limit 1 = 1 := by decide
  rw [e1] at i1
  clear e1
  go_wp2_with fail
  refine (up_any _ 1 (fun _ => 0) _ i1).mono ?_; rintro e w2 ⟨rfl, b2⟩
  have i2 := i1.b b2
  have hb2 := thenB b1 b2
  have lt1 := i2.lt
  clear i1 b1 b2
  have i3 : IsW (w2.alloc (.cells #[.bool (isUp 1 (fun _ => 0) 0), .bool (isUp 1 (fun _ => 0) 1), .bool (isUp 1 (fun _ => 0) 2), .bool (isUp 1 (fun _ => 0) 3), .bool (isUp 1 (fun _ => 0) 4)] 23)) w.heap.size 1 (fun _ => 0) := (Below.heap_alloc _ _ _ i2.lt).trans i2
  have i4 : Is5 (w2.alloc (.cells #[.bool (isUp 1 (fun _ => 0) 0), .bool (isUp 1 (fun _ => 0) 1), .bool (isUp 1 (fun _ => 0) 2), .bool (isUp 1 (fun _ => 0) 3), .bool (isUp 1 (fun _ => 0) 4)] 23)) w2.heap.size 23 (isUp 1 (fun _ => 0)) := heap_alloc_new _ _
  have hb3 := hb2.alloc (o := .cells #[.bool (isUp 1 (fun _ => 0) 0), .bool (isUp 1 (fun _ => 0) 1), .bool (isUp 1 (fun _ => 0) 2), .bool (isUp 1 (fun _ => 0) 3), .bool (isUp 1 (fun _ => 0) 4)] 23) hb2.size
  clear i2 hb2
  go_wp2_with fail
  refine (tick_any _ 1 (fun _ => 0) _ i3 fit0).mono ?_; rintro e w3 ⟨rfl, i5, g5⟩
  have i6 : Is5 w3 w2.heap.size 23 (isUp 1 (fun _ => 0)) := (g5.block _ i4.lt (by intro e; injection e with e; omega)).trans i4
  have hb4 := below_grown hb3 g5 hb3.size (Nat.le_refl _)
  clear i3 i4 hb3 g5
  go_wp2_with fail
  refine (tick_any _ 1 (fun _ => up1 0) _ i5 fit1).mono ?_; rintro e w4 ⟨rfl, i7, g7⟩
  have i8 : Is5 w4 w2.heap.size 23 (isUp 1 (fun _ => 0)) := (g7.block _ i6.lt (by intro e; injection e with e; omega)).trans i6
  have hb5 := below_grown hb4 g7 hb4.size (Nat.le_refl _)
  clear i5 i6 hb4 g7
  have c0 := i8.cell 0 (by omega)
  have c1 := i8.cell 1 (by omega)
  have c2 := i8.cell 2 (by omega)
  have c3 := i8.cell 3 (by omega)
  have c4 := i8.cell 4 (by omega)
  go_wp2_with fail
  refine (quiet_any _ 1 (fun _ => up1 (up1 0)) _ i7).mono ?_; rintro e w5 ⟨A5, cap5, rfl, _, b5⟩
  have e5 : (lf (notUp (isUp 1 fun _ => up1 (up1 0))) 5).length = 5 := by decide
  rw [e5]
  go_wp2_with fail
  go_ret
  exact ⟨rfl, hb5.trans (b5.mono hb5.size)⟩
theorem m3 (a : Int) : Go.bits .and .i64 a 7 = a % 8 := and_mask_i64 a 3 (by decide)
theorem limit_id {k : Int} (h : 1 ≤ k ∧ k ≤ 1000) : limit k = k := by unfold limit; omega
theorem up1_id {x : Int} (h : x ≤ 999) : up1 x = x + 1 := by unfold up1; omega
/-- What is known between the parts of a round. -/
def Mid (gw gm : Nat) (k : Int) (i : Nat) (W w : World) : Prop := ∃ q : Nat → Int, IsW w gw k q ∧ I5 w gm q ∧ (∀ j, j < 5 → 0 ≤ q j ∧ q j ≤ (i : Int)) ∧ Below W.heap.size W w
def Mid4 (gw gm gu : Nat) (k : Int) (q : Nat → Int) (u : Nat → Bool) (A4 : Option Addr) (W w : World) : Prop :=
  IsW w gw k q ∧ I5 w gm q ∧ Is5 w gu 23 u ∧ Below W.heap.size W w ∧ ∀ i, i < (lf (notUp u) 5).length → ∃ ad, A4 = some ad ∧ w.cell? (ad.add i) = some (.int .i64 ((lf (notUp u) 5)[i]?.getD 0))
set_option maxRecDepth 100000 in
set_option maxHeartbeats 8000000 in
theorem plays_walk (n : Int) (A : Option Addr) (cap : Nat) (l : List (Bool × Int)) (W : World) (hl : l.length ≤ 9223372036854775807)
    (hc : ∀ i, i < l.length → ∃ ad, ∃ b : Bool, ∃ v : Int, A = some ad ∧ W.cell? (ad.add (i * 2)) = some (.bool b) ∧ W.cell? ⟨(ad.add (i * 2)).block, (ad.add (i * 2)).off + 1, none⟩ = some (.int .i64 v)) :
    Calls Try.prog 5 #[.int .i64 n, .slice A l.length cap] W fun e w' => e = .returned (.bool true) ∧ Below W.heap.size W w' := by
  obtain ⟨q3, e3⟩ : ∃ q, Go.bits .and .i64 n 3 = q := ⟨_, rfl⟩
  obtain ⟨q7, e7, h70, h71⟩ : ∃ q, Go.bits .and .i64 n 7 = q ∧ 0 ≤ q ∧ q < 8 := ⟨_, rfl, by rw [m3]; omega, by rw [m3]; omega⟩
  go_enter Try.func5, Try.ntmps5
  go_upto_if 19 with fail
  go_cut [5] (fun s5 wx => ∃ k : Int, s5 = .int .i64 k ∧ 1 ≤ k ∧ k ≤ 1000 ∧ W = wx)
  case first =>
    by_cases h : 0 < q3
    all_goals
      go_wp2_with fail
      go_meet
      exact ⟨_, rfl, by omega, by omega, rfl⟩
  case rest =>
    obtain ⟨k, rfl, hk1, hk2, rfl⟩ := hcut
    clear e3 e7
    go_wp2_with fail
    refine (new_any k _).mono ?_; rintro e w1 ⟨rfl, i1, b1⟩
    rw [limit_id ⟨hk1, hk2⟩] at i1
    have lt1 := i1.lt
    have hM : Mid W.heap.size w1.heap.size k 0 W (w1.alloc (.cells #[.int .i64 0, .int .i64 0, .int .i64 0, .int .i64 0, .int .i64 0] 36)) :=
      ⟨fun _ => 0, (Below.heap_alloc _ _ _ i1.lt).trans i1, heap_alloc_new _ _, fun j _ => by
        show (0 : Int) ≤ 0 ∧ (0 : Int) ≤ ((0 : Nat) : Int)
        omega, b1.alloc b1.size _⟩
    clear i1
    go_wp2_with fail
    go_loopg [8] 80 (fun gg i wr => ∃ i0 : Nat, i = .int .i64 i0 ∧ i0 ≤ 80 ∧ gg = 80 - i0 ∧ Mid W.heap.size w1.heap.size k i0 W wr)
    case atStart => exact ⟨0, rfl, by omega, rfl, hM⟩
    case round =>
      obtain ⟨i0, rfl, hi, rfl, q, i1, i2, hq, hb⟩ := hrel
      by_cases hlt : i0 < l.length ∧ i0 < 80
      · obtain ⟨h1, h2⟩ := hlt
        obtain ⟨ad, b, v, rfl, hcb, hcv⟩ := hc i0 h1
        have hcb' := cellB hb hcb
        have hcv' := cellB hb hcv
        have HB := Lib.hid hcb
        have HV := Lib.hid hcv
        have lt2 := i2.lt
        clear hcb hcv
        go_upto_if 41 with fail
        go_cut [9] (fun s9 wx => Mid W.heap.size w1.heap.size k (i0 + 1) W wx)
        case first =>
          cases b
          · go_wp2_with fail
            by_cases hin : 0 ≤ v ∧ v < 5
            · obtain ⟨v0, v1⟩ := hin
              refine (heard_in _ k q v _ i1 v0 v1).mono ?_; rintro e w3 ⟨rfl, j1, g1⟩
              have j2 := i2.g g1 (by omega)
              have hb2 := below_grown hb g1 hb.size (Nat.le_refl _)
              have hcv2 := cellB hb2 HV.out
              clear hcb' hcv' i1 i2 hb
              have c0 := j2.cell v.toNat (by omega)
              have z0 := j2.free v.toNat
              go_wp2_with fail
              go_meet
              exact ⟨fun j => if j = v.toNat then 0 else q j, j1.other (by simp; omega) _, j2.set1 v.toNat (by omega) (fun _ _ => rfl), fun j hj => by
                show 0 ≤ (if j = v.toNat then 0 else q j) ∧ (if j = v.toNat then 0 else q j) ≤ ((i0 + 1 : Nat) : Int)
                have := hq j hj
                split <;> omega, hb2.setCell b1.size _⟩
            · refine (heard_out _ v _ (by omega)).mono ?_; rintro e w3 ⟨rfl, rfl⟩
              by_cases hneg : v < 0
              all_goals
                go_wp2_with fail
                go_meet
                exact ⟨q, i1, i2, fun j hj => by have := hq j hj; omega, hb⟩
          · go_wp2_with fail
            refine (tick_any _ k q _ i1 (fun j hj => by have := hq j hj; omega)).mono ?_; rintro e w3 ⟨rfl, j1, g1⟩
            have j2 := i2.g g1 (by omega)
            have hb2 := below_grown hb g1 hb.size (Nat.le_refl _)
            have j3 : IsW w3 W.heap.size k (fun j => q j + 1) := j1.congr (fun j hj => by have := hq j hj; exact (up1_id (by omega)).symm)
            clear hcb' hcv' i1 i2 hb j1
            go_wp2_with fail
            go_loopw [9] (fun x wr => ∃ t : Nat, x = .int .i64 t ∧ t ≤ 5 ∧ IsW wr W.heap.size k (fun j => q j + 1) ∧ I5 wr w1.heap.size (fun j => if j < t then q j + 1 else q j) ∧ Below W.heap.size W wr) (fun x _ => 5 - (intOf x).toNat)
            case atStart => exact ⟨0, rfl, by omega, j3, j2.congr (fun i _ => by simp), hb2⟩
            case round =>
              obtain ⟨t, rfl, ht, j1, j2, hb3⟩ := hrel
              by_cases htl : t < 5
              · have c0 : wr.cell? ⟨w1.heap.size, t, none⟩ = some (.int .i64 (q t)) := by rw [j2.cell t htl, if_neg (by omega)]
                have z0 := j2.free t
                obtain ⟨r0, r1⟩ := hq t htl
                go_wp2_with fail
                go_roundw
                case rel => exact ⟨t + 1, by go_num, by omega, j1.other (by simp; omega) _, j2.set1 (x := q t + 1) (q' := fun j => if j < t + 1 then q j + 1 else q j) t htl (fun i hi => by
                    show (if i < t + 1 then q i + 1 else q i) = if i = t then q t + 1 else if i < t then q i + 1 else q i
                    by_cases e : i = t
                    · subst e; rw [if_pos rfl, if_pos (by omega)]
                    · rw [if_neg e]; by_cases e2 : i < t
                      · rw [if_pos e2, if_pos (by omega)]
                      · rw [if_neg e2, if_neg (by omega)]), hb3.setCell b1.size _⟩
                case measure => simp [intOf]; omega
              · obtain rfl : t = 5 := by omega
                go_wp2_with fail
                go_meet
                exact ⟨fun j => q j + 1, j1, j2.congr (fun i hi => by rw [if_pos hi]), fun j hj => by have := hq j hj; show 0 ≤ q j + 1 ∧ q j + 1 ≤ _; omega, hb3⟩
        case rest =>
          clear hcb' hcv' i1 i2 hb hq
          obtain ⟨q', i1, i2, hq, hb⟩ := hcut
          go_wp2_with fail
          refine (up_any _ k q' _ i1).mono ?_; rintro e w3 ⟨rfl, b3⟩
          have j1 := i1.b b3
          go_wp2_with fail
          refine (quiet_any _ k q' _ j1).mono ?_; rintro e w4 ⟨A4, cap4, rfl, hc4, b4⟩
          have k1 := j1.b b4
          have k2 := (i2.b b3).b b4
          have hb4 := (hb.trans (b3.mono hb.size)).trans (b4.mono (by have := hb.size; have := b3.size; omega))
          have lt4 := k1.lt
          have lt5 := k2.lt
          clear i1 i2 j1 b3 b4 hb
          obtain ⟨u, hu⟩ : ∃ u, u = isUp k q' := ⟨_, rfl⟩
          rw [← hu] at hc4 ⊢
          have HU : Hid (∀ j, u j = decide (q' j ≤ k)) := fun j => by rw [hu]; rfl
          clear hu
          have hM : Mid4 W.heap.size w1.heap.size w4.heap.size k q' u A4 W (w4.alloc (.cells #[.bool (u 0), .bool (u 1), .bool (u 2), .bool (u 3), .bool (u 4)] 23)) := ⟨(Below.heap_alloc _ _ _ lt4).trans k1, (Below.heap_alloc _ _ _ lt5).trans k2, heap_alloc_new _ _, hb4.alloc hb4.size _, fun i hi => by
            obtain ⟨ad', h1, h2⟩ := hc4 i hi
            exact ⟨ad', h1, (World.cell?_alloc_lt _ _ _ (World.block_lt_of_cell? _ _ h2)).trans h2⟩⟩
          clear k1 k2 hb4 hc4
          have HQ := Lib.hid hq
          clear hq
          go_wp2_with fail
          go_loopw [12, 13] (fun kk x wr => ∃ t : Nat, t ≤ 5 ∧ x = .int .i64 t ∧ kk = .int .i64 (lf (notUp u) t).length ∧ Mid4 W.heap.size w1.heap.size w4.heap.size k q' u A4 W wr) (fun _ x _ => 5 - (intOf x).toNat)
          case atStart => exact ⟨0, by omega, rfl, rfl, hM⟩
          case round =>
            clear hM
            obtain ⟨t, ht, rfl, rfl, k1, k2, k3, hb5, hc5⟩ := hrel
            have HC5 := Lib.hid hc5
            clear hc5
            by_cases ht5 : t < 5
            · have hz0 : (0 : Int) ≤ (t : Int) := by omega
              have hz1 : (t : Int) < 5 := by omega
              have d := k3.cell t ht5
              have c := k2.cell t ht5
              have hll := lf_len (notUp u) t
              have hu := HU.out t
              cases hfx : u t
              · rw [hfx] at d hu
                replace hu := hu.symm
                have hf2 : notUp u t = true := by simp [notUp, hfx]
                obtain ⟨g1, g2⟩ := lf_get _ ht5 hf2
                obtain ⟨ad4, rfl, hcell4⟩ := HC5.out _ g1
                rw [g2] at hcell4
                simp only [Option.getD_some] at hcell4
                have HY := Lib.hid (lf_yes _ hf2)
                clear hfx g2 hf2
                go_wp2_with fail
                go_quiet (fail)
                go_wp2_with fail
                go_roundw
                case rel => exact ⟨t + 1, by omega, by go_num, by rw [HY.out]; go_num, k1, k2, k3, bN hb5 _, HC5.out⟩
                case measure => simp [intOf]; omega
              · rw [hfx] at d hu
                replace hu := hu.symm
                have hf2 : notUp u t = false := by simp [notUp, hfx]
                have HN := Lib.hid (lf_no _ hf2)
                clear hfx hf2
                go_wp2_with fail
                go_quiet (fail)
                go_wp2_with fail
                go_roundw
                case rel => exact ⟨t + 1, by omega, by go_num, by rw [HN.out], k1, k2, k3, bN hb5 _, HC5.out⟩
                case measure => simp [intOf]; omega
            · obtain rfl : t = 5 := by omega
              go_wp2_with fail
              go_roundg (80 - (i0 + 1))
              case measure => omega
              case rel => exact ⟨i0 + 1, by go_num, by omega, rfl, q', k1, k2, HQ.out, hb5⟩
      · by_cases h1 : i0 < l.length
        · have h2 : ¬ i0 < 80 := fun h => hlt ⟨h1, h⟩
          go_wp2_with fail
          refine (awake_any _).mono ?_; rintro e w3 ⟨rfl, b3⟩
          go_wp2_with fail
          go_ret
          exact ⟨rfl, hb.trans (b3.mono hb.size)⟩
        · go_wp2_with fail
          refine (awake_any _).mono ?_; rintro e w3 ⟨rfl, b3⟩
          go_wp2_with fail
          go_ret
          exact ⟨rfl, hb.trans (b3.mono hb.size)⟩
end Go.Proofs.Ytanggnjifckhmaa.Watch
