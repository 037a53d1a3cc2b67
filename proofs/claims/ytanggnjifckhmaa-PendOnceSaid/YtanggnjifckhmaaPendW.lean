/- The walks of the laws of layer 29 (pend): PendPlays, PendOnce. -/
import Derived.Test.YtanggnjifckhmaaPendC
import Derived.Test.YtanggnjifckhmaaOpen
import Derived.Deep.RegionWith
import Derived.Lib.MinMax
import Derived.Outline
import Derived.Deep.DeepCutAuto
import Derived.Deep.CutBlock
import Derived.Deep.LoopGhost
namespace Go.Proofs.Ytanggnjifckhmaa.Pend
open Go Go.RowKit
open Go.Proofs.Ytanggnjifckhmaa.Gen
open Go.Proofs.Ytanggnjifckhmaa.Own
set_option linter.unusedVariables false

theorem add_lit (g o j : Nat) : (⟨g, o, none⟩ : Addr).add j = ⟨g, o + j, none⟩ := by unfold Addr.add; split <;> simp_all
theorem off_no {f : Nat → Bool} {n : Int} (h : Hid (isIn f n = false)) (i : Nat) (hi : i < 5) : off f n i = f i := by
  have h := h.out
  unfold off
  by_cases e : n = (i : Int)
  · subst e
    have e1 : isIn f (i : Int) = f i := by unfold isIn; rw [decide_eq_true (by omega), Int.toNat_natCast, Bool.true_and]
    rw [e1] at h
    rw [h]; rfl
  · rw [show (n == (i : Int)) = false by simp [e]]; simp
theorem off_yes {f : Nat → Bool} {n : Int} (n0 : 0 ≤ n) (i : Nat) : off f n i = if i = n.toNat then false else f i := by
  unfold off
  by_cases e : i = n.toNat
  · rw [if_pos e, show (n == (i : Int)) = true by simp; omega]; simp
  · rw [if_neg e, show (n == (i : Int)) = false by simp; omega]; simp
theorem left_is (f : Nat → Bool) (l : List Int) (n : Nat) (h : lf f 5 = l) (hn : n = l.length) (w : World) : Calls Try.prog 11 #[.agg #[.bool (f 0), .bool (f 1), .bool (f 2), .bool (f 3), .bool (f 4)]] w
    fun e w' => ∃ A cap, e = .returned (.slice A n cap) ∧ (∀ i, i < n → ∃ ad, A = some ad ∧ w'.cell? (ad.add i) = some (.int .i64 (l[i]?.getD 0))) ∧ Below w.heap.size w w' := by
  subst h hn
  exact left_any f w
theorem done_lf (f : Nat → Bool) (w : World) : Calls Try.prog 12 #[.agg #[.bool (f 0), .bool (f 1), .bool (f 2), .bool (f 3), .bool (f 4)]] w fun e w' => e = .returned (.bool (((lf f 5).length : Int) == 0)) ∧ Below w.heap.size w w' := by
  have h := done_any f w
  rw [none_lf] at h
  rwa [show (((lf f 5).length : Int) == 0) = ((lf f 5).length == 0) by rw [Bool.eq_iff_iff]; simp]
theorem awake_any (w : World) : Calls Try.prog 13 #[] w fun e w' => e = .returned (.bool true) ∧ Below w.heap.size w w' := by
  go_enter Try.func13, Try.ntmps13
  go_wp2_with fail
  refine (of_any (some ⟨w.heap.size, 0, none⟩) 2 [1, 2] _ (by decide) (fun i hi => ⟨_, rfl, by
    rw [add_lit, Nat.zero_add, (Blk.fresh _ _ _).cell]
    match i, hi with
    | 0, _ => rfl
    | 1, _ => rfl⟩)).mono ?_; rintro e w1 ⟨rfl, b1⟩
  go_wp2_with fail
  refine (got_any (has [1, 2]) 1 _).mono ?_; rintro e w2 ⟨rfl, b2⟩
  go_wp2_with fail
  refine (left_is (off (has [1, 2]) 1) [2] 1 (by decide) rfl _).mono ?_; rintro e w3 ⟨A, cap, rfl, hc, b3⟩
  obtain ⟨ad, rfl, hcell⟩ := hc 0 (by decide)
  clear hc
  have hcell2 : w3.cell? ad = some (.int .i64 2) := by simpa [Addr.add] using hcell
  clear hcell
  have e1 : isIn (has [1, 2]) 1 = true := by decide
  have k0 := cellB b3 (a := ⟨w2.heap.size, 0, none⟩) (v := .bool (off (has [1, 2]) 1 0)) (by simp)
  have k1 := cellB b3 (a := ⟨w2.heap.size, 1, none⟩) (v := .bool (off (has [1, 2]) 1 1)) (by simp)
  have k2 := cellB b3 (a := ⟨w2.heap.size, 2, none⟩) (v := .bool (off (has [1, 2]) 1 2)) (by simp)
  have k3 := cellB b3 (a := ⟨w2.heap.size, 3, none⟩) (v := .bool (off (has [1, 2]) 1 3)) (by simp)
  have k4 := cellB b3 (a := ⟨w2.heap.size, 4, none⟩) (v := .bool (off (has [1, 2]) 1 4)) (by simp)
  have hb : Below w.heap.size w w3 := (((Below.refl _ _).alloc (Nat.le_refl _) _).trans (b1.mono (by simp))).trans ((b2.mono b1.size |>.mono (by simp)).trans (((Below.refl _ _).alloc (by have := b1.size; have := b2.size; simp at *; omega) _).trans (b3.mono (by have := b1.size; have := b2.size; simp at *; omega))))
  clear b1 b2 b3
  go_wp2_with fail
  refine (done_any (off (has [1, 2]) 1) _).mono ?_; rintro e w4 ⟨rfl, b4⟩
  have e2 : none5 (off (has [1, 2]) 1) = false := by decide
  go_wp2_with fail
  go_ret
  exact ⟨rfl, hb.trans (b4.mono hb.size)⟩
/-- Of the first twenty. -/
theorem of_20 (A : Option Addr) (cap m : Nat) (l : List Int) (W : World) (hl : l.length ≤ 9223372036854775807) (hc : ∀ i, i < l.length → ∃ ad, A = some ad ∧ W.cell? (ad.add i) = some (.int .i64 (l[i]?.getD 0))) (hm : m ≤ l.length) :
    Calls Try.prog 9 #[.slice A m cap] W fun e w' => e = .returned (.agg #[.bool (has (l.take m) 0), .bool (has (l.take m) 1), .bool (has (l.take m) 2), .bool (has (l.take m) 3), .bool (has (l.take m) 4)]) ∧ Below W.heap.size W w' := by
  have e : (l.take m).length = m := by rw [List.length_take]; omega
  have h := of_any A cap (l.take m) W (by omega) (fun i hi => by
    obtain ⟨ad, h1, h2⟩ := hc i (by omega)
    refine ⟨ad, h1, ?_⟩
    rw [h2, List.getElem?_take, if_pos (by omega)])
  rwa [e] at h
/-- What is known between the parts of a round. -/
def Mid (gp gm : Nat) (f g : Nat → Bool) (W w : World) : Prop := Is5 w gp 25 f ∧ Is5 w gm 23 g ∧ Below W.heap.size W w
def Mid3 (gp gm gq : Nat) (f g : Nat → Bool) (W w : World) : Prop := Is5 w gp 25 f ∧ Is5 w gm 23 f ∧ Is5 w gq 25 g ∧ Below W.heap.size W w
theorem is_in {f : Nat → Bool} {n : Int} (h : isIn f n = true) : 0 ≤ n ∧ n < 5 := by
  unfold isIn at h
  simp only [Bool.and_eq_true, decide_eq_true_eq] at h
  exact h.1
set_option maxRecDepth 100000 in
set_option maxHeartbeats 4000000 in
theorem plays_walk (A : Option Addr) (cap : Nat) (l : List Int) (A2 : Option Addr) (cap2 : Nat) (l2 : List Int) (W : World) (hl : l.length ≤ 9223372036854775807) (hcl : l.length ≤ cap) (hcm : cap ≤ 9223372036854775807)
    (hc : ∀ i, i < l.length → ∃ ad, A = some ad ∧ W.cell? (ad.add i) = some (.int .i64 (l[i]?.getD 0))) (hl2 : l2.length ≤ 9223372036854775807) (hc2 : ∀ i, i < l2.length → ∃ ad, A2 = some ad ∧ W.cell? (ad.add i) = some (.int .i64 (l2[i]?.getD 0))) :
    Calls Try.prog 3 #[.slice A l.length cap, .slice A2 l2.length cap2] W fun e w' => e = .returned (.bool true) ∧ Below W.heap.size W w' := by
  go_enter Try.func3, Try.ntmps3
  go_wp2_with fail
  obtain ⟨m, hm1, hm2, hm3, hm4⟩ : ∃ m : Nat, (min (l.length : Int) 20).toNat = m ∧ m ≤ l.length ∧ m ≤ 20 ∧ (l.length ≤ m ∨ 20 ≤ m) := ⟨_, rfl, by omega, by omega, by omega⟩
  rw [hm1]
  clear hm1
  refine (of_20 A cap m l _ hl hc hm2).mono ?_; rintro e w1 ⟨rfl, b1⟩
  go_upto_block 0 with fail
  go_cut [7] (fun s7 wx => ∃ f0 : Nat → Bool, Mid w1.heap.size (w1.heap.size + 1) f0 f0 W wx)
  case first =>
    go_wp2_with fail
    go_loopw [7] (fun i wr => ∃ k : Nat, ∃ g : Nat → Bool, i = .int .i64 k ∧ k ≤ m ∧ Mid w1.heap.size (w1.heap.size + 1) (has (l.take m)) g W wr ∧ (∀ j, j < 5 → g j = has (l.take k) j)) (fun i _ => 20 - (intOf i).toNat)
    case atStart =>
      refine ⟨0, fun _ => false, rfl, by omega, ⟨?_, ?_, ?_⟩, fun j _ => by simp [has]⟩
      · exact heap_alloc2_old _ _ _
      · exact heap_alloc2_new _ _ _
      · exact (b1.alloc b1.size _).alloc (by have := b1.size; simp; omega) _
    case round =>
      obtain ⟨k, g, rfl, hk, ⟨i1, i2, hb⟩, hg⟩ := hrel
      have HG := Lib.hid hg
      clear hg
      by_cases hlt : k < m
      · have hlt1 : k < l.length := by omega
        have hlt2 : k < 20 := by omega
        obtain ⟨ad, rfl, hcell⟩ := hc k (by omega)
        have hts := take_get l k (by omega)
        generalize l[k]?.getD 0 = n at hcell hts
        have HT : Hid (∀ j, has (l.take (k + 1)) j = (has (l.take k) j || n == (j : Int))) := fun j => by rw [hts, has_snoc]
        clear hts
        have hcell' := cellB hb hcell
        clear hcell
        by_cases hin : 0 ≤ n ∧ n < 5
        · obtain ⟨n0, n1⟩ := hin
          have c0 := i2.cell n.toNat (by omega)
          have z0 := i2.free n.toNat
          go_wp2_with fail
          go_roundw
          case rel => exact ⟨k + 1, fun i => if i = n.toNat then true else g i, by go_num, by omega, ⟨i1.other (by simp) _, i2.set1 n.toNat (by omega) (fun i _ => rfl), hb.setCell (by have := b1.size; simp; omega) _⟩, fun j hj => by
                rw [HT.out, ← HG.out j hj]
                show (if j = n.toNat then true else g j) = _
                by_cases e : j = n.toNat
                · rw [if_pos e, show (n == (j : Int)) = true by simp; omega, Bool.or_true]
                · rw [if_neg e, show (n == (j : Int)) = false by simp; omega, Bool.or_false]⟩
          case measure => simp [intOf]; omega
        · have hout : Hid (∀ j : Nat, j < 5 → (n == (j : Int)) = false) := fun j hj => by simp; omega
          by_cases hneg : n < 0
          all_goals
            go_wp2_with fail
            go_roundw
            case rel => exact ⟨k + 1, g, by go_num, by omega, ⟨i1, i2, hb⟩, fun j hj => by rw [HT.out, ← HG.out j hj, hout.out j hj, Bool.or_false]⟩
            case measure => simp [intOf]; omega
      · obtain rfl : k = m := by omega
        have i3 := i2.congr (f' := has (l.take k)) (fun j hj => (HG.out j hj).symm)
        clear i2 HG
        have hM : Mid w1.heap.size (w1.heap.size + 1) (has (l.take k)) (has (l.take k)) W wr := ⟨i1, i3, hb⟩
        have HE : Hid (¬ k < l.length ∨ ¬ k < 20) := by have : ¬ k < l.length ∨ ¬ k < 20 := by omega
                                                        exact this
        clear i1 i3 hb hlt
        by_cases hq : k < l.length
        · have hq2 : ¬ k < 20 := by have := HE.out; omega
          go_wp2_with fail
          go_meet
          exact ⟨_, hM⟩
        · go_wp2_with fail
          go_meet
          exact ⟨_, hM⟩
  case rest =>
    obtain ⟨f0, hM⟩ := hcut
    go_wp2_with fail
    go_loopg [8] 20 (fun gg i wr => ∃ i0 : Nat, ∃ f : Nat → Bool, i = .int .i64 i0 ∧ i0 ≤ 20 ∧ gg = 20 - i0 ∧ Mid w1.heap.size (w1.heap.size + 1) f f W wr)
    case atStart => exact ⟨0, f0, rfl, by omega, rfl, hM⟩
    case round =>
      obtain ⟨i0, f, rfl, hi, rfl, ⟨i1, i2, hb⟩⟩ := hrel
      by_cases hlt : i0 < l2.length ∧ i0 < 20
      · obtain ⟨h1, h2⟩ := hlt
        obtain ⟨ad, rfl, hcell⟩ := hc2 i0 h1
        have hcell' := cellB hb hcell
        clear hcell
        generalize l2[i0]?.getD 0 = v at hcell'
        obtain ⟨q, e3⟩ : ∃ q, Go.bits .and .i64 (i0 : Int) 3 = q := ⟨_, rfl⟩
        obtain ⟨v7, e7⟩ : ∃ v7, Go.bits .and .i64 v 7 = v7 := ⟨_, rfl⟩
        go_upto_if 65 with fail
        go_cut [9] (fun s9 wx => ∃ n : Int, s9 = .int .i64 n ∧ wr = wx)
        case first =>
          by_cases hq0 : 0 < q
          all_goals
            go_wp2_with fail
            go_meet
            exact ⟨_, rfl, rfl⟩
        case rest =>
          obtain ⟨n, rfl, rfl⟩ := hcut
          clear e3 e7 hcell'
          have c0 := i1.cell 0 (by omega)
          have c1 := i1.cell 1 (by omega)
          have c2 := i1.cell 2 (by omega)
          have c3 := i1.cell 3 (by omega)
          have c4 := i1.cell 4 (by omega)
          go_wp2_with fail
          clear c0 c1 c2 c3 c4
          refine (got_any f n _).mono ?_; rintro e w3 ⟨rfl, b3⟩
          have j1 := i1.below b3
          have j2 := i2.below b3
          have hb3 : Below W.heap.size W w3 := hb.trans (b3.mono hb.size)
          clear i1 i2 hb b3
          have hM : Mid3 w1.heap.size (w1.heap.size + 1) w3.heap.size f (off f n) W (w3.alloc (.cells #[.bool (off f n 0), .bool (off f n 1), .bool (off f n 2), .bool (off f n 3), .bool (off f n 4)] 25)) := ⟨(Below.heap_alloc _ _ _ j1.lt).trans j1, (Below.heap_alloc _ _ _ j2.lt).trans j2, heap_alloc_new _ _, hb3.alloc hb3.size _⟩
          have s1 := j1.lt
          have s2 := j2.lt
          go_upto_region 14 with fail
          go_cut [11, 89] (fun s11 s89 wx => s11 = .bool (isIn f n) ∧ s89 = .bool false ∧ Mid3 w1.heap.size (w1.heap.size + 1) w3.heap.size f (off f n) W wx)
          case first =>
            by_cases hin : 0 ≤ n ∧ n < 5
            · obtain ⟨n0, n1⟩ := hin
              have d0 := j2.cell n.toNat (by omega)
              cases hfn : f n.toNat
              · have hi : isIn f n = false := by simp [isIn, hfn]
                rw [hfn] at d0
                clear hfn
                go_wp2_with fail
                go_meet
                exact ⟨by rw [hi], rfl, hM⟩
              · have hi : isIn f n = true := by simp [isIn, hfn, n0, n1]
                rw [hfn] at d0
                clear hfn
                go_wp2_with fail
                go_meet
                exact ⟨by rw [hi], rfl, hM⟩
            · have hi : isIn f n = false := by unfold isIn; rw [decide_eq_false hin]; rfl
              by_cases hneg : n < 0
              all_goals
                go_wp2_with fail
                go_meet
                exact ⟨by rw [hi], rfl, hM⟩
          case rest =>
            clear j1 j2 hb3 hM
            obtain ⟨rfl, rfl, j1, j2, j3, hb3⟩ := hcut
            have c0 := j3.cell 0 (by omega)
            have c1 := j3.cell 1 (by omega)
            have c2 := j3.cell 2 (by omega)
            have c3 := j3.cell 3 (by omega)
            have c4 := j3.cell 4 (by omega)
            have d0 := j1.cell 0 (by omega)
            have d1 := j1.cell 1 (by omega)
            have d2 := j1.cell 2 (by omega)
            have d3 := j1.cell 3 (by omega)
            have d4 := j1.cell 4 (by omega)
            have z0 := j1.free 0
            have z1 := j1.free 1
            have z2 := j1.free 2
            have z3 := j1.free 3
            have z4 := j1.free 4
            go_upto_if 91 with fail
            go_cut [11] (fun s11 wx => ∃ f' : Nat → Bool, Mid w1.heap.size (w1.heap.size + 1) f' f' W wx)
            case first =>
              cases hi : isIn f n
              · have hi2 := Lib.hid hi
                go_wp2_with fail
                go_meet
                exact ⟨off f n, set5 j1 _ _ _ _ _, (((((j2.other (by simp) _).other (by simp) _).other (by simp) _).other (by simp) _).other (by simp) _ : Is5 _ _ _ _).congr (fun i hi => off_no hi2 i hi), (((((hb3.setCell b1.size _).setCell b1.size _).setCell b1.size _).setCell b1.size _).setCell b1.size _)⟩
              · have hin := is_in hi
                obtain ⟨n0, n1⟩ := hin
                have y0 := j2.free n.toNat
                have y1 := j2.cell n.toNat (by omega)
                go_wp2_with fail
                go_meet
                exact ⟨off f n, Is5.other (set5 j1 _ _ _ _ _) (by simp) _, (((((j2.other (by simp) _).other (by simp) _).other (by simp) _).other (by simp) _).other (by simp) _ : Is5 _ _ _ _).set1 n.toNat (by omega) (fun i hi => off_yes n0 i), (((((hb3.setCell b1.size _).setCell b1.size _).setCell b1.size _).setCell b1.size _).setCell b1.size _).setCell (by have := b1.size; simp; omega) _⟩
            case rest =>
              clear j1 j2 j3 hb3 c0 c1 c2 c3 c4 d0 d1 d2 d3 d4 z0 z1 z2 z3 z4 s1 s2
              obtain ⟨f', i1, i2, hb⟩ := hcut
              have c0 := i1.cell 0 (by omega)
              have c1 := i1.cell 1 (by omega)
              have c2 := i1.cell 2 (by omega)
              have c3 := i1.cell 3 (by omega)
              have c4 := i1.cell 4 (by omega)
              go_wp2_with fail
              refine (left_any f' _).mono ?_
              rintro e w4 ⟨A4, cap4, rfl, hc4, b4⟩
              have j4 := i1.below b4
              have j5 := i2.below b4
              have hb5 : Below W.heap.size W w4 := hb.trans (b4.mono hb.size)
              clear i1 i2 b4 hb c0 c1 c2 c3 c4
              go_wp2_with fail
              go_loop [13, 14] (fun kk x => ∃ x0 : Nat, x0 ≤ 5 ∧ x = .int .i64 x0 ∧ kk = .int .i64 (lf f' x0).length) (fun _ x => 5 - (intOf x).toNat)
              case atStart => exact ⟨0, by omega, rfl, rfl⟩
              case round =>
                obtain ⟨x0, hx, rfl, rfl⟩ := hrel
                by_cases hx5 : x0 < 5
                · have d := j5.cell x0 hx5
                  have hll := lf_len f' x0
                  cases hfx : f' x0
                  · rw [hfx] at d
                    have HN := Lib.hid (lf_no f' hfx)
                    clear hfx
                    go_wp2_with fail
                    go_round
                    case rel => exact ⟨x0 + 1, by omega, by go_num, by rw [HN.out]⟩
                    case measure => simp [intOf]; omega
                  · rw [hfx] at d
                    obtain ⟨g1, g2⟩ := lf_get f' hx5 hfx
                    obtain ⟨ad4, rfl, hcell4⟩ := hc4 _ g1
                    rw [g2] at hcell4
                    simp only [Option.getD_some] at hcell4
                    have HY := Lib.hid (lf_yes f' hfx)
                    clear hfx g2
                    go_wp2_with fail
                    go_round
                    case rel => exact ⟨x0 + 1, by omega, by go_num, by rw [HY.out]; go_num⟩
                    case measure => simp [intOf]; omega
                · obtain rfl : x0 = 5 := by omega
                  have c0 := j4.cell 0 (by omega)
                  have c1 := j4.cell 1 (by omega)
                  have c2 := j4.cell 2 (by omega)
                  have c3 := j4.cell 3 (by omega)
                  have c4 := j4.cell 4 (by omega)
                  go_wp2_with fail
                  refine (done_lf f' _).mono ?_; rintro e w5 ⟨rfl, b5⟩
                  go_wp2_with fail
                  go_roundg (20 - (i0 + 1))
                  case measure => omega
                  case rel => exact ⟨i0 + 1, f', by go_num, by omega, rfl, ⟨j4.below b5, j5.below b5, hb5.trans (b5.mono hb5.size)⟩⟩
      · by_cases h1 : i0 < l2.length
        · have h2 : ¬ i0 < 20 := fun h => hlt ⟨h1, h⟩
          go_wp2_with fail
          refine (awake_any _).mono ?_; rintro e w3 ⟨rfl, b3⟩
          go_wp2_with fail
          refine (of_any none 0 [] _ (by decide) (fun i hi => absurd hi (by simp))).mono ?_; rintro e w4 ⟨rfl, b4⟩
          go_wp2_with fail
          refine (done_any (has []) _).mono ?_; rintro e w5 ⟨rfl, b5⟩
          have e5 : none5 (has []) = true := by decide
          go_wp2_with fail
          go_ret
          exact ⟨rfl, ((hb.trans (b3.mono hb.size)).trans (b4.mono (by have := hb.size; have := b3.size; omega))).trans (b5.mono (by have := hb.size; have := b3.size; have := b4.size; omega))⟩
        · go_wp2_with fail
          refine (awake_any _).mono ?_; rintro e w3 ⟨rfl, b3⟩
          go_wp2_with fail
          refine (of_any none 0 [] _ (by decide) (fun i hi => absurd hi (by simp))).mono ?_; rintro e w4 ⟨rfl, b4⟩
          go_wp2_with fail
          refine (done_any (has []) _).mono ?_; rintro e w5 ⟨rfl, b5⟩
          have e5 : none5 (has []) = true := by decide
          go_wp2_with fail
          go_ret
          exact ⟨rfl, ((hb.trans (b3.mono hb.size)).trans (b4.mono (by have := hb.size; have := b3.size; omega))).trans (b5.mono (by have := hb.size; have := b3.size; have := b4.size; omega))⟩
end Go.Proofs.Ytanggnjifckhmaa.Pend
