/- The walk of the law WatchMost, and what the rows of WatchPlays and WatchMost lean on. -/
import Derived.Test.YtanggnjifckhmaaWatchW
namespace Go.Proofs.Ytanggnjifckhmaa.Watch
open Go Go.RowKit
open Go.Proofs.Ytanggnjifckhmaa.Gen
open Go.Proofs.Ytanggnjifckhmaa.Own
open Go.Proofs.Ytanggnjifckhmaa.Pend (lf lf_len lf_yes lf_no lf_get lf_le LeftPost iinfo idx5 Is5)
set_option linter.unusedVariables false
theorem quiet_len (g : Nat) (k : Int) (q : Nat → Int) (m : Nat) (w : World) (h : IsW w g k q) (hl : (lf (notUp (isUp k q)) 5).length = m) :
    Calls Try.prog 18 #[.pointer (some ⟨g, 0, none⟩)] w fun e w' => ∃ A cap, e = .returned (.slice A m cap) ∧ Below w.heap.size w w' := by
  subst hl
  exact (quiet_any g k q w h).mono fun e w' ⟨A, cap, h1, _, h2⟩ => ⟨A, cap, h1, h2⟩
theorem quiet_none5 (w : World) : Calls Try.prog 18 #[.pointer none] w fun e w' => ∃ A cap, e = .returned (.slice A 5 cap) ∧ Below w.heap.size w w' :=
  (quiet_nil w).mono fun e w' ⟨A, cap, h1, _, h2⟩ => ⟨A, cap, h1, h2⟩
theorem len_all {k x : Int} (h : k < x) : (lf (notUp (isUp k (fun _ => x))) 5).length = 5 := by
  have e : notUp (isUp k (fun _ => x)) = fun _ => true := by
    funext j
    unfold notUp isUp
    rw [decide_eq_false (by show ¬ x ≤ k; omega)]
    rfl
  rw [e]
  rfl
theorem len_no {k x : Int} (h : x ≤ k) : (lf (notUp (isUp k (fun _ => x))) 5).length = 0 := by
  have e : notUp (isUp k (fun _ => x)) = fun _ => false := by
    funext j
    unfold notUp isUp
    rw [decide_eq_true (show x ≤ k from h)]
    rfl
  rw [e]
  rfl
def qi (i : Nat) : Int := min (i : Int) 1000
theorem qi_up (i : Nat) : up1 (qi i) = qi (i + 1) := by unfold up1 qi; omega
theorem qi_fit (i : Nat) : Fit (fun _ => qi i) := fun j _ => by
  show 0 ≤ qi i ∧ qi i ≤ 1000
  unfold qi
  omega
def Two (g1 g2 : Nat) (l m x : Int) (W w : World) : Prop := IsW w g1 l (fun _ => x) ∧ IsW w g2 m (fun _ => x) ∧ Below W.heap.size W w
def Five (g1 g2 g3 g4 : Nat) (l m : Int) (q : Nat → Int) (u : Nat → Bool) (W w : World) : Prop :=
  IsW w g1 l (fun _ => 1000) ∧ IsW w g2 m (fun _ => 1000) ∧ IsW w g3 1 q ∧ Is5 w g4 23 u ∧ Below W.heap.size W w
set_option maxRecDepth 100000 in
set_option maxHeartbeats 8000000 in
theorem most_walk (n : Int) (hn : -9223372036854775808 ≤ n ∧ n ≤ 9223372036854775807) (W : World) :
    Calls Try.prog 6 #[.int .i64 n] W fun e w' => e = .returned (.bool true) ∧ Below W.heap.size W w' := by
  have heq : ∀ w, (binOp .eql 23 (.agg #[.bool false, .bool false, .bool false, .bool false, .bool false]) (.agg #[.bool false, .bool false, .bool false, .bool false, .bool false])).run Try.prog w = .ok (.bool true) w := fun w => by
    have h := Pend.eq_arr 9998 (fun _ => false) (fun _ => false) w
    simp only [binOp, Op.equal, Op.maxDepth]
    simp [h]
    decide
  obtain ⟨m, hm⟩ : ∃ m, m = limit (wrap64 (-n)) := ⟨_, rfl⟩
  have hm0 : 0 ≤ n → m = 1 := fun h => by
    rw [hm]
    unfold limit wrap64
    omega
  obtain ⟨l, hl⟩ : ∃ l, l = limit n := ⟨_, rfl⟩
  have hl0 : (1000 ≤ n ∧ l = 1000) ∨ (n < 1000 ∧ l < 1000) := by rw [hl]; unfold limit; omega
  have HM := Lib.hid hm
  have HM0 := Lib.hid hm0
  have HL := Lib.hid hl
  have HL0 := Lib.hid hl0
  clear hm hm0 hl hl0
  go_enter Try.func6, Try.ntmps6
  go_wp2_with fail
  refine (new_any n _).mono ?_; rintro e w1 ⟨rfl, i1, b1⟩
  rw [← HL.out] at i1
  have lt1 := i1.lt
  go_wp2_with fail
  refine (new_any _ _).mono ?_; rintro e w2 ⟨rfl, i2, b2⟩
  have i3 : IsW w2 w1.heap.size m (fun _ => qi 0) := by rw [HM.out, show (fun _ : Nat => qi 0) = fun _ => 0 from rfl]; exact i2
  have lt2 := i3.lt
  have hM : Two W.heap.size w1.heap.size l m (qi 0) W w2 := ⟨i1.b b2, i3, thenB b1 b2⟩
  clear i1 i2 i3 b2
  go_upto_block 0 with fail
  go_cut [5] (fun s5 wx => Two W.heap.size w1.heap.size l m 1000 W wx)
  case first =>
    go_wp2_with fail
    go_loopw [5] (fun i wr => ∃ k : Nat, i = .int .i64 k ∧ k ≤ 1005 ∧ Two W.heap.size w1.heap.size l m (qi k) W wr) (fun i _ => 1005 - (intOf i).toNat)
    case atStart => exact ⟨0, rfl, by omega, hM⟩
    case round =>
      obtain ⟨k, rfl, hk, i1, i2, hb⟩ := hrel
      by_cases hlt : k < 1005
      · go_wp2_with fail
        refine (tick_any _ l (fun _ => qi k) _ i1 (qi_fit k)).mono ?_; rintro e w3 ⟨rfl, j1, g1⟩
        have j2 := i2.g g1 (by omega)
        have hb3 := below_grown hb g1 hb.size (Nat.le_refl _)
        go_wp2_with fail
        refine (tick_any _ m (fun _ => qi k) _ j2 (qi_fit k)).mono ?_; rintro e w4 ⟨rfl, j3, g2⟩
        have j4 := j1.g g2 (by omega)
        have hb4 := below_grown hb3 g2 hb3.size b1.size
        clear i1 i2 hb j1 j2 g1 g2 hb3
        go_wp2_with fail
        go_roundw
        case rel => exact ⟨k + 1, by go_num, by omega, by simpa only [qi_up] using j4, by simpa only [qi_up] using j3, hb4⟩
        case measure => simp [intOf]; omega
      · obtain rfl : k = 1005 := by omega
        go_wp2_with fail
        go_meet
        exact ⟨i1, i2, hb⟩
  case rest =>
    clear hM
    obtain ⟨i1, i2, hb⟩ := hcut
    have lt3 := i2.lt
    go_wp2_with fail
    refine (new_any 0 _).mono ?_; rintro e w3 ⟨rfl, i3, b3⟩
    have e1 : limit 0 = 1 := by decide
    rw [e1] at i3
    clear e1
    have j1 := i1.b b3
    have j2 := i2.b b3
    have hb3 := hb.trans (b3.mono hb.size)
    have lt4 := i3.lt
    clear i1 i2 hb b3
    obtain ⟨g3, hg3⟩ : ∃ g3, wc.heap.size = g3 := ⟨_, rfl⟩
    rw [hg3] at i3 lt3 lt4 ⊢
    have hWg : W.heap.size ≤ g3 := by have := b1.size; omega
    clear hg3
    go_wp2_with fail
    refine (tick_any _ 1 (fun _ => 0) _ i3 fit0).mono ?_; rintro e w4 ⟨rfl, i4, gr4⟩
    have k1 := j1.g gr4 (by omega)
    have k2 := j2.g gr4 (by omega)
    have hb4 := below_grown hb3 gr4 hb3.size hWg
    have sz4 := gr4.size
    clear i3 j1 j2 hb3 gr4
    go_wp2_with fail
    refine (up_any _ 1 (fun _ => up1 0) _ i4).mono ?_; rintro e w5 ⟨rfl, b5⟩
    have i5 := i4.b b5
    have j1 := k1.b b5
    have j2 := k2.b b5
    have hb5 := hb4.trans (b5.mono hb4.size)
    have lt5 := i5.lt
    clear i4 k1 k2 hb4 b5
    have hu0 : isUp 1 (fun _ => up1 0) 0 = true := by decide
    obtain ⟨u, hu⟩ : ∃ u, u = isUp 1 (fun _ => up1 0) := ⟨_, rfl⟩
    rw [← hu] at hu0 ⊢
    have HU0 := Lib.hid hu0
    clear hu hu0
    have hM : Five W.heap.size w1.heap.size g3 w5.heap.size l m (fun _ => up1 0) u W (w5.alloc (.cells #[.bool (u 0), .bool (u 1), .bool (u 2), .bool (u 3), .bool (u 4)] 23)) :=
      ⟨(Below.heap_alloc _ _ _ j1.lt).trans j1, (Below.heap_alloc _ _ _ j2.lt).trans j2, (Below.heap_alloc _ _ _ i5.lt).trans i5, heap_alloc_new _ _, hb5.alloc hb5.size _⟩
    have lt6 := j1.lt
    have lt7 := j2.lt
    clear j1 j2 i5 hb5
    obtain ⟨j1, j2, j3, j4, hb6⟩ := hM
    go_wp2_with fail
    refine (tick_any _ 1 (fun _ => up1 0) _ j3 fit1).mono ?_; rintro e w6 ⟨rfl, i6, gr6⟩
    have k1 := j1.g gr6 (by omega)
    have k2 := j2.g gr6 (by omega)
    have k4 : Is5 w6 w5.heap.size 23 u := (gr6.block _ j4.lt (by intro e; injection e with e; omega)).trans j4
    have hb7 := below_grown hb6 gr6 hb6.size hWg
    clear j1 j2 j3 j4 hb6 gr6
    go_wp2_with fail
    refine (heard_out none 1 _ (.inl rfl)).mono ?_; rintro e w7 ⟨rfl, rfl⟩
    go_wp2_with fail
    refine (tick_nil _).mono ?_; rintro e w7 ⟨rfl, rfl⟩
    go_wp2_with fail
    refine (awake_any _).mono ?_; rintro e w7 ⟨rfl, b7⟩
    have p1 := k1.b b7
    have p2 := k2.b b7
    have p3 := i6.b b7
    have p4 := k4.below b7
    have hb8 := hb7.trans (b7.mono hb7.size)
    clear k1 k2 k4 i6 hb7 b7
    rcases HL0.out with ⟨hn1, hl1⟩ | ⟨hn1, hl1⟩
    all_goals
      go_wp2_with fail
      first
        | (refine (quiet_len _ l _ 0 _ p1 (len_no (by omega))).mono ?_)
        | (refine (quiet_len _ l _ 5 _ p1 (len_all (by omega))).mono ?_)
      rintro e w8 ⟨A8, cap8, rfl, b8⟩
      have q2 := p2.b b8
      have q3 := p3.b b8
      have q4 := p4.below b8
      have hb9 := hb8.trans (b8.mono hb8.size)
      clear p1 p2 p3 p4 hb8 b8
      by_cases hneg : n < 0
      · have c0 := q4.cell 0 (by omega)
        rw [HU0.out] at c0
        go_wp2_with fail
        refine (quiet_len _ 1 _ 5 _ q3 (by decide)).mono ?_
        rintro e w9 ⟨A9, cap9, rfl, b9⟩
        have hb10 := hb9.trans (b9.mono hb9.size)
        clear q2 q3 q4 hb9 b9
        go_wp2_with fail
        refine (up_nil _).mono ?_; rintro e w10 ⟨rfl, b10⟩
        go_wp2_with fail
        refine (quiet_none5 _).mono ?_; rintro e w11 ⟨A11, cap11, rfl, b11⟩
        go_wp2_with fail
        go_ret
        refine ⟨?_, (hb10.trans (b10.mono hb10.size)).trans (b11.mono (by have := hb10.size; have := b10.size; omega))⟩
        first | rfl | (simp; omega)
      · have hm1 := HM0.out (by omega)
        go_wp2_with fail
        refine (quiet_len _ m _ 5 _ q2 (len_all (by omega))).mono ?_
        rintro e w12 ⟨A12, cap12, rfl, b12⟩
        have r3 := q3.b b12
        have r4 := q4.below b12
        have hb12 := hb9.trans (b12.mono hb9.size)
        clear q2 q3 q4 hb9 b12
        have c0 := r4.cell 0 (by omega)
        rw [HU0.out] at c0
        go_wp2_with fail
        refine (quiet_len _ 1 _ 5 _ r3 (by decide)).mono ?_
        rintro e w9 ⟨A9, cap9, rfl, b9⟩
        have hb10 := hb12.trans (b9.mono hb12.size)
        clear r3 r4 hb12 b9
        go_wp2_with fail
        refine (up_nil _).mono ?_; rintro e w10 ⟨rfl, b10⟩
        go_wp2_with fail
        refine (quiet_none5 _).mono ?_; rintro e w11 ⟨A11, cap11, rfl, b11⟩
        go_wp2_with fail
        go_ret
        refine ⟨?_, (hb10.trans (b10.mono hb10.size)).trans (b11.mono (by have := hb10.size; have := b10.size; omega))⟩
        first | rfl | (simp; omega)
end Go.Proofs.Ytanggnjifckhmaa.Watch
namespace Go.Proofs.Ytanggnjifckhmaa.watchMost
open Go Go.RowKit Go.Proofs.Ytanggnjifckhmaa.Open Go.Proofs.Ytanggnjifckhmaa.Watch
theorem walk {W : World} (a0 : Int) (w0 : (Lit.int .i64 a0).wf = true) : Calls Try.prog 6 #[.int .i64 a0] W fun e w' => e = .returned (.bool true) ∧ Below W.heap.size W w' :=
  most_walk a0 (bounds_i64 w0) W
end Go.Proofs.Ytanggnjifckhmaa.watchMost
namespace Go.Proofs.Ytanggnjifckhmaa.watchPlays
open Go Go.RowKit Go.Proofs.Ytanggnjifckhmaa.Open Go.Proofs.Ytanggnjifckhmaa.Watch
theorem walk {H : Type} {enc : TypeId × Value → H} {W : World} {b : Nat} (a0 : Int) (_w : (Lit.int .i64 a0).wf = true) {v1 : Value} (ok1 : Value.okWide Try.prog W .any b 33 v1) {d1 : DataW H} {p1 : List MemPlace} (h1 : DataW.Trod enc Try.prog W 0 (fun _ => true) true 33 v1 d1 p1) :
    Calls Try.prog 5 #[.int .i64 a0, v1] W fun e w' => e = .returned (.bool true) ∧ Below W.heap.size W w' := by
  obtain ⟨x, rfl, hok⟩ := open_sl (.pair .bool (.int .i64)) Try.underlying33 (by kernel_rfl) ok1 h1
  obtain ⟨q1, q2, q3, q4, _⟩ := hok
  refine plays_walk a0 x.A x.cap x.l W (by unfold maxLen at q2; omega) (fun i hi => ?_)
  cases hA : x.A with
  | none => rw [(q3 hA).1] at hi; simp at hi
  | some a =>
    have c := q4 a hA i x.l[i] (List.getElem?_eq_getElem hi)
    have c0 := c 0 (.bool x.l[i].1) rfl
    have c1 := c 1 (.int .i64 x.l[i].2) rfl
    exact ⟨a, _, _, rfl, c0, by rw [← c1, show i * (Sh.pair .bool (.int .i64)).size = i * 2 from rfl, ← Go.Deep.add_add]; rfl⟩
end Go.Proofs.Ytanggnjifckhmaa.watchPlays
