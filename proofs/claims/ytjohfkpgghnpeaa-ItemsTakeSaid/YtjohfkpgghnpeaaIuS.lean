-- packed by pack.py, a program of this claim's repo
import Derived.Test.YtjohfkpgghnpeaaIuB
import Derived.Test.YtjohfkpgghnpeaaIuC
import Derived.Test.YtjohfkpgghnpeaaIuD
import Derived.Test.YtjohfkpgghnpeaaIuE
import Derived.Test.YtjohfkpgghnpeaaIuF
import Derived.Test.YtjohfkpgghnpeaaIuA
import Derived.Test.YtjohfkpgghnpeaaIuG
import Derived.Test.YtjohfkpgghnpeaaIuH
import Derived.Test.YtjohfkpgghnpeaaIuI
import Derived.Test.YtjohfkpgghnpeaaIuJ
import Derived.Test.YtjohfkpgghnpeaaIuL
import Derived.Test.YtjohfkpgghnpeaaIuM
import Derived.Test.YtjohfkpgghnpeaaIuN
import Derived.Test.YtjohfkpgghnpeaaIuO
import Derived.Test.YtjohfkpgghnpeaaIuP
import Derived.Test.YtjohfkpgghnpeaaIuQ
import Derived.Test.YtjohfkpgghnpeaaIuR
import Derived.Test.YtjohfkpgghnpeaaIuK
section
namespace Go.Proofs.Ytjohfkpgghnpeaa.PTak
open Go.RowKit Go.Proofs.YtjohfkpgghnpeaaW.PrintWords Go.Proofs.YtjohfkpgghnpeaaW.PrintLast Go.Proofs.YtjohfkpgghnpeaaW.PrintMore
attribute [local go_sem] max2_int min2_int max_two min_two
open Go.Proofs.Ytjohfkpgghnpeaa.Gv Go.Proofs.Ytjohfkpgghnpeaa.PNum Go.Proofs.Ytjohfkpgghnpeaa.PRef
set_option linter.unusedVariables false
set_option linter.unusedSimpArgs false
def items_Take.l0 : Nat → List (S30) → Int → ByteArray → Int → Int → Option ((List (S30)) × ByteArray × Int × Int)
  | 0, _, _, _, _, _ => none
  | k + 1, x3, x4, x1000, x1001, x1002 => if x4 > 0 then ((num_Source_Int.f k x1000 x1001 x1002 63).bind fun bt109 => ((item_Take.f k bt109.2.1 bt109.2.2.1 bt109.2.2.2).bind fun bt113 => (if (x3.length : Int) > 0 then (if 0 ≤ (wrap64 ((x3.length : Int) - 1)) then (if (wrap64 ((x3.length : Int) - 1)) < (x3.length : Int) then (if bt109.1 ≤ ((rd_T30 x3 (wrap64 ((x3.length : Int) - 1))).f0) then ((num_Source_Wrong.f bt113.2.2.1 bt113.2.2.2.1 bt113.2.2.2.2 3).bind fun bt120 => (if x3.length < 4398046511104 then (items_Take.l0 k (x3 ++ [(⟨bt109.1, (⟨bt113.1, bt113.2.1⟩ : S28)⟩ : S30)]) (wrap64 (x4 - 1)) bt120.1 bt120.2.1 bt120.2.2) else (none))) else (if x3.length < 4398046511104 then (items_Take.l0 k (x3 ++ [(⟨bt109.1, (⟨bt113.1, bt113.2.1⟩ : S28)⟩ : S30)]) (wrap64 (x4 - 1)) bt113.2.2.1 bt113.2.2.2.1 bt113.2.2.2.2) else (none))) else (none)) else (none)) else (if x3.length < 4398046511104 then (items_Take.l0 k (x3 ++ [(⟨bt109.1, (⟨bt113.1, bt113.2.1⟩ : S28)⟩ : S30)]) (wrap64 (x4 - 1)) bt113.2.2.1 bt113.2.2.2.1 bt113.2.2.2.2) else (none))))) else ((num_Source_Err.f x1000 x1001 x1002).bind fun bt105 => (if bt105.1 = 0 then (some (x3, bt105.2.1, bt105.2.2.1, bt105.2.2.2)) else (some (([] : List (S30)), bt105.2.1, bt105.2.2.1, bt105.2.2.2))))
def items_Take.f (k : Nat) (s0_0 : ByteArray) (s0_1 : Int) (s0_2 : Int) : Option ((List (S30)) × ByteArray × Int × Int) := (num_Source_Int.f k s0_0 s0_1 s0_2 64).bind fun bt101 => (items_Take.l0 k ([] : List (S30)) bt101.1 bt101.2.1 bt101.2.2.1 bt101.2.2.2)
def items_Take.T6 : Bool × List (List Nat × List Nat) := (true, [([], []), ([0], [0]), ([1], [1]), ([2], [2]), ([3], [3]), ([4, 3], [3, 4]), ([3], [3]), ([3], [3]), ([7, 3], [3, 7]), ([8, 3], [3, 8]), ([6, 9, 3], [3, 6, 9]), ([10, 3], [3, 10]), ([11, 3], [3, 11]), ([5, 12, 3], [3, 5, 12]), ([3, 13], [3, 13])])
def items_Take.B6 : List Nat := [0, 1, 3, 7, 15, 31, 15, 15, 143, 399, 975, 1999, 4047, 8191, 16383]
theorem items_Take.tab6 : rtab .any (opsOf Try.f47 6) = items_Take.T6 := by kernel_rfl
theorem items_Take.bits6 : waitsOk items_Take.T6.2 items_Take.B6 = true := by kernel_rfl
set_option maxHeartbeats 8000000 in
set_option maxRecDepth 100000 in
theorem items_Take.calls (k : Nat) (g : Nat) (s0_0 : ByteArray) (s0_1 : Int) (s0_2 : Int) (r1 : List (S30)) (r2 : ByteArray) (r3 : Int) (r4 : Int) (w0 w : World) (hI : IsS104 w0 w g s0_0 s0_1 s0_2) (hB : Below w0.heap.size w0 w) (h : items_Take.f k s0_0 s0_1 s0_2 = some (r1, r2, r3, r4)) :
    Calls Try.prog 47 #[.pointer (some ⟨g, 0, none⟩)] w fun e w' => ∃ v0_ : Value, e = .returned (v0_) ∧ Kd.R k30 30 w' w.heap.size (fun _ => True) v0_ r1 ∧ IsS104 w0 w' g r2 r3 r4 ∧ Below w0.heap.size w0 w' ∧ KeepBut w w' g none := by
  have hu30 := Try.underlying30
  have HI0 := Aside0.mk hI
  have HK := Aside0.mk (KeepBut.refl w g none)
  have HL := Aside0.mk hB.size
  clear hI
  have HW0 := Aside0.mk hB.size
  have HB := Aside0.mk hB
  clear hB
  have H : ((num_Source_Int.f k s0_0 s0_1 s0_2 64).bind fun bt101 => (items_Take.l0 k ([] : List (S30)) bt101.1 bt101.2.1 bt101.2.2.1 bt101.2.2.2)) = some (r1, r2, r3, r4) := h
  clear h
  replace H := Option.bind_eq_some_iff.mp H
  obtain ⟨⟨t101, t102, t103, t104⟩, A20, H⟩ := H
  replace H : (items_Take.l0 k ([] : List (S30)) t101 t102 t103 t104) = some (r1, r2, r3, r4) := H
  have A2 := Aside0.mk A20
  clear A20
  have H' := Aside0.mk H
  clear H
  go_enter Try.func47, Try.ntmps47
  go_wp2_with (first | ((with_reducible refine gate_callee (f := 70) rfl ?_); refine goesL_ (some 7) rfl rfl Try.func70 (by kernel_rfl) rfl #[.pointer (some ⟨g, 0, none⟩), .int .i64 64] rfl (by (try simp only [List.map_toArray, List.map_cons, List.map_nil]); first | done | rfl | (simp only [List.length_drop, List.length_take]; rfl)) ?_; (with_reducible refine (num_Source_Int.calls k g s0_0 s0_1 s0_2 64 t101 t102 t103 t104 w0 _ ?side1 ?side2 A2.out).mono ?_); (case side1 => repeat (first | (with_reducible first | exact HI0.out | apply IsS104.alloc | apply IsS104.drewN | apply IsS104.drew | apply IsS104.set_0 | apply IsS104.set_1 | apply IsS104.set_2) | exact HI0.out)); (case side2 => repeat (first | (with_reducible first | exact HB.out | apply below_alloc | apply pw_below_drewN | apply below_drew1 | refine below_set ?_ (IsS104.ge HI0.out)) | exact HB.out)); rintro e w3 ⟨rfl, hi, hb, hk⟩; refine ⟨_, rfl, ?_⟩; have n0_ := Aside0.mk (KeepBut.trans (by repeat (first | (with_reducible first | exact HK.out | apply KeepBut.set_ | apply keep_drewN | apply keep_drew | apply keep_alloc) | exact HK.out)) hk (.inl rfl)); have n1_ := Aside0.mk (hb); have n2_ := Aside0.mk (hi); clear HK; clear HB; clear HI0; have HK := n0_; have HB := n1_; have HI0 := n2_; clear n0_ n1_ n2_; (try clear hb); (try clear hb2); (try clear hk); (try clear hi)))
  go_loopg [3, 4] k (fun kq v3 v4 w' => ∃ (x3_1 : List (S30)) (x4_1 : Int) (x1000_1 : ByteArray) (x1001_1 : Int) (x1002_1 : Int), v4 = .int .i64 x4_1 ∧ Aside0 (items_Take.l0 kq x3_1 x4_1 x1000_1 x1001_1 x1002_1 = some (r1, r2, r3, r4)) ∧ Aside0 (kq ≤ k) ∧ Aside0 (Kd.R k30 30 w' w.heap.size (fun _ => True) v3 x3_1) ∧ Aside0 (IsS104 w0 w' g x1000_1 x1001_1 x1002_1) ∧ Aside0 (KeepBut w w' g none) ∧ Aside0 (Below w0.heap.size w0 w'))
  case atStart => exact ⟨(([] : List (S30))), (t101), (t102), (t103), (t104), (by first | rfl | (simp; done) | (simp [*]; done)), H', ⟨Nat.le_refl _⟩, ⟨by first | exact Kd.R_nil _ _ _ _ _ | exact Kd.N_nil _ _ _ _ _ | exact Kd.V_nil _ _ _ _ _ | exact Kd.Q_nil _ _ _ _ _ | exact Kd.S_nil _ _ _ _ _⟩, ⟨by repeat (first | (with_reducible first | exact HI0.out | apply IsS104.alloc | apply IsS104.drewN | apply IsS104.drew | apply IsS104.set_0 | apply IsS104.set_1 | apply IsS104.set_2) | exact HI0.out)⟩, ⟨by repeat (first | (with_reducible first | exact HK.out | apply KeepBut.set_ | apply keep_drewN | apply keep_drew | apply keep_alloc) | exact HK.out)⟩, ⟨by repeat (first | (with_reducible first | exact HB.out | apply below_alloc | apply pw_below_drewN | apply below_drew1 | refine below_set ?_ (IsS104.ge HI0.out)) | exact HB.out)⟩⟩
  case round =>
    clear H'
    try clear p2
    obtain ⟨x3_1, x4_1, x1000_1, x1001_1, x1002_1, rfl, HA, HK1, HO_3, HI0, HK, HB⟩ := hrel
    cases gk with
    | zero => exact absurd HA.out (by simp [items_Take.l0])
    | succ k1 =>
      have H := HA.out
      clear HA
      simp only [items_Take.l0] at H
      by_cases c4 : x4_1 > 0
      · rw [if_pos c4] at H
        have c4b0 : decide (0 < x4_1) = true := decide_eq_true c4
        clear c4
        replace H := Option.bind_eq_some_iff.mp H
        obtain ⟨⟨t109, t110, t111, t112⟩, A50, H⟩ := H
        replace H : ((item_Take.f k1 t110 t111 t112).bind fun bt113 => (if (x3_1.length : Int) > 0 then (if 0 ≤ (wrap64 ((x3_1.length : Int) - 1)) then (if (wrap64 ((x3_1.length : Int) - 1)) < (x3_1.length : Int) then (if t109 ≤ ((rd_T30 x3_1 (wrap64 ((x3_1.length : Int) - 1))).f0) then ((num_Source_Wrong.f bt113.2.2.1 bt113.2.2.2.1 bt113.2.2.2.2 3).bind fun bt120 => (if x3_1.length < 4398046511104 then (items_Take.l0 k1 (x3_1 ++ [(⟨t109, (⟨bt113.1, bt113.2.1⟩ : S28)⟩ : S30)]) (wrap64 (x4_1 - 1)) bt120.1 bt120.2.1 bt120.2.2) else (none))) else (if x3_1.length < 4398046511104 then (items_Take.l0 k1 (x3_1 ++ [(⟨t109, (⟨bt113.1, bt113.2.1⟩ : S28)⟩ : S30)]) (wrap64 (x4_1 - 1)) bt113.2.2.1 bt113.2.2.2.1 bt113.2.2.2.2) else (none))) else (none)) else (none)) else (if x3_1.length < 4398046511104 then (items_Take.l0 k1 (x3_1 ++ [(⟨t109, (⟨bt113.1, bt113.2.1⟩ : S28)⟩ : S30)]) (wrap64 (x4_1 - 1)) bt113.2.2.1 bt113.2.2.2.1 bt113.2.2.2.2) else (none)))) = some (r1, r2, r3, r4) := H
        have A5 := Aside0.mk A50
        clear A50
        replace H := Option.bind_eq_some_iff.mp H
        obtain ⟨⟨t113, t114, t115, t116, t117⟩, A60, H⟩ := H
        replace H : (if (x3_1.length : Int) > 0 then (if 0 ≤ (wrap64 ((x3_1.length : Int) - 1)) then (if (wrap64 ((x3_1.length : Int) - 1)) < (x3_1.length : Int) then (if t109 ≤ ((rd_T30 x3_1 (wrap64 ((x3_1.length : Int) - 1))).f0) then ((num_Source_Wrong.f t115 t116 t117 3).bind fun bt120 => (if x3_1.length < 4398046511104 then (items_Take.l0 k1 (x3_1 ++ [(⟨t109, (⟨t113, t114⟩ : S28)⟩ : S30)]) (wrap64 (x4_1 - 1)) bt120.1 bt120.2.1 bt120.2.2) else (none))) else (if x3_1.length < 4398046511104 then (items_Take.l0 k1 (x3_1 ++ [(⟨t109, (⟨t113, t114⟩ : S28)⟩ : S30)]) (wrap64 (x4_1 - 1)) t115 t116 t117) else (none))) else (none)) else (none)) else (if x3_1.length < 4398046511104 then (items_Take.l0 k1 (x3_1 ++ [(⟨t109, (⟨t113, t114⟩ : S28)⟩ : S30)]) (wrap64 (x4_1 - 1)) t115 t116 t117) else (none))) = some (r1, r2, r3, r4) := H
        have A6 := Aside0.mk A60
        clear A60
        by_cases c7 : (x3_1.length : Int) > 0
        · rw [if_pos c7] at H
          have c7b0 : decide (0 < (x3_1.length : Int)) = true := decide_eq_true c7
          have c7b1 : decide (0 < x3_1.length) = true := decide_eq_true (by omega)
          clear c7
          obtain ⟨ji8, hji8⟩ : ∃ j_ : Int, (wrap64 ((x3_1.length : Int) - 1)) = j_ := ⟨_, rfl⟩
          replace H : (if 0 ≤ (ji8) then (if (ji8) < (x3_1.length : Int) then (if t109 ≤ ((rd_T30 x3_1 (ji8)).f0) then ((num_Source_Wrong.f t115 t116 t117 3).bind fun bt120 => (if x3_1.length < 4398046511104 then (items_Take.l0 k1 (x3_1 ++ [(⟨t109, (⟨t113, t114⟩ : S28)⟩ : S30)]) (wrap64 (x4_1 - 1)) bt120.1 bt120.2.1 bt120.2.2) else (none))) else (if x3_1.length < 4398046511104 then (items_Take.l0 k1 (x3_1 ++ [(⟨t109, (⟨t113, t114⟩ : S28)⟩ : S30)]) (wrap64 (x4_1 - 1)) t115 t116 t117) else (none))) else (none)) else (none)) = some (r1, r2, r3, r4) := by first | (rw [hji8] at H; exact H) | (simp only [hji8] at H ⊢; exact H)
          (try rw [hji8] at A5)
          (try rw [hji8] at A6)
          have hji8w : (IntKind.i64.wrap ((x3_1.length : Int) - 1)) = ji8 := (i64_w _).trans hji8
          by_cases c9 : 0 ≤ (ji8)
          · rw [if_pos c9] at H
            have c9b0 : decide (0 ≤ (ji8)) = true := decide_eq_true c9
            clear c9
            by_cases c10 : (ji8) < (x3_1.length : Int)
            · rw [if_pos c10] at H
              have c10b0 : decide ((ji8) < (x3_1.length : Int)) = true := decide_eq_true c10
              clear c10
              by_cases c11 : t109 ≤ ((rd_T30 x3_1 (ji8)).f0)
              · rw [if_pos c11] at H
                have c11b0 : decide (t109 ≤ ((rd_T30 x3_1 (ji8)).f0)) = true := decide_eq_true c11
                clear c11
                replace H := Option.bind_eq_some_iff.mp H
                obtain ⟨⟨t120, t121, t122⟩, A120, H⟩ := H
                replace H : (if x3_1.length < 4398046511104 then (items_Take.l0 k1 (x3_1 ++ [(⟨t109, (⟨t113, t114⟩ : S28)⟩ : S30)]) (wrap64 (x4_1 - 1)) t120 t121 t122) else (none)) = some (r1, r2, r3, r4) := H
                have A12 := Aside0.mk A120
                clear A120
                by_cases c13 : x3_1.length < 4398046511104
                · rw [if_pos c13] at H
                  have LMc13 := Aside0.mk c13
                  clear c13
                  obtain ⟨y123, hy123⟩ : ∃ y_ : List (S30), y_ = (x3_1 ++ [(⟨t109, (⟨t113, t114⟩ : S28)⟩ : S30)]) := ⟨_, rfl⟩
                  replace H : (items_Take.l0 k1 y123 (wrap64 (x4_1 - 1)) t120 t121 t122) = some (r1, r2, r3, r4) := by first | (rw [hy123]; with_reducible exact H) | (have H2_ := (Option.bind_some _ _).symm.trans H; rw [hy123]; with_reducible exact H2_) | (have H2_ := (Option.bind_some _ _).symm.trans H; with_reducible exact H2_) | with_reducible exact H | (rw [hy123]; exact H) | exact H
                  have Ny123 := Aside0.mk hy123
                  clear hy123
                  have H' := Aside0.mk H
                  clear H
                  try go_wp2_with (first | ((with_reducible refine gate_callee (f := 70) rfl ?_); refine goesL_ (some 13) rfl rfl Try.func70 (by kernel_rfl) rfl #[.pointer (some ⟨g, 0, none⟩), .int .i64 63] rfl (by (try simp only [List.map_toArray, List.map_cons, List.map_nil]); first | done | rfl | (simp only [List.length_drop, List.length_take]; rfl)) ?_; (with_reducible refine (num_Source_Int.calls k1 g x1000_1 x1001_1 x1002_1 63 t109 t110 t111 t112 w0 _ ?side1 ?side2 A5.out).mono ?_); (case side1 => repeat (first | (with_reducible first | exact HI0.out | apply IsS104.alloc | apply IsS104.drewN | apply IsS104.drew | apply IsS104.set_0 | apply IsS104.set_1 | apply IsS104.set_2) | exact HI0.out)); (case side2 => repeat (first | (with_reducible first | exact HB.out | apply below_alloc | apply pw_below_drewN | apply below_drew1 | refine below_set ?_ (IsS104.ge HI0.out)) | exact HB.out)); rintro e w14 ⟨rfl, hi, hb, hk⟩; refine ⟨_, rfl, ?_⟩; have n0_ := Aside0.mk (Kd.R_mono (Kd.R_keep (IsS104.apart (show IsS104 w0 _ g x1000_1 x1001_1 x1002_1 from by repeat (first | (with_reducible first | exact HI0.out | apply IsS104.alloc | apply IsS104.drewN | apply IsS104.drew | apply IsS104.set_0 | apply IsS104.set_1 | apply IsS104.set_2) | exact HI0.out)) (by (with_reducible repeat (first | apply Kd.R_alloc | apply Kd.R_drewN | apply Kd.R_drew)); exact HO_3.out) (by decide)) hk (fun _ h => h.2)) (fun _ h => h.1)); have n1_ := Aside0.mk (KeepBut.trans (by repeat (first | (with_reducible first | exact HK.out | apply KeepBut.set_ | apply keep_drewN | apply keep_drew | apply keep_alloc) | exact HK.out)) hk (.inl rfl)); have n2_ := Aside0.mk (hb); have n3_ := Aside0.mk (hi); clear HO_3; clear HK; clear HB; clear HI0; have HO_3 := n0_; have HK := n1_; have HB := n2_; have HI0 := n3_; clear n0_ n1_ n2_ n3_; (try clear hb); (try clear hb2); (try clear hk); (try clear hi)) | ((with_reducible refine gate_callee (f := 71) rfl ?_); refine goesL_ (some 15) rfl rfl Try.func71 (by kernel_rfl) rfl #[.pointer (some ⟨g, 0, none⟩)] rfl (by (try simp only [List.map_toArray, List.map_cons, List.map_nil]); first | done | rfl | (simp only [List.length_drop, List.length_take]; rfl)) ?_; (with_reducible refine (item_Take.calls k1 g t110 t111 t112 t113 t114 t115 t116 t117 w0 _ ?side1 ?side2 A6.out).mono ?_); (case side1 => repeat (first | (with_reducible first | exact HI0.out | apply IsS104.alloc | apply IsS104.drewN | apply IsS104.drew | apply IsS104.set_0 | apply IsS104.set_1 | apply IsS104.set_2) | exact HI0.out)); (case side2 => repeat (first | (with_reducible first | exact HB.out | apply below_alloc | apply pw_below_drewN | apply below_drew1 | refine below_set ?_ (IsS104.ge HI0.out)) | exact HB.out)); rintro e w15 ⟨rfl, hi, hb, hk⟩; refine ⟨_, rfl, ?_⟩; have n0_ := Aside0.mk (Kd.R_mono (Kd.R_keep (IsS104.apart (show IsS104 w0 _ g t110 t111 t112 from by repeat (first | (with_reducible first | exact HI0.out | apply IsS104.alloc | apply IsS104.drewN | apply IsS104.drew | apply IsS104.set_0 | apply IsS104.set_1 | apply IsS104.set_2) | exact HI0.out)) (by (with_reducible repeat (first | apply Kd.R_alloc | apply Kd.R_drewN | apply Kd.R_drew)); exact HO_3.out) (by decide)) hk (fun _ h => h.2)) (fun _ h => h.1)); have n1_ := Aside0.mk (KeepBut.trans (by repeat (first | (with_reducible first | exact HK.out | apply KeepBut.set_ | apply keep_drewN | apply keep_drew | apply keep_alloc) | exact HK.out)) hk (.inl rfl)); have n2_ := Aside0.mk (hb); have n3_ := Aside0.mk (hi); clear HO_3; clear HK; clear HB; clear HI0; have HO_3 := n0_; have HK := n1_; have HB := n2_; have HI0 := n3_; clear n0_ n1_ n2_ n3_; (try clear hb); (try clear hb2); (try clear hk); (try clear hi)) | ((with_reducible refine gate_dst (N := 5) rfl ?_); (try (refine gate_guard (by rfl) ?_; dsimp only)); refine box_event ?hg (N := 5) ?hd (cs := #[.int .i64 0, .int .u64 0, .string (⟨#[]⟩ : ByteArray)]) (t := 30) ?hr ?_; (case hd => rfl); (case hg => rfl); (case hr => first | (go_simp; done) | (go_simp; rfl)); intro gb118 hg w16 hbox hb; have n0_ := Aside0.mk (Kd.R_below (Kd.R_elderB (by (with_reducible repeat (first | apply Kd.R_alloc | apply Kd.R_drewN | apply Kd.R_drew)); exact HO_3.out) gb118 (Nat.le_of_eq hg.symm)) hb); have n1_ := Aside0.mk (IsS104.below (by repeat (first | (with_reducible first | exact HI0.out | apply IsS104.alloc | apply IsS104.drewN | apply IsS104.drew | apply IsS104.set_0 | apply IsS104.set_1 | apply IsS104.set_2) | exact HI0.out)) hb); have n2_ := Aside0.mk (KeepBut.trans (by repeat (first | (with_reducible first | exact HK.out | apply KeepBut.set_ | apply keep_drewN | apply keep_drew | apply keep_alloc) | exact HK.out)) (KeepBut.of_below hb g none) (.inl rfl)); have n3_ := Aside0.mk (below_step (by repeat (first | (with_reducible first | exact HB.out | apply below_alloc | apply pw_below_drewN | apply below_drew1 | refine below_set ?_ (IsS104.ge HI0.out)) | exact HB.out)) hb); have n4_ := Aside0.mk (hbox); have n5_ := Aside0.mk ((by rw [hg]; exact (keep_size (w := w) (g := g) (row := none) (by repeat (first | (with_reducible first | exact HK.out | apply KeepBut.set_ | apply keep_drewN | apply keep_drew | apply keep_alloc) | exact HK.out))) : w.heap.size ≤ gb118)); have n6_ := Aside0.mk ((Nat.le_trans HW0.out (by rw [hg]; exact (keep_size (w := w) (g := g) (row := none) (by repeat (first | (with_reducible first | exact HK.out | apply KeepBut.set_ | apply keep_drewN | apply keep_drew | apply keep_alloc) | exact HK.out))) : w.heap.size ≤ gb118) : w0.heap.size ≤ gb118)); have n7_ := Aside0.mk ((by rw [hg]; exact Nat.ne_of_lt (IsS104.lt (show IsS104 w0 _ g t115 t116 t117 from by repeat (first | (with_reducible first | exact HI0.out | apply IsS104.alloc | apply IsS104.drewN | apply IsS104.drew | apply IsS104.set_0 | apply IsS104.set_1 | apply IsS104.set_2) | exact HI0.out))) : g ≠ gb118)); have n8_ := Aside0.mk ((by rw [hg]; exact Nat.ne_of_gt (IsS104.lt (show IsS104 w0 _ g t115 t116 t117 from by repeat (first | (with_reducible first | exact HI0.out | apply IsS104.alloc | apply IsS104.drewN | apply IsS104.drew | apply IsS104.set_0 | apply IsS104.set_1 | apply IsS104.set_2) | exact HI0.out))) : gb118 ≠ g)); clear HO_3; clear HI0; clear HK; clear HB; have HO_3 := n0_; have HI0 := n1_; have HK := n2_; have HB := n3_; have BK118 := n4_; have GW118 := n5_; have GE118 := n6_; have NB0_118 := n7_; have NB118_0 := n8_; clear n0_ n1_ n2_ n3_ n4_ n5_ n6_ n7_ n8_; clear hb hbox hg; have hnb17 := NB118_0.out; have hnc17 := NB0_118.out; have hcz18_0 : w16.cell? ⟨gb118, 0, none⟩ = some (.int .i64 0) := (blk_cell BK118.out 0).trans rfl; have hcz18_1 : w16.cell? ⟨gb118, 1, none⟩ = some (.int .u64 0) := (blk_cell BK118.out 1).trans rfl; have hcz18_2 : w16.cell? ⟨gb118, 2, none⟩ = some (.string (⟨#[]⟩ : ByteArray)) := (blk_cell BK118.out 2).trans rfl; have hfz18_0 := blk_frozen BK118.out 0; have hfz18_1 := blk_frozen BK118.out 1; have hfz18_2 := blk_frozen BK118.out 2))
                  have n0_ : Aside0 (Kd.R k30 30 (((w16.setCell ⟨gb118, 0, none⟩ (.int .i64 t109)).setCell ⟨gb118, 1, none⟩ (.int .u64 t113)).setCell ⟨gb118, 2, none⟩ (.string t114)) w.heap.size (fun k_ => k_ ≠ gb118) u3 x3_1) := ⟨by (with_reducible repeat (first | apply Kd.R_alloc | apply Kd.R_drewN | apply Kd.R_drew)); exact Kd.R_mono (Kd.R_far (p := ⟨gb118, 2, none⟩) (Kd.R_far (p := ⟨gb118, 1, none⟩) (Kd.R_far (p := ⟨gb118, 0, none⟩) (Kd.R_mono HO_3.out (fun k_ hk => (⟨hk, hk.2⟩ : _ ∧ k_ ≠ gb118))) (fun _ hk => hk.2) (.int .i64 t109)) (fun _ hk => hk.2) (.int .u64 t113)) (fun _ hk => hk.2) (.string t114)) (fun _ hk => hk.1.2)⟩
                  have n1_ : Aside0 ((((w16.setCell ⟨gb118, 0, none⟩ (.int .i64 t109)).setCell ⟨gb118, 1, none⟩ (.int .u64 t113)).setCell ⟨gb118, 2, none⟩ (.string t114)).heap[gb118]? = some (.cells #[.int .i64 t109, .int .u64 t113, .string t114] 30 (0, 0))) := ⟨by (with_reducible repeat (first | refine blk_drewN ?_ _ | refine blk_drew ?_ | refine blk_alloc ?_ _)); refine blk_put (cs := #[.int .i64 t109, .int .u64 t113, .string (⟨#[]⟩ : ByteArray)]) ?_ 2 _ rfl; (with_reducible repeat (first | refine blk_drewN ?_ _ | refine blk_drew ?_ | refine blk_alloc ?_ _)); refine blk_put (cs := #[.int .i64 t109, .int .u64 0, .string (⟨#[]⟩ : ByteArray)]) ?_ 1 _ rfl; (with_reducible repeat (first | refine blk_drewN ?_ _ | refine blk_drew ?_ | refine blk_alloc ?_ _)); refine blk_put (cs := #[.int .i64 0, .int .u64 0, .string (⟨#[]⟩ : ByteArray)]) ?_ 0 _ rfl; (with_reducible repeat (first | refine blk_drewN ?_ _ | refine blk_drew ?_ | refine blk_alloc ?_ _)); exact BK118.out⟩
                  have n2_ : Aside0 (IsS104 w0 (((w16.setCell ⟨gb118, 0, none⟩ (.int .i64 t109)).setCell ⟨gb118, 1, none⟩ (.int .u64 t113)).setCell ⟨gb118, 2, none⟩ (.string t114)) g t115 t116 t117) := ⟨by repeat (first | (with_reducible first | exact HI0.out | apply IsS104.alloc | apply IsS104.drewN | apply IsS104.drew | apply IsS104.set_0 | apply IsS104.set_1 | apply IsS104.set_2 | refine IsS104.far ?_ NB0_118.out _) | exact HI0.out)⟩
                  have n3_ : Aside0 (KeepBut w (((w16.setCell ⟨gb118, 0, none⟩ (.int .i64 t109)).setCell ⟨gb118, 1, none⟩ (.int .u64 t113)).setCell ⟨gb118, 2, none⟩ (.string t114)) g none) := ⟨by repeat (first | (with_reducible first | exact HK.out | apply KeepBut.set_ | apply keep_drewN | apply keep_drew | apply keep_alloc | refine keep_far ?_ GW118.out _) | exact HK.out)⟩
                  have n4_ : Aside0 (Below w0.heap.size w0 (((w16.setCell ⟨gb118, 0, none⟩ (.int .i64 t109)).setCell ⟨gb118, 1, none⟩ (.int .u64 t113)).setCell ⟨gb118, 2, none⟩ (.string t114))) := ⟨by repeat (first | (with_reducible first | exact HB.out | apply below_alloc | apply pw_below_drewN | apply below_drew1 | refine below_set ?_ (IsS104.ge HI0.out) | refine below_set ?_ GE118.out) | exact HB.out)⟩
                  (try clear HO_3)
                  (try clear BK118)
                  (try clear HI0)
                  (try clear HK)
                  (try clear HB)
                  generalize (((w16.setCell ⟨gb118, 0, none⟩ (.int .i64 t109)).setCell ⟨gb118, 1, none⟩ (.int .u64 t113)).setCell ⟨gb118, 2, none⟩ (.string t114)) = w19 at n0_ n1_ n2_ n3_ n4_ ⊢
                  have HO_3 := n0_
                  have BK118 := n1_
                  have HI0 := n2_
                  have HK := n3_
                  have HB := n4_
                  clear n0_ n1_ n2_ n3_ n4_
                  have n0_ := Aside0.mk (Kd.R_drew HO_3.out)
                  have n1_ := Aside0.mk (blk_drew BK118.out)
                  have n2_ := Aside0.mk (IsS104.drew HI0.out)
                  have n3_ := Aside0.mk (keep_drew HK.out)
                  have n4_ := Aside0.mk (below_drew1 HB.out)
                  clear HO_3
                  clear BK118
                  clear HI0
                  clear HK
                  clear HB
                  have HO_3 := n0_
                  have BK118 := n1_
                  have HI0 := n2_
                  have HK := n3_
                  have HB := n4_
                  clear n0_ n1_ n2_ n3_ n4_
                  obtain ⟨Ao21, co21, eo21⟩ := Kd.R_slice HO_3.out
                  (first | subst eo21 | (injection eo21 with f1_ f2_ f3_; have f4_ := f1_.symm; have f5_ := f3_.symm; clear f1_ f2_ f3_; subst f4_; subst f5_))
                  have p119 : 0 ≤ ((ji8) : Int) := of_decide_eq_true (by first | (with_reducible assumption) | assumption)
                  have q119 : (ji8) < (x3_1.length : Int) := of_decide_eq_true (by first | (with_reducible assumption) | assumption)
                  obtain ⟨ad119, e119, hx119_0, hx119_1, hx119_2⟩ := at_T30 (Kd.R_reads' HO_3.out).2.2 (ji8) p119 q119
                  cases e119
                  replace p119 := eq_true p119
                  replace q119 := eq_true q119
                  refine start_ (n := 15) (S := fun w' => w'.cell? ⟨gb118, 0, none⟩ = some (.int .i64 t109) ∧ w'.cell? ⟨gb118, 1, none⟩ = some (.int .u64 t113) ∧ w'.cell? ⟨gb118, 2, none⟩ = some (.string t114) ∧ w'.cell? (ad119.add (((ji8)).toNat * 3)) = some (.int .i64 ((rd_T30 x3_1 (ji8)).f0)) ∧ w'.cell? ⟨(ad119.add (((ji8)).toNat * 3)).block, (ad119.add (((ji8)).toNat * 3)).off + 1, none⟩ = some (.int .u64 ((rd_T30 x3_1 (ji8)).f1.f0)) ∧ w'.cell? ⟨(ad119.add (((ji8)).toNat * 3)).block, (ad119.add (((ji8)).toNat * 3)).off + 2, none⟩ = some (.string ((rd_T30 x3_1 (ji8)).f1.f1))) (ds := []) #[false, false, false, false, false, false, false, false, false, false, false, false, false, false, false] (by kernel_rfl) rfl rfl ⟨(blk_cell BK118.out 0).trans rfl, (blk_cell BK118.out 1).trans rfl, (blk_cell BK118.out 2).trans rfl, hx119_0, hx119_1, hx119_2⟩ (fun hHeld => ?_); refine with_tabW items_Take.tab6 items_Take.bits6 (fun HT_ HW_ => ?_)
                  generalize w19.drew = w20 at HO_3 BK118 HI0 HK HB hx119_0 hx119_1 hx119_2 hHeld ⊢
                  refine pure_ (i := 0) (N := some 17) (v := ?_) (a' := ?_) #[true, false, false, false, false, false, false, false, false, false, false, false, false, false, false] rfl rfl (any_of HT_.out (by kernel_rfl)) (fun _ _ _ h => h) (Or.inl ⟨by rfl, ?_⟩) ?_ ?_
                  rotate_left
                  · intro w'
                    go_simp
                    with_reducible rfl
                  rotate_left
                  · simp only [Act.put, List.setIfInBounds_toArray, List.set_cons_zero, List.set_cons_succ, i64_w, i32_w]
                    rfl
                  refine pure_ (i := 1) (N := some 18) (v := ?_) (a' := ?_) #[true, true, false, false, false, false, false, false, false, false, false, false, false, false, false] rfl rfl (any_of HT_.out (by kernel_rfl)) (fun _ _ _ h => h) (Or.inl ⟨by rfl, ?_⟩) ?_ ?_
                  rotate_left
                  · intro w'
                    go_simp
                    with_reducible rfl
                  rotate_left
                  · simp only [Act.put, List.setIfInBounds_toArray, List.set_cons_zero, List.set_cons_succ, i64_w, i32_w]
                    rfl
                  refine pure_ (i := 2) (N := some 19) (v := ?_) (a' := ?_) #[true, true, true, false, false, false, false, false, false, false, false, false, false, false, false] rfl rfl (any_of HT_.out (by kernel_rfl)) (fun _ _ _ h => h) (Or.inl ⟨by rfl, ?_⟩) ?_ ?_
                  rotate_left
                  · intro w'
                    go_simp
                    with_reducible rfl
                  rotate_left
                  · simp only [Act.put, List.setIfInBounds_toArray, List.set_cons_zero, List.set_cons_succ, i64_w, i32_w]
                    rfl
                  refine pure_ (i := 3) (N := some 20) (v := ?_) (a' := ?_) #[true, true, true, true, false, false, false, false, false, false, false, false, false, false, false] rfl rfl (any_of HT_.out (by kernel_rfl)) (fun _ _ _ h => h) (Or.inl ⟨by rfl, ?_⟩) ?_ ?_
                  rotate_left
                  · intro w'
                    go_simp
                    with_reducible rfl
                  rotate_left
                  · simp only [Act.put, List.setIfInBounds_toArray, List.set_cons_zero, List.set_cons_succ, i64_w, i32_w]
                    rfl
                  refine pure_ (i := 4) (N := some 21) (v := ?_) (a' := ?_) #[true, true, true, true, true, false, false, false, false, false, false, false, false, false, false] rfl rfl (any_of HT_.out (by kernel_rfl)) (fun _ _ _ h => h) (Or.inl ⟨by rfl, ?_⟩) ?_ ?_
                  rotate_left
                  · intro w'
                    go_simp
                    with_reducible rfl
                  rotate_left
                  · simp only [Act.put, List.setIfInBounds_toArray, List.set_cons_zero, List.set_cons_succ, i64_w, i32_w]
                    rfl
                  refine pure_ (i := 6) (N := some 23) (v := ?_) (a' := ?_) #[true, true, true, true, true, false, true, false, false, false, false, false, false, false, false] rfl rfl (any_of HT_.out (by kernel_rfl)) (fun _ _ _ h => h) (Or.inl ⟨by rfl, ?_⟩) ?_ ?_
                  rotate_left
                  · intro w'
                    go_simp
                    with_reducible rfl
                  rotate_left
                  · simp only [Act.put, List.setIfInBounds_toArray, List.set_cons_zero, List.set_cons_succ, i64_w, i32_w]
                    rfl
                  refine pure_ (i := 7) (N := some 24) (v := ?_) (a' := ?_) #[true, true, true, true, true, false, true, true, false, false, false, false, false, false, false] rfl rfl (any_of HT_.out (by kernel_rfl)) (fun _ _ _ h => h) (Or.inl ⟨by rfl, ?_⟩) ?_ ?_
                  rotate_left
                  · intro w'
                    go_simp
                    with_reducible rfl
                  rotate_left
                  · simp only [Act.put, List.setIfInBounds_toArray, List.set_cons_zero, List.set_cons_succ, i64_w, i32_w]
                    rfl
                  refine pure_ (i := 8) (N := some 25) (v := ?_) (a' := ?_) #[true, true, true, true, true, false, true, true, true, false, false, false, false, false, false] rfl rfl (any_of HT_.out (by kernel_rfl)) (fun _ _ _ h => h) (Or.inl ⟨by rfl, ?_⟩) ?_ ?_
                  rotate_left
                  · intro w'
                    go_simp
                    with_reducible rfl
                  rotate_left
                  · simp only [Act.put, List.setIfInBounds_toArray, List.set_cons_zero, List.set_cons_succ, i64_w, i32_w]
                    rfl
                  refine pure_ (i := 9) (N := some 26) (v := ?_) (a' := ?_) #[true, true, true, true, true, false, true, true, true, true, false, false, false, false, false] rfl rfl (any_of HT_.out (by kernel_rfl)) (fun _ _ _ h => h) (Or.inl ⟨by rfl, ?_⟩) ?_ ?_
                  rotate_left
                  · intro w'
                    go_simp
                    with_reducible rfl
                  rotate_left
                  · simp only [Act.put, List.setIfInBounds_toArray, List.set_cons_zero, List.set_cons_succ, i64_w, i32_w]
                    rfl
                  refine pure_ (i := 10) (N := some 27) (v := ?_) (a' := ?_) #[true, true, true, true, true, false, true, true, true, true, true, false, false, false, false] rfl rfl (any_of HT_.out (by kernel_rfl)) (fun _ _ _ h => h) (Or.inl ⟨by rfl, ?_⟩) ?_ ?_
                  rotate_left
                  · intro w'
                    go_simp
                    with_reducible rfl
                  rotate_left
                  · simp only [Act.put, List.setIfInBounds_toArray, List.set_cons_zero, List.set_cons_succ, i64_w, i32_w]
                    rfl
                  refine pure_ (i := 11) (N := some 28) (v := ?_) (a' := ?_) #[true, true, true, true, true, false, true, true, true, true, true, true, false, false, false] rfl rfl (any_of HT_.out (by kernel_rfl)) (fun _ _ _ h => h) (Or.inl ⟨by rfl, ?_⟩) ?_ ?_
                  rotate_left
                  · intro w'
                    go_simp
                    with_reducible rfl
                  rotate_left
                  · simp only [Act.put, List.setIfInBounds_toArray, List.set_cons_zero, List.set_cons_succ, i64_w, i32_w]
                    rfl
                  refine take_ (i := 5) (N := some 22) (v := ?_) (a' := ?_) #[true, true, true, true, true, true, true, true, true, true, true, true, false, false, false] rfl rfl (take_ofW HT_.out HW_.out (by kernel_rfl)) (fun _ _ _ h => h) (Or.inl ⟨by rfl, ?_⟩) hHeld ?_ ?_
                  rotate_left
                  · rintro w' ⟨s0, s1, s2, s3, s4, s5⟩
                    go_simp
                    with_reducible rfl
                  rotate_left
                  · simp only [Act.put, List.setIfInBounds_toArray, List.set_cons_zero, List.set_cons_succ, i64_w, i32_w]
                    rfl
                  refine take_ (i := 12) (N := some 29) (v := ?_) (a' := ?_) #[true, true, true, true, true, true, true, true, true, true, true, true, true, false, false] rfl rfl (take_ofW HT_.out HW_.out (by kernel_rfl)) (fun _ _ _ h => h) (Or.inl ⟨by rfl, ?_⟩) hHeld ?_ ?_
                  rotate_left
                  · rintro w' ⟨s0, s1, s2, s3, s4, s5⟩
                    go_simp
                    with_reducible rfl
                  rotate_left
                  · simp only [Act.put, List.setIfInBounds_toArray, List.set_cons_zero, List.set_cons_succ, i64_w, i32_w]
                    rfl
                  refine pure_ (i := 13) (N := some 30) (v := ?_) (a' := ?_) #[true, true, true, true, true, true, true, true, true, true, true, true, true, true, false] rfl rfl (any_of HT_.out (by kernel_rfl)) (fun _ _ _ h => h) (Or.inl ⟨by rfl, ?_⟩) ?_ ?_
                  rotate_left
                  · intro w'
                    go_simp
                    with_reducible rfl
                  rotate_left
                  · simp only [Act.put, List.setIfInBounds_toArray, List.set_cons_zero, List.set_cons_succ, i64_w, i32_w]
                    rfl
                  refine pure_ (i := 14) (N := some 31) (v := ?_) (a' := ?_) #[true, true, true, true, true, true, true, true, true, true, true, true, true, true, true] rfl rfl (any_of HT_.out (by kernel_rfl)) (fun _ _ _ h => h) (Or.inl ⟨by rfl, ?_⟩) ?_ ?_
                  rotate_left
                  · intro w'
                    go_simp
                    with_reducible rfl
                  rotate_left
                  · simp only [Act.put, List.setIfInBounds_toArray, List.set_cons_zero, List.set_cons_succ, i64_w, i32_w]
                    rfl
                  refine done_ (done_of HT_.out (by kernel_rfl)) ?_
                  try go_wp2_with (first | ((with_reducible refine gate_callee (f := 72) rfl ?_); refine goesL_ (some 33) rfl rfl Try.func72 (by kernel_rfl) rfl #[.pointer (some ⟨g, 0, none⟩), .int .i64 3] rfl (by (try simp only [List.map_toArray, List.map_cons, List.map_nil]); first | done | rfl | (simp only [List.length_drop, List.length_take]; rfl)) ?_; (with_reducible refine (num_Source_Wrong.calls g t115 t116 t117 3 t120 t121 t122 w0 _ ?side1 ?side2 A12.out).mono ?_); (case side1 => repeat (first | (with_reducible first | exact HI0.out | apply IsS104.alloc | apply IsS104.drewN | apply IsS104.drew | apply IsS104.set_0 | apply IsS104.set_1 | apply IsS104.set_2 | refine IsS104.far ?_ NB0_118.out _) | exact HI0.out)); (case side2 => repeat (first | (with_reducible first | exact HB.out | apply below_alloc | apply pw_below_drewN | apply below_drew1 | refine below_set ?_ (IsS104.ge HI0.out) | refine below_set ?_ GE118.out) | exact HB.out)); rintro e w22 ⟨rfl, hi, hb, hk⟩; refine ⟨_, rfl, ?_⟩; have n0_ := Aside0.mk (Kd.R_mono (Kd.R_keep (IsS104.apart (show IsS104 w0 _ g t115 t116 t117 from by repeat (first | (with_reducible first | exact HI0.out | apply IsS104.alloc | apply IsS104.drewN | apply IsS104.drew | apply IsS104.set_0 | apply IsS104.set_1 | apply IsS104.set_2 | refine IsS104.far ?_ NB0_118.out _) | exact HI0.out)) (by (with_reducible repeat (first | apply Kd.R_alloc | apply Kd.R_drewN | apply Kd.R_drew)); exact HO_3.out) (by decide)) hk (fun _ h => h.2)) (fun _ h => h.1)); have n1_ := Aside0.mk (KeepBut.blk hk (g' := gb118) (o := .cells #[.int .i64 t109, .int .u64 t113, .string t114] 30 (0, 0)) (by (with_reducible repeat (first | refine blk_drewN ?_ _ | refine blk_drew ?_ | refine blk_alloc ?_ _)); exact BK118.out) NB118_0.out (by simp)); have n2_ := Aside0.mk (KeepBut.trans (by repeat (first | (with_reducible first | exact HK.out | apply KeepBut.set_ | apply keep_drewN | apply keep_drew | apply keep_alloc | refine keep_far ?_ GW118.out _) | exact HK.out)) hk (.inl rfl)); have n3_ := Aside0.mk (hb); have n4_ := Aside0.mk (hi); clear HO_3; clear BK118; clear HK; clear HB; clear HI0; have HO_3 := n0_; have BK118 := n1_; have HK := n2_; have HB := n3_; have HI0 := n4_; clear n0_ n1_ n2_ n3_ n4_; (try clear hb); (try clear hb2); (try clear hk); (try clear hi); have hcz23_0 : w22.cell? ⟨gb118, 0, none⟩ = some (.int .i64 t109) := (blk_cell BK118.out 0).trans rfl; have hcz23_1 : w22.cell? ⟨gb118, 1, none⟩ = some (.int .u64 t113) := (blk_cell BK118.out 1).trans rfl; have hcz23_2 : w22.cell? ⟨gb118, 2, none⟩ = some (.string t114) := (blk_cell BK118.out 2).trans rfl; have hfz23_0 := blk_frozen BK118.out 0; have hfz23_1 := blk_frozen BK118.out 1; have hfz23_2 := blk_frozen BK118.out 2) | ((with_reducible refine gate_builtin (b := .append) (xs := #[.tmp 34, .tmp 36]) rfl ?_); (try (refine gate_guard (by rfl) ?_; dsimp only)); at_builtin; refine Kd.R_append k30 w.heap.size rfl (.tmp 34) (.tmp 36) 22 30 (.agg #[(.int .i64 0), (.int .u64 0), (.string ⟨#[]⟩)]) 32 rfl Try.underlying22 info30 rfl (by decide) (by omega) (.slice (some ad119) x3_1.length co21) x3_1 (⟨t109, (⟨t113, t114⟩ : S28)⟩ : S30) [.int .i64 t109, .int .u64 t113, .string t114] (fun k_ => k_ ≠ gb118) (fun _ => False) rfl rfl ?aP (fun _ hk => hk.elim) ?aF ?aO (Below.refl _ _) ?aS ?aL ?_; (case aP => exact k30_mkM _ _ _ (⟨t109, (⟨t113, t114⟩ : S28)⟩ : S30)); (case aF => exact (fun k_ hk => Kd.freshB (g := gb118) (o := .cells #[.int .i64 t109, .int .u64 t113, .string t114] 30 (0, 0)) (by (with_reducible repeat (first | refine blk_drewN ?_ _ | refine blk_drew ?_ | refine blk_alloc ?_ _)); exact BK118.out) k_ hk)); (case aO => exact (by (with_reducible repeat (first | apply Kd.R_alloc | apply Kd.R_drewN | apply Kd.R_drew)); exact HO_3.out)); (case aS => exact (keep_size (w := w) (g := g) (row := none) (by repeat (first | (with_reducible first | exact HK.out | apply KeepBut.set_ | apply keep_drewN | apply keep_drew | apply keep_alloc | refine keep_far ?_ GW118.out _) | exact HK.out)))); (case aL => have := LMc13.out; omega); intro v124 w24 ho hb hg hat; rw [← Ny123.out] at ho; have n0_ := Aside0.mk (IsS104.grown (by repeat (first | (with_reducible first | exact HI0.out | apply IsS104.alloc | apply IsS104.drewN | apply IsS104.drew | apply IsS104.set_0 | apply IsS104.set_1 | apply IsS104.set_2 | refine IsS104.far ?_ NB0_118.out _) | exact HI0.out)) hg (IsS104.own_ne HI0.out HO_3.out (by decide))); have n1_ := Aside0.mk (blk_grown (g := gb118) (o := .cells #[.int .i64 t109, .int .u64 t113, .string t114] 30 (0, 0)) (by (with_reducible repeat (first | refine blk_drewN ?_ _ | refine blk_drew ?_ | refine blk_alloc ?_ _)); exact BK118.out) hg (Kd.R_away HO_3.out (fun _ hk => hk))); have n2_ := Aside0.mk (below_weaken (by repeat (first | (with_reducible first | exact HB.out | apply below_alloc | apply pw_below_drewN | apply below_drew1 | refine below_set ?_ (IsS104.ge HI0.out) | refine below_set ?_ GE118.out) | exact HB.out)) HL.out hb); have n3_ := Aside0.mk (KeepBut.trans (by repeat (first | (with_reducible first | exact HK.out | apply KeepBut.set_ | apply keep_drewN | apply keep_drew | apply keep_alloc | refine keep_far ?_ GW118.out _) | exact HK.out)) (KeepBut.of_grown hg g) (Kd.R_base2 HO_3.out)); have n4_ := Aside0.mk (ho); clear HI0; clear BK118; clear HB; clear HK; clear HO_3; have HI0 := n0_; have BK118 := n1_; have HB := n2_; have HK := n3_; have HO125 := n4_; clear n0_ n1_ n2_ n3_ n4_; clear ho hb hg hat))
                  go_roundg k1
                  case measure => have := HK1.out; omega
                  case rel => exact ⟨(y123), (wrap64 (x4_1 - 1)), (t120), (t121), (t122), (by first | rfl | (simp; done) | (simp [*]; done)), H', ⟨by have := HK1.out; omega⟩, ⟨by (with_reducible repeat (first | apply Kd.R_alloc | apply Kd.R_drewN | apply Kd.R_drew)); exact Kd.R_mono HO125.out (fun _ hk => trivial)⟩, ⟨by repeat (first | (with_reducible first | exact HI0.out | apply IsS104.alloc | apply IsS104.drewN | apply IsS104.drew | apply IsS104.set_0 | apply IsS104.set_1 | apply IsS104.set_2 | refine IsS104.far ?_ NB0_118.out _) | exact HI0.out)⟩, ⟨by repeat (first | (with_reducible first | exact HK.out | apply KeepBut.set_ | apply keep_drewN | apply keep_drew | apply keep_alloc | refine keep_far ?_ GW118.out _) | exact HK.out)⟩, ⟨by repeat (first | (with_reducible first | exact HB.out | apply below_alloc | apply pw_below_drewN | apply below_drew1 | refine below_set ?_ (IsS104.ge HI0.out) | refine below_set ?_ GE118.out) | exact HB.out)⟩⟩
                · rw [if_neg c13] at H
                  exact absurd H (by simp)
              · rw [if_neg c11] at H
                have c11b0 : decide (t109 ≤ ((rd_T30 x3_1 (ji8)).f0)) = false := decide_eq_false c11
                clear c11
                by_cases c25 : x3_1.length < 4398046511104
                · rw [if_pos c25] at H
                  have LMc25 := Aside0.mk c25
                  clear c25
                  obtain ⟨y126, hy126⟩ : ∃ y_ : List (S30), y_ = (x3_1 ++ [(⟨t109, (⟨t113, t114⟩ : S28)⟩ : S30)]) := ⟨_, rfl⟩
                  replace H : (items_Take.l0 k1 y126 (wrap64 (x4_1 - 1)) t115 t116 t117) = some (r1, r2, r3, r4) := by first | (rw [hy126]; with_reducible exact H) | (have H2_ := (Option.bind_some _ _).symm.trans H; rw [hy126]; with_reducible exact H2_) | (have H2_ := (Option.bind_some _ _).symm.trans H; with_reducible exact H2_) | with_reducible exact H | (rw [hy126]; exact H) | exact H
                  have Ny126 := Aside0.mk hy126
                  clear hy126
                  have H' := Aside0.mk H
                  clear H
                  try go_wp2_with (first | ((with_reducible refine gate_callee (f := 70) rfl ?_); refine goesL_ (some 13) rfl rfl Try.func70 (by kernel_rfl) rfl #[.pointer (some ⟨g, 0, none⟩), .int .i64 63] rfl (by (try simp only [List.map_toArray, List.map_cons, List.map_nil]); first | done | rfl | (simp only [List.length_drop, List.length_take]; rfl)) ?_; (with_reducible refine (num_Source_Int.calls k1 g x1000_1 x1001_1 x1002_1 63 t109 t110 t111 t112 w0 _ ?side1 ?side2 A5.out).mono ?_); (case side1 => repeat (first | (with_reducible first | exact HI0.out | apply IsS104.alloc | apply IsS104.drewN | apply IsS104.drew | apply IsS104.set_0 | apply IsS104.set_1 | apply IsS104.set_2) | exact HI0.out)); (case side2 => repeat (first | (with_reducible first | exact HB.out | apply below_alloc | apply pw_below_drewN | apply below_drew1 | refine below_set ?_ (IsS104.ge HI0.out)) | exact HB.out)); rintro e w26 ⟨rfl, hi, hb, hk⟩; refine ⟨_, rfl, ?_⟩; have n0_ := Aside0.mk (Kd.R_mono (Kd.R_keep (IsS104.apart (show IsS104 w0 _ g x1000_1 x1001_1 x1002_1 from by repeat (first | (with_reducible first | exact HI0.out | apply IsS104.alloc | apply IsS104.drewN | apply IsS104.drew | apply IsS104.set_0 | apply IsS104.set_1 | apply IsS104.set_2) | exact HI0.out)) (by (with_reducible repeat (first | apply Kd.R_alloc | apply Kd.R_drewN | apply Kd.R_drew)); exact HO_3.out) (by decide)) hk (fun _ h => h.2)) (fun _ h => h.1)); have n1_ := Aside0.mk (KeepBut.trans (by repeat (first | (with_reducible first | exact HK.out | apply KeepBut.set_ | apply keep_drewN | apply keep_drew | apply keep_alloc) | exact HK.out)) hk (.inl rfl)); have n2_ := Aside0.mk (hb); have n3_ := Aside0.mk (hi); clear HO_3; clear HK; clear HB; clear HI0; have HO_3 := n0_; have HK := n1_; have HB := n2_; have HI0 := n3_; clear n0_ n1_ n2_ n3_; (try clear hb); (try clear hb2); (try clear hk); (try clear hi)) | ((with_reducible refine gate_callee (f := 71) rfl ?_); refine goesL_ (some 15) rfl rfl Try.func71 (by kernel_rfl) rfl #[.pointer (some ⟨g, 0, none⟩)] rfl (by (try simp only [List.map_toArray, List.map_cons, List.map_nil]); first | done | rfl | (simp only [List.length_drop, List.length_take]; rfl)) ?_; (with_reducible refine (item_Take.calls k1 g t110 t111 t112 t113 t114 t115 t116 t117 w0 _ ?side1 ?side2 A6.out).mono ?_); (case side1 => repeat (first | (with_reducible first | exact HI0.out | apply IsS104.alloc | apply IsS104.drewN | apply IsS104.drew | apply IsS104.set_0 | apply IsS104.set_1 | apply IsS104.set_2) | exact HI0.out)); (case side2 => repeat (first | (with_reducible first | exact HB.out | apply below_alloc | apply pw_below_drewN | apply below_drew1 | refine below_set ?_ (IsS104.ge HI0.out)) | exact HB.out)); rintro e w27 ⟨rfl, hi, hb, hk⟩; refine ⟨_, rfl, ?_⟩; have n0_ := Aside0.mk (Kd.R_mono (Kd.R_keep (IsS104.apart (show IsS104 w0 _ g t110 t111 t112 from by repeat (first | (with_reducible first | exact HI0.out | apply IsS104.alloc | apply IsS104.drewN | apply IsS104.drew | apply IsS104.set_0 | apply IsS104.set_1 | apply IsS104.set_2) | exact HI0.out)) (by (with_reducible repeat (first | apply Kd.R_alloc | apply Kd.R_drewN | apply Kd.R_drew)); exact HO_3.out) (by decide)) hk (fun _ h => h.2)) (fun _ h => h.1)); have n1_ := Aside0.mk (KeepBut.trans (by repeat (first | (with_reducible first | exact HK.out | apply KeepBut.set_ | apply keep_drewN | apply keep_drew | apply keep_alloc) | exact HK.out)) hk (.inl rfl)); have n2_ := Aside0.mk (hb); have n3_ := Aside0.mk (hi); clear HO_3; clear HK; clear HB; clear HI0; have HO_3 := n0_; have HK := n1_; have HB := n2_; have HI0 := n3_; clear n0_ n1_ n2_ n3_; (try clear hb); (try clear hb2); (try clear hk); (try clear hi)) | ((with_reducible refine gate_dst (N := 5) rfl ?_); (try (refine gate_guard (by rfl) ?_; dsimp only)); refine box_event ?hg (N := 5) ?hd (cs := #[.int .i64 0, .int .u64 0, .string (⟨#[]⟩ : ByteArray)]) (t := 30) ?hr ?_; (case hd => rfl); (case hg => rfl); (case hr => first | (go_simp; done) | (go_simp; rfl)); intro gb118 hg w28 hbox hb; have n0_ := Aside0.mk (Kd.R_below (Kd.R_elderB (by (with_reducible repeat (first | apply Kd.R_alloc | apply Kd.R_drewN | apply Kd.R_drew)); exact HO_3.out) gb118 (Nat.le_of_eq hg.symm)) hb); have n1_ := Aside0.mk (IsS104.below (by repeat (first | (with_reducible first | exact HI0.out | apply IsS104.alloc | apply IsS104.drewN | apply IsS104.drew | apply IsS104.set_0 | apply IsS104.set_1 | apply IsS104.set_2) | exact HI0.out)) hb); have n2_ := Aside0.mk (KeepBut.trans (by repeat (first | (with_reducible first | exact HK.out | apply KeepBut.set_ | apply keep_drewN | apply keep_drew | apply keep_alloc) | exact HK.out)) (KeepBut.of_below hb g none) (.inl rfl)); have n3_ := Aside0.mk (below_step (by repeat (first | (with_reducible first | exact HB.out | apply below_alloc | apply pw_below_drewN | apply below_drew1 | refine below_set ?_ (IsS104.ge HI0.out)) | exact HB.out)) hb); have n4_ := Aside0.mk (hbox); have n5_ := Aside0.mk ((by rw [hg]; exact (keep_size (w := w) (g := g) (row := none) (by repeat (first | (with_reducible first | exact HK.out | apply KeepBut.set_ | apply keep_drewN | apply keep_drew | apply keep_alloc) | exact HK.out))) : w.heap.size ≤ gb118)); have n6_ := Aside0.mk ((Nat.le_trans HW0.out (by rw [hg]; exact (keep_size (w := w) (g := g) (row := none) (by repeat (first | (with_reducible first | exact HK.out | apply KeepBut.set_ | apply keep_drewN | apply keep_drew | apply keep_alloc) | exact HK.out))) : w.heap.size ≤ gb118) : w0.heap.size ≤ gb118)); have n7_ := Aside0.mk ((by rw [hg]; exact Nat.ne_of_lt (IsS104.lt (show IsS104 w0 _ g t115 t116 t117 from by repeat (first | (with_reducible first | exact HI0.out | apply IsS104.alloc | apply IsS104.drewN | apply IsS104.drew | apply IsS104.set_0 | apply IsS104.set_1 | apply IsS104.set_2) | exact HI0.out))) : g ≠ gb118)); have n8_ := Aside0.mk ((by rw [hg]; exact Nat.ne_of_gt (IsS104.lt (show IsS104 w0 _ g t115 t116 t117 from by repeat (first | (with_reducible first | exact HI0.out | apply IsS104.alloc | apply IsS104.drewN | apply IsS104.drew | apply IsS104.set_0 | apply IsS104.set_1 | apply IsS104.set_2) | exact HI0.out))) : gb118 ≠ g)); clear HO_3; clear HI0; clear HK; clear HB; have HO_3 := n0_; have HI0 := n1_; have HK := n2_; have HB := n3_; have BK118 := n4_; have GW118 := n5_; have GE118 := n6_; have NB0_118 := n7_; have NB118_0 := n8_; clear n0_ n1_ n2_ n3_ n4_ n5_ n6_ n7_ n8_; clear hb hbox hg; have hnb29 := NB118_0.out; have hnc29 := NB0_118.out; have hcz30_0 : w28.cell? ⟨gb118, 0, none⟩ = some (.int .i64 0) := (blk_cell BK118.out 0).trans rfl; have hcz30_1 : w28.cell? ⟨gb118, 1, none⟩ = some (.int .u64 0) := (blk_cell BK118.out 1).trans rfl; have hcz30_2 : w28.cell? ⟨gb118, 2, none⟩ = some (.string (⟨#[]⟩ : ByteArray)) := (blk_cell BK118.out 2).trans rfl; have hfz30_0 := blk_frozen BK118.out 0; have hfz30_1 := blk_frozen BK118.out 1; have hfz30_2 := blk_frozen BK118.out 2))
                  have n0_ : Aside0 (Kd.R k30 30 (((w28.setCell ⟨gb118, 0, none⟩ (.int .i64 t109)).setCell ⟨gb118, 1, none⟩ (.int .u64 t113)).setCell ⟨gb118, 2, none⟩ (.string t114)) w.heap.size (fun k_ => k_ ≠ gb118) u3 x3_1) := ⟨by (with_reducible repeat (first | apply Kd.R_alloc | apply Kd.R_drewN | apply Kd.R_drew)); exact Kd.R_mono (Kd.R_far (p := ⟨gb118, 2, none⟩) (Kd.R_far (p := ⟨gb118, 1, none⟩) (Kd.R_far (p := ⟨gb118, 0, none⟩) (Kd.R_mono HO_3.out (fun k_ hk => (⟨hk, hk.2⟩ : _ ∧ k_ ≠ gb118))) (fun _ hk => hk.2) (.int .i64 t109)) (fun _ hk => hk.2) (.int .u64 t113)) (fun _ hk => hk.2) (.string t114)) (fun _ hk => hk.1.2)⟩
                  have n1_ : Aside0 ((((w28.setCell ⟨gb118, 0, none⟩ (.int .i64 t109)).setCell ⟨gb118, 1, none⟩ (.int .u64 t113)).setCell ⟨gb118, 2, none⟩ (.string t114)).heap[gb118]? = some (.cells #[.int .i64 t109, .int .u64 t113, .string t114] 30 (0, 0))) := ⟨by (with_reducible repeat (first | refine blk_drewN ?_ _ | refine blk_drew ?_ | refine blk_alloc ?_ _)); refine blk_put (cs := #[.int .i64 t109, .int .u64 t113, .string (⟨#[]⟩ : ByteArray)]) ?_ 2 _ rfl; (with_reducible repeat (first | refine blk_drewN ?_ _ | refine blk_drew ?_ | refine blk_alloc ?_ _)); refine blk_put (cs := #[.int .i64 t109, .int .u64 0, .string (⟨#[]⟩ : ByteArray)]) ?_ 1 _ rfl; (with_reducible repeat (first | refine blk_drewN ?_ _ | refine blk_drew ?_ | refine blk_alloc ?_ _)); refine blk_put (cs := #[.int .i64 0, .int .u64 0, .string (⟨#[]⟩ : ByteArray)]) ?_ 0 _ rfl; (with_reducible repeat (first | refine blk_drewN ?_ _ | refine blk_drew ?_ | refine blk_alloc ?_ _)); exact BK118.out⟩
                  have n2_ : Aside0 (IsS104 w0 (((w28.setCell ⟨gb118, 0, none⟩ (.int .i64 t109)).setCell ⟨gb118, 1, none⟩ (.int .u64 t113)).setCell ⟨gb118, 2, none⟩ (.string t114)) g t115 t116 t117) := ⟨by repeat (first | (with_reducible first | exact HI0.out | apply IsS104.alloc | apply IsS104.drewN | apply IsS104.drew | apply IsS104.set_0 | apply IsS104.set_1 | apply IsS104.set_2 | refine IsS104.far ?_ NB0_118.out _) | exact HI0.out)⟩
                  have n3_ : Aside0 (KeepBut w (((w28.setCell ⟨gb118, 0, none⟩ (.int .i64 t109)).setCell ⟨gb118, 1, none⟩ (.int .u64 t113)).setCell ⟨gb118, 2, none⟩ (.string t114)) g none) := ⟨by repeat (first | (with_reducible first | exact HK.out | apply KeepBut.set_ | apply keep_drewN | apply keep_drew | apply keep_alloc | refine keep_far ?_ GW118.out _) | exact HK.out)⟩
                  have n4_ : Aside0 (Below w0.heap.size w0 (((w28.setCell ⟨gb118, 0, none⟩ (.int .i64 t109)).setCell ⟨gb118, 1, none⟩ (.int .u64 t113)).setCell ⟨gb118, 2, none⟩ (.string t114))) := ⟨by repeat (first | (with_reducible first | exact HB.out | apply below_alloc | apply pw_below_drewN | apply below_drew1 | refine below_set ?_ (IsS104.ge HI0.out) | refine below_set ?_ GE118.out) | exact HB.out)⟩
                  (try clear HO_3)
                  (try clear BK118)
                  (try clear HI0)
                  (try clear HK)
                  (try clear HB)
                  generalize (((w28.setCell ⟨gb118, 0, none⟩ (.int .i64 t109)).setCell ⟨gb118, 1, none⟩ (.int .u64 t113)).setCell ⟨gb118, 2, none⟩ (.string t114)) = w31 at n0_ n1_ n2_ n3_ n4_ ⊢
                  have HO_3 := n0_
                  have BK118 := n1_
                  have HI0 := n2_
                  have HK := n3_
                  have HB := n4_
                  clear n0_ n1_ n2_ n3_ n4_
                  have n0_ := Aside0.mk (Kd.R_drew HO_3.out)
                  have n1_ := Aside0.mk (blk_drew BK118.out)
                  have n2_ := Aside0.mk (IsS104.drew HI0.out)
                  have n3_ := Aside0.mk (keep_drew HK.out)
                  have n4_ := Aside0.mk (below_drew1 HB.out)
                  clear HO_3
                  clear BK118
                  clear HI0
                  clear HK
                  clear HB
                  have HO_3 := n0_
                  have BK118 := n1_
                  have HI0 := n2_
                  have HK := n3_
                  have HB := n4_
                  clear n0_ n1_ n2_ n3_ n4_
                  obtain ⟨Ao33, co33, eo33⟩ := Kd.R_slice HO_3.out
                  (first | subst eo33 | (injection eo33 with f1_ f2_ f3_; have f4_ := f1_.symm; have f5_ := f3_.symm; clear f1_ f2_ f3_; subst f4_; subst f5_))
                  have p119 : 0 ≤ ((ji8) : Int) := of_decide_eq_true (by first | (with_reducible assumption) | assumption)
                  have q119 : (ji8) < (x3_1.length : Int) := of_decide_eq_true (by first | (with_reducible assumption) | assumption)
                  obtain ⟨ad119, e119, hx119_0, hx119_1, hx119_2⟩ := at_T30 (Kd.R_reads' HO_3.out).2.2 (ji8) p119 q119
                  cases e119
                  replace p119 := eq_true p119
                  replace q119 := eq_true q119
                  refine start_ (n := 15) (S := fun w' => w'.cell? ⟨gb118, 0, none⟩ = some (.int .i64 t109) ∧ w'.cell? ⟨gb118, 1, none⟩ = some (.int .u64 t113) ∧ w'.cell? ⟨gb118, 2, none⟩ = some (.string t114) ∧ w'.cell? (ad119.add (((ji8)).toNat * 3)) = some (.int .i64 ((rd_T30 x3_1 (ji8)).f0)) ∧ w'.cell? ⟨(ad119.add (((ji8)).toNat * 3)).block, (ad119.add (((ji8)).toNat * 3)).off + 1, none⟩ = some (.int .u64 ((rd_T30 x3_1 (ji8)).f1.f0)) ∧ w'.cell? ⟨(ad119.add (((ji8)).toNat * 3)).block, (ad119.add (((ji8)).toNat * 3)).off + 2, none⟩ = some (.string ((rd_T30 x3_1 (ji8)).f1.f1))) (ds := []) #[false, false, false, false, false, false, false, false, false, false, false, false, false, false, false] (by kernel_rfl) rfl rfl ⟨(blk_cell BK118.out 0).trans rfl, (blk_cell BK118.out 1).trans rfl, (blk_cell BK118.out 2).trans rfl, hx119_0, hx119_1, hx119_2⟩ (fun hHeld => ?_); refine with_tabW items_Take.tab6 items_Take.bits6 (fun HT_ HW_ => ?_)
                  generalize w31.drew = w32 at HO_3 BK118 HI0 HK HB hx119_0 hx119_1 hx119_2 hHeld ⊢
                  refine pure_ (i := 0) (N := some 17) (v := ?_) (a' := ?_) #[true, false, false, false, false, false, false, false, false, false, false, false, false, false, false] rfl rfl (any_of HT_.out (by kernel_rfl)) (fun _ _ _ h => h) (Or.inl ⟨by rfl, ?_⟩) ?_ ?_
                  rotate_left
                  · intro w'
                    go_simp
                    with_reducible rfl
                  rotate_left
                  · simp only [Act.put, List.setIfInBounds_toArray, List.set_cons_zero, List.set_cons_succ, i64_w, i32_w]
                    rfl
                  refine pure_ (i := 1) (N := some 18) (v := ?_) (a' := ?_) #[true, true, false, false, false, false, false, false, false, false, false, false, false, false, false] rfl rfl (any_of HT_.out (by kernel_rfl)) (fun _ _ _ h => h) (Or.inl ⟨by rfl, ?_⟩) ?_ ?_
                  rotate_left
                  · intro w'
                    go_simp
                    with_reducible rfl
                  rotate_left
                  · simp only [Act.put, List.setIfInBounds_toArray, List.set_cons_zero, List.set_cons_succ, i64_w, i32_w]
                    rfl
                  refine pure_ (i := 2) (N := some 19) (v := ?_) (a' := ?_) #[true, true, true, false, false, false, false, false, false, false, false, false, false, false, false] rfl rfl (any_of HT_.out (by kernel_rfl)) (fun _ _ _ h => h) (Or.inl ⟨by rfl, ?_⟩) ?_ ?_
                  rotate_left
                  · intro w'
                    go_simp
                    with_reducible rfl
                  rotate_left
                  · simp only [Act.put, List.setIfInBounds_toArray, List.set_cons_zero, List.set_cons_succ, i64_w, i32_w]
                    rfl
                  refine pure_ (i := 3) (N := some 20) (v := ?_) (a' := ?_) #[true, true, true, true, false, false, false, false, false, false, false, false, false, false, false] rfl rfl (any_of HT_.out (by kernel_rfl)) (fun _ _ _ h => h) (Or.inl ⟨by rfl, ?_⟩) ?_ ?_
                  rotate_left
                  · intro w'
                    go_simp
                    with_reducible rfl
                  rotate_left
                  · simp only [Act.put, List.setIfInBounds_toArray, List.set_cons_zero, List.set_cons_succ, i64_w, i32_w]
                    rfl
                  refine pure_ (i := 4) (N := some 21) (v := ?_) (a' := ?_) #[true, true, true, true, true, false, false, false, false, false, false, false, false, false, false] rfl rfl (any_of HT_.out (by kernel_rfl)) (fun _ _ _ h => h) (Or.inl ⟨by rfl, ?_⟩) ?_ ?_
                  rotate_left
                  · intro w'
                    go_simp
                    with_reducible rfl
                  rotate_left
                  · simp only [Act.put, List.setIfInBounds_toArray, List.set_cons_zero, List.set_cons_succ, i64_w, i32_w]
                    rfl
                  refine pure_ (i := 6) (N := some 23) (v := ?_) (a' := ?_) #[true, true, true, true, true, false, true, false, false, false, false, false, false, false, false] rfl rfl (any_of HT_.out (by kernel_rfl)) (fun _ _ _ h => h) (Or.inl ⟨by rfl, ?_⟩) ?_ ?_
                  rotate_left
                  · intro w'
                    go_simp
                    with_reducible rfl
                  rotate_left
                  · simp only [Act.put, List.setIfInBounds_toArray, List.set_cons_zero, List.set_cons_succ, i64_w, i32_w]
                    rfl
                  refine pure_ (i := 7) (N := some 24) (v := ?_) (a' := ?_) #[true, true, true, true, true, false, true, true, false, false, false, false, false, false, false] rfl rfl (any_of HT_.out (by kernel_rfl)) (fun _ _ _ h => h) (Or.inl ⟨by rfl, ?_⟩) ?_ ?_
                  rotate_left
                  · intro w'
                    go_simp
                    with_reducible rfl
                  rotate_left
                  · simp only [Act.put, List.setIfInBounds_toArray, List.set_cons_zero, List.set_cons_succ, i64_w, i32_w]
                    rfl
                  refine pure_ (i := 8) (N := some 25) (v := ?_) (a' := ?_) #[true, true, true, true, true, false, true, true, true, false, false, false, false, false, false] rfl rfl (any_of HT_.out (by kernel_rfl)) (fun _ _ _ h => h) (Or.inl ⟨by rfl, ?_⟩) ?_ ?_
                  rotate_left
                  · intro w'
                    go_simp
                    with_reducible rfl
                  rotate_left
                  · simp only [Act.put, List.setIfInBounds_toArray, List.set_cons_zero, List.set_cons_succ, i64_w, i32_w]
                    rfl
                  refine pure_ (i := 9) (N := some 26) (v := ?_) (a' := ?_) #[true, true, true, true, true, false, true, true, true, true, false, false, false, false, false] rfl rfl (any_of HT_.out (by kernel_rfl)) (fun _ _ _ h => h) (Or.inl ⟨by rfl, ?_⟩) ?_ ?_
                  rotate_left
                  · intro w'
                    go_simp
                    with_reducible rfl
                  rotate_left
                  · simp only [Act.put, List.setIfInBounds_toArray, List.set_cons_zero, List.set_cons_succ, i64_w, i32_w]
                    rfl
                  refine pure_ (i := 10) (N := some 27) (v := ?_) (a' := ?_) #[true, true, true, true, true, false, true, true, true, true, true, false, false, false, false] rfl rfl (any_of HT_.out (by kernel_rfl)) (fun _ _ _ h => h) (Or.inl ⟨by rfl, ?_⟩) ?_ ?_
                  rotate_left
                  · intro w'
                    go_simp
                    with_reducible rfl
                  rotate_left
                  · simp only [Act.put, List.setIfInBounds_toArray, List.set_cons_zero, List.set_cons_succ, i64_w, i32_w]
                    rfl
                  refine pure_ (i := 11) (N := some 28) (v := ?_) (a' := ?_) #[true, true, true, true, true, false, true, true, true, true, true, true, false, false, false] rfl rfl (any_of HT_.out (by kernel_rfl)) (fun _ _ _ h => h) (Or.inl ⟨by rfl, ?_⟩) ?_ ?_
                  rotate_left
                  · intro w'
                    go_simp
                    with_reducible rfl
                  rotate_left
                  · simp only [Act.put, List.setIfInBounds_toArray, List.set_cons_zero, List.set_cons_succ, i64_w, i32_w]
                    rfl
                  refine take_ (i := 5) (N := some 22) (v := ?_) (a' := ?_) #[true, true, true, true, true, true, true, true, true, true, true, true, false, false, false] rfl rfl (take_ofW HT_.out HW_.out (by kernel_rfl)) (fun _ _ _ h => h) (Or.inl ⟨by rfl, ?_⟩) hHeld ?_ ?_
                  rotate_left
                  · rintro w' ⟨s0, s1, s2, s3, s4, s5⟩
                    go_simp
                    with_reducible rfl
                  rotate_left
                  · simp only [Act.put, List.setIfInBounds_toArray, List.set_cons_zero, List.set_cons_succ, i64_w, i32_w]
                    rfl
                  refine take_ (i := 12) (N := some 29) (v := ?_) (a' := ?_) #[true, true, true, true, true, true, true, true, true, true, true, true, true, false, false] rfl rfl (take_ofW HT_.out HW_.out (by kernel_rfl)) (fun _ _ _ h => h) (Or.inl ⟨by rfl, ?_⟩) hHeld ?_ ?_
                  rotate_left
                  · rintro w' ⟨s0, s1, s2, s3, s4, s5⟩
                    go_simp
                    with_reducible rfl
                  rotate_left
                  · simp only [Act.put, List.setIfInBounds_toArray, List.set_cons_zero, List.set_cons_succ, i64_w, i32_w]
                    rfl
                  refine pure_ (i := 13) (N := some 30) (v := ?_) (a' := ?_) #[true, true, true, true, true, true, true, true, true, true, true, true, true, true, false] rfl rfl (any_of HT_.out (by kernel_rfl)) (fun _ _ _ h => h) (Or.inl ⟨by rfl, ?_⟩) ?_ ?_
                  rotate_left
                  · intro w'
                    go_simp
                    with_reducible rfl
                  rotate_left
                  · simp only [Act.put, List.setIfInBounds_toArray, List.set_cons_zero, List.set_cons_succ, i64_w, i32_w]
                    rfl
                  refine pure_ (i := 14) (N := some 31) (v := ?_) (a' := ?_) #[true, true, true, true, true, true, true, true, true, true, true, true, true, true, true] rfl rfl (any_of HT_.out (by kernel_rfl)) (fun _ _ _ h => h) (Or.inl ⟨by rfl, ?_⟩) ?_ ?_
                  rotate_left
                  · intro w'
                    go_simp
                    with_reducible rfl
                  rotate_left
                  · simp only [Act.put, List.setIfInBounds_toArray, List.set_cons_zero, List.set_cons_succ, i64_w, i32_w]
                    rfl
                  refine done_ (done_of HT_.out (by kernel_rfl)) ?_
                  have hcz34_0 : w32.cell? ⟨gb118, 0, none⟩ = some (.int .i64 t109) := (blk_cell BK118.out 0).trans rfl
                  have hcz34_1 : w32.cell? ⟨gb118, 1, none⟩ = some (.int .u64 t113) := (blk_cell BK118.out 1).trans rfl
                  have hcz34_2 : w32.cell? ⟨gb118, 2, none⟩ = some (.string t114) := (blk_cell BK118.out 2).trans rfl
                  have hfz34_0 := blk_frozen BK118.out 0
                  have hfz34_1 := blk_frozen BK118.out 1
                  have hfz34_2 := blk_frozen BK118.out 2
                  try go_wp2_with (first | ((with_reducible refine gate_builtin (b := .append) (xs := #[.tmp 34, .tmp 36]) rfl ?_); (try (refine gate_guard (by rfl) ?_; dsimp only)); at_builtin; refine Kd.R_append k30 w.heap.size rfl (.tmp 34) (.tmp 36) 22 30 (.agg #[(.int .i64 0), (.int .u64 0), (.string ⟨#[]⟩)]) 32 rfl Try.underlying22 info30 rfl (by decide) (by omega) (.slice (some ad119) x3_1.length co33) x3_1 (⟨t109, (⟨t113, t114⟩ : S28)⟩ : S30) [.int .i64 t109, .int .u64 t113, .string t114] (fun k_ => k_ ≠ gb118) (fun _ => False) rfl rfl ?aP (fun _ hk => hk.elim) ?aF ?aO (Below.refl _ _) ?aS ?aL ?_; (case aP => exact k30_mkM _ _ _ (⟨t109, (⟨t113, t114⟩ : S28)⟩ : S30)); (case aF => exact (fun k_ hk => Kd.freshB (g := gb118) (o := .cells #[.int .i64 t109, .int .u64 t113, .string t114] 30 (0, 0)) (by (with_reducible repeat (first | refine blk_drewN ?_ _ | refine blk_drew ?_ | refine blk_alloc ?_ _)); exact BK118.out) k_ hk)); (case aO => exact (by (with_reducible repeat (first | apply Kd.R_alloc | apply Kd.R_drewN | apply Kd.R_drew)); exact HO_3.out)); (case aS => exact (keep_size (w := w) (g := g) (row := none) (by repeat (first | (with_reducible first | exact HK.out | apply KeepBut.set_ | apply keep_drewN | apply keep_drew | apply keep_alloc | refine keep_far ?_ GW118.out _) | exact HK.out)))); (case aL => have := LMc25.out; omega); intro v127 w35 ho hb hg hat; rw [← Ny126.out] at ho; have n0_ := Aside0.mk (IsS104.grown (by repeat (first | (with_reducible first | exact HI0.out | apply IsS104.alloc | apply IsS104.drewN | apply IsS104.drew | apply IsS104.set_0 | apply IsS104.set_1 | apply IsS104.set_2 | refine IsS104.far ?_ NB0_118.out _) | exact HI0.out)) hg (IsS104.own_ne HI0.out HO_3.out (by decide))); have n1_ := Aside0.mk (blk_grown (g := gb118) (o := .cells #[.int .i64 t109, .int .u64 t113, .string t114] 30 (0, 0)) (by (with_reducible repeat (first | refine blk_drewN ?_ _ | refine blk_drew ?_ | refine blk_alloc ?_ _)); exact BK118.out) hg (Kd.R_away HO_3.out (fun _ hk => hk))); have n2_ := Aside0.mk (below_weaken (by repeat (first | (with_reducible first | exact HB.out | apply below_alloc | apply pw_below_drewN | apply below_drew1 | refine below_set ?_ (IsS104.ge HI0.out) | refine below_set ?_ GE118.out) | exact HB.out)) HL.out hb); have n3_ := Aside0.mk (KeepBut.trans (by repeat (first | (with_reducible first | exact HK.out | apply KeepBut.set_ | apply keep_drewN | apply keep_drew | apply keep_alloc | refine keep_far ?_ GW118.out _) | exact HK.out)) (KeepBut.of_grown hg g) (Kd.R_base2 HO_3.out)); have n4_ := Aside0.mk (ho); clear HI0; clear BK118; clear HB; clear HK; clear HO_3; have HI0 := n0_; have BK118 := n1_; have HB := n2_; have HK := n3_; have HO128 := n4_; clear n0_ n1_ n2_ n3_ n4_; clear ho hb hg hat))
                  go_roundg k1
                  case measure => have := HK1.out; omega
                  case rel => exact ⟨(y126), (wrap64 (x4_1 - 1)), (t115), (t116), (t117), (by first | rfl | (simp; done) | (simp [*]; done)), H', ⟨by have := HK1.out; omega⟩, ⟨by (with_reducible repeat (first | apply Kd.R_alloc | apply Kd.R_drewN | apply Kd.R_drew)); exact Kd.R_mono HO128.out (fun _ hk => trivial)⟩, ⟨by repeat (first | (with_reducible first | exact HI0.out | apply IsS104.alloc | apply IsS104.drewN | apply IsS104.drew | apply IsS104.set_0 | apply IsS104.set_1 | apply IsS104.set_2 | refine IsS104.far ?_ NB0_118.out _) | exact HI0.out)⟩, ⟨by repeat (first | (with_reducible first | exact HK.out | apply KeepBut.set_ | apply keep_drewN | apply keep_drew | apply keep_alloc | refine keep_far ?_ GW118.out _) | exact HK.out)⟩, ⟨by repeat (first | (with_reducible first | exact HB.out | apply below_alloc | apply pw_below_drewN | apply below_drew1 | refine below_set ?_ (IsS104.ge HI0.out) | refine below_set ?_ GE118.out) | exact HB.out)⟩⟩
                · rw [if_neg c25] at H
                  exact absurd H (by simp)
            · rw [if_neg c10] at H
              exact absurd H (by simp)
          · rw [if_neg c9] at H
            exact absurd H (by simp)
        · rw [if_neg c7] at H
          have c7b0 : decide (0 < (x3_1.length : Int)) = false := decide_eq_false c7
          have c7b1 : decide (0 < x3_1.length) = false := decide_eq_false (by omega)
          clear c7
          by_cases c36 : x3_1.length < 4398046511104
          · rw [if_pos c36] at H
            have LMc36 := Aside0.mk c36
            clear c36
            obtain ⟨y129, hy129⟩ : ∃ y_ : List (S30), y_ = (x3_1 ++ [(⟨t109, (⟨t113, t114⟩ : S28)⟩ : S30)]) := ⟨_, rfl⟩
            replace H : (items_Take.l0 k1 y129 (wrap64 (x4_1 - 1)) t115 t116 t117) = some (r1, r2, r3, r4) := by first | (rw [hy129]; with_reducible exact H) | (have H2_ := (Option.bind_some _ _).symm.trans H; rw [hy129]; with_reducible exact H2_) | (have H2_ := (Option.bind_some _ _).symm.trans H; with_reducible exact H2_) | with_reducible exact H | (rw [hy129]; exact H) | exact H
            have Ny129 := Aside0.mk hy129
            clear hy129
            have H' := Aside0.mk H
            clear H
            try go_wp2_with (first | ((with_reducible refine gate_callee (f := 70) rfl ?_); refine goesL_ (some 13) rfl rfl Try.func70 (by kernel_rfl) rfl #[.pointer (some ⟨g, 0, none⟩), .int .i64 63] rfl (by (try simp only [List.map_toArray, List.map_cons, List.map_nil]); first | done | rfl | (simp only [List.length_drop, List.length_take]; rfl)) ?_; (with_reducible refine (num_Source_Int.calls k1 g x1000_1 x1001_1 x1002_1 63 t109 t110 t111 t112 w0 _ ?side1 ?side2 A5.out).mono ?_); (case side1 => repeat (first | (with_reducible first | exact HI0.out | apply IsS104.alloc | apply IsS104.drewN | apply IsS104.drew | apply IsS104.set_0 | apply IsS104.set_1 | apply IsS104.set_2) | exact HI0.out)); (case side2 => repeat (first | (with_reducible first | exact HB.out | apply below_alloc | apply pw_below_drewN | apply below_drew1 | refine below_set ?_ (IsS104.ge HI0.out)) | exact HB.out)); rintro e w37 ⟨rfl, hi, hb, hk⟩; refine ⟨_, rfl, ?_⟩; have n0_ := Aside0.mk (Kd.R_mono (Kd.R_keep (IsS104.apart (show IsS104 w0 _ g x1000_1 x1001_1 x1002_1 from by repeat (first | (with_reducible first | exact HI0.out | apply IsS104.alloc | apply IsS104.drewN | apply IsS104.drew | apply IsS104.set_0 | apply IsS104.set_1 | apply IsS104.set_2) | exact HI0.out)) (by (with_reducible repeat (first | apply Kd.R_alloc | apply Kd.R_drewN | apply Kd.R_drew)); exact HO_3.out) (by decide)) hk (fun _ h => h.2)) (fun _ h => h.1)); have n1_ := Aside0.mk (KeepBut.trans (by repeat (first | (with_reducible first | exact HK.out | apply KeepBut.set_ | apply keep_drewN | apply keep_drew | apply keep_alloc) | exact HK.out)) hk (.inl rfl)); have n2_ := Aside0.mk (hb); have n3_ := Aside0.mk (hi); clear HO_3; clear HK; clear HB; clear HI0; have HO_3 := n0_; have HK := n1_; have HB := n2_; have HI0 := n3_; clear n0_ n1_ n2_ n3_; (try clear hb); (try clear hb2); (try clear hk); (try clear hi)) | ((with_reducible refine gate_callee (f := 71) rfl ?_); refine goesL_ (some 15) rfl rfl Try.func71 (by kernel_rfl) rfl #[.pointer (some ⟨g, 0, none⟩)] rfl (by (try simp only [List.map_toArray, List.map_cons, List.map_nil]); first | done | rfl | (simp only [List.length_drop, List.length_take]; rfl)) ?_; (with_reducible refine (item_Take.calls k1 g t110 t111 t112 t113 t114 t115 t116 t117 w0 _ ?side1 ?side2 A6.out).mono ?_); (case side1 => repeat (first | (with_reducible first | exact HI0.out | apply IsS104.alloc | apply IsS104.drewN | apply IsS104.drew | apply IsS104.set_0 | apply IsS104.set_1 | apply IsS104.set_2) | exact HI0.out)); (case side2 => repeat (first | (with_reducible first | exact HB.out | apply below_alloc | apply pw_below_drewN | apply below_drew1 | refine below_set ?_ (IsS104.ge HI0.out)) | exact HB.out)); rintro e w38 ⟨rfl, hi, hb, hk⟩; refine ⟨_, rfl, ?_⟩; have n0_ := Aside0.mk (Kd.R_mono (Kd.R_keep (IsS104.apart (show IsS104 w0 _ g t110 t111 t112 from by repeat (first | (with_reducible first | exact HI0.out | apply IsS104.alloc | apply IsS104.drewN | apply IsS104.drew | apply IsS104.set_0 | apply IsS104.set_1 | apply IsS104.set_2) | exact HI0.out)) (by (with_reducible repeat (first | apply Kd.R_alloc | apply Kd.R_drewN | apply Kd.R_drew)); exact HO_3.out) (by decide)) hk (fun _ h => h.2)) (fun _ h => h.1)); have n1_ := Aside0.mk (KeepBut.trans (by repeat (first | (with_reducible first | exact HK.out | apply KeepBut.set_ | apply keep_drewN | apply keep_drew | apply keep_alloc) | exact HK.out)) hk (.inl rfl)); have n2_ := Aside0.mk (hb); have n3_ := Aside0.mk (hi); clear HO_3; clear HK; clear HB; clear HI0; have HO_3 := n0_; have HK := n1_; have HB := n2_; have HI0 := n3_; clear n0_ n1_ n2_ n3_; (try clear hb); (try clear hb2); (try clear hk); (try clear hi)) | ((with_reducible refine gate_dst (N := 5) rfl ?_); (try (refine gate_guard (by rfl) ?_; dsimp only)); refine box_event ?hg (N := 5) ?hd (cs := #[.int .i64 0, .int .u64 0, .string (⟨#[]⟩ : ByteArray)]) (t := 30) ?hr ?_; (case hd => rfl); (case hg => rfl); (case hr => first | (go_simp; done) | (go_simp; rfl)); intro gb118 hg w39 hbox hb; have n0_ := Aside0.mk (Kd.R_below (Kd.R_elderB (by (with_reducible repeat (first | apply Kd.R_alloc | apply Kd.R_drewN | apply Kd.R_drew)); exact HO_3.out) gb118 (Nat.le_of_eq hg.symm)) hb); have n1_ := Aside0.mk (IsS104.below (by repeat (first | (with_reducible first | exact HI0.out | apply IsS104.alloc | apply IsS104.drewN | apply IsS104.drew | apply IsS104.set_0 | apply IsS104.set_1 | apply IsS104.set_2) | exact HI0.out)) hb); have n2_ := Aside0.mk (KeepBut.trans (by repeat (first | (with_reducible first | exact HK.out | apply KeepBut.set_ | apply keep_drewN | apply keep_drew | apply keep_alloc) | exact HK.out)) (KeepBut.of_below hb g none) (.inl rfl)); have n3_ := Aside0.mk (below_step (by repeat (first | (with_reducible first | exact HB.out | apply below_alloc | apply pw_below_drewN | apply below_drew1 | refine below_set ?_ (IsS104.ge HI0.out)) | exact HB.out)) hb); have n4_ := Aside0.mk (hbox); have n5_ := Aside0.mk ((by rw [hg]; exact (keep_size (w := w) (g := g) (row := none) (by repeat (first | (with_reducible first | exact HK.out | apply KeepBut.set_ | apply keep_drewN | apply keep_drew | apply keep_alloc) | exact HK.out))) : w.heap.size ≤ gb118)); have n6_ := Aside0.mk ((Nat.le_trans HW0.out (by rw [hg]; exact (keep_size (w := w) (g := g) (row := none) (by repeat (first | (with_reducible first | exact HK.out | apply KeepBut.set_ | apply keep_drewN | apply keep_drew | apply keep_alloc) | exact HK.out))) : w.heap.size ≤ gb118) : w0.heap.size ≤ gb118)); have n7_ := Aside0.mk ((by rw [hg]; exact Nat.ne_of_lt (IsS104.lt (show IsS104 w0 _ g t115 t116 t117 from by repeat (first | (with_reducible first | exact HI0.out | apply IsS104.alloc | apply IsS104.drewN | apply IsS104.drew | apply IsS104.set_0 | apply IsS104.set_1 | apply IsS104.set_2) | exact HI0.out))) : g ≠ gb118)); have n8_ := Aside0.mk ((by rw [hg]; exact Nat.ne_of_gt (IsS104.lt (show IsS104 w0 _ g t115 t116 t117 from by repeat (first | (with_reducible first | exact HI0.out | apply IsS104.alloc | apply IsS104.drewN | apply IsS104.drew | apply IsS104.set_0 | apply IsS104.set_1 | apply IsS104.set_2) | exact HI0.out))) : gb118 ≠ g)); clear HO_3; clear HI0; clear HK; clear HB; have HO_3 := n0_; have HI0 := n1_; have HK := n2_; have HB := n3_; have BK118 := n4_; have GW118 := n5_; have GE118 := n6_; have NB0_118 := n7_; have NB118_0 := n8_; clear n0_ n1_ n2_ n3_ n4_ n5_ n6_ n7_ n8_; clear hb hbox hg; have hnb40 := NB118_0.out; have hnc40 := NB0_118.out; have hcz41_0 : w39.cell? ⟨gb118, 0, none⟩ = some (.int .i64 0) := (blk_cell BK118.out 0).trans rfl; have hcz41_1 : w39.cell? ⟨gb118, 1, none⟩ = some (.int .u64 0) := (blk_cell BK118.out 1).trans rfl; have hcz41_2 : w39.cell? ⟨gb118, 2, none⟩ = some (.string (⟨#[]⟩ : ByteArray)) := (blk_cell BK118.out 2).trans rfl; have hfz41_0 := blk_frozen BK118.out 0; have hfz41_1 := blk_frozen BK118.out 1; have hfz41_2 := blk_frozen BK118.out 2))
            have n0_ : Aside0 (Kd.R k30 30 (((w39.setCell ⟨gb118, 0, none⟩ (.int .i64 t109)).setCell ⟨gb118, 1, none⟩ (.int .u64 t113)).setCell ⟨gb118, 2, none⟩ (.string t114)) w.heap.size (fun k_ => k_ ≠ gb118) u3 x3_1) := ⟨by (with_reducible repeat (first | apply Kd.R_alloc | apply Kd.R_drewN | apply Kd.R_drew)); exact Kd.R_mono (Kd.R_far (p := ⟨gb118, 2, none⟩) (Kd.R_far (p := ⟨gb118, 1, none⟩) (Kd.R_far (p := ⟨gb118, 0, none⟩) (Kd.R_mono HO_3.out (fun k_ hk => (⟨hk, hk.2⟩ : _ ∧ k_ ≠ gb118))) (fun _ hk => hk.2) (.int .i64 t109)) (fun _ hk => hk.2) (.int .u64 t113)) (fun _ hk => hk.2) (.string t114)) (fun _ hk => hk.1.2)⟩
            have n1_ : Aside0 ((((w39.setCell ⟨gb118, 0, none⟩ (.int .i64 t109)).setCell ⟨gb118, 1, none⟩ (.int .u64 t113)).setCell ⟨gb118, 2, none⟩ (.string t114)).heap[gb118]? = some (.cells #[.int .i64 t109, .int .u64 t113, .string t114] 30 (0, 0))) := ⟨by (with_reducible repeat (first | refine blk_drewN ?_ _ | refine blk_drew ?_ | refine blk_alloc ?_ _)); refine blk_put (cs := #[.int .i64 t109, .int .u64 t113, .string (⟨#[]⟩ : ByteArray)]) ?_ 2 _ rfl; (with_reducible repeat (first | refine blk_drewN ?_ _ | refine blk_drew ?_ | refine blk_alloc ?_ _)); refine blk_put (cs := #[.int .i64 t109, .int .u64 0, .string (⟨#[]⟩ : ByteArray)]) ?_ 1 _ rfl; (with_reducible repeat (first | refine blk_drewN ?_ _ | refine blk_drew ?_ | refine blk_alloc ?_ _)); refine blk_put (cs := #[.int .i64 0, .int .u64 0, .string (⟨#[]⟩ : ByteArray)]) ?_ 0 _ rfl; (with_reducible repeat (first | refine blk_drewN ?_ _ | refine blk_drew ?_ | refine blk_alloc ?_ _)); exact BK118.out⟩
            have n2_ : Aside0 (IsS104 w0 (((w39.setCell ⟨gb118, 0, none⟩ (.int .i64 t109)).setCell ⟨gb118, 1, none⟩ (.int .u64 t113)).setCell ⟨gb118, 2, none⟩ (.string t114)) g t115 t116 t117) := ⟨by repeat (first | (with_reducible first | exact HI0.out | apply IsS104.alloc | apply IsS104.drewN | apply IsS104.drew | apply IsS104.set_0 | apply IsS104.set_1 | apply IsS104.set_2 | refine IsS104.far ?_ NB0_118.out _) | exact HI0.out)⟩
            have n3_ : Aside0 (KeepBut w (((w39.setCell ⟨gb118, 0, none⟩ (.int .i64 t109)).setCell ⟨gb118, 1, none⟩ (.int .u64 t113)).setCell ⟨gb118, 2, none⟩ (.string t114)) g none) := ⟨by repeat (first | (with_reducible first | exact HK.out | apply KeepBut.set_ | apply keep_drewN | apply keep_drew | apply keep_alloc | refine keep_far ?_ GW118.out _) | exact HK.out)⟩
            have n4_ : Aside0 (Below w0.heap.size w0 (((w39.setCell ⟨gb118, 0, none⟩ (.int .i64 t109)).setCell ⟨gb118, 1, none⟩ (.int .u64 t113)).setCell ⟨gb118, 2, none⟩ (.string t114))) := ⟨by repeat (first | (with_reducible first | exact HB.out | apply below_alloc | apply pw_below_drewN | apply below_drew1 | refine below_set ?_ (IsS104.ge HI0.out) | refine below_set ?_ GE118.out) | exact HB.out)⟩
            (try clear HO_3)
            (try clear BK118)
            (try clear HI0)
            (try clear HK)
            (try clear HB)
            generalize (((w39.setCell ⟨gb118, 0, none⟩ (.int .i64 t109)).setCell ⟨gb118, 1, none⟩ (.int .u64 t113)).setCell ⟨gb118, 2, none⟩ (.string t114)) = w42 at n0_ n1_ n2_ n3_ n4_ ⊢
            have HO_3 := n0_
            have BK118 := n1_
            have HI0 := n2_
            have HK := n3_
            have HB := n4_
            clear n0_ n1_ n2_ n3_ n4_
            have n0_ := Aside0.mk (Kd.R_drew HO_3.out)
            have n1_ := Aside0.mk (blk_drew BK118.out)
            have n2_ := Aside0.mk (IsS104.drew HI0.out)
            have n3_ := Aside0.mk (keep_drew HK.out)
            have n4_ := Aside0.mk (below_drew1 HB.out)
            clear HO_3
            clear BK118
            clear HI0
            clear HK
            clear HB
            have HO_3 := n0_
            have BK118 := n1_
            have HI0 := n2_
            have HK := n3_
            have HB := n4_
            clear n0_ n1_ n2_ n3_ n4_
            obtain ⟨Ao44, co44, eo44⟩ := Kd.R_slice HO_3.out
            (first | subst eo44 | (injection eo44 with f1_ f2_ f3_; have f4_ := f1_.symm; have f5_ := f3_.symm; clear f1_ f2_ f3_; subst f4_; subst f5_))
            refine start_ (n := 15) (S := fun w' => True) (ds := []) #[false, false, false, false, false, false, false, false, false, false, false, false, false, false, false] (by kernel_rfl) rfl rfl trivial (fun hHeld => ?_); refine with_tabW items_Take.tab6 items_Take.bits6 (fun HT_ HW_ => ?_)
            generalize w42.drew = w43 at HO_3 BK118 HI0 HK HB hHeld ⊢
            refine pure_ (i := 0) (N := some 17) (v := ?_) (a' := ?_) #[true, false, false, false, false, false, false, false, false, false, false, false, false, false, false] rfl rfl (any_of HT_.out (by kernel_rfl)) (fun _ _ _ h => h) (Or.inl ⟨by rfl, ?_⟩) ?_ ?_
            rotate_left
            · intro w'
              go_simp
              with_reducible rfl
            rotate_left
            · simp only [Act.put, List.setIfInBounds_toArray, List.set_cons_zero, List.set_cons_succ, i64_w, i32_w]
              rfl
            refine pure_ (i := 1) (N := some 18) (v := ?_) (a' := ?_) #[true, true, false, false, false, false, false, false, false, false, false, false, false, false, false] rfl rfl (any_of HT_.out (by kernel_rfl)) (fun _ _ _ h => h) (Or.inl ⟨by rfl, ?_⟩) ?_ ?_
            rotate_left
            · intro w'
              go_simp
              with_reducible rfl
            rotate_left
            · simp only [Act.put, List.setIfInBounds_toArray, List.set_cons_zero, List.set_cons_succ, i64_w, i32_w]
              rfl
            refine pure_ (i := 2) (N := some 19) (v := ?_) (a' := ?_) #[true, true, true, false, false, false, false, false, false, false, false, false, false, false, false] rfl rfl (any_of HT_.out (by kernel_rfl)) (fun _ _ _ h => h) (Or.inl ⟨by rfl, ?_⟩) ?_ ?_
            rotate_left
            · intro w'
              go_simp
              with_reducible rfl
            rotate_left
            · simp only [Act.put, List.setIfInBounds_toArray, List.set_cons_zero, List.set_cons_succ, i64_w, i32_w]
              rfl
            refine pure_ (i := 3) (N := some 20) (v := ?_) (a' := ?_) #[true, true, true, true, false, false, false, false, false, false, false, false, false, false, false] rfl rfl (any_of HT_.out (by kernel_rfl)) (fun _ _ _ h => h) (Or.inl ⟨by rfl, ?_⟩) ?_ ?_
            rotate_left
            · intro w'
              go_simp
              with_reducible rfl
            rotate_left
            · simp only [Act.put, List.setIfInBounds_toArray, List.set_cons_zero, List.set_cons_succ, i64_w, i32_w]
              rfl
            refine pure_ (i := 4) (N := some 21) (v := undef) (a' := ?_) #[true, true, true, true, true, false, false, false, false, false, false, false, false, false, false] rfl rfl (any_of HT_.out (by kernel_rfl)) (fun _ _ _ h => h) (Or.inr ⟨by rfl, rfl⟩) ?_ ?_
            rotate_left
            · simp only [Act.put, List.setIfInBounds_toArray, List.set_cons_zero, List.set_cons_succ, i64_w, i32_w]
              rfl
            refine pure_ (i := 5) (N := some 22) (v := undef) (a' := ?_) #[true, true, true, true, true, true, false, false, false, false, false, false, false, false, false] rfl rfl (any_of HT_.out (by kernel_rfl)) (fun _ _ _ h => h) (Or.inr ⟨by rfl, rfl⟩) ?_ ?_
            rotate_left
            · simp only [Act.put, List.setIfInBounds_toArray, List.set_cons_zero, List.set_cons_succ, i64_w, i32_w]
              rfl
            refine pure_ (i := 6) (N := some 23) (v := undef) (a' := ?_) #[true, true, true, true, true, true, true, false, false, false, false, false, false, false, false] rfl rfl (any_of HT_.out (by kernel_rfl)) (fun _ _ _ h => h) (Or.inr ⟨by rfl, rfl⟩) ?_ ?_
            rotate_left
            · simp only [Act.put, List.setIfInBounds_toArray, List.set_cons_zero, List.set_cons_succ, i64_w, i32_w]
              rfl
            refine pure_ (i := 7) (N := some 24) (v := undef) (a' := ?_) #[true, true, true, true, true, true, true, true, false, false, false, false, false, false, false] rfl rfl (any_of HT_.out (by kernel_rfl)) (fun _ _ _ h => h) (Or.inr ⟨by rfl, rfl⟩) ?_ ?_
            rotate_left
            · simp only [Act.put, List.setIfInBounds_toArray, List.set_cons_zero, List.set_cons_succ, i64_w, i32_w]
              rfl
            refine pure_ (i := 8) (N := some 25) (v := undef) (a' := ?_) #[true, true, true, true, true, true, true, true, true, false, false, false, false, false, false] rfl rfl (any_of HT_.out (by kernel_rfl)) (fun _ _ _ h => h) (Or.inr ⟨by rfl, rfl⟩) ?_ ?_
            rotate_left
            · simp only [Act.put, List.setIfInBounds_toArray, List.set_cons_zero, List.set_cons_succ, i64_w, i32_w]
              rfl
            refine pure_ (i := 9) (N := some 26) (v := undef) (a' := ?_) #[true, true, true, true, true, true, true, true, true, true, false, false, false, false, false] rfl rfl (any_of HT_.out (by kernel_rfl)) (fun _ _ _ h => h) (Or.inr ⟨by rfl, rfl⟩) ?_ ?_
            rotate_left
            · simp only [Act.put, List.setIfInBounds_toArray, List.set_cons_zero, List.set_cons_succ, i64_w, i32_w]
              rfl
            refine pure_ (i := 10) (N := some 27) (v := undef) (a' := ?_) #[true, true, true, true, true, true, true, true, true, true, true, false, false, false, false] rfl rfl (any_of HT_.out (by kernel_rfl)) (fun _ _ _ h => h) (Or.inr ⟨by rfl, rfl⟩) ?_ ?_
            rotate_left
            · simp only [Act.put, List.setIfInBounds_toArray, List.set_cons_zero, List.set_cons_succ, i64_w, i32_w]
              rfl
            refine pure_ (i := 11) (N := some 28) (v := undef) (a' := ?_) #[true, true, true, true, true, true, true, true, true, true, true, true, false, false, false] rfl rfl (any_of HT_.out (by kernel_rfl)) (fun _ _ _ h => h) (Or.inr ⟨by rfl, rfl⟩) ?_ ?_
            rotate_left
            · simp only [Act.put, List.setIfInBounds_toArray, List.set_cons_zero, List.set_cons_succ, i64_w, i32_w]
              rfl
            refine pure_ (i := 12) (N := some 29) (v := undef) (a' := ?_) #[true, true, true, true, true, true, true, true, true, true, true, true, true, false, false] rfl rfl (any_of HT_.out (by kernel_rfl)) (fun _ _ _ h => h) (Or.inr ⟨by rfl, rfl⟩) ?_ ?_
            rotate_left
            · simp only [Act.put, List.setIfInBounds_toArray, List.set_cons_zero, List.set_cons_succ, i64_w, i32_w]
              rfl
            refine pure_ (i := 13) (N := some 30) (v := undef) (a' := ?_) #[true, true, true, true, true, true, true, true, true, true, true, true, true, true, false] rfl rfl (any_of HT_.out (by kernel_rfl)) (fun _ _ _ h => h) (Or.inr ⟨by rfl, rfl⟩) ?_ ?_
            rotate_left
            · simp only [Act.put, List.setIfInBounds_toArray, List.set_cons_zero, List.set_cons_succ, i64_w, i32_w]
              rfl
            refine pure_ (i := 14) (N := some 31) (v := ?_) (a' := ?_) #[true, true, true, true, true, true, true, true, true, true, true, true, true, true, true] rfl rfl (any_of HT_.out (by kernel_rfl)) (fun _ _ _ h => h) (Or.inl ⟨by rfl, ?_⟩) ?_ ?_
            rotate_left
            · intro w'
              go_simp
              with_reducible rfl
            rotate_left
            · simp only [Act.put, List.setIfInBounds_toArray, List.set_cons_zero, List.set_cons_succ, i64_w, i32_w]
              rfl
            refine done_ (done_of HT_.out (by kernel_rfl)) ?_
            have hcz45_0 : w43.cell? ⟨gb118, 0, none⟩ = some (.int .i64 t109) := (blk_cell BK118.out 0).trans rfl
            have hcz45_1 : w43.cell? ⟨gb118, 1, none⟩ = some (.int .u64 t113) := (blk_cell BK118.out 1).trans rfl
            have hcz45_2 : w43.cell? ⟨gb118, 2, none⟩ = some (.string t114) := (blk_cell BK118.out 2).trans rfl
            have hfz45_0 := blk_frozen BK118.out 0
            have hfz45_1 := blk_frozen BK118.out 1
            have hfz45_2 := blk_frozen BK118.out 2
            try go_wp2_with (first | ((with_reducible refine gate_builtin (b := .append) (xs := #[.tmp 34, .tmp 36]) rfl ?_); (try (refine gate_guard (by rfl) ?_; dsimp only)); at_builtin; refine Kd.R_append k30 w.heap.size rfl (.tmp 34) (.tmp 36) 22 30 (.agg #[(.int .i64 0), (.int .u64 0), (.string ⟨#[]⟩)]) 32 rfl Try.underlying22 info30 rfl (by decide) (by omega) (.slice Ao44 x3_1.length co44) x3_1 (⟨t109, (⟨t113, t114⟩ : S28)⟩ : S30) [.int .i64 t109, .int .u64 t113, .string t114] (fun k_ => k_ ≠ gb118) (fun _ => False) rfl rfl ?aP (fun _ hk => hk.elim) ?aF ?aO (Below.refl _ _) ?aS ?aL ?_; (case aP => exact k30_mkM _ _ _ (⟨t109, (⟨t113, t114⟩ : S28)⟩ : S30)); (case aF => exact (fun k_ hk => Kd.freshB (g := gb118) (o := .cells #[.int .i64 t109, .int .u64 t113, .string t114] 30 (0, 0)) (by (with_reducible repeat (first | refine blk_drewN ?_ _ | refine blk_drew ?_ | refine blk_alloc ?_ _)); exact BK118.out) k_ hk)); (case aO => exact (by (with_reducible repeat (first | apply Kd.R_alloc | apply Kd.R_drewN | apply Kd.R_drew)); exact HO_3.out)); (case aS => exact (keep_size (w := w) (g := g) (row := none) (by repeat (first | (with_reducible first | exact HK.out | apply KeepBut.set_ | apply keep_drewN | apply keep_drew | apply keep_alloc | refine keep_far ?_ GW118.out _) | exact HK.out)))); (case aL => have := LMc36.out; omega); intro v130 w46 ho hb hg hat; rw [← Ny129.out] at ho; have n0_ := Aside0.mk (IsS104.grown (by repeat (first | (with_reducible first | exact HI0.out | apply IsS104.alloc | apply IsS104.drewN | apply IsS104.drew | apply IsS104.set_0 | apply IsS104.set_1 | apply IsS104.set_2 | refine IsS104.far ?_ NB0_118.out _) | exact HI0.out)) hg (IsS104.own_ne HI0.out HO_3.out (by decide))); have n1_ := Aside0.mk (blk_grown (g := gb118) (o := .cells #[.int .i64 t109, .int .u64 t113, .string t114] 30 (0, 0)) (by (with_reducible repeat (first | refine blk_drewN ?_ _ | refine blk_drew ?_ | refine blk_alloc ?_ _)); exact BK118.out) hg (Kd.R_away HO_3.out (fun _ hk => hk))); have n2_ := Aside0.mk (below_weaken (by repeat (first | (with_reducible first | exact HB.out | apply below_alloc | apply pw_below_drewN | apply below_drew1 | refine below_set ?_ (IsS104.ge HI0.out) | refine below_set ?_ GE118.out) | exact HB.out)) HL.out hb); have n3_ := Aside0.mk (KeepBut.trans (by repeat (first | (with_reducible first | exact HK.out | apply KeepBut.set_ | apply keep_drewN | apply keep_drew | apply keep_alloc | refine keep_far ?_ GW118.out _) | exact HK.out)) (KeepBut.of_grown hg g) (Kd.R_base2 HO_3.out)); have n4_ := Aside0.mk (ho); clear HI0; clear BK118; clear HB; clear HK; clear HO_3; have HI0 := n0_; have BK118 := n1_; have HB := n2_; have HK := n3_; have HO131 := n4_; clear n0_ n1_ n2_ n3_ n4_; clear ho hb hg hat))
            go_roundg k1
            case measure => have := HK1.out; omega
            case rel => exact ⟨(y129), (wrap64 (x4_1 - 1)), (t115), (t116), (t117), (by first | rfl | (simp; done) | (simp [*]; done)), H', ⟨by have := HK1.out; omega⟩, ⟨by (with_reducible repeat (first | apply Kd.R_alloc | apply Kd.R_drewN | apply Kd.R_drew)); exact Kd.R_mono HO131.out (fun _ hk => trivial)⟩, ⟨by repeat (first | (with_reducible first | exact HI0.out | apply IsS104.alloc | apply IsS104.drewN | apply IsS104.drew | apply IsS104.set_0 | apply IsS104.set_1 | apply IsS104.set_2 | refine IsS104.far ?_ NB0_118.out _) | exact HI0.out)⟩, ⟨by repeat (first | (with_reducible first | exact HK.out | apply KeepBut.set_ | apply keep_drewN | apply keep_drew | apply keep_alloc | refine keep_far ?_ GW118.out _) | exact HK.out)⟩, ⟨by repeat (first | (with_reducible first | exact HB.out | apply below_alloc | apply pw_below_drewN | apply below_drew1 | refine below_set ?_ (IsS104.ge HI0.out) | refine below_set ?_ GE118.out) | exact HB.out)⟩⟩
          · rw [if_neg c36] at H
            exact absurd H (by simp)
      · rw [if_neg c4] at H
        have c4b0 : decide (0 < x4_1) = false := decide_eq_false c4
        clear c4
        replace H := Option.bind_eq_some_iff.mp H
        obtain ⟨⟨t105, t106, t107, t108⟩, A470, H⟩ := H
        replace H : (if t105 = 0 then (some (x3_1, t106, t107, t108)) else (some (([] : List (S30)), t106, t107, t108))) = some (r1, r2, r3, r4) := H
        have A47 := Aside0.mk A470
        clear A470
        by_cases c48 : t105 = 0
        · rw [if_pos c48] at H
          have c48b0 : (t105 == 0) = true := beq_iff_eq.mpr c48
          have c48b1 : (t105 != 0) = false := bne_eq_false_iff_eq.mpr c48
          clear c48
          simp only [Option.some.injEq, Prod.mk.injEq] at H
          obtain ⟨rfl, rfl, rfl, rfl⟩ := H
          go_wp2_with (first | ((with_reducible refine gate_callee (f := 49) rfl ?_); refine goesL_ (some 39) rfl rfl Try.func49 (by kernel_rfl) rfl #[.pointer (some ⟨g, 0, none⟩)] rfl (by (try simp only [List.map_toArray, List.map_cons, List.map_nil]); first | done | rfl | (simp only [List.length_drop, List.length_take]; rfl)) ?_; (with_reducible refine (num_Source_Err.calls g x1000_1 x1001_1 x1002_1 t105 t106 t107 t108 w0 _ ?side1 ?side2 A47.out).mono ?_); (case side1 => repeat (first | (with_reducible first | exact HI0.out | apply IsS104.alloc | apply IsS104.drewN | apply IsS104.drew | apply IsS104.set_0 | apply IsS104.set_1 | apply IsS104.set_2) | exact HI0.out)); (case side2 => repeat (first | (with_reducible first | exact HB.out | apply below_alloc | apply pw_below_drewN | apply below_drew1 | refine below_set ?_ (IsS104.ge HI0.out)) | exact HB.out)); rintro e w49 ⟨rfl, hi, hb, hk⟩; refine ⟨_, rfl, ?_⟩; have n0_ := Aside0.mk (Kd.R_mono (Kd.R_keep (IsS104.apart (show IsS104 w0 _ g x1000_1 x1001_1 x1002_1 from by repeat (first | (with_reducible first | exact HI0.out | apply IsS104.alloc | apply IsS104.drewN | apply IsS104.drew | apply IsS104.set_0 | apply IsS104.set_1 | apply IsS104.set_2) | exact HI0.out)) (by (with_reducible repeat (first | apply Kd.R_alloc | apply Kd.R_drewN | apply Kd.R_drew)); exact HO_3.out) (by decide)) hk (fun _ h => h.2)) (fun _ h => h.1)); have n1_ := Aside0.mk (KeepBut.trans (by repeat (first | (with_reducible first | exact HK.out | apply KeepBut.set_ | apply keep_drewN | apply keep_drew | apply keep_alloc) | exact HK.out)) hk (.inl rfl)); have n2_ := Aside0.mk (hb); have n3_ := Aside0.mk (hi); clear HO_3; clear HK; clear HB; clear HI0; have HO_3 := n0_; have HK := n1_; have HB := n2_; have HI0 := n3_; clear n0_ n1_ n2_ n3_; (try clear hb); (try clear hb2); (try clear hk); (try clear hi)))
          go_ret
          exact ⟨_, by first | rfl | (simp [errW_none, errW_some] <;> rfl) | (simp [*, errW_none, errW_some] <;> rfl), by (with_reducible repeat (first | apply Kd.R_alloc | apply Kd.R_drewN | apply Kd.R_drew)); exact HO_3.out, by repeat (first | (with_reducible first | exact HI0.out | apply IsS104.alloc | apply IsS104.drewN | apply IsS104.drew | apply IsS104.set_0 | apply IsS104.set_1 | apply IsS104.set_2) | exact HI0.out), by repeat (first | (with_reducible first | exact HB.out | apply below_alloc | apply pw_below_drewN | apply below_drew1 | refine below_set ?_ (IsS104.ge HI0.out)) | exact HB.out), by repeat (first | (with_reducible first | exact HK.out | apply KeepBut.set_ | apply keep_drewN | apply keep_drew | apply keep_alloc) | exact HK.out)⟩
        · rw [if_neg c48] at H
          have c48b0 : (t105 == 0) = false := beq_eq_false_iff_ne.mpr c48
          have c48b1 : (t105 != 0) = true := bne_iff_ne.mpr c48
          simp only [Option.some.injEq, Prod.mk.injEq] at H
          obtain ⟨rfl, rfl, rfl, rfl⟩ := H
          go_wp2_with (first | ((with_reducible refine gate_callee (f := 49) rfl ?_); refine goesL_ (some 39) rfl rfl Try.func49 (by kernel_rfl) rfl #[.pointer (some ⟨g, 0, none⟩)] rfl (by (try simp only [List.map_toArray, List.map_cons, List.map_nil]); first | done | rfl | (simp only [List.length_drop, List.length_take]; rfl)) ?_; (with_reducible refine (num_Source_Err.calls g x1000_1 x1001_1 x1002_1 t105 t106 t107 t108 w0 _ ?side1 ?side2 A47.out).mono ?_); (case side1 => repeat (first | (with_reducible first | exact HI0.out | apply IsS104.alloc | apply IsS104.drewN | apply IsS104.drew | apply IsS104.set_0 | apply IsS104.set_1 | apply IsS104.set_2) | exact HI0.out)); (case side2 => repeat (first | (with_reducible first | exact HB.out | apply below_alloc | apply pw_below_drewN | apply below_drew1 | refine below_set ?_ (IsS104.ge HI0.out)) | exact HB.out)); rintro e w50 ⟨rfl, hi, hb, hk⟩; refine ⟨_, rfl, ?_⟩; have n0_ := Aside0.mk (Kd.R_mono (Kd.R_keep (IsS104.apart (show IsS104 w0 _ g x1000_1 x1001_1 x1002_1 from by repeat (first | (with_reducible first | exact HI0.out | apply IsS104.alloc | apply IsS104.drewN | apply IsS104.drew | apply IsS104.set_0 | apply IsS104.set_1 | apply IsS104.set_2) | exact HI0.out)) (by (with_reducible repeat (first | apply Kd.R_alloc | apply Kd.R_drewN | apply Kd.R_drew)); exact HO_3.out) (by decide)) hk (fun _ h => h.2)) (fun _ h => h.1)); have n1_ := Aside0.mk (KeepBut.trans (by repeat (first | (with_reducible first | exact HK.out | apply KeepBut.set_ | apply keep_drewN | apply keep_drew | apply keep_alloc) | exact HK.out)) hk (.inl rfl)); have n2_ := Aside0.mk (hb); have n3_ := Aside0.mk (hi); clear HO_3; clear HK; clear HB; clear HI0; have HO_3 := n0_; have HK := n1_; have HB := n2_; have HI0 := n3_; clear n0_ n1_ n2_ n3_; (try clear hb); (try clear hb2); (try clear hk); (try clear hi)))
          go_ret
          exact ⟨_, by first | rfl | (simp [errW_none, errW_some] <;> rfl) | (simp [*, errW_none, errW_some] <;> rfl), by first | exact Kd.R_nil _ _ _ _ _ | exact Kd.N_nil _ _ _ _ _ | exact Kd.V_nil _ _ _ _ _ | exact Kd.Q_nil _ _ _ _ _ | exact Kd.S_nil _ _ _ _ _, by repeat (first | (with_reducible first | exact HI0.out | apply IsS104.alloc | apply IsS104.drewN | apply IsS104.drew | apply IsS104.set_0 | apply IsS104.set_1 | apply IsS104.set_2) | exact HI0.out), by repeat (first | (with_reducible first | exact HB.out | apply below_alloc | apply pw_below_drewN | apply below_drew1 | refine below_set ?_ (IsS104.ge HI0.out)) | exact HB.out), by repeat (first | (with_reducible first | exact HK.out | apply KeepBut.set_ | apply keep_drewN | apply keep_drew | apply keep_alloc) | exact HK.out)⟩
end Go.Proofs.Ytjohfkpgghnpeaa.PTak
end
section
namespace Go.Proofs.Ytjohfkpgghnpeaa.PTak
open Go.RowKit Go.Proofs.YtjohfkpgghnpeaaW.PrintWords Go.Proofs.YtjohfkpgghnpeaaW.PrintLast Go.Proofs.YtjohfkpgghnpeaaW.PrintMore
attribute [local go_sem] max2_int min2_int max_two min_two
open Go.Proofs.Ytjohfkpgghnpeaa.Gv Go.Proofs.Ytjohfkpgghnpeaa.PNum Go.Proofs.Ytjohfkpgghnpeaa.PRef
set_option linter.unusedVariables false
set_option linter.unusedSimpArgs false
end Go.Proofs.Ytjohfkpgghnpeaa.PTak
end
section
namespace Go.Proofs.Ytjohfkpgghnpeaa.ItmPr
open Go Go.RowKit
open Go.Proofs.Ytjohfkpgghnpeaa.Gen
open Go.Proofs.Ytjohfkpgghnpeaa.Num
open Go.Proofs.Ytjohfkpgghnpeaa.NumC
open Go.Proofs.Ytjohfkpgghnpeaa.ItemC
open Go.Proofs.Ytjohfkpgghnpeaa.Gv
open Go.Proofs.Ytjohfkpgghnpeaa.PNum
open Go.Proofs.Ytjohfkpgghnpeaa.NumPr
open Go.Proofs.Ytjohfkpgghnpeaa.PRef
open Go.Proofs.Ytjohfkpgghnpeaa.PTak
open Go.Proofs.YtjohfkpgghnpeaaW.PrintWords Go.Proofs.YtjohfkpgghnpeaaW.PrintLast Go.Proofs.YtjohfkpgghnpeaaW.PrintMore
set_option linter.unusedVariables false
abbrev H := S30
abbrev It := S28
theorem text_len (r : R) (ho : r.ok) : (r.text 32).2.length ≤ 140737488355328 := by
  have h1 := take_snd_len (r.int (min 32 65536)).1 (r.int (min 32 65536)).2
  have h2 := int_le r (min 32 65536) ho
  have h3 : (r.text 32).2 = ((r.int (min 32 65536)).1.take (r.int (min 32 65536)).2).2 := rfl
  rw [h3]
  omega
theorem st_item {all : List UInt8} {r : R} (h : St all r) : St all (R.item r).1 := by
  have h2 := (h.num 18446744073709551615).text 32
  obtain ⟨_, _, e⟩ | ⟨_, _, e⟩ | ⟨_, e⟩ := item_if ((r.num 18446744073709551615).1.text 32) (r.num 18446744073709551615).2
  · unfold R.item
    dsimp only at e ⊢
    rw [e]
    exact h2.fail 3
  · unfold R.item
    dsimp only at e ⊢
    rw [e]
    exact h2
  · unfold R.item
    dsimp only at e ⊢
    rw [e]
    exact h2
theorem fail3_err {r : R} (h : r.err = 0) : (r.fail 3).err = 3 := by unfold R.fail; rw [if_pos ⟨h, by decide⟩]
theorem sitem_eq {all : List UInt8} {r : R} (h : St all r) (k : Nat) (hk : 8 < k) : item_Take.f k (bs all) (at_ all r) (r.err : Int) = some (((R.item r).2.1 : Int), bs (R.item r).2.2, bs all, at_ all (R.item r).1, ((R.item r).1.err : Int)) := by
  obtain ⟨j, rfl⟩ : ∃ j, k = j + 1 := ⟨k - 1, by omega⟩
  have h1 := h.num 18446744073709551615
  have hd := text_len _ h1.ok
  have hcase := item_if ((r.num 18446744073709551615).1.text 32) (r.num 18446744073709551615).2
  unfold item_Take.f R.item
  rw [show (18446744073709551615 : Int) = ((18446744073709551615 : Nat) : Int) from rfl, snum_eq h _ hk]
  simp only [Option.bind_some]
  rw [stext_eq h1 _ hk]
  simp only [Option.bind_some, err_eq]
  dsimp only at hcase ⊢
  generalize (r.num 18446744073709551615).2 = x at hcase ⊢
  generalize (r.num 18446744073709551615).1.text 32 = b at hd hcase ⊢
  obtain ⟨c1, c2, e⟩ | ⟨c1, c2, e⟩ | ⟨c1, e⟩ := hcase
  · rw [e]
    have hm : item_May.f (x : Int) (bs b.2) = some false := by
      unfold item_May.f
      rw [if_pos (by rw [bs_size]; exact hd), bs_data, c2]
    rw [if_pos (by omega), hm, Option.bind_some]
    unfold item_Take.j0
    dsimp only
    rw [if_pos (by rfl), wrong3]
    simp only [Option.bind_some, err_eq]
    rw [if_neg (by rw [fail3_err c1]; decide)]
    rfl
  · rw [e]
    have hm : item_May.f (x : Int) (bs b.2) = some true := by
      unfold item_May.f
      rw [if_pos (by rw [bs_size]; exact hd), bs_data, c2]
    rw [if_pos (by omega), hm, Option.bind_some]
    unfold item_Take.j0
    dsimp only
    rw [if_neg (by decide)]
    simp only [Option.bind_some, err_eq]
    rw [if_pos (by omega)]
  · rw [e, if_neg (by omega)]
    unfold item_Take.j0
    dsimp only
    rw [if_neg (by decide)]
    simp only [Option.bind_some, err_eq]
    rw [if_neg (by omega)]
    rfl
theorem ritem_eq {r : R} (ho : r.ok) (k : Nat) (hk : 9 < k) : tarnref08_Take.f k (bs r.s) (r.err : Int) = some (bs (R.item r).1.s, ((R.item r).1.err : Int), ((R.item r).2.1 : Int), bs (R.item r).2.2) := by
  obtain ⟨j, rfl⟩ : ∃ j, k = j + 1 := ⟨k - 1, by omega⟩
  have h1 := R.num_ok ho 18446744073709551615
  have hd := text_len _ h1
  have hcase := item_if ((r.num 18446744073709551615).1.text 32) (r.num 18446744073709551615).2
  unfold tarnref08_Take.f R.item
  rw [show (18446744073709551615 : Int) = ((18446744073709551615 : Nat) : Int) from rfl, rnum_eq ho _ hk]
  simp only [Option.bind_some]
  rw [rtext_eq h1 _ hk]
  simp only [Option.bind_some]
  dsimp only at hcase ⊢
  generalize (r.num 18446744073709551615).2 = x at hcase ⊢
  generalize (r.num 18446744073709551615).1.text 32 = b at hd hcase ⊢
  obtain ⟨c1, c2, e⟩ | ⟨c1, c2, e⟩ | ⟨c1, e⟩ := hcase
  · rw [e]
    have hm : tarnref08_May.f (x : Int) (bs b.2) = some false := by
      unfold tarnref08_May.f
      rw [if_pos (by rw [bs_size]; exact hd), bs_data, c2]
    rw [if_pos (by omega), hm, Option.bind_some]
    unfold tarnref08_Take.j0
    dsimp only
    rw [if_pos (by rfl), rfail3]
    simp only [Option.bind_some]
    rw [if_neg (by rw [fail3_err c1]; decide)]
    rfl
  · rw [e]
    have hm : tarnref08_May.f (x : Int) (bs b.2) = some true := by
      unfold tarnref08_May.f
      rw [if_pos (by rw [bs_size]; exact hd), bs_data, c2]
    rw [if_pos (by omega), hm, Option.bind_some]
    unfold tarnref08_Take.j0
    dsimp only
    rw [if_neg (by decide), if_pos (by omega)]
  · rw [e, if_neg (by omega)]
    unfold tarnref08_Take.j0
    dsimp only
    rw [if_neg (by decide), if_neg (by omega)]
    rfl
def stepL (r : R) (out : List H) : R × List H :=
  let a := r.int 63
  let b := R.item a.1
  (if 0 < out.length ∧ a.2 ≤ (rd_T30 out ((out.length : Int) - 1)).f0 then b.1.fail 3 else b.1, out ++ [⟨a.2, ⟨b.2.1, bs b.2.2⟩⟩])
def stepsL : Nat → R → List H → R × List H
  | 0, r, out => (r, out)
  | n + 1, r, out => stepsL n (stepL r out).1 (stepL r out).2
def itemsR (r : R) : R × List H :=
  let a := r.int 64
  let q := stepsL a.2.toNat a.1 []
  if q.1.err = 0 then q else (q.1, [])
theorem st_step {all : List UInt8} {r : R} (h : St all r) (out : List H) : St all (stepL r out).1 := by
  unfold stepL
  dsimp only
  split
  · exact (st_item (h.int 63)).fail 3
  · exact st_item (h.int 63)
theorem step_len (r : R) (out : List H) : (stepL r out).2.length = out.length + 1 := by simp [stepL]
theorem st_steps {all : List UInt8} : ∀ (n : Nat) {r : R} (h : St all r) (out : List H), St all (stepsL n r out).1
  | 0, _, h, _ => h
  | n + 1, _, h, out => st_steps n (st_step h out) _
theorem ok_item {r : R} (h : r.ok) : (R.item r).1.ok := by
  have h2 := R.text_ok (R.num_ok h 18446744073709551615) 32
  unfold R.item
  dsimp only
  split <;> split <;> first | exact R.fail_ok h2 3 | exact h2
theorem ok_step {r : R} (h : r.ok) (out : List H) : (stepL r out).1.ok := by
  unfold stepL
  dsimp only
  split
  · exact R.fail_ok (ok_item (R.int_ok h 63)) 3
  · exact ok_item (R.int_ok h 63)
theorem last_wrap {out : List H} (h : 0 < out.length) (h2 : out.length ≤ 1000) : wrap64 ((out.length : Int) - 1) = (out.length : Int) - 1 := by unfold wrap64; omega
theorem take_loop {all : List UInt8} : ∀ (n : Nat) (k : Nat) (r : R) (out : List H), St all r → n + 20 < k → out.length + n ≤ 1000 →
    items_Take.l0 k out (n : Int) (bs all) (at_ all r) (r.err : Int) = some (if (stepsL n r out).1.err = 0 then (stepsL n r out).2 else [], bs all, at_ all (stepsL n r out).1, ((stepsL n r out).1.err : Int))
  | 0, k, r, out, h, hk, hl => by
    obtain ⟨j, rfl⟩ : ∃ j, k = j + 1 := ⟨k - 1, by omega⟩
    unfold items_Take.l0
    rw [if_neg (by omega), err_eq]
    simp only [Option.bind_some]
    show _ = some (if r.err = 0 then out else [], bs all, at_ all r, (r.err : Int))
    by_cases he : r.err = 0
    · rw [if_pos (by omega), if_pos he]
    · rw [if_neg (by omega), if_neg he]
  | n + 1, k, r, out, h, hk, hl => by
    obtain ⟨j, rfl⟩ : ∃ j, k = j + 1 := ⟨k - 1, by omega⟩
    have hs := st_step h out
    have ih := take_loop n j (stepL r out).1 (stepL r out).2 hs (by omega) (by rw [step_len]; omega)
    unfold items_Take.l0
    rw [if_pos (by omega), sint_eq h _ (by omega) 63 (by decide)]
    simp only [Option.bind_some]
    rw [sitem_eq (h.int 63) _ (by omega)]
    simp only [Option.bind_some]
    have e1 : wrap64 (((n + 1 : Nat) : Int) - 1) = (n : Int) := by unfold wrap64; omega
    rw [e1]
    show _ = some (if (stepsL n (stepL r out).1 (stepL r out).2).1.err = 0 then (stepsL n (stepL r out).1 (stepL r out).2).2 else [], bs all, at_ all (stepsL n (stepL r out).1 (stepL r out).2).1, ((stepsL n (stepL r out).1 (stepL r out).2).1.err : Int))
    rw [← ih]
    unfold stepL
    dsimp only
    by_cases h0 : 0 < out.length
    · rw [if_pos (by omega), last_wrap h0 (by omega), if_pos (by omega), if_pos (by omega)]
      by_cases hle : (r.int 63).2 ≤ (rd_T30 out ((out.length : Int) - 1)).f0
      · rw [if_pos hle, if_pos ⟨h0, hle⟩, wrong3]
        simp only [Option.bind_some]
        rw [if_pos (by omega)]
      · rw [if_neg hle, if_pos (by omega), if_neg (fun e => hle e.2)]
    · rw [if_neg (by omega), if_pos (by omega), if_neg (fun e => h0 e.1)]
theorem takes_eq {all : List UInt8} {r : R} (h : St all r) (k : Nat) (hk : 100 < k) : items_Take.f k (bs all) (at_ all r) (r.err : Int) = some ((itemsR r).2, bs all, at_ all (itemsR r).1, ((itemsR r).1.err : Int)) := by
  have hle := int_le r 64 h.ok
  have h1 := h.int 64
  unfold items_Take.f itemsR
  rw [sint_eq h _ (by omega) 64 (by decide)]
  simp only [Option.bind_some]
  have hl := take_loop (r.int 64).2.toNat k (r.int 64).1 [] h1 (by omega) (by simp; omega)
  rw [show (((r.int 64).2.toNat : Nat) : Int) = (r.int 64).2 by omega] at hl
  rw [hl]
  split <;> rfl
theorem rtake_loop : ∀ (n : Nat) (i N k : Nat) (r : R) (out : List H), r.ok → i + n = N → N ≤ 500 → n + 20 < k → out.length + n ≤ 1000 →
    tarnref09_TakeAll.l0 k (N : Int) out (i : Int) (bs r.s) (r.err : Int) = some (bs (stepsL n r out).1.s, ((stepsL n r out).1.err : Int), if (stepsL n r out).1.err = 0 then (stepsL n r out).2 else [])
  | 0, i, N, k, r, out, h, hi, hN, hk, hl => by
    obtain ⟨j, rfl⟩ : ∃ j, k = j + 1 := ⟨k - 1, by omega⟩
    unfold tarnref09_TakeAll.l0
    rw [if_neg (by omega)]
    show _ = some (bs r.s, (r.err : Int), if r.err = 0 then out else [])
    by_cases he : r.err = 0
    · rw [if_pos (by omega), if_pos he]
    · rw [if_neg (by omega), if_neg he]
  | n + 1, i, N, k, r, out, h, hi, hN, hk, hl => by
    obtain ⟨j, rfl⟩ : ∃ j, k = j + 1 := ⟨k - 1, by omega⟩
    have ih := rtake_loop n (i + 1) N j (stepL r out).1 (stepL r out).2 (ok_step h out) (by omega) hN (by omega) (by rw [step_len]; omega)
    unfold tarnref09_TakeAll.l0
    rw [if_pos (by omega), rint_eq h _ (by omega) 63 (by decide)]
    simp only [Option.bind_some]
    rw [ritem_eq (R.int_ok h 63) _ (by omega)]
    simp only [Option.bind_some]
    have e1 : wrap64 ((i : Int) + 1) = ((i + 1 : Nat) : Int) := by unfold wrap64; omega
    rw [e1]
    show _ = some (bs (stepsL n (stepL r out).1 (stepL r out).2).1.s, ((stepsL n (stepL r out).1 (stepL r out).2).1.err : Int), if (stepsL n (stepL r out).1 (stepL r out).2).1.err = 0 then (stepsL n (stepL r out).1 (stepL r out).2).2 else [])
    rw [← ih]
    unfold stepL
    dsimp only
    by_cases h0 : 0 < out.length
    · rw [if_pos (by omega), last_wrap h0 (by omega), if_pos (by omega), if_pos (by omega)]
      by_cases hle : (r.int 63).2 ≤ (rd_T30 out ((out.length : Int) - 1)).f0
      · rw [if_pos hle, if_pos ⟨h0, hle⟩, rfail3]
        simp only [Option.bind_some]
        rw [if_pos (by omega)]
      · rw [if_neg hle, if_pos (by omega), if_neg (fun e => hle e.2)]
    · rw [if_neg (by omega), if_pos (by omega), if_neg (fun e => h0 e.1)]
theorem rtakes_eq {r : R} (h : r.ok) (k : Nat) (hk : 100 < k) : tarnref09_TakeAll.f k (bs r.s) (r.err : Int) = some (bs (itemsR r).1.s, ((itemsR r).1.err : Int), (itemsR r).2) := by
  have hle := int_le r 64 h
  have h1 := R.int_ok h 64
  unfold tarnref09_TakeAll.f itemsR
  rw [rint_eq h _ (by omega) 64 (by decide)]
  simp only [Option.bind_some]
  have hl := rtake_loop (r.int 64).2.toNat 0 (r.int 64).2.toNat k (r.int 64).1 [] h1 (by omega) (by omega) (by omega) (by simp; omega)
  rw [show (((r.int 64).2.toNat : Nat) : Int) = (r.int 64).2 by omega] at hl
  rw [show ((0 : Nat) : Int) = 0 from rfl] at hl
  rw [hl]
  split <;> rfl
theorem same_loop (l : List H) : ∀ (n i k : Nat), i + n = l.length → n < k → l.length ≤ 1000 → tarnref09_Same.l0 k l l (i : Int) = some true
  | 0, i, k, hi, hk, hl => by
    obtain ⟨j, rfl⟩ : ∃ j, k = j + 1 := ⟨k - 1, by omega⟩
    unfold tarnref09_Same.l0
    rw [if_neg (by omega)]
  | n + 1, i, k, hi, hk, hl => by
    obtain ⟨j, rfl⟩ : ∃ j, k = j + 1 := ⟨k - 1, by omega⟩
    have ih := same_loop l n (i + 1) j (by omega) (by omega) hl
    unfold tarnref09_Same.l0
    rw [if_pos (by omega), if_pos (by omega), if_pos (by omega), if_neg (by simp)]
    rw [show wrap64 ((i : Int) + 1) = ((i + 1 : Nat) : Int) by unfold wrap64; omega]
    exact ih
theorem same_eq (l : List H) (k : Nat) (hl : l.length ≤ 1000) (hk : l.length < k) : tarnref09_Same.f k l l = some true := by
  unfold tarnref09_Same.f
  rw [if_pos rfl]
  exact same_loop l l.length 0 k (by omega) hk hl
end Go.Proofs.Ytjohfkpgghnpeaa.ItmPr
end
section
namespace Go.Proofs.Ytjohfkpgghnpeaa.ItmPr
open Go Go.RowKit
open Go.Proofs.Ytjohfkpgghnpeaa.Gen
open Go.Proofs.Ytjohfkpgghnpeaa.Num
open Go.Proofs.Ytjohfkpgghnpeaa.NumC
open Go.Proofs.Ytjohfkpgghnpeaa.ItemC
open Go.Proofs.Ytjohfkpgghnpeaa.Gv
open Go.Proofs.Ytjohfkpgghnpeaa.PNum
open Go.Proofs.Ytjohfkpgghnpeaa.NumPr
open Go.Proofs.Ytjohfkpgghnpeaa.PRef
open Go.Proofs.Ytjohfkpgghnpeaa.PTak
open Go.Proofs.YtjohfkpgghnpeaaW.PrintWords Go.Proofs.YtjohfkpgghnpeaaW.PrintLast Go.Proofs.YtjohfkpgghnpeaaW.PrintMore
set_option linter.unusedVariables false
theorem and63 (a : Int) : Go.bits .and .i64 a 63 = a % 64 := and_mask_i64 a 6 (by decide)
theorem and1 (a : Int) : Go.bits .and .i64 a 1 = a % 2 := and_mask_i64 a 1 (by decide)
theorem rd_at {l : List H} {i : Nat} (h : i < l.length) : rd_T30 l (i : Int) = l[i] := by
  unfold rd_T30
  rw [List.getD_eq_getElem?_getD, Int.toNat_natCast, List.getElem?_eq_getElem h]
  rfl
def nearH (h : H) : H := ⟨h.f0 % 64, ⟨h.f1.f0, bs (nearD h.f1.f1.data.toList ((h.f0 / 64) % 8))⟩⟩
def nearL (l : List H) : List H := (l.take 12).map nearH
theorem near_loop (l : List H) (hs : ∀ x ∈ l, x.f1.f1.size ≤ 9223372036854775807) : ∀ (n i k : Nat) (out : List H), i + n = min l.length 12 → n < k → out.length ≤ i → tarnlaw09_Near.l0 k l out (i : Int) = some (out ++ ((l.drop i).take n).map nearH)
  | 0, i, k, out, hi, hk, ho => by
    obtain ⟨j, rfl⟩ : ∃ j, k = j + 1 := ⟨k - 1, by omega⟩
    unfold tarnlaw09_Near.l0
    rw [List.take_zero, List.map_nil, List.append_nil]
    by_cases h : i < l.length
    · rw [if_pos (by omega), if_neg (by omega)]
    · rw [if_neg (by omega)]
  | n + 1, i, k, out, hi, hk, ho => by
    obtain ⟨j, rfl⟩ : ∃ j, k = j + 1 := ⟨k - 1, by omega⟩
    have hlt : i < l.length := by omega
    have hx := hs l[i] (List.getElem_mem hlt)
    have hf : tarnlaw08_Near.f l[i].f1.f0 l[i].f1.f1 (l[i].f0 / 64) = some ((nearH l[i]).f1.f0, (nearH l[i]).f1.f1) := by
      unfold tarnlaw08_Near.f
      rw [if_pos hx]
      rfl
    unfold tarnlaw09_Near.l0
    rw [if_pos (by omega), if_pos (by omega), if_pos (by omega), rd_at hlt, hf]
    simp only [Option.bind_some]
    rw [if_pos (by omega), show wrap64 ((i : Int) + 1) = ((i + 1 : Nat) : Int) by unfold wrap64; omega, near_loop l hs n (i + 1) j _ (by omega) (by omega) (by simp; omega), and63]
    rw [List.drop_eq_getElem_cons hlt, List.take_succ_cons, List.map_cons, List.append_assoc]
    rfl
theorem near_eq (l : List H) (hs : ∀ x ∈ l, x.f1.f1.size ≤ 9223372036854775807) (k : Nat) (hk : 20 < k) : tarnlaw09_Near.f k l = some (nearL l) := by
  unfold tarnlaw09_Near.f
  have h := near_loop l hs (min l.length 12) 0 k [] (by omega) (by omega) (by simp)
  rw [show ((0 : Nat) : Int) = 0 from rfl] at h
  rw [h, List.nil_append, List.drop_zero]
  unfold nearL
  congr 2
  rcases Nat.lt_or_ge l.length 12 with h | h
  · rw [show min l.length 12 = l.length by omega, List.take_length, List.take_of_length_le (by omega)]
  · rw [show min l.length 12 = 12 by omega]
structure Dom (h : H) : Prop where
  lo : 0 ≤ h.f0
  hi : h.f0 < 64
  vlo : 0 ≤ h.f1.f0
  vhi : h.f1.f0 < 18446744073709551616
  sz : h.f1.f1.size ≤ 140737488355328
theorem near_dom {l : List H} (hv : ∀ x ∈ l, 0 ≤ x.f1.f0 ∧ x.f1.f0 < 18446744073709551616) : ∀ x ∈ nearL l, Dom x := by
  intro x hx
  obtain ⟨y, hy, rfl⟩ := List.mem_map.1 hx
  have hv' := hv y (List.mem_of_mem_take hy)
  refine ⟨?_, ?_, hv'.1, hv'.2, ?_⟩
  · show 0 ≤ y.f0 % 64
    omega
  · show y.f0 % 64 < 64
    omega
  · show (bs _).size ≤ _
    rw [bs_size]
    exact Nat.le_trans (near_len _ _) (by decide)
theorem near_length (l : List H) : (nearL l).length ≤ 12 := by unfold nearL; rw [List.length_map, List.length_take]; omega
def hp (h : H) : List UInt8 := put h.f0.toNat ++ itemP h.f1.f0.toNat h.f1.f1.data.toList
def itemsP (l : List H) : List UInt8 := put l.length ++ l.flatMap hp
theorem put_len9 (n : Nat) : (put n).length ≤ 9 := by have := put_length n; have := width_le n; omega
theorem itemP_len' (v : Nat) (l : List UInt8) : (itemP v l).length ≤ 50 := by
  unfold itemP
  split
  · rename_i h
    have h1 := may_len h
    have h2 := put_len9 v
    have h3 := put_len9 l.length
    rw [List.length_append]
    unfold text
    rw [List.length_append]
    omega
  · simp
theorem hp_len (h : H) : (hp h).length ≤ 59 := by
  unfold hp
  rw [List.length_append]
  have := put_len9 h.f0.toNat
  have := itemP_len' h.f1.f0.toNat h.f1.f1.data.toList
  omega
theorem rput_eq (n : Int) (h0 : 0 ≤ n) (h1 : n < 18446744073709551616) : tarnref01_Put.f n = some (bs (put n.toNat)) := by unfold tarnref01_Put.f; rw [if_pos ⟨h0, h1⟩]
theorem riput_eq {h : H} (hd : Dom h) : tarnref08_Put.f h.f1.f0 h.f1.f1 = some (bs (itemP h.f1.f0.toNat h.f1.f1.data.toList)) := by unfold tarnref08_Put.f; rw [if_pos ⟨hd.vlo, hd.vhi, hd.sz⟩]
theorem putall_loop (l : List H) (hd : ∀ x ∈ l, Dom x) (hl : l.length ≤ 1000) : ∀ (n i k : Nat) (acc : List UInt8), i + n = l.length → n < k → acc.length ≤ 100 + 59 * i → tarnref09_PutAll.l0 k l (bs acc) (i : Int) = some (bs (acc ++ (l.drop i).flatMap hp))
  | 0, i, k, acc, hi, hk, ha => by
    obtain ⟨j, rfl⟩ : ∃ j, k = j + 1 := ⟨k - 1, by omega⟩
    unfold tarnref09_PutAll.l0
    rw [if_neg (by omega), List.drop_of_length_le (by omega), List.flatMap_nil, List.append_nil]
  | n + 1, i, k, acc, hi, hk, ha => by
    obtain ⟨j, rfl⟩ : ∃ j, k = j + 1 := ⟨k - 1, by omega⟩
    have hlt : i < l.length := by omega
    have hx := hd l[i] (List.getElem_mem hlt)
    have h59 := hp_len l[i]
    have hpl : (hp l[i]).length = (put l[i].f0.toNat).length + (itemP l[i].f1.f0.toNat l[i].f1.f1.data.toList).length := by unfold hp; rw [List.length_append]
    have ih := putall_loop l hd hl n (i + 1) j (acc ++ hp l[i]) (by omega) (by omega) (by rw [List.length_append]; omega)
    have hlo := hx.lo
    have hhi := hx.hi
    unfold tarnref09_PutAll.l0
    rw [if_pos (by omega), if_pos (by omega), rd_at hlt, List.drop_eq_getElem_cons hlt, List.flatMap_cons, ← List.append_assoc, ← ih]
    rw [show wrap64 ((i : Int) + 1) = ((i + 1 : Nat) : Int) by unfold wrap64; omega]
    by_cases h0 : l[i].f0 > 0
    · rw [if_pos h0, show IntKind.u64.wrap l[i].f0 = l[i].f0 by rw [IntKind.wrap_u64]; omega, rput_eq _ hlo (by omega)]
      simp only [Option.bind_some]
      rw [riput_eq hx]
      simp only [Option.bind_some]
      rw [if_pos (by rw [bs_size, bs_size]; omega), bs_app, if_pos (by rw [bs_size, bs_size, List.length_append]; omega), bs_app]
      rfl
    · rw [if_neg h0, rput_eq 0 (by decide) (by decide)]
      simp only [Option.bind_some]
      have e0 : l[i].f0 = 0 := by omega
      rw [riput_eq hx]
      simp only [Option.bind_some]
      have e1 : hp l[i] = put (0 : Int).toNat ++ itemP l[i].f1.f0.toNat l[i].f1.f1.data.toList := by unfold hp; rw [e0]
      rw [e1] at hpl ⊢
      rw [e1] at h59
      rw [List.length_append] at h59
      rw [if_pos (by rw [bs_size, bs_size]; omega), bs_app, if_pos (by rw [bs_size, bs_size, List.length_append]; omega), bs_app]
theorem putall_eq (l : List H) (hd : ∀ x ∈ l, Dom x) (hl : l.length ≤ 1000) (k : Nat) (hk : l.length < k) : tarnref09_PutAll.f k l = some (bs (itemsP l)) := by
  unfold tarnref09_PutAll.f itemsP
  rw [show IntKind.u64.wrap (l.length : Int) = (l.length : Int) by rw [IntKind.wrap_u64]; omega, rput_eq _ (by omega) (by omega)]
  simp only [Option.bind_some]
  have h := putall_loop l hd hl l.length 0 k (put l.length) (by omega) hk (by have := put_len9 l.length; omega)
  rw [List.drop_zero] at h
  exact h
theorem flat_hp (l : List H) : (l.flatMap hp).length ≤ 59 * l.length := by
  induction l with
  | nil => simp
  | cons a l ih =>
    rw [List.flatMap_cons, List.length_append, List.length_cons]
    have := hp_len a
    omega
theorem itemsP_len (l : List H) : 0 < (itemsP l).length ∧ (itemsP l).length ≤ 9 + 59 * l.length := by
  unfold itemsP
  rw [List.length_append]
  have := flat_hp l
  have := put_len9 l.length
  have := put_length l.length
  omega
theorem items_len (r : R) (h : r.ok) : (itemsR r).2.length ≤ 64 := by
  have hl : ∀ (n : Nat) (r : R) (out : List H), (stepsL n r out).2.length = out.length + n := by
    intro n
    induction n with
    | zero => intro r out; rfl
    | succ n ih =>
      intro r out
      show (stepsL n (stepL r out).1 (stepL r out).2).2.length = _
      rw [ih, step_len]
      omega
  have hle := int_le r 64 h
  unfold itemsR
  dsimp only
  split
  · rw [hl]
    simp
    omega
  · simp
end Go.Proofs.Ytjohfkpgghnpeaa.ItmPr
end
