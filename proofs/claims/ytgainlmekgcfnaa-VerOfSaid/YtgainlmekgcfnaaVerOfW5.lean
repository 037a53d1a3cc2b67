/- The walk of the law VerOf, case 5. -/
import Derived.Test.YtgainlmekgcfnaaVerOfC
namespace Go.Proofs.Ytgainlmekgcfnaa.verOf
open Go Go.RowKit Go.Proofs.Ytgainlmekgcfnaa.PVerOf Go.Proofs.Ytgainlmekgcfnaa.VerLem Go.Proofs.Ytgainlmekgcfnaa.verMay
open Go.Proofs.Ytgainlmekgcfnaa.Gen (name_world cellB drewB bN thenB callsB equalIn_arr wi64)
set_option linter.unusedVariables false

set_option maxHeartbeats 4000000 in
set_option maxRecDepth 100000 in
theorem core5 (a0 a1 b0 b1 p0 p1 q0 q1 x0 x1 y0 y1 : Int) (W : World) (e0 : Go.bits .and .i64 a0 1048575 = p0) (e1 : Go.bits .and .i64 a1 1048575 = p1) (e2 : Go.bits .and .i64 b0 1048575 = q0) (e3 : Go.bits .and .i64 b1 1048575 = q1)
    (g0 : IntKind.i64.wrap (p0 + 1) = x0) (g1 : IntKind.i64.wrap (p1 + 1) = x1) (g2 : IntKind.i64.wrap (q0 + 1) = y0) (g3 : IntKind.i64.wrap (q1 + 1) = y1)
    (h0 : 1 ≤ x0 ∧ x0 ≤ 1048576) (h1 : 1 ≤ x1 ∧ x1 ≤ 1048576) (h2 : 1 ≤ y0 ∧ y0 ≤ 1048576) (h3 : 1 ≤ y1 ∧ y1 ≤ 1048576) (F1 : decide (x0 < y0) = false) (F2 : (x0 == y0) = true) (F3 : decide (x1 < y1) = false) (F4 : (x1 == y1) = false) (F5 : decide (x0 * 1048577 + x1 < y0 * 1048577 + y1) = false) (F6 : (x0 * 1048577 + x1 == y0 * 1048577 + y1) = false) :
    Calls Try.prog 7 #[.agg #[.int .i64 a0, .int .i64 a1], .agg #[.int .i64 b0, .int .i64 b1]] W fun e w' => e = .returned (.bool true) ∧ Below W.heap.size W w' := by
  go_enter Try.func7, Try.ntmps7
  go_wp2_with fail
  go_region_held3 (fun w' => w'.cell? ⟨W.heap.size, 0, none⟩ = some (.int .i64 a0) ∧ w'.cell? ⟨W.heap.size, 1, none⟩ = some (.int .i64 a1) ∧ w'.cell? ⟨W.heap.size + 1, 0, none⟩ = some (.int .i64 b0) ∧ w'.cell? ⟨W.heap.size + 1, 1, none⟩ = some (.int .i64 b1)) (go_keep) (fail)
  all_goals rename_i hHeld
  all_goals clear e0 e1 e2 e3 g0 g1 g2 g3 hHeld
  all_goals go_wp2_with fail
  · refine name_world (Two (W.heap.size + 1 + 1) (W.heap.size + 1 + 1 + 1) x0 x1 y0 y1 W) ⟨by refine ⟨?_, ?_, ?_, ?_⟩ <;> go_simp, (((((Below.refl _ _).alloc (Nat.le_refl _) _).alloc (by simp) _).alloc (by simp; omega) _).alloc (by simp; omega) _).drew⟩ ?_
    rintro w1 ⟨⟨k0, k1, k2, k3⟩, hb⟩
    go_region_held3 (fun w' => (w'.cell? ⟨W.heap.size + 1 + 1, 0, none⟩ = some (.int .i64 x0) ∧ w'.cell? ⟨W.heap.size + 1 + 1, 1, none⟩ = some (.int .i64 x1) ∧ w'.cell? ⟨W.heap.size + 1 + 1 + 1, 0, none⟩ = some (.int .i64 y0) ∧ w'.cell? ⟨W.heap.size + 1 + 1 + 1, 1, none⟩ = some (.int .i64 y1)) ∧ Below W.heap.size W w')
      (first | exact ⟨⟨k0, k1, k2, k3⟩, hb.drew⟩ | exact keepS (by assumption) (by assumption))
      (first | (go_at_call 23; refine (callsB (of_x _ _ _ (by omega) (by omega) (by omega) (by omega))).mono ?_; rintro e w' ⟨rfl, hb'⟩))
    rename_i w2 _ w3 _ hHeld
    obtain ⟨⟨k0, k1, k2, k3⟩, hb⟩ := hHeld
    go_wp2_with fail
    have f1 : IntKind.u64.wrap x0 = x0 := wu64 (by omega) (by omega)
    have f2 : IntKind.u64.wrap x1 = x1 := wu64 (by omega) (by omega)
    have f3 : IntKind.u64.wrap (x0 * 1048577) = x0 * 1048577 := wu64 (by omega) (by omega)
    have f4 : IntKind.u64.wrap (x0 * 1048577 + x1) = x0 * 1048577 + x1 := wu64 (by omega) (by omega)
    have f5 := fun w => eq2 w x0 x1 y0 y1
    go_region_held3 (fun w' => (w'.cell? ⟨W.heap.size + 1 + 1, 0, none⟩ = some (.int .i64 x0) ∧ w'.cell? ⟨W.heap.size + 1 + 1, 1, none⟩ = some (.int .i64 x1) ∧ w'.cell? ⟨W.heap.size + 1 + 1 + 1, 0, none⟩ = some (.int .i64 y0) ∧ w'.cell? ⟨W.heap.size + 1 + 1 + 1, 1, none⟩ = some (.int .i64 y1)) ∧ Below W.heap.size W w')
      (first | exact ⟨⟨k0, k1, k2, k3⟩, hb.drew⟩ | exact keepS (by assumption) (by assumption))
      (first | (go_at_call 24; refine (awake_any _).mono ?_; rintro e w4 ⟨rfl, hb4⟩) | (go_at_call 25; refine (callsB (may_t x0 x1 _ (by omega) (by omega) (by omega) (by omega))).mono ?_; rintro e w5 ⟨rfl, hb5⟩) | (go_at_call 26; refine (callsB (ep_x x0 x1 _ (by omega) (by omega) (by omega) (by omega))).mono ?_; rintro e w6 ⟨rfl, hb6⟩) | (go_at_call 27; refine (callsB (co_x x0 x1 _ (by omega) (by omega) (by omega) (by omega))).mono ?_; rintro e w7 ⟨rfl, hb7⟩))
    rename_i hHeld
    have hB := hHeld.2
    clear hHeld
    go_wp2_with fail
    go_ret
    exact ⟨rfl, hB⟩
  · refine name_world (Two (W.heap.size + 1 + 1 + 1) (W.heap.size + 1 + 1) x0 x1 y0 y1 W) ⟨by refine ⟨?_, ?_, ?_, ?_⟩ <;> go_simp, (((((Below.refl _ _).alloc (Nat.le_refl _) _).alloc (by simp) _).alloc (by simp; omega) _).alloc (by simp; omega) _).drew⟩ ?_
    rintro w1 ⟨⟨k0, k1, k2, k3⟩, hb⟩
    go_region_held3 (fun w' => (w'.cell? ⟨W.heap.size + 1 + 1 + 1, 0, none⟩ = some (.int .i64 x0) ∧ w'.cell? ⟨W.heap.size + 1 + 1 + 1, 1, none⟩ = some (.int .i64 x1) ∧ w'.cell? ⟨W.heap.size + 1 + 1, 0, none⟩ = some (.int .i64 y0) ∧ w'.cell? ⟨W.heap.size + 1 + 1, 1, none⟩ = some (.int .i64 y1)) ∧ Below W.heap.size W w')
      (first | exact ⟨⟨k0, k1, k2, k3⟩, hb.drew⟩ | exact keepS (by assumption) (by assumption))
      (first | (go_at_call 23; refine (callsB (of_x _ _ _ (by omega) (by omega) (by omega) (by omega))).mono ?_; rintro e w' ⟨rfl, hb'⟩))
    rename_i w2 _ w3 _ hHeld
    obtain ⟨⟨k0, k1, k2, k3⟩, hb⟩ := hHeld
    go_wp2_with fail
    have f1 : IntKind.u64.wrap x0 = x0 := wu64 (by omega) (by omega)
    have f2 : IntKind.u64.wrap x1 = x1 := wu64 (by omega) (by omega)
    have f3 : IntKind.u64.wrap (x0 * 1048577) = x0 * 1048577 := wu64 (by omega) (by omega)
    have f4 : IntKind.u64.wrap (x0 * 1048577 + x1) = x0 * 1048577 + x1 := wu64 (by omega) (by omega)
    have f5 := fun w => eq2 w x0 x1 y0 y1
    go_region_held3 (fun w' => (w'.cell? ⟨W.heap.size + 1 + 1 + 1, 0, none⟩ = some (.int .i64 x0) ∧ w'.cell? ⟨W.heap.size + 1 + 1 + 1, 1, none⟩ = some (.int .i64 x1) ∧ w'.cell? ⟨W.heap.size + 1 + 1, 0, none⟩ = some (.int .i64 y0) ∧ w'.cell? ⟨W.heap.size + 1 + 1, 1, none⟩ = some (.int .i64 y1)) ∧ Below W.heap.size W w')
      (first | exact ⟨⟨k0, k1, k2, k3⟩, hb.drew⟩ | exact keepS (by assumption) (by assumption))
      (first | (go_at_call 24; refine (awake_any _).mono ?_; rintro e w4 ⟨rfl, hb4⟩) | (go_at_call 25; refine (callsB (may_t x0 x1 _ (by omega) (by omega) (by omega) (by omega))).mono ?_; rintro e w5 ⟨rfl, hb5⟩) | (go_at_call 26; refine (callsB (ep_x x0 x1 _ (by omega) (by omega) (by omega) (by omega))).mono ?_; rintro e w6 ⟨rfl, hb6⟩) | (go_at_call 27; refine (callsB (co_x x0 x1 _ (by omega) (by omega) (by omega) (by omega))).mono ?_; rintro e w7 ⟨rfl, hb7⟩))
    rename_i hHeld
    have hB := hHeld.2
    clear hHeld
    go_wp2_with fail
    go_ret
    exact ⟨rfl, hB⟩

end Go.Proofs.Ytgainlmekgcfnaa.verOf
