/- The law VerOf: versions are told by what they are of, and rise with the epoch, then with the count: for every two pairs of integers it answers true. -/
import Derived.Test.YtgainlmekgcfnaaVerOfW1
import Derived.Test.YtgainlmekgcfnaaVerOfW2
import Derived.Test.YtgainlmekgcfnaaVerOfW3
import Derived.Test.YtgainlmekgcfnaaVerOfW4
import Derived.Test.YtgainlmekgcfnaaVerOfW5
namespace Go.Proofs.Ytgainlmekgcfnaa.verOf
open Go Go.RowKit Go.Proofs.Ytgainlmekgcfnaa.PVerOf Go.Proofs.Ytgainlmekgcfnaa.VerLem Go.Proofs.Ytgainlmekgcfnaa.verMay
open Go.Proofs.Ytgainlmekgcfnaa.Gen (name_world cellB drewB bN thenB callsB equalIn_arr wi64)
set_option linter.unusedVariables false


theorem walk1 (a0 a1 b0 b1 : Int) (W : World) : Calls Try.prog 7 #[.agg #[.int .i64 a0, .int .i64 a1], .agg #[.int .i64 b0, .int .i64 b1]] W fun e w' => e = .returned (.bool true) ∧ Below W.heap.size W w' := by
  have e0 : Go.bits .and .i64 a0 1048575 = a0 % 1048576 := and_mask_i64 a0 20 (by decide)
  have e1 : Go.bits .and .i64 a1 1048575 = a1 % 1048576 := and_mask_i64 a1 20 (by decide)
  have e2 : Go.bits .and .i64 b0 1048575 = b0 % 1048576 := and_mask_i64 b0 20 (by decide)
  have e3 : Go.bits .and .i64 b1 1048575 = b1 % 1048576 := and_mask_i64 b1 20 (by decide)
  have g0 : IntKind.i64.wrap (a0 % 1048576 + 1) = a0 % 1048576 + 1 := wi64 (by omega) (by omega)
  have g1 : IntKind.i64.wrap (a1 % 1048576 + 1) = a1 % 1048576 + 1 := wi64 (by omega) (by omega)
  have g2 : IntKind.i64.wrap (b0 % 1048576 + 1) = b0 % 1048576 + 1 := wi64 (by omega) (by omega)
  have g3 : IntKind.i64.wrap (b1 % 1048576 + 1) = b1 % 1048576 + 1 := wi64 (by omega) (by omega)
  have h0 : 1 ≤ a0 % 1048576 + 1 ∧ a0 % 1048576 + 1 ≤ 1048576 := by omega
  have h1 : 1 ≤ a1 % 1048576 + 1 ∧ a1 % 1048576 + 1 ≤ 1048576 := by omega
  have h2 : 1 ≤ b0 % 1048576 + 1 ∧ b0 % 1048576 + 1 ≤ 1048576 := by omega
  have h3 : 1 ≤ b1 % 1048576 + 1 ∧ b1 % 1048576 + 1 ≤ 1048576 := by omega
  obtain ⟨x0, ex0⟩ : ∃ z, z = a0 % 1048576 + 1 := ⟨_, rfl⟩
  rw [← ex0] at h0
  replace g0 := g0.trans ex0.symm
  obtain ⟨x1, ex1⟩ : ∃ z, z = a1 % 1048576 + 1 := ⟨_, rfl⟩
  rw [← ex1] at h1
  replace g1 := g1.trans ex1.symm
  obtain ⟨y0, ey0⟩ : ∃ z, z = b0 % 1048576 + 1 := ⟨_, rfl⟩
  rw [← ey0] at h2
  replace g2 := g2.trans ey0.symm
  obtain ⟨y1, ey1⟩ : ∃ z, z = b1 % 1048576 + 1 := ⟨_, rfl⟩
  rw [← ey1] at h3
  replace g3 := g3.trans ey1.symm
  have T : ∀ {p : Prop} [Decidable p], p → decide p = true := fun h => decide_eq_true h
  have N : ∀ {p : Prop} [Decidable p], ¬ p → decide p = false := fun h => decide_eq_false h
  have E : ∀ {a b : Int}, a = b → (a == b) = true := fun h => beq_iff_eq.2 h
  have X : ∀ {a b : Int}, a ≠ b → (a == b) = false := fun h => beq_eq_false_iff_ne.2 h
  by_cases c1 : x0 < y0
  · exact core1 a0 a1 b0 b1 _ _ _ _ x0 x1 y0 y1 W e0 e1 e2 e3 g0 g1 g2 g3 h0 h1 h2 h3 (T c1) (X (by omega)) (T (by omega)) (X (by omega))
  · by_cases c2 : x0 = y0
    · by_cases c3 : x1 < y1
      · exact core3 a0 a1 b0 b1 _ _ _ _ x0 x1 y0 y1 W e0 e1 e2 e3 g0 g1 g2 g3 h0 h1 h2 h3 (N c1) (E c2) (T c3) (X (by omega)) (T (by omega)) (X (by omega))
      · by_cases c4 : x1 = y1
        · exact core4 a0 a1 b0 b1 _ _ _ _ x0 x1 y0 y1 W e0 e1 e2 e3 g0 g1 g2 g3 h0 h1 h2 h3 (N c1) (E c2) (N c3) (E c4) (N (by omega)) (E (by omega))
        · exact core5 a0 a1 b0 b1 _ _ _ _ x0 x1 y0 y1 W e0 e1 e2 e3 g0 g1 g2 g3 h0 h1 h2 h3 (N c1) (E c2) (N c3) (X c4) (N (by omega)) (X (by omega))
    · exact core2 a0 a1 b0 b1 _ _ _ _ x0 x1 y0 y1 W e0 e1 e2 e3 g0 g1 g2 g3 h0 h1 h2 h3 (N c1) (X c2) (N (by omega)) (X (by omega))
open Go.Proofs.Ytgainlmekgcfnaa.Open in
theorem walk {H : Type} {enc : TypeId × Value → H} {v0 : Value} {W : World} {b0 : Nat} (ok0 : Value.okWide Try.prog W .any b0 31 v0) {d0 : DataW H} {p0 : List MemPlace} (h0 : DataW.Trod enc Try.prog W 0 (fun _ => true) true 31 v0 d0 p0)
    {v1 : Value} (ok1 : Value.okWide Try.prog W .any b0 31 v1) {d1 : DataW H} {p1 : List MemPlace} (h1 : DataW.Trod enc Try.prog W 0 (fun _ => true) true 31 v1 d1 p1) :
    Calls Try.prog 7 #[v0, v1] W fun e w' => e = .returned (.bool true) ∧ Below W.heap.size W w' := by
  obtain ⟨x, rfl, _⟩ := open_agg (.pair (.int .i64) (.int .i64)) (by kernel_rfl) (by kernel_rfl) ok0 h0
  obtain ⟨y, rfl, _⟩ := open_agg (.pair (.int .i64) (.int .i64)) (by kernel_rfl) (by kernel_rfl) ok1 h1
  exact walk1 x.1 x.2 y.1 y.2 W
end Go.Proofs.Ytgainlmekgcfnaa.verOf
