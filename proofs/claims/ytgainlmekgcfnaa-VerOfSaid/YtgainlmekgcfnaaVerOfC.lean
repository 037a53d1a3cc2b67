/- Contracts for the walk of the law VerOf. -/
import Derived.Test.YtgainlmekgcfnaaVerMayW
import Derived.Test.YtgainlmekgcfnaaGen
import Derived.Test.YtgainlmekgcfnaaOpen
import Derived.Deep.RegionHeld3
namespace Go.Proofs.Ytgainlmekgcfnaa.verOf
open Go Go.RowKit Go.Proofs.Ytgainlmekgcfnaa.PVerOf Go.Proofs.Ytgainlmekgcfnaa.VerLem Go.Proofs.Ytgainlmekgcfnaa.verMay
open Go.Proofs.Ytgainlmekgcfnaa.Gen (name_world cellB drewB bN thenB callsB equalIn_arr wi64)
set_option linter.unusedVariables false

theorem eq2 (w : World) (a b c e : Int) : (Op.equalIn 10000 31 (.agg #[.int .i64 a, .int .i64 b]) (.agg #[.int .i64 c, .int .i64 e])).run Try.prog w = .ok (a == c && b == e) w := by
  have := equalIn_arr (P := Try.prog) w 9999 31 2 3 #[.int .i64 a, .int .i64 b] #[.int .i64 c, .int .i64 e] Try.underlying31 (fun _ => by kernel_rfl) [a == c, b == e] rfl (fun i q h => by
    match i with
    | 0 => obtain rfl : (a == c) = q := by simpa using h
           exact ⟨.int .i64 a, .int .i64 c, fun _ => by kernel_rfl, fun _ => by kernel_rfl, fun w => run_equalIn_int w 9998 3 .i64 .i64 a c Try.underlying3⟩
    | 1 => obtain rfl : (b == e) = q := by simpa using h
           exact ⟨.int .i64 b, .int .i64 e, fun _ => by kernel_rfl, fun _ => by kernel_rfl, fun w => run_equalIn_int w 9998 3 .i64 .i64 b e Try.underlying3⟩
    | i + 2 => simp at h)
  simpa using this
/-- Two pairs of numbers, each in a block of its own. -/
def Two (X Y : Nat) (x0 x1 y0 y1 : Int) (w0 w : World) : Prop := (w.cell? ⟨X, 0, none⟩ = some (.int .i64 x0) ∧ w.cell? ⟨X, 1, none⟩ = some (.int .i64 x1) ∧ w.cell? ⟨Y, 0, none⟩ = some (.int .i64 y0) ∧ w.cell? ⟨Y, 1, none⟩ = some (.int .i64 y1)) ∧ Below w0.heap.size w0 w
theorem keepS {X Y : Nat} {x0 x1 y0 y1 : Int} {w0 w w' : World} (hb : Below w.heap.size w w') (h : (w.cell? ⟨X, 0, none⟩ = some (.int .i64 x0) ∧ w.cell? ⟨X, 1, none⟩ = some (.int .i64 x1) ∧ w.cell? ⟨Y, 0, none⟩ = some (.int .i64 y0) ∧ w.cell? ⟨Y, 1, none⟩ = some (.int .i64 y1)) ∧ Below w0.heap.size w0 w) :
    (w'.cell? ⟨X, 0, none⟩ = some (.int .i64 x0) ∧ w'.cell? ⟨X, 1, none⟩ = some (.int .i64 x1) ∧ w'.cell? ⟨Y, 0, none⟩ = some (.int .i64 y0) ∧ w'.cell? ⟨Y, 1, none⟩ = some (.int .i64 y1)) ∧ Below w0.heap.size w0 w' :=
  ⟨⟨cellB hb h.1.1, cellB hb h.1.2.1, cellB hb h.1.2.2.1, cellB hb h.1.2.2.2⟩, thenB h.2 hb⟩
theorem ep_x (e n : Int) (w : World) (h1 : 1 ≤ e) (h2 : e ≤ 1048576) (h3 : 1 ≤ n) (h4 : n ≤ 1048576) : Calls Try.prog 26 #[.int .u64 (e * 1048577 + n)] w fun x w' => x = .returned (.int .i64 e) ∧ ∃ k, w' = w.drewN k := by
  have := ep_t (e * 1048577 + n) w (by omega) (by omega) (by omega) (by omega) (by omega)
  rwa [show (e * 1048577 + n) / 1048577 = e by omega] at this
theorem co_x (e n : Int) (w : World) (h1 : 1 ≤ e) (h2 : e ≤ 1048576) (h3 : 1 ≤ n) (h4 : n ≤ 1048576) : Calls Try.prog 27 #[.int .u64 (e * 1048577 + n)] w fun x w' => x = .returned (.int .i64 n) ∧ ∃ k, w' = w.drewN k := by
  have := co_t (e * 1048577 + n) w (by omega) (by omega) (by omega) (by omega) (by omega)
  rwa [show (e * 1048577 + n) % 1048577 = n by omega] at this
theorem of_x (e n : Int) (w : World) (h1 : 1 ≤ e) (h2 : e ≤ 1048576) (h3 : 1 ≤ n) (h4 : n ≤ 1048576) : Calls Try.prog 23 #[.int .i64 e, .int .i64 n] w fun x w' => x = .returned (.int .u64 (e * 1048577 + n)) ∧ ∃ k, w' = w.drewN k :=
  (ver_Of.calls e n _ w (of_yes h1 h2 h3 h4)).mono fun _ _ ⟨a, b⟩ => ⟨a, b.out⟩
end Go.Proofs.Ytgainlmekgcfnaa.verOf
