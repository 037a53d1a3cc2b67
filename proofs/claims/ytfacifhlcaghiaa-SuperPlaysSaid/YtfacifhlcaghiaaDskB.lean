/- Contracts of layer 4 (disk): the writings from behind. -/
import Derived.RangeFuncNested
import Derived.RangeFuncBound
import Derived.RangeFuncCalls
import Derived.RangeFuncLeaves
import Derived.RangeFuncBox
import Derived.Shelf.Abstract
import Derived.WalkKit
import Derived.OwnWalkIn
import Derived.TacticsInMore
import Derived.LoopNIn
import Derived.LoopIn
import Derived.Test.YtfacifhlcaghiaaDskC
namespace Go.Proofs.Ytfacifhlcaghiaa.Dsk
open Go Go.RowKit Go.Shelf
open Go.Proofs.Ytfacifhlcaghiaa.Gen
open Go.Proofs.Ytfacifhlcaghiaa.Own
open Go.Proofs.Ytfacifhlcaghiaa.RowK
set_option linter.unusedVariables false
attribute [local go_sem] Oper.semAt_some
abbrev Px := Nat × Wr
def encX (x : Px) : Array Value := #[.int .i64 (x.1 : Int), .agg #[.int .i64 x.2.a, .string ⟨x.2.s.toArray⟩]]
/-- The last so many writings, the last one first. -/
def seqB (L : List Wr) (k : Nat) : List Px := (List.range k).map fun j => (L.length - 1 - j, L.getD (L.length - 1 - j) ⟨0, []⟩)
theorem seqB_succ (L : List Wr) (k : Nat) : seqB L (k + 1) = seqB L k ++ [(L.length - 1 - k, L.getD (L.length - 1 - k) ⟨0, []⟩)] := by simp [seqB, List.range_succ]
theorem seqB_length (L : List Wr) (k : Nat) : (seqB L k).length = k := by simp [seqB]
set_option maxRecDepth 100000 in
set_option maxHeartbeats 2000000 in
theorem back1_in (F : Fence) (n : Nat) (h7 : F.fn 72) (hro : F.round = none) (hn : 1 ≤ n) (l Bs n₀ g2 cap : Nat) (L : List Wr) (hL : L.length ≤ 1000) (hb : g2 < n₀) (hBs0 : Bs < n₀) (J Jx : List Px → World → Prop)
    (hY : ∀ pre x W, J pre W → pre.length < L.length → YieldAt F (n - 1) Try.prog l (encX x) W fun e W' =>
      (e = .returned (.bool true) ∧ J (pre ++ [x]) W' ∧ Below n₀ W W') ∨ (e = .returned (.bool false) ∧ Jx (pre ++ [x]) W'))
    (W : World) (hBs : W.cell? ⟨Bs, 0, none⟩ = some (.slice (some ⟨g2, 0, none⟩) L.length cap)) (hc : ∀ j, (hj : j < L.length) → W.cell? ⟨g2, j * 2, none⟩ = some (.int .i64 L[j].a) ∧ W.cell? ⟨g2, j * 2 + 1, none⟩ = some (sv L[j].s)) (h0 : J [] W) :
    CallsIn F n Try.prog 72 #[.func (.yield l) #[] #[], .pointer (some ⟨Bs, 0, none⟩)] W fun e W' => (∃ v, e = .returned v) ∧
      ((∃ ys, ys = seqB L L.length ∧ J ys W') ∨ (∃ pre, (∃ k, k ≤ L.length ∧ pre = seqB L k) ∧ Jx pre W')) := by
  refine callsIn_of_wp Try.func72 rfl h7 ?_ hro
  simp only [Try.ntmps72, List.size_toArray, List.length_cons, List.length_nil, Nat.reduceAdd, Nat.reduceSub, Array.replicate_succ, Array.replicate_zero, List.push_toArray, List.append_toArray, List.nil_append, List.cons_append]
  have HC := Lib.hid hc
  clear hc
  gi_wp2
  gi_loopw [3] (fun i wr => ∃ (r : Nat) (z : Int), i = .int .i64 z ∧ Hid (z = (r : Int) - 1) ∧ r ≤ L.length ∧ J (seqB L (L.length - r)) wr ∧ Below n₀ W wr)
    (fun i _ => (intOf i + 1).toNat)
  case atStart => exact ⟨L.length, _, rfl, Lib.hid rfl, Nat.le_refl _, by rw [Nat.sub_self]; exact h0, Below.refl _ _⟩
  case round =>
    obtain ⟨r, z, rfl, HZ, hr, hJs, hnx⟩ := hrel
    have hbx : wr.cell? ⟨Bs, 0, none⟩ = some (.slice (some ⟨g2, 0, none⟩) L.length cap) := (hnx.cell (p := ⟨Bs, 0, none⟩) hBs0).trans hBs
    cases r with
    | zero =>
      obtain rfl : z = -1 := by have := HZ.out; omega
      gi_wp2
      go_end0
      exact ⟨⟨_, rfl⟩, .inl ⟨_, rfl, by simpa using hJs⟩⟩
    | succ r =>
      obtain rfl : z = (r : Int) := by have := HZ.out; omega
      obtain ⟨c0, c1⟩ := HC.out r (by omega)
      replace c0 := (hnx.cell (p := ⟨g2, r * 2, none⟩) hb).trans c0
      replace c1 := (hnx.cell (p := ⟨g2, r * 2 + 1, none⟩) hb).trans c1
      have hsc := seqB_succ L (L.length - (r + 1))
      rw [show L.length - 1 - (L.length - (r + 1)) = r by omega, show L.length - (r + 1) + 1 = L.length - r by omega, List.getD_eq_getElem?_getD, List.getElem?_eq_getElem (show r < L.length by omega)] at hsc
      simp only [Option.getD_some] at hsc
      have hYx := hY _ (r, L[r]) wr hJs (by rw [seqB_length]; omega)
      unfold encX at hYx
      generalize L[r] = x at c0 c1 hsc hYx
      obtain ⟨a, s⟩ := x
      simp only at c0 c1 hsc hYx
      unfold sv at c1
      obtain ⟨fn, tmps, assign, body, hy, hR⟩ := hYx
      have i0 : (0 : Int) ≤ (r : Int) := by omega
      have i1 : (r : Int) < (L.length : Int) := by omega
      have HSC := Lib.hid hsc
      clear hsc HZ
      gi_wp2
      refine hR.mono ?_
      rintro e W3 (⟨rfl, hJ3, hk3⟩ | ⟨rfl, hJx3⟩)
      · gi_wp2
        go_roundw
        case rel => exact ⟨r, _, rfl, Lib.hid rfl, by omega, by rw [HSC.out]; exact hJ3, hnx.trans hk3⟩
        case measure => simp [intOf]
      · gi_wp2
        refine bodyPost_ret (results_none rfl _ _ _) rfl ?_
        exact ⟨⟨_, rfl⟩, .inr ⟨_, ⟨L.length - r, by omega, HSC.out.symm⟩, hJx3⟩⟩
set_option maxRecDepth 100000 in
set_option maxHeartbeats 1000000 in
theorem back1_nil_in (F : Fence) (n : Nat) (h7 : F.fn 72) (hro : F.round = none) (l Bs : Nat) (v : Option Addr) (cap : Nat) (J : List Px → World → Prop) (W : World) (hBs : W.cell? ⟨Bs, 0, none⟩ = some (.slice v 0 cap)) (h0 : J [] W) :
    CallsIn F n Try.prog 72 #[.func (.yield l) #[] #[], .pointer (some ⟨Bs, 0, none⟩)] W fun e W' => (∃ v, e = .returned v) ∧ J [] W' := by
  refine callsIn_of_wp Try.func72 rfl h7 ?_ hro
  simp only [Try.ntmps72, List.size_toArray, List.length_cons, List.length_nil, Nat.reduceAdd, Nat.reduceSub, Array.replicate_succ, Array.replicate_zero, List.push_toArray, List.append_toArray, List.nil_append, List.cons_append]
  gi_wp2
  gi_loopw [3] (fun i wr => i = .int .i64 (-1) ∧ J [] wr) (fun _ _ => 0)
  case atStart => exact ⟨rfl, h0⟩
  case round =>
    obtain ⟨rfl, hJs⟩ := hrel
    gi_wp2
    go_end0
    exact ⟨⟨_, rfl⟩, hJs⟩
theorem back_in (F : Fence) (n : Nat) (h5 : F.fn 49) (hro : F.round = none) (a : Option Addr) (len cap : Nat) (w : World) :
    CallsIn F n Try.prog 49 #[.slice a len cap] w fun e w' => e = .returned (.func (.func 72) #[] #[.pointer (some ⟨w.heap.size, 0, none⟩)]) ∧ w' = w.alloc (.cells #[.slice a len cap] 80) := by
  refine callsIn_of_wp Try.func49 rfl h5 ?_ hro
  simp only [Try.ntmps49, List.size_toArray, List.length_cons, List.length_nil, Nat.reduceAdd, Nat.reduceSub, Array.replicate_succ, Array.replicate_zero, List.push_toArray, List.append_toArray, List.nil_append, List.cons_append]
  gi_wp2
  go_ret
  exact ⟨rfl, rfl⟩
/-- The slice of writings, in a block below n₀; or there are none. -/
def WrS (n₀ : Nat) (W : World) (A : Option Addr) (L : List Wr) : Prop :=
  L = [] ∨ ∃ g2, A = some ⟨g2, 0, none⟩ ∧ g2 < n₀ ∧ ∀ j, (hj : j < L.length) → W.cell? ⟨g2, j * 2, none⟩ = some (.int .i64 L[j].a) ∧ W.cell? ⟨g2, j * 2 + 1, none⟩ = some (sv L[j].s)
theorem WrS.below {n₀ : Nat} {A B : World} (h : Below n₀ A B) {p : Option Addr} {L : List Wr} : WrS n₀ A p L → WrS n₀ B p L
  | .inl e => .inl e
  | .inr ⟨g2, e, hb, hc⟩ => .inr ⟨g2, e, hb, fun j hj => ⟨(h.cell (p := ⟨g2, j * 2, none⟩) hb).trans (hc j hj).1, (h.cell (p := ⟨g2, j * 2 + 1, none⟩) hb).trans (hc j hj).2⟩⟩
theorem back_stops (F : Fence) (n : Nat) (h7 : F.fn 72) (hro : F.round = none) (hn : 1 ≤ n) (Bs n₀ : Nat) (A : Option Addr) (cap : Nat) (L : List Wr) (hL : L.length ≤ 1000) (w : World) (hBs : Bs < n₀) (hn₀ : n₀ ≤ w.heap.size)
    (hc : w.cell? ⟨Bs, 0, none⟩ = some (.slice A L.length cap)) (hI : WrS n₀ w A L) :
    SeqStopsK F n Try.prog 72 #[.pointer (some ⟨Bs, 0, none⟩)] encX (Below n₀) (fun ys => ys = seqB L L.length) (fun pre => ∃ k, k ≤ L.length ∧ pre = seqB L k) L.length w := fun l J Jx W hW _ _ hY h0 => by
  have hc' := (hW.cell (p := ⟨Bs, 0, none⟩) (Nat.lt_of_lt_of_le hBs hn₀)).trans hc
  rcases hI.below (hW.mono hn₀) with rfl | ⟨g2, rfl, hb, hcs⟩
  · exact (back1_nil_in F n h7 hro l Bs A cap J W hc' h0).mono fun e W' ⟨he, hj⟩ => ⟨he, .inl ⟨_, rfl, hj⟩⟩
  · exact back1_in F n h7 hro hn l Bs n₀ g2 cap L hL hb hBs J Jx hY W hc' hcs h0
theorem blk_kept {W W' : World} {row : Option Nat} {B : Nat} {t : TypeId} {cs : Array Value} (h : Blk W B t cs) (hg : W.grownBy W' row) (hr : ∀ r, row = some r → ∃ o : Obj, W.heap[r]? = some o ∧ o.isCells = false) : Blk W' B t cs :=
  h.grown hg (fun e => by
    obtain ⟨o, ho, hc⟩ := hr B e.symm
    rw [show W.heap[B]? = _ from h] at ho
    cases ho
    cases hc)
end Go.Proofs.Ytfacifhlcaghiaa.Dsk
