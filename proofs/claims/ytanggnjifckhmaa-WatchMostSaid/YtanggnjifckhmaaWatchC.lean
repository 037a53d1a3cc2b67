/- Contracts of layer 49 (watch): how long each node was quiet. -/
import Derived.Test.YtanggnjifckhmaaPendC
import Derived.Deep.RegionWith
import Derived.BigRegion
import Derived.Lib.MinMax
import Derived.Outline
namespace Go.Proofs.Ytanggnjifckhmaa.Watch
open Go Go.RowKit
open Go.Proofs.Ytanggnjifckhmaa.Gen
open Go.Proofs.Ytanggnjifckhmaa.Own
open Go.Proofs.Ytanggnjifckhmaa.Pend (lf lf_len lf_yes lf_no lf_get lf_le LeftPost iinfo idx5)
set_option linter.unusedVariables false
/-- A watch in memory: how long one may be quiet, and how long each was. -/
def IsW (w : World) (g : Nat) (k : Int) (q : Nat → Int) : Prop := w.heap[g]? = some (.cells #[.int .i64 k, .int .i64 (q 0), .int .i64 (q 1), .int .i64 (q 2), .int .i64 (q 3), .int .i64 (q 4)] 55 (0, 0))
def Fit (q : Nat → Int) : Prop := ∀ j, j < 5 → 0 ≤ q j ∧ q j ≤ 1000
theorem IsW.lim {w : World} {g : Nat} {k : Int} {q : Nat → Int} (h : IsW w g k q) : w.cell? ⟨g, 0, none⟩ = some (.int .i64 k) := by
  rw [cell_of_row w g 0 _ _ (0, 0) h]; rfl
theorem IsW.cell {w : World} {g : Nat} {k : Int} {q : Nat → Int} (h : IsW w g k q) (j : Nat) (hj : j < 5) : w.cell? ⟨g, 1 + j, none⟩ = some (.int .i64 (q j)) := by
  rw [cell_of_row w g (1 + j) _ _ (0, 0) h]
  match j with
  | 0 => rfl
  | 1 => rfl
  | 2 => rfl
  | 3 => rfl
  | 4 => rfl
  | j + 5 => omega
theorem IsW.free {w : World} {g : Nat} {k : Int} {q : Nat → Int} (h : IsW w g k q) (j : Nat) : w.frozen? ⟨g, j, none⟩ = false := by
  unfold IsW at h
  simp [World.frozen?, h]
theorem IsW.lt {w : World} {g : Nat} {k : Int} {q : Nat → Int} (h : IsW w g k q) : g < w.heap.size := (Array.getElem?_eq_some_iff.1 h).1
theorem IsW.b {w w' : World} {g : Nat} {k : Int} {q : Nat → Int} (h : IsW w g k q) (hb : Below w.heap.size w w') : IsW w' g k q := (hb.block g h.lt).trans h
theorem IsW.g {w w' : World} {g g' : Nat} {k : Int} {q : Nat → Int} (h : IsW w g k q) (hb : w.grownBy w' (some g')) (hne : g ≠ g') : IsW w' g k q := (hb.block g h.lt (by intro e; injection e with e; exact hne e)).trans h
theorem IsW.set1 {w : World} {g : Nat} {k : Int} {q q' : Nat → Int} {x : Int} (h : IsW w g k q) (j : Nat) (hj : j < 5) (hf : ∀ i, i < 5 → q' i = if i = j then x else q i) : IsW (w.setCell ⟨g, 1 + j, none⟩ (.int .i64 x)) g k q' := by
  unfold IsW at h ⊢
  rw [hf 0 (by omega), hf 1 (by omega), hf 2 (by omega), hf 3 (by omega), hf 4 (by omega)]
  match j with
  | 0 => simp [World.setCell, Array.getElem?_modify, h]
  | 1 => simp [World.setCell, Array.getElem?_modify, h]
  | 2 => simp [World.setCell, Array.getElem?_modify, h]
  | 3 => simp [World.setCell, Array.getElem?_modify, h]
  | 4 => simp [World.setCell, Array.getElem?_modify, h]
  | j + 5 => omega
theorem IsW.congr {w : World} {g : Nat} {k : Int} {q q' : Nat → Int} (h : IsW w g k q) (hf : ∀ i, i < 5 → q' i = q i) : IsW w g k q' := by
  unfold IsW at h ⊢
  rw [hf 0 (by omega), hf 1 (by omega), hf 2 (by omega), hf 3 (by omega), hf 4 (by omega)]
  exact h
theorem IsW.drew {w : World} {g : Nat} {k : Int} {q : Nat → Int} (h : IsW w g k q) : IsW w.drew g k q := h
theorem grown_set {a w : World} {g : Nat} (h : a.grownBy w (some g)) {p : Addr} (hp : p.block = g) (u : Value) : a.grownBy (w.setCell p u) (some g) :=
  ⟨h.os, h.tape, h.output, by simpa [World.setCell] using h.size, fun i hi hne => (Below.heap_setCell w p u i (by rintro rfl; exact hne (by rw [hp]))).trans (h.block i hi hne)⟩
theorem grown_drew {a w : World} {row : Option Nat} (h : a.grownBy w row) : a.grownBy w.drew row := ⟨h.os, h.tape, h.output, h.size, h.block⟩
theorem cellG {w w1 : World} {g : Nat} (h : w.grownBy w1 (some g)) {a : Addr} {v : Value} (hc : w.cell? a = some v) (hne : a.block ≠ g) : w1.cell? a = some v :=
  (World.cell?_of_block (h.block a.block (World.block_lt_of_cell? w a hc) (fun e => hne (by injection e)))).trans hc
theorem grown_refl (w : World) (g : Nat) : w.grownBy w (some g) := World.grownBy.refl w _
def limit (n : Int) : Int := min (max n 1) 1000
theorem limit_range (n : Int) : 1 ≤ limit n ∧ limit n ≤ 1000 := by unfold limit; omega
theorem new_any (n : Int) (w : World) : Calls Try.prog 14 #[.int .i64 n] w fun e w' => e = .returned (.pointer (some ⟨w.heap.size, 0, none⟩)) ∧ IsW w' w.heap.size (limit n) (fun _ => 0) ∧ Below w.heap.size w w' := by
  go_enter Try.func14, Try.ntmps14
  go_wp2_with fail
  go_ret
  exact ⟨rfl, heap_alloc_new _ _, (Below.refl _ _).alloc (Nat.le_refl _) _⟩
theorem tick_nil (w : World) : Calls Try.prog 15 #[.pointer none] w fun e w' => e = .returned (.tuple #[]) ∧ w = w' := by
  go_enter Try.func15, Try.ntmps15
  go_wp2_with fail
  (first | refine bodyPost_end (results_none rfl _ _ _) rfl ?_ | refine bodyPost_ret (results_none rfl _ _ _) rfl ?_)
  exact ⟨rfl, rfl⟩
/-- A tick more, as far as the most. -/
def up1 (x : Int) : Int := min (x + 1) 1000
set_option maxHeartbeats 2000000 in
theorem tick_any (g : Nat) (k : Int) (q : Nat → Int) (w : World) (h : IsW w g k q) (hq : Fit q) : Calls Try.prog 15 #[.pointer (some ⟨g, 0, none⟩)] w fun e w' => e = .returned (.tuple #[]) ∧ IsW w' g k (fun j => up1 (q j)) ∧ w.grownBy w' (some g) := by
  go_enter Try.func15, Try.ntmps15
  go_wp2_with fail
  go_loopw [5] (fun i wr => ∃ j : Nat, i = .int .i64 j ∧ j ≤ 5 ∧ IsW wr g k (fun t => if t < j then up1 (q t) else q t) ∧ w.grownBy wr (some g)) (fun i _ => 5 - (intOf i).toNat)
  case atStart => exact ⟨0, rfl, by omega, h.congr (fun i _ => by simp), grown_refl _ _⟩
  case round =>
    obtain ⟨j, rfl, hj, i1, hg⟩ := hrel
    by_cases hlt : j < 5
    · have c0 : wr.cell? ⟨g, 1 + j, none⟩ = some (.int .i64 (q j)) := by rw [i1.cell j hlt, if_neg (by omega)]
      have z0 := i1.free (1 + j)
      obtain ⟨q0, q1⟩ := hq j hlt
      have hwr : IntKind.i64.wrap (q j + 1) = q j + 1 := wi64 (by omega) (by omega)
      have hmn : min (q j + 1) 1000 = up1 (q j) := rfl
      go_wp2_with fail
      go_region_with fail
      clear hwr hmn
      go_wp2_with fail
      go_roundw
      case rel => exact ⟨j + 1, by go_num, by omega, IsW.drew (i1.set1 (x := up1 (q j)) (q' := fun t => if t < j + 1 then up1 (q t) else q t) j hlt (fun i hi => by
        show (if i < j + 1 then up1 (q i) else q i) = if i = j then up1 (q j) else if i < j then up1 (q i) else q i
        by_cases e : i = j
        · subst e; rw [if_pos rfl, if_pos (by omega)]
        · rw [if_neg e]; by_cases e2 : i < j
          · rw [if_pos e2, if_pos (by omega)]
          · rw [if_neg e2, if_neg (by omega)])), grown_drew (grown_set hg rfl _)⟩
      case measure => simp [intOf]; omega
    · obtain rfl : j = 5 := by omega
      go_wp2_with fail
      (first | refine bodyPost_end (results_none rfl _ _ _) rfl ?_ | refine bodyPost_ret (results_none rfl _ _ _) rfl ?_)
      exact ⟨rfl, i1.congr (fun i hi => by rw [if_pos hi]), hg⟩
theorem heard_out (p : Option Addr) (n : Int) (w : World) (h : p = none ∨ n < 0 ∨ 4 < n) : Calls Try.prog 16 #[.pointer p, .int .i64 n] w fun e w' => e = .returned (.tuple #[]) ∧ w = w' := by
  rcases p with _ | p
  · go_enter Try.func16, Try.ntmps16
    go_wp2_with fail
    (first | refine bodyPost_end (results_none rfl _ _ _) rfl ?_ | refine bodyPost_ret (results_none rfl _ _ _) rfl ?_)
    exact ⟨rfl, rfl⟩
  · rcases h with h | h | h
    · cases h
    · go_enter Try.func16, Try.ntmps16
      go_wp2_with fail
      (first | refine bodyPost_end (results_none rfl _ _ _) rfl ?_ | refine bodyPost_ret (results_none rfl _ _ _) rfl ?_)
      exact ⟨rfl, rfl⟩
    · go_enter Try.func16, Try.ntmps16
      go_wp2_with fail
      (first | refine bodyPost_end (results_none rfl _ _ _) rfl ?_ | refine bodyPost_ret (results_none rfl _ _ _) rfl ?_)
      exact ⟨rfl, rfl⟩
theorem heard_in (g : Nat) (k : Int) (q : Nat → Int) (n : Int) (w : World) (h : IsW w g k q) (n0 : 0 ≤ n) (n1 : n < 5) : Calls Try.prog 16 #[.pointer (some ⟨g, 0, none⟩), .int .i64 n] w
    fun e w' => e = .returned (.tuple #[]) ∧ IsW w' g k (fun j => if j = n.toNat then 0 else q j) ∧ w.grownBy w' (some g) := by
  have c0 := h.cell n.toNat (by omega)
  have z0 := h.free (1 + n.toNat)
  go_enter Try.func16, Try.ntmps16
  go_wp2_with fail
  (first | refine bodyPost_end (results_none rfl _ _ _) rfl ?_ | refine bodyPost_ret (results_none rfl _ _ _) rfl ?_)
  exact ⟨rfl, h.set1 n.toNat (by omega) (fun _ _ => rfl), grown_set (grown_refl _ _) rfl _⟩
theorem idxI (q : Nat → Int) (k : Nat) (hk : k < 5) (w : World) : (Instr.index 36 (.agg #[.int .i64 (q 0), .int .i64 (q 1), .int .i64 (q 2), .int .i64 (q 3), .int .i64 (q 4)]) (.int .i64 (k : Int))).run Try.prog w = .ok (.int .i64 (q k)) w := by
  match k, hk with
  | 0, _ => exact (by kernel_rfl : _ = _)
  | 1, _ => exact (by kernel_rfl : _ = _)
  | 2, _ => exact (by kernel_rfl : _ = _)
  | 3, _ => exact (by kernel_rfl : _ = _)
  | 4, _ => exact (by kernel_rfl : _ = _)
theorem up_nil (w : World) : Calls Try.prog 17 #[.pointer none] w fun e w' => e = .returned (.agg #[.bool false, .bool false, .bool false, .bool false, .bool false]) ∧ Below w.heap.size w w' := by
  go_enter Try.func17, Try.ntmps17
  go_wp2_with fail
  exact bodyPost_ret (v := .agg #[.bool false, .bool false, .bool false, .bool false, .bool false]) (by simp [results, Try.results17, go_sem]) rfl ⟨rfl, ((Below.refl _ _).alloc (Nat.le_refl _) _).alloc (by simp) _⟩
def isUp (k : Int) (q : Nat → Int) (j : Nat) : Bool := decide (q j ≤ k)
open Go.Proofs.Ytanggnjifckhmaa.Pend (Is5) in
set_option maxHeartbeats 2000000 in
theorem up_any (g : Nat) (k : Int) (q : Nat → Int) (w : World) (h : IsW w g k q) : Calls Try.prog 17 #[.pointer (some ⟨g, 0, none⟩)] w
    fun e w' => e = .returned (.agg #[.bool (isUp k q 0), .bool (isUp k q 1), .bool (isUp k q 2), .bool (isUp k q 3), .bool (isUp k q 4)]) ∧ Below w.heap.size w w' := by
  have hne : g < w.heap.size := h.lt
  have c0 := h.cell 0 (by omega)
  have c1 := h.cell 1 (by omega)
  have c2 := h.cell 2 (by omega)
  have c3 := h.cell 3 (by omega)
  have c4 := h.cell 4 (by omega)
  simp only [Nat.add_zero, Nat.reduceAdd] at c0 c1 c2 c3 c4
  go_enter Try.func17, Try.ntmps17
  go_wp2_with fail
  go_loopw [13] (fun i wr => ∃ j : Nat, ∃ f : Nat → Bool, i = .int .i64 j ∧ j ≤ 5 ∧ Is5 wr w.heap.size 23 (fun _ => false) ∧ Is5 wr (w.heap.size + 1) 23 f ∧ (∀ t, t < j → f t = isUp k q t) ∧ Below w.heap.size w wr) (fun i _ => 5 - (intOf i).toNat)
  case atStart => exact ⟨0, fun _ => false, rfl, by omega, heap_alloc2_old _ _ _, heap_alloc2_new _ _ _, fun t ht => by omega, ((Below.refl _ _).alloc (Nat.le_refl _) _).alloc (by simp) _⟩
  case round =>
    obtain ⟨j, f, rfl, hj, i1, i2, hf, hb⟩ := hrel
    have HF := Lib.hid hf
    clear hf
    by_cases hlt : j < 5
    · have ix := idxI q j hlt
      have cl := (h.b hb).lim
      have d0 := i2.cell j hlt
      have y0 := i2.free j
      have hd : decide (q j ≤ k) = isUp k q j := rfl
      go_wp2_with fail
      go_roundw
      case rel => exact ⟨j + 1, fun t => if t = j then isUp k q j else f t, by go_num, by omega, i1.other (by simp) _, i2.set1 j hlt (fun t _ => rfl), fun t ht => by
        show (if t = j then isUp k q j else f t) = _
        by_cases e : t = j
        · rw [if_pos e, e]
        · rw [if_neg e]; exact HF.out t (by omega), hb.setCell (by simp) _⟩
      case measure => simp [intOf]; omega
    · obtain rfl : j = 5 := by omega
      have H0 := Lib.hid (HF.out 0 (by omega))
      have H1 := Lib.hid (HF.out 1 (by omega))
      have H2 := Lib.hid (HF.out 2 (by omega))
      have H3 := Lib.hid (HF.out 3 (by omega))
      have H4 := Lib.hid (HF.out 4 (by omega))
      clear c0 c1 c2 c3 c4
      have c0 := i2.cell 0 (by omega)
      have c1 := i2.cell 1 (by omega)
      have c2 := i2.cell 2 (by omega)
      have c3 := i2.cell 3 (by omega)
      have c4 := i2.cell 4 (by omega)
      have d0 := i1.cell 0 (by omega)
      have d1 := i1.cell 1 (by omega)
      have d2 := i1.cell 2 (by omega)
      have d3 := i1.cell 3 (by omega)
      have d4 := i1.cell 4 (by omega)
      have z0 := i1.free 0
      have z1 := i1.free 1
      have z2 := i1.free 2
      have z3 := i1.free 3
      have z4 := i1.free 4
      go_wp2_with fail
      refine bodyPost_ret (v := .agg #[.bool (f 0), .bool (f 1), .bool (f 2), .bool (f 3), .bool (f 4)]) (by simp [results, Try.results17, go_sem, d0, d1, d2, d3, d4]) rfl ⟨?_, ?_⟩
      · rw [H0.out, H1.out, H2.out, H3.out, H4.out]
      · exact ((((hb.setCell (Nat.le_refl _) _).setCell (Nat.le_refl _) _).setCell (Nat.le_refl _) _).setCell (Nat.le_refl _) _).setCell (Nat.le_refl _) _
def notUp (u : Nat → Bool) (j : Nat) : Bool := !(u j)
set_option maxHeartbeats 2000000 in
/-- Who is quiet, by who is up. -/
theorem quiet_by (P : Value) (u : Nat → Bool) (w : World) (hup : ∀ w1 : World, w1 = w → Calls Try.prog 17 #[P] w1 fun e w' => e = .returned (.agg #[.bool (u 0), .bool (u 1), .bool (u 2), .bool (u 3), .bool (u 4)]) ∧ Below w.heap.size w w') :
    Calls Try.prog 18 #[P] w (LeftPost (notUp u) w) := by
  have HUP := Lib.hid (hup w rfl)
  clear hup
  go_enter Try.func18, Try.ntmps18
  go_wp2_with fail
  refine HUP.out.mono ?_; rintro e w1 ⟨rfl, hb1⟩
  go_wp2_with fail
  go_loopw [3, 8] (fun v i wr => ∃ k : Nat, i = .int .i64 k ∧ k ≤ 5 ∧ wr.ownsRow w.heap.size 3 1 v (lf (notUp u) k).length ((lf (notUp u) k).map (.int .i64)) ∧ Below w.heap.size w wr) (fun _ i _ => 5 - (intOf i).toNat)
  case atStart => exact ⟨0, rfl, by omega, ⟨by simp [lf], .inl ⟨rfl, rfl⟩⟩, hb1⟩
  case round =>
    obtain ⟨k, rfl, hk, hown, hb⟩ := hrel
    by_cases hlt : k < 5
    · have ix := idx5 u k hlt
      have hn := lf_len (notUp u) k
      cases hf : u k
      · have hf2 : notUp u k = true := by simp [notUp, hf]
        rw [hf] at ix
        have HF := Lib.hid (lf_yes _ hf2)
        have HG := Lib.hid (show (lf (notUp u) (k + 1)).map (Value.int .i64) = (lf (notUp u) k).map (Value.int .i64) ++ [.int .i64 (k : Int)] by simp [lf, hf2])
        clear hf hf2
        have hsz := hb.size
        go_wp2_with (at_builtin
                     refine wpList_app1 _ rfl _ _ _ rfl w.heap.size 3 (.int .i64 0) 8 Try.underlying22 iinfo rfl _ _ _ rfl (hown.alloc _) ⟨wr.heap.size, 0, none⟩ (.int .i64 (k : Int)) rfl ?c1 rfl (by omega) (by omega) (by simp; omega) ?_
                     case c1 => simp
                     intro A' cap' w4 hown4 hc4 hg4 hb4 hob4)
        have hb5 : Below w.heap.size w w4 := (hb.alloc hb.size _).trans hb4
        go_roundw
        case rel => exact ⟨k + 1, by go_num, by omega, by rw [HF.out, HG.out]; exact hown4, hb5⟩
        case measure => simp [intOf]; omega
      · have hf2 : notUp u k = false := by simp [notUp, hf]
        rw [hf] at ix
        have HF := Lib.hid (lf_no _ hf2)
        clear hf hf2
        go_wp2_with fail
        go_roundw
        case rel => exact ⟨k + 1, by go_num, by omega, by rw [HF.out]; exact hown, hb⟩
        case measure => simp [intOf]; omega
    · obtain rfl : k = 5 := by omega
      obtain ⟨A, cap, rfl, hc⟩ := own_slice hown
      go_wp2_with fail
      go_ret
      exact ⟨A, cap, rfl, (own_ints hown).2, hb⟩
/-- Who is quiet, as a list. -/
def ql (k : Int) (q : Nat → Int) : List Int := lf (notUp (isUp k q)) 5
theorem quiet_any (g : Nat) (k : Int) (q : Nat → Int) (w : World) (h : IsW w g k q) : Calls Try.prog 18 #[.pointer (some ⟨g, 0, none⟩)] w (LeftPost (notUp (isUp k q)) w) :=
  quiet_by _ (isUp k q) w (fun w1 e => by subst e; exact up_any g k q w1 h)
theorem quiet_nil (w : World) : Calls Try.prog 18 #[.pointer none] w (LeftPost (notUp (fun _ => false)) w) :=
  quiet_by _ (fun _ => false) w (fun w1 e => by subst e; exact up_nil w1)
end Go.Proofs.Ytanggnjifckhmaa.Watch
