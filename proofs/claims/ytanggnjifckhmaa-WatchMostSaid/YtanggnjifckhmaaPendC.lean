/- Contracts of layer 29 (pend): who must answer, whose answer counts, who is left. -/
import Derived.Test.YtanggnjifckhmaaProg
import Derived.Test.YtanggnjifckhmaaOwn
import Derived.WalkSpells
import Derived.Deep.RegionHeld3
import Derived.Deep.QuietTactic
import Derived.BigQuiet
namespace Go.Proofs.Ytanggnjifckhmaa.Pend
open Go Go.RowKit
open Go.Proofs.Ytanggnjifckhmaa.Gen
open Go.Proofs.Ytanggnjifckhmaa.Own
set_option linter.unusedVariables false

/-- A block of five truths. -/
def Is5 (w : World) (g : Nat) (t : TypeId) (f : Nat → Bool) : Prop := w.heap[g]? = some (.cells #[.bool (f 0), .bool (f 1), .bool (f 2), .bool (f 3), .bool (f 4)] t (0, 0))
theorem Is5.cell {w : World} {g : Nat} {t : TypeId} {f : Nat → Bool} (h : Is5 w g t f) (j : Nat) (hj : j < 5) : w.cell? ⟨g, j, none⟩ = some (.bool (f j)) := by
  rw [cell_of_row w g j _ t (0, 0) h]
  match j with
  | 0 => rfl
  | 1 => rfl
  | 2 => rfl
  | 3 => rfl
  | 4 => rfl
  | j + 5 => omega
theorem Is5.free {w : World} {g : Nat} {t : TypeId} {f : Nat → Bool} (h : Is5 w g t f) (j : Nat) : w.frozen? ⟨g, j, none⟩ = false := by
  unfold Is5 at h
  simp [World.frozen?, h]
theorem Is5.lt {w : World} {g : Nat} {t : TypeId} {f : Nat → Bool} (h : Is5 w g t f) : g < w.heap.size := (Array.getElem?_eq_some_iff.1 h).1
theorem Is5.below {w w' : World} {g : Nat} {t : TypeId} {f : Nat → Bool} (h : Is5 w g t f) (hb : Below w.heap.size w w') : Is5 w' g t f := (hb.block g h.lt).trans h
theorem Is5.belowN {w w' : World} {g B : Nat} {t : TypeId} {f : Nat → Bool} (h : Is5 w g t f) (hb : Below B w w') (hB : g < B) : Is5 w' g t f := (hb.block g hB).trans h
theorem Is5.set1 {w : World} {g : Nat} {t : TypeId} {f f' : Nat → Bool} {b : Bool} (h : Is5 w g t f) (j : Nat) (hj : j < 5) (hf : ∀ i, i < 5 → f' i = if i = j then b else f i) : Is5 (w.setCell ⟨g, j, none⟩ (.bool b)) g t f' := by
  unfold Is5 at h ⊢
  rw [hf 0 (by omega), hf 1 (by omega), hf 2 (by omega), hf 3 (by omega), hf 4 (by omega)]
  match j with
  | 0 => simp [World.setCell, Array.getElem?_modify, h]
  | 1 => simp [World.setCell, Array.getElem?_modify, h]
  | 2 => simp [World.setCell, Array.getElem?_modify, h]
  | 3 => simp [World.setCell, Array.getElem?_modify, h]
  | 4 => simp [World.setCell, Array.getElem?_modify, h]
  | j + 5 => omega
theorem set5 {w : World} {g : Nat} {t : TypeId} {x y z u v : Value} (h : w.heap[g]? = some (.cells #[x, y, z, u, v] t (0, 0))) (x' y' z' u' v' : Value) :
    (((((w.setCell ⟨g, 0, none⟩ x').setCell ⟨g, 1, none⟩ y').setCell ⟨g, 2, none⟩ z').setCell ⟨g, 3, none⟩ u').setCell ⟨g, 4, none⟩ v').heap[g]? = some (.cells #[x', y', z', u', v'] t (0, 0)) := by
  simp [World.setCell, Array.getElem?_modify, h]
theorem Is5.other {w : World} {g : Nat} {t : TypeId} {f : Nat → Bool} (h : Is5 w g t f) {p : Addr} (hp : g ≠ p.block) (u : Value) : Is5 (w.setCell p u) g t f := (Below.heap_setCell w p u g hp).trans h
theorem Is5.congr {w : World} {g : Nat} {t : TypeId} {f f' : Nat → Bool} (h : Is5 w g t f) (hf : ∀ i, i < 5 → f' i = f i) : Is5 w g t f' := by
  unfold Is5 at h ⊢
  rw [hf 0 (by omega), hf 1 (by omega), hf 2 (by omega), hf 3 (by omega), hf 4 (by omega)]
  exact h
/-- Is a number among these? -/
def has (l : List Int) (j : Nat) : Bool := l.any (· == (j : Int))
theorem has_snoc (l : List Int) (n : Int) (j : Nat) : has (l ++ [n]) j = (has l j || n == (j : Int)) := by simp [has]
theorem take_get (l : List Int) (k : Nat) (h : k < l.length) : l.take (k + 1) = l.take k ++ [l[k]?.getD 0] := by
  rw [List.take_succ_eq_append_getElem h, List.getElem?_eq_getElem h]
  rfl
set_option maxHeartbeats 2000000 in
/-- Who must answer: the numbers of nodes among these. -/
theorem of_any (A : Option Addr) (cap : Nat) (l : List Int) (W : World) (hl : l.length ≤ 9223372036854775807) (hc : ∀ i, i < l.length → ∃ ad, A = some ad ∧ W.cell? (ad.add i) = some (.int .i64 (l[i]?.getD 0))) :
    Calls Try.prog 9 #[.slice A l.length cap] W fun e w' => e = .returned (.agg #[.bool (has l 0), .bool (has l 1), .bool (has l 2), .bool (has l 3), .bool (has l 4)]) ∧ Below W.heap.size W w' := by
  go_enter Try.func9, Try.ntmps9
  go_wp2_with fail
  go_loopw [8] (fun i wr => ∃ k : Nat, ∃ f : Nat → Bool, i = .int .i64 k ∧ k ≤ l.length ∧ Is5 wr W.heap.size 25 (fun _ => false) ∧ Is5 wr (W.heap.size + 1) 25 f ∧ (∀ j, j < 5 → f j = has (l.take k) j) ∧ Below W.heap.size W wr) (fun i _ => l.length - (intOf i).toNat)
  case atStart =>
    refine ⟨0, fun _ => false, rfl, by omega, ?_, ?_, fun j _ => ?_, ?_⟩
    · exact heap_alloc2_old _ _ _
    · exact heap_alloc2_new _ _ _
    · simp [has]
    · exact ((Below.refl _ _).alloc (Nat.le_refl _) _).alloc (by simp) _
  case round =>
    obtain ⟨k, f, rfl, hk, i1, i2, hf, hb⟩ := hrel
    have HF := Lib.hid hf
    clear hf
    by_cases hlt : k < l.length
    · obtain ⟨ad, rfl, hcell⟩ := hc k hlt
      have hts := take_get l k hlt
      generalize l[k]?.getD 0 = n at hcell hts
      have HT : Hid (∀ j, has (l.take (k + 1)) j = (has (l.take k) j || n == (j : Int))) := fun j => by rw [hts, has_snoc]
      clear hts
      have hcell' := cellB hb hcell
      clear hcell
      by_cases hin : 0 ≤ n ∧ n < 5
      · obtain ⟨n0, n1⟩ := hin
        have c0 := i2.cell n.toNat (by omega)
        have z0 := i2.free n.toNat
        go_wp2_with fail
        go_roundw
        case rel => exact ⟨k + 1, fun i => if i = n.toNat then true else f i, by go_num, by omega, i1.other (by simp) _, i2.set1 n.toNat (by omega) (fun i _ => rfl), fun j hj => by
              rw [HT.out, ← HF.out j hj]
              show (if j = n.toNat then true else f j) = _
              by_cases e : j = n.toNat
              · rw [if_pos e, show (n == (j : Int)) = true by simp; omega, Bool.or_true]
              · rw [if_neg e, show (n == (j : Int)) = false by simp; omega, Bool.or_false], hb.setCell (by simp) _⟩
        case measure => simp [intOf]; omega
      · have hout : Hid (∀ j : Nat, j < 5 → (n == (j : Int)) = false) := fun j hj => by simp; omega
        by_cases hneg : n < 0
        all_goals
          go_wp2_with fail
          go_roundw
          case rel => exact ⟨k + 1, f, by go_num, by omega, i1, i2, fun j hj => by rw [HT.out, ← HF.out j hj, hout.out j hj, Bool.or_false], hb⟩
          case measure => simp [intOf]; omega
    · obtain rfl : k = l.length := by omega
      have H0 := Lib.hid (HF.out 0 (by omega))
      have H1 := Lib.hid (HF.out 1 (by omega))
      have H2 := Lib.hid (HF.out 2 (by omega))
      have H3 := Lib.hid (HF.out 3 (by omega))
      have H4 := Lib.hid (HF.out 4 (by omega))
      have c0 := i2.cell 0 (by omega)
      have c1 := i2.cell 1 (by omega)
      have c2 := i2.cell 2 (by omega)
      have c3 := i2.cell 3 (by omega)
      have c4 := i2.cell 4 (by omega)
      have d0 := i1.cell 0 (by omega)
      have d1 := i1.cell 1 (by omega)
      have d2 := i1.cell 2 (by omega)
      have d3 := i1.cell 3 (by omega)
      have d4 := i1.cell 4 (by omega)
      have z0 := i1.free 0
      have z1 := i1.free 1
      have z2 := i1.free 2
      have z3 := i1.free 3
      have z4 := i1.free 4
      go_wp2_with fail
      refine bodyPost_ret (v := .agg #[.bool (f 0), .bool (f 1), .bool (f 2), .bool (f 3), .bool (f 4)]) (by simp [results, Try.results9, go_sem, d0, d1, d2, d3, d4]) rfl ⟨?_, ?_⟩
      · rw [H0.out, H1.out, H2.out, H3.out, H4.out, List.take_length]
      · exact ((((hb.setCell (Nat.le_refl _) _).setCell (Nat.le_refl _) _).setCell (Nat.le_refl _) _).setCell (Nat.le_refl _) _).setCell (Nat.le_refl _) _
theorem ret_of {v v' : Value} (h : v = v') : Ending.returned v = .returned v' := by rw [h]
def isIn (f : Nat → Bool) (n : Int) : Bool := decide (0 ≤ n ∧ n < 5) && f n.toNat
def off (f : Nat → Bool) (n : Int) (j : Nat) : Bool := f j && !(n == (j : Int))
/-- What an answer leaves. -/
def GotPost (f : Nat → Bool) (n : Int) (w : World) (e : Ending) (w' : World) : Prop :=
  e = .returned (.tuple #[.agg #[.bool (off f n 0), .bool (off f n 1), .bool (off f n 2), .bool (off f n 3), .bool (off f n 4)], .bool (isIn f n)]) ∧ Below w.heap.size w w'
theorem got_out (a b c d e : Bool) (n : Int) (h : n < 0 ∨ 4 < n) (w : World) : Calls Try.prog 10 #[.agg #[.bool a, .bool b, .bool c, .bool d, .bool e], .int .i64 n] w fun e' w' => e' = .returned (.tuple #[.agg #[.bool a, .bool b, .bool c, .bool d, .bool e], .bool false]) ∧ Below w.heap.size w w' := by
  rcases h with h | h
  all_goals
    go_enter Try.func10, Try.ntmps10
    go_wp2_with fail
    exact bodyPost_ret (v := .tuple #[.agg #[.bool a, .bool b, .bool c, .bool d, .bool e], .bool false]) (by simp [results, Try.results10, go_sem]) rfl ⟨rfl, ((Below.refl _ _).alloc (Nat.le_refl _) _).alloc (by simp) _⟩
set_option maxHeartbeats 1000000 in
theorem got0 (a b c d e : Bool) (w : World) : Calls Try.prog 10 #[.agg #[.bool a, .bool b, .bool c, .bool d, .bool e], .int .i64 0] w fun e' w' => e' = .returned (.tuple #[.agg #[.bool false, .bool b, .bool c, .bool d, .bool e], .bool a]) ∧ Below w.heap.size w w' := by
  cases a
  · go_enter Try.func10, Try.ntmps10
    go_wp2_with fail
    exact bodyPost_ret (v := .tuple #[.agg #[.bool false, .bool b, .bool c, .bool d, .bool e], .bool false]) (by simp [results, Try.results10, go_sem]) rfl ⟨rfl, ((Below.refl _ _).alloc (Nat.le_refl _) _).alloc (by simp) _⟩
  · go_enter Try.func10, Try.ntmps10
    go_wp2_with fail
    exact bodyPost_ret (v := .tuple #[.agg #[.bool false, .bool b, .bool c, .bool d, .bool e], .bool true]) (by simp [results, Try.results10, go_sem]) rfl ⟨rfl, ((Below.refl _ _).alloc (Nat.le_refl _) _).alloc (by simp) _⟩
set_option maxHeartbeats 1000000 in
theorem got1 (a b c d e : Bool) (w : World) : Calls Try.prog 10 #[.agg #[.bool a, .bool b, .bool c, .bool d, .bool e], .int .i64 1] w fun e' w' => e' = .returned (.tuple #[.agg #[.bool a, .bool false, .bool c, .bool d, .bool e], .bool b]) ∧ Below w.heap.size w w' := by
  cases b
  · go_enter Try.func10, Try.ntmps10
    go_wp2_with fail
    exact bodyPost_ret (v := .tuple #[.agg #[.bool a, .bool false, .bool c, .bool d, .bool e], .bool false]) (by simp [results, Try.results10, go_sem]) rfl ⟨rfl, ((Below.refl _ _).alloc (Nat.le_refl _) _).alloc (by simp) _⟩
  · go_enter Try.func10, Try.ntmps10
    go_wp2_with fail
    exact bodyPost_ret (v := .tuple #[.agg #[.bool a, .bool false, .bool c, .bool d, .bool e], .bool true]) (by simp [results, Try.results10, go_sem]) rfl ⟨rfl, ((Below.refl _ _).alloc (Nat.le_refl _) _).alloc (by simp) _⟩
set_option maxHeartbeats 1000000 in
theorem got2 (a b c d e : Bool) (w : World) : Calls Try.prog 10 #[.agg #[.bool a, .bool b, .bool c, .bool d, .bool e], .int .i64 2] w fun e' w' => e' = .returned (.tuple #[.agg #[.bool a, .bool b, .bool false, .bool d, .bool e], .bool c]) ∧ Below w.heap.size w w' := by
  cases c
  · go_enter Try.func10, Try.ntmps10
    go_wp2_with fail
    exact bodyPost_ret (v := .tuple #[.agg #[.bool a, .bool b, .bool false, .bool d, .bool e], .bool false]) (by simp [results, Try.results10, go_sem]) rfl ⟨rfl, ((Below.refl _ _).alloc (Nat.le_refl _) _).alloc (by simp) _⟩
  · go_enter Try.func10, Try.ntmps10
    go_wp2_with fail
    exact bodyPost_ret (v := .tuple #[.agg #[.bool a, .bool b, .bool false, .bool d, .bool e], .bool true]) (by simp [results, Try.results10, go_sem]) rfl ⟨rfl, ((Below.refl _ _).alloc (Nat.le_refl _) _).alloc (by simp) _⟩
set_option maxHeartbeats 1000000 in
theorem got3 (a b c d e : Bool) (w : World) : Calls Try.prog 10 #[.agg #[.bool a, .bool b, .bool c, .bool d, .bool e], .int .i64 3] w fun e' w' => e' = .returned (.tuple #[.agg #[.bool a, .bool b, .bool c, .bool false, .bool e], .bool d]) ∧ Below w.heap.size w w' := by
  cases d
  · go_enter Try.func10, Try.ntmps10
    go_wp2_with fail
    exact bodyPost_ret (v := .tuple #[.agg #[.bool a, .bool b, .bool c, .bool false, .bool e], .bool false]) (by simp [results, Try.results10, go_sem]) rfl ⟨rfl, ((Below.refl _ _).alloc (Nat.le_refl _) _).alloc (by simp) _⟩
  · go_enter Try.func10, Try.ntmps10
    go_wp2_with fail
    exact bodyPost_ret (v := .tuple #[.agg #[.bool a, .bool b, .bool c, .bool false, .bool e], .bool true]) (by simp [results, Try.results10, go_sem]) rfl ⟨rfl, ((Below.refl _ _).alloc (Nat.le_refl _) _).alloc (by simp) _⟩
set_option maxHeartbeats 1000000 in
theorem got4 (a b c d e : Bool) (w : World) : Calls Try.prog 10 #[.agg #[.bool a, .bool b, .bool c, .bool d, .bool e], .int .i64 4] w fun e' w' => e' = .returned (.tuple #[.agg #[.bool a, .bool b, .bool c, .bool d, .bool false], .bool e]) ∧ Below w.heap.size w w' := by
  cases e
  · go_enter Try.func10, Try.ntmps10
    go_wp2_with fail
    exact bodyPost_ret (v := .tuple #[.agg #[.bool a, .bool b, .bool c, .bool d, .bool false], .bool false]) (by simp [results, Try.results10, go_sem]) rfl ⟨rfl, ((Below.refl _ _).alloc (Nat.le_refl _) _).alloc (by simp) _⟩
  · go_enter Try.func10, Try.ntmps10
    go_wp2_with fail
    exact bodyPost_ret (v := .tuple #[.agg #[.bool a, .bool b, .bool c, .bool d, .bool false], .bool true]) (by simp [results, Try.results10, go_sem]) rfl ⟨rfl, ((Below.refl _ _).alloc (Nat.le_refl _) _).alloc (by simp) _⟩
theorem got_any (f : Nat → Bool) (n : Int) (w : World) : Calls Try.prog 10 #[.agg #[.bool (f 0), .bool (f 1), .bool (f 2), .bool (f 3), .bool (f 4)], .int .i64 n] w (GotPost f n w) := by
  by_cases h : n < 0 ∨ 4 < n
  · have e0 : ∀ j : Nat, j < 5 → (n == (j : Int)) = false := fun j hj => by simp; omega
    refine (got_out _ _ _ _ _ n h w).mono fun e' w' ⟨he, hb⟩ => ⟨?_, hb⟩
    rw [he]
    refine ret_of ?_
    have e1 : ∀ j, j < 5 → off f n j = f j := fun j hj => by unfold off; rw [e0 j hj]; simp
    have e2 : isIn f n = false := by unfold isIn; rw [decide_eq_false (by omega)]; rfl
    rw [e1 0 (by omega), e1 1 (by omega), e1 2 (by omega), e1 3 (by omega), e1 4 (by omega), e2]
  · have : n = 0 ∨ n = 1 ∨ n = 2 ∨ n = 3 ∨ n = 4 := by omega
    rcases this with rfl | rfl | rfl | rfl | rfl
    · refine (got0 _ _ _ _ _ w).mono fun e' w' ⟨he, hb⟩ => ⟨?_, hb⟩; rw [he]; simp [off, isIn]
    · refine (got1 _ _ _ _ _ w).mono fun e' w' ⟨he, hb⟩ => ⟨?_, hb⟩; rw [he]; simp [off, isIn]
    · refine (got2 _ _ _ _ _ w).mono fun e' w' ⟨he, hb⟩ => ⟨?_, hb⟩; rw [he]; simp [off, isIn]
    · refine (got3 _ _ _ _ _ w).mono fun e' w' ⟨he, hb⟩ => ⟨?_, hb⟩; rw [he]; simp [off, isIn]
    · refine (got4 _ _ _ _ _ w).mono fun e' w' ⟨he, hb⟩ => ⟨?_, hb⟩; rw [he]; simp [off, isIn]
def lf (f : Nat → Bool) : Nat → List Int
  | 0 => []
  | j + 1 => if f j then lf f j ++ [(j : Int)] else lf f j
theorem lf_len (f : Nat → Bool) (j : Nat) : (lf f j).length ≤ j := by
  induction j with
  | zero => simp [lf]
  | succ j ih =>
    unfold lf
    split
    · rw [List.length_append]; simp; exact ih
    · omega
theorem lf_le (f : Nat → Bool) {i j : Nat} (h : i ≤ j) : ∃ r, lf f j = lf f i ++ r := by
  induction j with
  | zero =>
    obtain rfl : i = 0 := by omega
    exact ⟨[], by rw [List.append_nil]⟩
  | succ j ih =>
    rcases Nat.lt_or_ge i (j + 1) with h1 | h1
    · obtain ⟨r, hr⟩ := ih (by omega)
      simp only [lf]
      split
      · exact ⟨r ++ [(j : Int)], by rw [hr, List.append_assoc]⟩
      · exact ⟨r, hr⟩
    · obtain rfl : i = j + 1 := by omega
      exact ⟨[], by simp⟩
theorem lf_get (f : Nat → Bool) {i j : Nat} (h : i < j) (hf : f i = true) : (lf f i).length < (lf f j).length ∧ (lf f j)[(lf f i).length]? = some (i : Int) := by
  obtain ⟨r, hr⟩ := lf_le f (i := i + 1) (j := j) h
  have e : lf f (i + 1) = lf f i ++ [(i : Int)] := by simp only [lf]; rw [if_pos hf]
  rw [hr, e]
  simp
theorem lf_yes (f : Nat → Bool) {i : Nat} (hf : f i = true) : (lf f (i + 1)).length = (lf f i).length + 1 := by simp [lf, hf]
theorem lf_no (f : Nat → Bool) {i : Nat} (hf : f i = false) : lf f (i + 1) = lf f i := by simp [lf, hf]
theorem idx5 (f : Nat → Bool) (k : Nat) (hk : k < 5) (w : World) : (Instr.index 23 (.agg #[.bool (f 0), .bool (f 1), .bool (f 2), .bool (f 3), .bool (f 4)]) (.int .i64 (k : Int))).run Try.prog w = .ok (.bool (f k)) w := by
  match k, hk with
  | 0, _ => exact (by kernel_rfl : _ = _)
  | 1, _ => exact (by kernel_rfl : _ = _)
  | 2, _ => exact (by kernel_rfl : _ = _)
  | 3, _ => exact (by kernel_rfl : _ = _)
  | 4, _ => exact (by kernel_rfl : _ = _)
/-- Who is left. -/
def LeftPost (f : Nat → Bool) (w : World) (e : Ending) (w' : World) : Prop :=
  ∃ A cap, e = .returned (.slice A (lf f 5).length cap) ∧ (∀ i, i < (lf f 5).length → ∃ ad, A = some ad ∧ w'.cell? (ad.add i) = some (.int .i64 ((lf f 5)[i]?.getD 0))) ∧ Below w.heap.size w w'
theorem iinfo : (Try.prog.info? 3).map (fun i => (i.zero, i.size, i.bytes)) = some (some (.int .i64 0), 1, 8) := by kernel_rfl
set_option maxHeartbeats 2000000 in
theorem left_any (f : Nat → Bool) (w : World) : Calls Try.prog 11 #[.agg #[.bool (f 0), .bool (f 1), .bool (f 2), .bool (f 3), .bool (f 4)]] w (LeftPost f w) := by
  go_enter Try.func11, Try.ntmps11
  go_wp2_with fail
  go_loopw [3, 8] (fun v i wr => ∃ k : Nat, i = .int .i64 k ∧ k ≤ 5 ∧ wr.ownsRow (w.heap.size + 1) 3 1 v (lf f k).length ((lf f k).map (.int .i64)) ∧ Below w.heap.size w wr ∧ w.heap.size + 1 ≤ wr.heap.size) (fun _ i _ => 5 - (intOf i).toNat)
  case atStart => exact ⟨0, rfl, by omega, ⟨by simp [lf], .inl ⟨rfl, rfl⟩⟩, (Below.refl _ _).alloc (Nat.le_refl _) _, by simp⟩
  case round =>
    obtain ⟨k, rfl, hk, hown, hb, hsz⟩ := hrel
    by_cases hlt : k < 5
    · have ix := idx5 f k hlt
      have hn := lf_len f k
      cases hf : f k
      · rw [hf] at ix
        have HF := Lib.hid (lf_no f hf)
        clear hf
        go_wp2_with fail
        go_roundw
        case rel => exact ⟨k + 1, by go_num, by omega, by rw [HF.out]; exact hown, hb, hsz⟩
        case measure => simp [intOf]; omega
      · rw [hf] at ix
        have HF := Lib.hid (lf_yes f hf)
        have HG := Lib.hid (show (lf f (k + 1)).map (Value.int .i64) = (lf f k).map (Value.int .i64) ++ [.int .i64 (k : Int)] by simp [lf, hf])
        clear hf
        go_wp2_with (at_builtin
                     refine wpList_app1 _ rfl _ _ _ rfl (w.heap.size + 1) 3 (.int .i64 0) 8 Try.underlying22 iinfo rfl _ _ _ rfl (hown.alloc _) ⟨wr.heap.size, 0, none⟩ (.int .i64 (k : Int)) rfl ?c1 rfl (by omega) (by omega) (by simp; omega) ?_
                     case c1 => simp
                     intro A' cap' w4 hown4 hc4 hg4 hb4 hob4)
        have hb5 : Below w.heap.size w w4 := (hb.alloc hb.size _).trans (hb4.mono (by omega))
        have hs5 : w.heap.size + 1 ≤ w4.heap.size := by have := hg4.size; simp at this; omega
        go_roundw
        case rel => exact ⟨k + 1, by go_num, by omega, by rw [HF.out, HG.out]; exact hown4, hb5, hs5⟩
        case measure => simp [intOf]; omega
    · obtain rfl : k = 5 := by omega
      obtain ⟨A, cap, rfl, hc⟩ := own_slice hown
      go_wp2_with fail
      go_ret
      exact ⟨A, cap, rfl, (own_ints hown).2, hb⟩
/-- Must nobody answer? -/
def none5 (f : Nat → Bool) : Bool := !(f 0 || f 1 || f 2 || f 3 || f 4)
def eqB (f g : Nat → Bool) : Bool := (f 0 == g 0) && ((f 1 == g 1) && ((f 2 == g 2) && ((f 3 == g 3) && (f 4 == g 4))))
theorem eq_arr (d : Nat) (f g : Nat → Bool) (w : World) : (Op.equalIn (d + 2) 23 (.agg #[.bool (f 0), .bool (f 1), .bool (f 2), .bool (f 3), .bool (f 4)]) (.agg #[.bool (g 0), .bool (g 1), .bool (g 2), .bool (g 3), .bool (g 4)])).run Try.prog w = .ok (eqB f g) w := by
  have := equalIn_arr (P := Try.prog) w (d + 1) 23 5 4 #[.bool (f 0), .bool (f 1), .bool (f 2), .bool (f 3), .bool (f 4)] #[.bool (g 0), .bool (g 1), .bool (g 2), .bool (g 3), .bool (g 4)] Try.underlying23 (fun _ => by kernel_rfl) [f 0 == g 0, f 1 == g 1, f 2 == g 2, f 3 == g 3, f 4 == g 4] rfl (fun i q h => by
    have e : ∀ (a b : Bool) (w : World), (Op.equalIn (d + 1) 4 (.bool a) (.bool b)).run Try.prog w = .ok (a == b) w := fun a b w => by
      simp [Op.equalIn, run_underlying Try.underlying4]
    match i with
    | 0 => injection h with h; subst h; exact ⟨_, _, fun _ => by kernel_rfl, fun _ => by kernel_rfl, fun w => e _ _ w⟩
    | 1 => injection h with h; subst h; exact ⟨_, _, fun _ => by kernel_rfl, fun _ => by kernel_rfl, fun w => e _ _ w⟩
    | 2 => injection h with h; subst h; exact ⟨_, _, fun _ => by kernel_rfl, fun _ => by kernel_rfl, fun w => e _ _ w⟩
    | 3 => injection h with h; subst h; exact ⟨_, _, fun _ => by kernel_rfl, fun _ => by kernel_rfl, fun w => e _ _ w⟩
    | 4 => injection h with h; subst h; exact ⟨_, _, fun _ => by kernel_rfl, fun _ => by kernel_rfl, fun w => e _ _ w⟩
    | i + 5 => simp at h)
  rw [this]
  simp [eqB]
theorem eq_pend (f g : Nat → Bool) (w : World) : (binOp .eql 25 (.agg #[.bool (f 0), .bool (f 1), .bool (f 2), .bool (f 3), .bool (f 4)]) (.agg #[.bool (g 0), .bool (g 1), .bool (g 2), .bool (g 3), .bool (g 4)])).run Try.prog w = .ok (.bool (eqB f g)) w := by
  have h := run_equalIn_struct (P := Try.prog) w 9999 25 #[.bool (f 0), .bool (f 1), .bool (f 2), .bool (f 3), .bool (f 4)] #[.bool (g 0), .bool (g 1), .bool (g 2), .bool (g 3), .bool (g 4)] (by kernel_rfl) (by kernel_rfl)
  have p1 : ∀ (f : Nat → Bool) (w : World), (part 23 #[.bool (f 0), .bool (f 1), .bool (f 2), .bool (f 3), .bool (f 4)] 0).run Try.prog w = .ok (.agg #[.bool (f 0), .bool (f 1), .bool (f 2), .bool (f 3), .bool (f 4)]) w := fun f w => by kernel_rfl
  have e := eq_arr 9997 f g w
  simp only [binOp, Op.equal, Op.maxDepth]
  simp only [Program.fieldsOf, Try.underlying25, Op.eqFields] at h
  simp [p1, e] at h
  simp [h]
  cases eqB f g <;> rfl
theorem done_any (f : Nat → Bool) (w : World) : Calls Try.prog 12 #[.agg #[.bool (f 0), .bool (f 1), .bool (f 2), .bool (f 3), .bool (f 4)]] w fun e w' => e = .returned (.bool (none5 f)) ∧ Below w.heap.size w w' := by
  have he : ∀ w, (binOp .eql 25 (.agg #[.bool (f 0), .bool (f 1), .bool (f 2), .bool (f 3), .bool (f 4)]) (.agg #[.bool false, .bool false, .bool false, .bool false, .bool false])).run Try.prog w = .ok (.bool (none5 f)) w := fun w => by
    have := eq_pend f (fun _ => false) w
    rw [this]
    congr 1
    congr 1
    unfold eqB none5
    cases f 0 <;> cases f 1 <;> cases f 2 <;> cases f 3 <;> cases f 4 <;> rfl
  go_enter Try.func12, Try.ntmps12
  go_wp2_with fail
  go_ret
  exact ⟨rfl, (Below.refl _ _).alloc (Nat.le_refl _) _⟩
theorem none_lf (f : Nat → Bool) : none5 f = ((lf f 5).length == 0) := by
  unfold none5
  simp only [lf]
  cases f 0 <;> cases f 1 <;> cases f 2 <;> cases f 3 <;> cases f 4 <;> rfl
end Go.Proofs.Ytanggnjifckhmaa.Pend
