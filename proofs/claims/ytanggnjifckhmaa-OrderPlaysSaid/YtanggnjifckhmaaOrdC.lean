/- Contracts of layer 21 (order): numbers, the one that was used last first, each once. -/
import Derived.Test.YtanggnjifckhmaaOrdI
import Derived.Test.YtanggnjifckhmaaShelf
import Derived.Test.YtanggnjifckhmaaAppS
import Derived.Deep.RegionWith
import Derived.Deep.QuietTactic
import Derived.BigQuiet
import Derived.BigRegion
import Derived.Laws.IdiomCopy
import Derived.Outline
namespace Go.Proofs.Ytanggnjifckhmaa.OrdC
open Go Go.RowKit
open Go.Proofs.Ytanggnjifckhmaa.Gen
open Go.Proofs.Ytanggnjifckhmaa.Own
open Go.Proofs.Ytanggnjifckhmaa.RowK
set_option linter.unusedVariables false
theorem own_move {w w1 : World} {base : Nat} {e : TypeId} {size n : Nat} {v : Value} {xs : List Value} (h : w.ownsRow base e size v n xs) (hm : ∀ k, v.ownBlock = some k → w1.heap[k]? = w.heap[k]?) : w1.ownsRow base e size v n xs := by
  obtain ⟨h1, h2⟩ := h
  refine ⟨h1, ?_⟩
  rcases h2 with h2 | ⟨g, cap, cur, rfl, hg, hh, r⟩
  · exact .inl h2
  · exact .inr ⟨g, cap, cur, rfl, hg, (hm g (by simp [Value.ownBlock])).trans hh, r⟩
/-- An order in memory. -/
structure IsOrd (w : World) (B g : Nat) (v : Value) (l : List Int) : Prop where
  blk : Blk w g 46 #[v]
  own : w.ownsRow B 3 1 v l.length (flat l)
  low : B ≤ g
  ne : v.ownBlock ≠ some g
  len : l.length ≤ 900
/-- All but the order's own two blocks is as it was. -/
structure Kept (W w' : World) (g : Nat) (v : Value) : Prop where
  os : w'.os = W.os
  tape : w'.tape = W.tape
  output : w'.output = W.output
  size : W.heap.size ≤ w'.heap.size
  block : ∀ k, k < W.heap.size → k ≠ g → some k ≠ v.ownBlock → w'.heap[k]? = W.heap[k]?
theorem Kept.of_below {W w' : World} (g : Nat) (v : Value) (h : Below W.heap.size W w') : Kept W w' g v := ⟨h.os, h.tape, h.output, h.size, fun k hk _ _ => h.block k hk⟩
theorem Kept.below {W w' : World} {B g : Nat} {v : Value} {l : List Int} (h : Kept W w' g v) (ho : IsOrd W B g v l) : Below B W w' :=
  ⟨h.os, h.tape, h.output, h.size, fun k hk => h.block k (by have := ho.blk.lt; have := ho.low; omega) (by have := ho.low; omega) (fun e => by have := (ho.own.lt k e.symm).1; omega)⟩
theorem IsOrd.b {w w' : World} {B g : Nat} {v : Value} {l : List Int} (h : IsOrd w B g v l) (hb : Below w.heap.size w w') : IsOrd w' B g v l :=
  ⟨h.blk.b hb, own_move h.own (fun k hk => hb.block k (h.own.lt k hk).2), h.low, h.ne, h.len⟩
/-- The row of an order that is not empty. -/
theorem IsOrd.row {w : World} {B g : Nat} {v : Value} {l : List Int} (h : IsOrd w B g v l) (hl : l ≠ []) : ∃ g1 cap cur, v = .slice (some ⟨g1, 0, none⟩) l.length cap ∧ B ≤ g1 ∧ g1 ≠ g ∧ w.heap[g1]? = some (.cells cur 3 (0, 0)) ∧ l.length ≤ cap ∧ cap ≤ 9223372036854775807 ∧ cur.size = cap ∧ cur.toList.take l.length = flat l := by
  obtain ⟨g1, cap, cur, rfl, h1, h2, h3, h4, h5, h6⟩ := own_block h.own (List.length_pos_iff.2 hl)
  rw [Nat.mul_one] at h5 h6
  refine ⟨g1, cap, cur, rfl, h1, fun e => h.ne (by rw [e]; rfl), h2, h3, by unfold maxLen at h4; omega, h5, h6⟩
theorem row_cell {w : World} {g1 : Nat} {cur : Array Value} {l : List Int} (h2 : w.heap[g1]? = some (.cells cur 3 (0, 0))) (h6 : cur.toList.take l.length = flat l) (j : Nat) (hj : j < l.length) : w.cell? ⟨g1, 0 + j, none⟩ = some (.int .i64 (l.getD j 0)) := by
  rw [Nat.zero_add, cell_blk h2, take_of_cur h6 j hj]
  unfold flat
  rw [List.getElem?_map, List.getElem?_eq_getElem hj, List.getD_eq_getElem?_getD, List.getElem?_eq_getElem hj]
  rfl
theorem new_ord (w : World) (v : Value) : IsOrd (w.alloc (.cells #[.slice none 0 0] 46)) w.heap.size w.heap.size (.slice none 0 0) [] :=
  ⟨Blk.fresh w _ _, ⟨rfl, Or.inl ⟨rfl, rfl⟩⟩, Nat.le_refl _, by simp [Value.ownBlock], by simp⟩
/-- Is a number there? -/
def hasB (l : List Int) (n : Int) : Bool := l.contains n
theorem has_nil (n : Int) (w : World) : Calls Try.prog 26 #[.pointer none, .int .i64 n] w fun e w' => e = .returned (.bool false) ∧ w = w' := by
  go_enter Try.func26, Try.ntmps26
  go_wp2_with fail
  go_ret
  exact ⟨rfl, rfl⟩
theorem has_any (W : World) (B g : Nat) (v : Value) (l : List Int) (n : Int) (h : IsOrd W B g v l) : Calls Try.prog 26 #[.pointer (some ⟨g, 0, none⟩), .int .i64 n] W fun e w' => e = .returned (.bool (hasB l n)) ∧ W = w' := by
  have hcell := h.blk.cell 0
  simp only [List.getElem?_toArray] at hcell
  by_cases hl : l = []
  · subst hl
    obtain ⟨A, cap, rfl, hcap⟩ := Own.own_slice h.own
    clear h
    go_enter Try.func26, Try.ntmps26
    go_wp2_with fail
    refine (Try.slices_Contains_int_empty A cap n _).mono ?_; rintro e w1 ⟨rfl, rfl⟩
    go_wp2_with fail
    go_ret
    exact ⟨rfl, rfl⟩
  · obtain ⟨g1, cap, cur, rfl, h1, h2, h3, h4, h5, h6, h7⟩ := h.row hl
    have hc := Try.slices_Contains_int g1 0 l.length cap l n W (Nat.le_refl _) (by omega) (row_cell h3 h7)
    rw [List.take_length, show l.contains n = hasB l n from rfl] at hc
    have HC := Lib.hid hc
    clear hc h h3 h7 h6 hl
    go_enter Try.func26, Try.ntmps26
    go_wp2_with fail
    refine HC.out.mono ?_; rintro e w1 ⟨rfl, rfl⟩
    go_wp2_with fail
    go_ret
    exact ⟨rfl, rfl⟩
theorem len_nil (w : World) : Calls Try.prog 25 #[.pointer none] w fun e w' => e = .returned (.int .i64 0) ∧ w = w' := by
  go_enter Try.func25, Try.ntmps25
  go_wp2_with fail
  go_ret
  exact ⟨rfl, rfl⟩
theorem len_any (W : World) (B g : Nat) (v : Value) (l : List Int) (h : IsOrd W B g v l) : Calls Try.prog 25 #[.pointer (some ⟨g, 0, none⟩)] W fun e w' => e = .returned (.int .i64 l.length) ∧ W = w' := by
  obtain ⟨A, cap, rfl, hcap⟩ := Own.own_slice h.own
  have hcell := h.blk.cell 0
  simp only [List.getElem?_toArray] at hcell
  clear h
  go_enter Try.func25, Try.ntmps25
  go_wp2_with fail
  go_ret
  exact ⟨rfl, rfl⟩
theorem all_nil (w : World) : Calls Try.prog 24 #[.pointer none] w fun e w' => e = .returned (.slice none 0 0) ∧ w = w' := by
  go_enter Try.func24, Try.ntmps24
  go_wp2_with fail
  go_ret
  exact ⟨rfl, rfl⟩
/-- All numbers: a row of the call's own. -/
def AllPost (l : List Int) (W : World) (e : Ending) (w' : World) : Prop :=
  ∃ A cap, e = .returned (.slice A l.length cap) ∧ w'.ownsRow W.heap.size 3 1 (.slice A l.length cap) l.length (flat l) ∧ Below W.heap.size W w'
theorem all_any (W : World) (B g : Nat) (v : Value) (l : List Int) (h : IsOrd W B g v l) : Calls Try.prog 24 #[.pointer (some ⟨g, 0, none⟩)] W (AllPost l W) := by
  have hcell := h.blk.cell 0
  simp only [List.getElem?_toArray] at hcell
  by_cases hl : l = []
  · subst hl
    obtain ⟨A, cap, rfl, hcap⟩ := Own.own_slice h.own
    clear h
    cases A with
    | none =>
      go_enter Try.func24, Try.ntmps24
      go_wp2_with fail
      refine (Try.slices_Clone_int_nil 0 cap _).mono ?_; rintro e w1 ⟨rfl, rfl⟩
      go_wp2_with fail
      go_ret
      exact ⟨none, 0, rfl, ⟨rfl, .inl ⟨rfl, rfl⟩⟩, Below.refl _ _⟩
    | some a =>
      go_enter Try.func24, Try.ntmps24
      go_wp2_with fail
      refine (Try.slices_Clone_int_zero a cap _).mono ?_; rintro e w1 ⟨v1, rfl, hown, _, hb⟩
      obtain ⟨A1, cap1, rfl, _⟩ := Own.own_slice hown
      go_wp2_with fail
      go_ret
      exact ⟨A1, cap1, rfl, hown, hb⟩
  · obtain ⟨g1, cap, cur, rfl, h1, h2, h3, h4, h5, h6, h7⟩ := h.row hl
    have hlen := h.len
    have hc := Try.slices_Clone_int g1 0 l.length cap l W (Nat.le_refl _) (by omega) (row_cell h3 h7)
    rw [List.take_length] at hc
    have HC := Lib.hid hc
    clear hc h h3 h7 h6 hl
    go_enter Try.func24, Try.ntmps24
    go_wp2_with fail
    refine HC.out.mono ?_; rintro e w1 ⟨v1, rfl, hown, _, hb⟩
    obtain ⟨A1, cap1, rfl, _⟩ := Own.own_slice hown
    go_wp2_with fail
    go_ret
    exact ⟨A1, cap1, rfl, hown, hb⟩
theorem heap_set {w : World} {g c : Nat} {cur : Array Value} {t : TypeId} (h : w.heap[g]? = some (.cells cur t (0, 0))) (u : Value) : (w.setCell ⟨g, c, none⟩ u).heap[g]? = some (.cells (cur.setIfInBounds c u) t (0, 0)) := by
  have hlt := (Array.getElem?_eq_some_iff.1 h).1
  have h' : w.heap[g] = .cells cur t (0, 0) := (Array.getElem?_eq_some_iff.1 h).2
  show (w.heap.modify g _)[g]? = _
  rw [Array.getElem?_eq_getElem (by simpa using hlt), Array.getElem_modify_self, h']
  rfl
/-- Cells laid in a row, one behind the other. -/
theorem setCells_row {g : Nat} {e : TypeId} : ∀ (vs : List Value) (o : Nat) (w : World) (cur : Array Value), w.heap[g]? = some (.cells cur e (0, 0)) → o + vs.length ≤ cur.size →
    ∃ cur', (w.setCells g o vs).heap[g]? = some (.cells cur' e (0, 0)) ∧ cur'.size = cur.size ∧ cur'.toList = cur.toList.take o ++ (vs ++ cur.toList.drop (o + vs.length))
  | [], o, w, cur, h, _ => ⟨cur, h, rfl, by simp⟩
  | v :: vs, o, w, cur, h, hle => by
    simp only [List.length_cons] at hle
    obtain ⟨cur', h1, h2, h3⟩ := setCells_row vs (o + 1) (w.setCell ⟨g, o, none⟩ v) (cur.setIfInBounds o v) (heap_set h v) (by simp; omega)
    refine ⟨cur', h1, by simpa using h2, ?_⟩
    have hlt : o < cur.toList.length := by simp; omega
    rw [h3, Array.toList_setIfInBounds, List.set_eq_take_append_cons_drop, if_pos hlt]
    have e1 : (cur.toList.take o ++ v :: cur.toList.drop (o + 1)).take (o + 1) = cur.toList.take o ++ [v] := by
      have h5 : (cur.toList.take o ++ [v]).length = o + 1 := by rw [List.length_append, List.length_take]; simp; simp at hlt; omega
      rw [show cur.toList.take o ++ v :: cur.toList.drop (o + 1) = (cur.toList.take o ++ [v]) ++ cur.toList.drop (o + 1) by simp]
      exact List.take_left' h5
    have e2 : (cur.toList.take o ++ v :: cur.toList.drop (o + 1)).drop (o + 1 + vs.length) = cur.toList.drop (o + (vs.length + 1)) := by
      have h5 : (cur.toList.take o ++ [v]).length = o + 1 := by rw [List.length_append, List.length_take]; simp; simp at hlt; omega
      rw [show cur.toList.take o ++ v :: cur.toList.drop (o + 1) = (cur.toList.take o ++ [v]) ++ cur.toList.drop (o + 1) by simp, ← h5, List.drop_length_add_append, h5, List.drop_drop]
      congr 1
      omega
    rw [e1, e2]
    simp
theorem heap_setCells {g : Nat} : ∀ (vs : List Value) (o : Nat) (w : World), (w.setCells g o vs).heap.size = w.heap.size ∧ (w.setCells g o vs).os = w.os ∧ (w.setCells g o vs).tape = w.tape ∧ (w.setCells g o vs).output = w.output ∧ ∀ k, k ≠ g → (w.setCells g o vs).heap[k]? = w.heap[k]?
  | [], _, _ => ⟨rfl, rfl, rfl, rfl, fun _ _ => rfl⟩
  | v :: vs, o, w => by
    obtain ⟨h1, h2, h3, h4, h5⟩ := heap_setCells vs (o + 1) (w.setCell ⟨g, o, none⟩ v)
    exact ⟨h1.trans (by simp [World.setCell]), h2, h3, h4, fun k hk => (h5 k hk).trans (Below.heap_setCell w ⟨g, o, none⟩ v k hk)⟩
/-- Without a number. -/
def without (l : List Int) (n : Int) : List Int := l.filter (· != n)
theorem idx_of {l : List Int} {n : Int} (h : l.contains n = true) : ∃ i : Nat, Lib.idxOf l n = (i : Int) ∧ i < l.length ∧ l.take i ++ l.drop (i + 1) = l.erase n := by
  have hm : n ∈ l := by simpa using h
  have hi : l.idxOf n < l.length := List.idxOf_lt_length_iff.2 hm
  refine ⟨l.idxOf n, ?_, hi, ?_⟩
  · have := Lib.idxOf_hit l l.length (l.idxOf n) n hi (Nat.le_refl _) (by rw [List.getD_eq_getElem?_getD, List.getElem?_eq_getElem hi]; simp) (fun j hj e => by
      have hjl : j < l.length := by omega
      rw [List.getD_eq_getElem?_getD, List.getElem?_eq_getElem hjl] at e
      have e : l[j] = n := e
      have := List.not_of_lt_findIdx (show j < l.findIdx (· == n) from hj)
      simp [e] at this)
    rwa [List.take_length] at this
  · rw [List.erase_eq_eraseIdx_of_idxOf rfl, List.eraseIdx_eq_take_drop_succ]
theorem drop_out (p : Option Nat) (n : Int) (W : World) (B : Nat) (v : Value) (l : List Int) (h : ∀ g, p = some g → IsOrd W B g v l ∧ hasB l n = false) : Calls Try.prog 21 #[.pointer (p.map fun g => ⟨g, 0, none⟩), .int .i64 n] W fun e w' => e = .returned (.bool false) ∧ W = w' := by
  cases p with
  | none =>
    go_enter Try.func21, Try.ntmps21
    go_wp2_with fail
    refine (has_nil n _).mono ?_; rintro e w1 ⟨rfl, rfl⟩
    go_wp2_with fail
    go_ret
    exact ⟨rfl, rfl⟩
  | some g =>
    obtain ⟨h1, h2⟩ := h g rfl
    have hh := has_any W B g v l n h1
    rw [h2] at hh
    have HH := Lib.hid hh
    clear hh h
    go_enter Try.func21, Try.ntmps21
    go_wp2_with fail
    refine HH.out.mono ?_; rintro e w1 ⟨rfl, rfl⟩
    go_wp2_with fail
    go_ret
    exact ⟨rfl, rfl⟩
/-- What a call that turns an order leaves. -/
def OrdPost (W : World) (B g : Nat) (v : Value) (l : List Int) (val : Value) (e : Ending) (w' : World) : Prop :=
  e = .returned val ∧ ∃ v', IsOrd w' B g v' l ∧ Kept W w' g v ∧ ∀ k, v'.ownBlock = some k → v.ownBlock = some k ∨ W.heap.size ≤ k
theorem row_lit {w : World} {B g1 cap n : Nat} {cur : Array Value} {l : List Int} (h : w.heap[g1]? = some (.cells cur 3 (0, 0))) (hB : B ≤ g1) (hn : n = l.length) (hc : n ≤ cap) (hcm : cap ≤ 9223372036854775807) (hs : cur.size = cap) (ht : cur.toList.take n = flat l) : w.ownsRow B 3 1 (.slice (some ⟨g1, 0, none⟩) n cap) n (flat l) :=
  ⟨by rw [flat_len, Nat.mul_one, hn], .inr ⟨g1, cap, cur, rfl, hB, h, hc, by unfold maxLen; omega, by rw [hs, Nat.mul_one], by rw [Nat.mul_one]; exact ht⟩⟩
theorem kept_set {W w : World} {g : Nat} {v u : Value} (h : Kept W w g v) : Kept W (w.setCell ⟨g, 0, none⟩ u) g v :=
  ⟨h.os, h.tape, h.output, by have := h.size; simpa [World.setCell] using this, fun k hk hne hv => (Below.heap_setCell w ⟨g, 0, none⟩ u k hne).trans (h.block k hk hne hv)⟩
/-- An order's row turned, and the order told. -/
theorem ord_set {w : World} {B g g1 n cap : Nat} {u : Value} {l : List Int} (hg : w.heap[g]? = some (.cells #[u] 46 (0, 0))) (hrow : w.ownsRow B 3 1 (.slice (some ⟨g1, 0, none⟩) n cap) n (flat l)) (hl : l.length ≤ 900) (hlow : B ≤ g) (hne : g1 ≠ g) :
    IsOrd (w.setCell ⟨g, 0, none⟩ (.slice (some ⟨g1, 0, none⟩) n cap)) B g (.slice (some ⟨g1, 0, none⟩) n cap) l := by
  have hn : n = l.length := by have := hrow.1; rw [flat_len, Nat.mul_one] at this; exact this.symm
  subst hn
  refine ⟨heap_set hg _, own_move hrow (fun k hk => Below.heap_setCell w ⟨g, 0, none⟩ _ k ?_), hlow, ?_, hl⟩
  · have : g1 = k := by simpa [Value.ownBlock] using hk
    show k ≠ g
    omega
  · simpa [Value.ownBlock] using hne
theorem drop_st {W : World} {B g g1 cap q : Nat} {cur : Array Value} {l : List Int} {n : Int} (hg : Blk W g 46 #[.slice (some ⟨g1, 0, none⟩) l.length cap]) (h3 : W.heap[g1]? = some (.cells cur 3 (0, 0))) (h6 : cur.size = cap) (h7 : cur.toList.take l.length = flat l)
    (hel : (l.erase n).length = l.length - 1) (h1 : B ≤ g1) (h2 : g1 ≠ g) (h4 : l.length ≤ cap) (h5 : cap ≤ 9223372036854775807) (hlow : B ≤ g) (hlen : l.length ≤ 900) (hl : l ≠ []) :
    ((W.drewN q).setCells g1 0 ((l.erase n ++ List.replicate 1 0).map (Value.int .i64))).heap[g]? = some (.cells #[.slice (some ⟨g1, 0, none⟩) l.length cap] 46 (0, 0)) ∧
    ((W.drewN q).setCells g1 0 ((l.erase n ++ List.replicate 1 0).map (Value.int .i64))).ownsRow B 3 1 (.slice (some ⟨g1, 0, none⟩) (l.length - 1) cap) (l.length - 1) (flat (l.erase n)) ∧
    Kept W ((W.drewN q).setCells g1 0 ((l.erase n ++ List.replicate 1 0).map (Value.int .i64))) g (.slice (some ⟨g1, 0, none⟩) l.length cap) := by
  have hpos : 0 < l.length := List.length_pos_iff.2 hl
  have hvl : ((l.erase n ++ List.replicate 1 0).map (Value.int .i64)).length = l.length := by rw [List.length_map, List.length_append, hel, List.length_replicate]; omega
  obtain ⟨hs1, hs2, hs3, hs4, hs5⟩ := heap_setCells (g := g1) ((l.erase n ++ List.replicate 1 0).map (Value.int .i64)) 0 (W.drewN q)
  obtain ⟨cur', hr1, hr2, hr3⟩ := setCells_row ((l.erase n ++ List.replicate 1 0).map (Value.int .i64)) 0 (W.drewN q) cur h3 (by rw [hvl]; omega)
  refine ⟨(hs5 g (Ne.symm h2)).trans hg, row_lit hr1 h1 hel.symm (by omega) h5 (by rw [hr2, h6]) ?_, ⟨hs2, hs3, hs4, Nat.le_of_eq hs1.symm, fun k hk hkg hkv => hs5 k (fun e => hkv (by rw [e]; rfl))⟩⟩
  rw [hr3, List.take_zero, List.nil_append, List.map_append, List.append_assoc]
  unfold flat
  exact List.take_left' (by rw [List.length_map, hel])
set_option maxHeartbeats 2000000 in
theorem drop_in (W : World) (B g : Nat) (v : Value) (l : List Int) (n : Int) (h : IsOrd W B g v l) (hn : hasB l n = true) :
    Calls Try.prog 21 #[.pointer (some ⟨g, 0, none⟩), .int .i64 n] W (OrdPost W B g v (l.erase n) (.bool true)) := by
  have hl : l ≠ [] := by rintro rfl; cases hn
  have hh := has_any W B g v l n h
  rw [hn] at hh
  obtain ⟨i, hi1, hi2, hi3⟩ := idx_of hn
  have hlen := h.len
  obtain ⟨g1, cap, cur, rfl, h1, h2, h3, h4, h5, h6, h7⟩ := h.row hl
  have hcell := h.blk.cell 0
  simp only [List.getElem?_toArray] at hcell
  have hfr := h.blk.frozen 0
  have hidx := Try.slices_Index_int g1 0 l.length cap l n W (Nat.le_refl _) (by omega) (row_cell h3 h7)
  rw [List.take_length, hi1] at hidx
  have hdel := Try.slices_Delete_int_cells g1 0 l.length cap i (i + 1) l W (Nat.le_refl _) h4 h5 (by omega) (by omega) (row_cell h3 h7) (fun j hj => by unfold World.frozen?; rw [h3]; simp)
  rw [List.take_length, hi3, show i + 1 - i = 1 by omega] at hdel
  have hel : (l.erase n).length = l.length - 1 := List.length_erase_of_mem (by simpa [hasB] using hn)
  have HH := Lib.hid hh
  have HI := Lib.hid hidx
  have HD := Lib.hid hdel
  have HE := Lib.hid hel
  have hwi : IntKind.i64.wrap ((i : Int) + 1) = ((i + 1 : Nat) : Int) := by rw [IntKind.wrap_i64]; omega
  have H3 := Lib.hid h3
  have H6 := Lib.hid h6
  have H7 := Lib.hid h7
  have HO := h
  clear hh hidx hdel hel hi1 hi3 h3 h6 h7 h
  have hglt := HO.blk.lt
  have hblk := HO.blk
  have hne := HO.ne
  have hlow := HO.low
  clear HO
  have HB := Lib.hid hblk
  clear hblk
  go_enter Try.func21, Try.ntmps21
  go_wp2_with fail
  refine HH.out.mono ?_; rintro e w1 ⟨rfl, rfl⟩
  go_wp2_with fail
  refine HI.out.mono ?_; rintro e w1 ⟨rfl, rfl⟩
  go_wp2_with fail
  refine HD.out.mono ?_; rintro e w2 ⟨rfl, q, hw1⟩
  have hst := drop_st (n := n) (q := q) HB.out H3.out H6.out H7.out HE.out h1 h2 h4 h5 hlow hlen hl
  rw [← hw1] at hst
  obtain ⟨hg, hrow, hkept⟩ := hst
  have k0 : w2.cell? ⟨g, 0, none⟩ = some (.slice (some ⟨g1, 0, none⟩) l.length cap) := by rw [cell_blk hg]; rfl
  have k1 : w2.frozen? ⟨g, 0, none⟩ = false := by unfold World.frozen?; rw [hg]; simp
  clear hw1
  go_wp2_with fail
  go_ret
  exact ⟨rfl, _, ord_set hg hrow (by rw [HE.out]; omega) hlow h2, kept_set hkept, fun k hk => .inl hk⟩
theorem drop_any (W : World) (B g : Nat) (v : Value) (l : List Int) (n : Int) (h : IsOrd W B g v l) :
    Calls Try.prog 21 #[.pointer (some ⟨g, 0, none⟩), .int .i64 n] W (OrdPost W B g v (l.erase n) (.bool (hasB l n))) := by
  cases hh : hasB l n
  · refine (drop_out (some g) n W B v l (fun g' e => by injection e with e; subst e; exact ⟨h, hh⟩)).mono fun e w' ⟨he, hw⟩ => ?_
    subst hw
    have hne : l.erase n = l := List.erase_of_not_mem (by simpa [hasB] using hh)
    rw [hne]
    exact ⟨he, v, h, Kept.of_below g v (Below.refl _ _), fun k hk => .inl hk⟩
  · exact drop_in W B g v l n h hh
/-- A number set ahead of all. -/
theorem insert_first (W : World) (B : Nat) (v : Value) (l : List Int) (x : Int) (vb : Nat) (hl : l.length ≤ 900) (hown : W.ownsRow B 3 1 v l.length (flat l)) (hx : Blk W vb 3 #[.int .i64 x]) (hne : some vb ≠ v.ownBlock) (hB : B ≤ W.heap.size) :
    Calls Try.prog 30 #[v, .int .i64 0, .slice (some ⟨vb, 0, none⟩) 1 1] W (InsPost W B v l 0 x) := by
  cases l with
  | nil => exact insert_end W B v [] x vb (by simp) hown hx hB
  | cons a r =>
    obtain ⟨g, cap, cur, rfl, hBg, hg, hc, hcm, hsz, hcur⟩ := own_block hown (by simp)
    rw [Nat.mul_one] at hsz hcur
    rcases Nat.lt_or_ge cap ((a :: r).length + 1) with h2 | h2
    · exact insert_grow W B g cap cur (a :: r) 0 x vb (by simp) (by omega) hc h2 hg hB hsz hcur hx
    · exact insert_shift W B g cap cur (a :: r) 0 x vb (by simp) (by omega) h2 hcm hg hBg hsz hcur hx (fun e => hne (by rw [e]; rfl))
theorem use_nil (n : Int) (w : World) : Calls Try.prog 23 #[.pointer none, .int .i64 n] w fun e w' => e = .returned (.tuple #[]) ∧ w = w' := by
  go_enter Try.func23, Try.ntmps23
  go_wp2_with fail
  (first | refine bodyPost_end (results_none rfl _ _ _) rfl ?_ | refine bodyPost_ret (results_none rfl _ _ _) rfl ?_)
  exact ⟨rfl, rfl⟩
theorem ord_new {w : World} {B g : Nat} {u v : Value} {l : List Int} (hg : w.heap[g]? = some (.cells #[u] 46 (0, 0))) (hrow : w.ownsRow B 3 1 v l.length (flat l)) (hl : l.length ≤ 900) (hlow : B ≤ g) (hne : v.ownBlock ≠ some g) :
    IsOrd (w.setCell ⟨g, 0, none⟩ v) B g v l :=
  ⟨heap_set hg _, own_move hrow (fun k hk => Below.heap_setCell w ⟨g, 0, none⟩ _ k (by rintro rfl; exact hne hk)), hlow, hne, hl⟩
theorem Kept.drew {W w : World} {g : Nat} {v : Value} (h : Kept W w g v) : Kept W w.drew g v := ⟨h.os, h.tape, h.output, h.size, h.block⟩
theorem Kept.drewN {W w : World} {g : Nat} {v : Value} (h : Kept W w g v) (n : Nat) : Kept W (w.drewN n) g v := ⟨h.os, h.tape, h.output, h.size, h.block⟩
theorem IsOrd.drew {w : World} {B g : Nat} {v : Value} {l : List Int} (h : IsOrd w B g v l) : IsOrd w.drew B g v l := h.b (Below.refl _ _).drew
theorem IsOrd.drewN {w : World} {B g : Nat} {v : Value} {l : List Int} (h : IsOrd w B g v l) (n : Nat) : IsOrd (w.drewN n) B g v l := h.b (drewB _ _)
set_option maxHeartbeats 2000000 in
theorem use_any (W : World) (B g : Nat) (v : Value) (l : List Int) (n : Int) (h : IsOrd W B g v l) (hl : l.length ≤ 890) :
    Calls Try.prog 23 #[.pointer (some ⟨g, 0, none⟩), .int .i64 n] W (OrdPost W B g v (n :: l.erase n) (.tuple #[])) := by
  have hd := drop_any W B g v l n h
  have hglt := h.blk.lt
  have hlow := h.low
  have hel : (l.erase n).length ≤ l.length := List.length_erase_le
  obtain ⟨l1, hl1⟩ : ∃ l1, l1 = l.erase n := ⟨_, rfl⟩
  rw [← hl1] at hd hel ⊢
  have HD := Lib.hid hd
  clear hd hl1
  go_enter Try.func23, Try.ntmps23
  go_wp2_with fail
  refine HD.out.mono ?_; rintro e w1 ⟨rfl, v1, ho, hk, hob⟩
  have hcell := ho.blk.cell 0
  simp only [List.getElem?_toArray] at hcell
  have hfr := ho.blk.frozen 0
  have hg1 := ho.blk.lt
  have hx : Blk (w1.alloc (.cells #[.int .i64 n] 3)) w1.heap.size 3 #[.int .i64 n] := heap_alloc_new _ _
  have hbA : Below w1.heap.size w1 (w1.alloc (.cells #[.int .i64 n] 3)) := (Below.refl _ _).alloc (Nat.le_refl _) _
  have ho2 := ho.b hbA
  have hvn : some w1.heap.size ≠ v1.ownBlock := fun e => by have := (ho.own.lt _ e.symm).2; omega
  have hins := insert_first (w1.alloc (.cells #[.int .i64 n] 3)) B v1 l1 n w1.heap.size ho2.len ho2.own hx hvn (by simp; omega)
  have HI := Lib.hid hins
  clear hins
  go_wp2_with fail
  refine HI.out.mono ?_; rintro e w2 ⟨v2, rfl, hrow, hgr, hob2⟩
  have hgb : w2.heap[g]? = some (.cells #[v1] 46 (0, 0)) := (hgr.block g ho2.blk.lt (fun e => ho2.ne e.symm)).trans ho2.blk
  have hins0 : ins l1 0 n = n :: l1 := by simp [ins]
  rw [hins0] at hrow
  have hcell2 : w2.cell? ⟨g, 0, none⟩ = some v1 := by rw [cell_blk hgb]; rfl
  have hfr2 : w2.frozen? ⟨g, 0, none⟩ = false := by unfold World.frozen?; rw [hgb]; simp
  have hne2 : v2.ownBlock ≠ some g := by
    rcases hob2 with e | e
    · rw [e]; exact ho2.ne
    · rw [e]; simp; omega
  have hsz1 := hk.size
  have hszA : (w1.alloc (.cells #[.int .i64 n] 3)).heap.size = w1.heap.size + 1 := by simp
  have hkept : Kept W w2 g v := ⟨hgr.os.trans hk.os, hgr.tape.trans hk.tape, hgr.output.trans hk.output, by have := hgr.size; omega, fun k hk1 hk2 hk3 => by
    have e1 := hgr.block k (by omega) (fun e => by
      rcases hob k e.symm with e' | e'
      · exact hk3 e'.symm
      · omega)
    exact e1.trans ((Below.heap_alloc _ _ _ (by omega)).trans (hk.block k hk1 hk2 hk3))⟩
  obtain ⟨A2, cap2, rfl, hcap2⟩ := Own.own_slice hrow
  clear HI HD ho ho2 hx hgr hcell hfr
  go_wp2_with fail
  (first | refine bodyPost_end (results_none rfl _ _ _) rfl ?_ | refine bodyPost_ret (results_none rfl _ _ _) rfl ?_)
  refine ⟨rfl, .slice A2 (l1.length + 1) cap2, ord_new hgb hrow (by simp; omega) hlow hne2, kept_set hkept, fun k hk2 => ?_⟩
  rcases hob2 with e | e
  · rw [e] at hk2; exact hob k hk2
  · rw [e, hszA] at hk2; injection hk2 with hk2; exact .inr (by omega)
theorem pop_empty (p : Option Nat) (W : World) (B : Nat) (v : Value) (h : ∀ g, p = some g → IsOrd W B g v []) : Calls Try.prog 22 #[.pointer (p.map fun g => ⟨g, 0, none⟩)] W fun e w' => e = .returned (.tuple #[.int .i64 0, .bool false]) ∧ W = w' := by
  have hlen : Calls Try.prog 25 #[.pointer (p.map fun g => ⟨g, 0, none⟩)] W fun e w' => e = .returned (.int .i64 0) ∧ W = w' := by
    cases p with
    | none => exact len_nil W
    | some g => exact len_any W B g v [] (h g rfl)
  have HL := Lib.hid hlen
  clear hlen h
  go_enter Try.func22, Try.ntmps22
  go_wp2_with fail
  refine HL.out.mono ?_; rintro e w1 ⟨rfl, rfl⟩
  go_wp2_with fail
  go_ret2
  exact ⟨rfl, rfl⟩
set_option maxHeartbeats 4000000 in
theorem pop_any (W : World) (B g : Nat) (v : Value) (l : List Int) (x : Int) (h : IsOrd W B g v (l ++ [x])) :
    Calls Try.prog 22 #[.pointer (some ⟨g, 0, none⟩)] W (OrdPost W B g v l (.tuple #[.int .i64 x, .bool true])) := by
  have hln := len_any W B g v _ h
  have hlen := h.len
  obtain ⟨g1, cap, cur, rfl, h1, h2, h3, h4, h5, h6, h7⟩ := h.row (by simp)
  have hll : (l ++ [x]).length = l.length + 1 := by simp
  rw [hll] at hln h4 hlen
  have hcell : W.cell? ⟨g, 0, none⟩ = some (.slice (some ⟨g1, 0, none⟩) (l.length + 1) cap) := by rw [← hll]; exact h.blk.cell 0
  have hlast : W.cell? ⟨g1, l.length, none⟩ = some (.int .i64 x) := by
    have := row_cell h3 h7 l.length (by rw [hll]; omega)
    rw [Nat.zero_add] at this
    rw [this]
    simp
  have hfr := h.blk.frozen 0
  have hgb : W.heap[g]? = some (.cells #[.slice (some ⟨g1, 0, none⟩) (l.length + 1) cap] 46 (0, 0)) := by rw [← hll]; exact h.blk
  have hrow : W.ownsRow B 3 1 (.slice (some ⟨g1, 0, none⟩) l.length cap) l.length (flat l) := row_lit h3 h1 rfl (by omega) h5 h6 (by
    have : (flat (l ++ [x])).take l.length = flat l := by rw [flat_append]; exact List.take_left' (flat_len l)
    rw [← this, ← h7, List.take_take, Nat.min_eq_left (by rw [hll]; omega)])
  have hwr : IntKind.i64.wrap ((l.length : Int) + 1 - 1) = (l.length : Int) := by rw [IntKind.wrap_i64]; omega
  have hb0 : (0 : Int) ≤ (l.length : Int) := by omega
  have hb1 : (l.length : Int) < (l.length : Int) + 1 := by omega
  have hwr2 : IntKind.i64.wrap (l.length : Int) = (l.length : Int) := by rw [IntKind.wrap_i64]; omega
  have hb2 : (l.length : Int) ≤ (cap : Int) := by omega
  have hlow := h.low
  have HL := Lib.hid hln
  have HG := Lib.hid hgb
  have HR := Lib.hid hrow
  rw [hll]
  clear hln h h3 h6 h7 hgb hrow hll
  go_enter Try.func22, Try.ntmps22
  go_wp2_with fail
  refine HL.out.mono ?_; rintro e w1 ⟨rfl, rfl⟩
  go_wp2_with fail
  go_quiet (fail)
  go_wp2_with fail
  go_region_with fail
  all_goals
    go_wp2_with fail
    go_ret2
    have hk : Kept W ((W.drewN (nq + 1)).setCell ⟨g, 0, none⟩ (.slice (some ⟨g1, 0, none⟩) l.length cap)) g (.slice (some ⟨g1, 0, none⟩) (l.length + 1) cap) := kept_set (Kept.drewN (Kept.of_below g _ (Below.refl _ _)) _)
    have ho : IsOrd ((W.drewN (nq + 1)).setCell ⟨g, 0, none⟩ (.slice (some ⟨g1, 0, none⟩) l.length cap)) B g (.slice (some ⟨g1, 0, none⟩) l.length cap) l := ord_set (w := W.drewN (nq + 1)) HG.out HR.out (by omega) hlow h2
    first
      | exact ⟨rfl, _, ho, hk, fun k hk => .inl hk⟩
      | exact ⟨rfl, _, ho.drew, hk.drew, fun k hk => .inl hk⟩
end Go.Proofs.Ytanggnjifckhmaa.OrdC
