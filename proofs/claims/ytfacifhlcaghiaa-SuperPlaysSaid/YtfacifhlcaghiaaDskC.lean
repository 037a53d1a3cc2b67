/- Contracts of layer 4 (disk): what reads, and what is not there. -/
import Derived.Test.YtfacifhlcaghiaaDskP
import Derived.Test.YtfacifhlcaghiaaProg
import Derived.WalkSpells
import Derived.Deep.RegionHeld3
import Derived.Deep.RegionWith
import Derived.Deep.QuietTactic
import Derived.BigQuiet
import Derived.BigRegion
import Derived.Outline
namespace Go.Proofs.Ytfacifhlcaghiaa.Dsk
open Go Go.RowKit
open Go.Proofs.Ytfacifhlcaghiaa.Gen
open Go.Proofs.Ytfacifhlcaghiaa.Own
open Go.Proofs.Ytfacifhlcaghiaa.RowK
set_option linter.unusedVariables false
/-- A disk in memory. -/
structure IsDk (w : World) (B : Nat) (h : Hd) (S : List Sec) (L : List Wr) : Prop where
  blk : Blk w h.g 82 #[h.vA, h.vB]
  rs : w.ownsRow B 9 1 h.vA S.length (flatS S)
  rl : w.ownsRow B 84 2 h.vB L.length (flatW L)
  low : B ≤ h.g
  nA : h.vA.ownBlock ≠ some h.g
  nB : h.vB.ownBlock ≠ some h.g
  nAB : ∀ k, h.vA.ownBlock = some k → h.vB.ownBlock ≠ some k
  ok : OkD S L
  few : L.length ≤ 1000
  one : 1 ≤ S.length
/-- All but the disk's own blocks is as it was. -/
structure KeptD (W w' : World) (h : Hd) : Prop where
  os : w'.os = W.os
  tape : w'.tape = W.tape
  output : w'.output = W.output
  size : W.heap.size ≤ w'.heap.size
  block : ∀ k, k < W.heap.size → ¬ h.mine k → w'.heap[k]? = W.heap[k]?
theorem KeptD.of_below {W w' : World} (h : Hd) (hb : Below W.heap.size W w') : KeptD W w' h := ⟨hb.os, hb.tape, hb.output, hb.size, fun k hk _ => hb.block k hk⟩
theorem IsDk.lt {w : World} {B : Nat} {h : Hd} {S : List Sec} {L : List Wr} (d : IsDk w B h S L) {k : Nat} (hk : h.mine k) : B ≤ k ∧ k < w.heap.size := by
  rcases hk with rfl | hk | hk
  · exact ⟨d.low, d.blk.lt⟩
  · exact d.rs.lt k hk
  · exact d.rl.lt k hk
theorem IsDk.move {w w' : World} {B : Nat} {h : Hd} {S : List Sec} {L : List Wr} (d : IsDk w B h S L) (hm : ∀ k, h.mine k → w'.heap[k]? = w.heap[k]?) : IsDk w' B h S L :=
  ⟨(hm h.g (.inl rfl)).trans d.blk, own_moveD d.rs (fun k hk => hm k (.inr (.inl hk))), own_moveD d.rl (fun k hk => hm k (.inr (.inr hk))), d.low, d.nA, d.nB, d.nAB, d.ok, d.few, d.one⟩
theorem IsDk.b {w w' : World} {B : Nat} {h : Hd} {S : List Sec} {L : List Wr} (d : IsDk w B h S L) (hb : Below w.heap.size w w') : IsDk w' B h S L :=
  d.move (fun k hk => hb.block k (d.lt hk).2)
theorem KeptD.below {W w' : World} {B : Nat} {h : Hd} {S : List Sec} {L : List Wr} (k : KeptD W w' h) (d : IsDk W B h S L) : Below B W w' :=
  ⟨k.os, k.tape, k.output, k.size, fun q hq => k.block q (by have := d.blk.lt; have := d.low; omega) (fun e => by have := (d.lt e).1; omega)⟩
/-- Another disk stays as it is. -/
theorem IsDk.other {w w' : World} {B B' : Nat} {h h' : Hd} {S S' : List Sec} {L L' : List Wr} (d : IsDk w B h S L) (k : KeptD w w' h') (hne : ∀ q, h.mine q → ¬ h'.mine q) : IsDk w' B h S L :=
  d.move (fun q hq => k.block q (d.lt hq).2 (hne q hq))
theorem KeptD.trans {A B C : World} {h h' : Hd} (k1 : KeptD A B h) (k2 : KeptD B C h') (hm : ∀ q, q < A.heap.size → h'.mine q → h.mine q) : KeptD A C h :=
  ⟨k2.os.trans k1.os, k2.tape.trans k1.tape, k2.output.trans k1.output, Nat.le_trans k1.size k2.size, fun q hq hn => (k2.block q (Nat.lt_of_lt_of_le hq k1.size) (fun e => hn (hm q hq e))).trans (k1.block q hq hn)⟩
/-- The sectors' row. -/
theorem IsDk.rowA {w : World} {B : Nat} {h : Hd} {S : List Sec} {L : List Wr} (d : IsDk w B h S L) : ∃ g1 cap, h.vA = .slice (some ⟨g1, 0, none⟩) S.length cap ∧ B ≤ g1 ∧ g1 ≠ h.g ∧ ∀ j, j < S.length → w.cell? ⟨g1, j, none⟩ = some (sv (S.getD j [])) ∧ w.frozen? ⟨g1, j, none⟩ = false := by
  obtain ⟨g1, cap, cur, e, h1, h2, h3, h4, h5, h6⟩ := own_block d.rs d.one
  rw [Nat.mul_one] at h5 h6
  refine ⟨g1, cap, e, h1, fun e2 => d.nA (by rw [e, ← e2]; rfl), fun j hj => ⟨?_, by unfold World.frozen?; rw [h2]; simp⟩⟩
  have hf := flatS_get hj
  rw [← h6, List.getElem?_take, if_pos hj] at hf
  rw [cell_blk h2, List.getD_eq_getElem?_getD, List.getElem?_eq_getElem hj]
  simpa using hf
/-- The writings' row. -/
theorem IsDk.rowB {w : World} {B : Nat} {h : Hd} {S : List Sec} {L : List Wr} (d : IsDk w B h S L) (hL : L ≠ []) : ∃ g2 cap, h.vB = .slice (some ⟨g2, 0, none⟩) L.length cap ∧ B ≤ g2 ∧ g2 < w.heap.size ∧ g2 ≠ h.g ∧ ∀ j, (hj : j < L.length) → w.cell? ⟨g2, j * 2, none⟩ = some (.int .i64 L[j].a) ∧ w.cell? ⟨g2, j * 2 + 1, none⟩ = some (sv L[j].s) := by
  obtain ⟨g2, cap, cur, e, h1, h2, h3, h4, h5, h6⟩ := own_block d.rl (List.length_pos_iff.2 hL)
  refine ⟨g2, cap, e, h1, (Array.getElem?_eq_some_iff.1 h2).1, fun e2 => d.nB (by rw [e, ← e2]; rfl), fun j hj => ?_⟩
  obtain ⟨f1, f2⟩ := flatW_get hj
  rw [← h6, List.getElem?_take, if_pos (by omega)] at f1 f2
  rw [cell_blk h2, cell_blk h2]
  exact ⟨by simpa using f1, by simpa using f2⟩
theorem IsDk.cells {w : World} {B : Nat} {h : Hd} {S : List Sec} {L : List Wr} (d : IsDk w B h S L) : w.cell? ⟨h.g, 0, none⟩ = some h.vA ∧ w.cell? ⟨h.g, 1, none⟩ = some h.vB ∧ w.frozen? ⟨h.g, 0, none⟩ = false ∧ w.frozen? ⟨h.g, 1, none⟩ = false :=
  ⟨d.blk.cell 0, d.blk.cell 1, d.blk.frozen 0, d.blk.frozen 1⟩
/-- A disk's pointer. -/
def ptr (h : Hd) : Value := .pointer (some ⟨h.g, 0, none⟩)
theorem sectors_nil (w : World) : Calls Try.prog 18 #[.pointer none] w fun e w' => e = .returned (.int .i64 0) ∧ w = w' := by
  go_enter Try.func18, Try.ntmps18
  go_wp2_with fail
  go_ret
  exact ⟨rfl, rfl⟩
theorem sectors_any (w : World) (B : Nat) (h : Hd) (S : List Sec) (L : List Wr) (d : IsDk w B h S L) : Calls Try.prog 18 #[ptr h] w fun e w' => e = .returned (.int .i64 S.length) ∧ w = w' := by
  unfold ptr
  obtain ⟨g, vA, vB⟩ := h
  obtain ⟨g1, cap, rfl, _⟩ := d.rowA
  obtain ⟨c0, _⟩ := d.cells
  clear d
  simp only at c0
  go_enter Try.func18, Try.ntmps18
  go_wp2_with fail
  go_ret
  exact ⟨rfl, rfl⟩
theorem later_nil (w : World) : Calls Try.prog 24 #[.pointer none] w fun e w' => e = .returned (.int .i64 0) ∧ w = w' := by
  go_enter Try.func24, Try.ntmps24
  go_wp2_with fail
  go_ret
  exact ⟨rfl, rfl⟩
theorem later_any (w : World) (B : Nat) (h : Hd) (S : List Sec) (L : List Wr) (d : IsDk w B h S L) : Calls Try.prog 24 #[ptr h] w fun e w' => e = .returned (.int .i64 L.length) ∧ w = w' := by
  unfold ptr
  obtain ⟨g, vA, vB⟩ := h
  obtain ⟨A, cap, rfl, _⟩ := own_slice d.rl
  obtain ⟨_, c0, _⟩ := d.cells
  clear d
  simp only at c0
  go_enter Try.func24, Try.ntmps24
  go_wp2_with fail
  go_ret
  exact ⟨rfl, rfl⟩
/-- A sector that there is. -/
theorem has_in (w : World) (B : Nat) (h : Hd) (S : List Sec) (L : List Wr) (d : IsDk w B h S L) (n : Nat) (hn : n < S.length) : Calls Try.prog 48 #[ptr h, .int .i64 n] w fun e w' => e = .returned (.bool true) ∧ w = w' := by
  have hs := Lib.hid (sectors_any w B h S L d)
  clear d
  go_enter Try.func48, Try.ntmps48
  go_wp2_with fail
  refine hs.out.mono ?_; rintro e w1 ⟨rfl, rfl⟩
  go_wp2_with fail
  go_ret
  exact ⟨rfl, rfl⟩
theorem has_out (w : World) (B : Nat) (h : Hd) (S : List Sec) (L : List Wr) (d : IsDk w B h S L) (a : Int) (hn : ¬ (0 ≤ a ∧ a < S.length)) : Calls Try.prog 48 #[ptr h, .int .i64 a] w fun e w' => e = .returned (.bool false) ∧ w = w' := by
  have hs := Lib.hid (sectors_any w B h S L d)
  clear d
  by_cases h0 : 0 ≤ a
  · have h1 : decide (a < (S.length : Int)) = false := decide_eq_false (by omega)
    clear hn
    go_enter Try.func48, Try.ntmps48
    go_wp2_with fail
    refine hs.out.mono ?_; rintro e w1 ⟨rfl, rfl⟩
    go_wp2_with fail
    go_ret
    exact ⟨rfl, rfl⟩
  · have h1 : decide (0 ≤ a) = false := decide_eq_false h0
    clear hn
    go_enter Try.func48, Try.ntmps48
    go_wp2_with fail
    go_ret
    exact ⟨rfl, rfl⟩
theorem has_nil (w : World) (a : Int) : Calls Try.prog 48 #[.pointer none, .int .i64 a] w fun e w' => e = .returned (.bool false) ∧ w = w' := by
  have hs := Lib.hid (sectors_nil w)
  by_cases h0 : 0 ≤ a
  · have h1 : decide (a < 0) = false := decide_eq_false (by omega)
    go_enter Try.func48, Try.ntmps48
    go_wp2_with fail
    refine hs.out.mono ?_; rintro e w1 ⟨rfl, rfl⟩
    go_wp2_with fail
    go_ret
    exact ⟨rfl, rfl⟩
  · have h1 : decide (0 ≤ a) = false := decide_eq_false h0
    go_enter Try.func48, Try.ntmps48
    go_wp2_with fail
    go_ret
    exact ⟨rfl, rfl⟩
end Go.Proofs.Ytfacifhlcaghiaa.Dsk
