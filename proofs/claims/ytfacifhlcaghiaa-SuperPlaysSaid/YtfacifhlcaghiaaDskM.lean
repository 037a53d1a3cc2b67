/- Contracts of layer 4 (disk): made. -/
import Derived.Test.YtfacifhlcaghiaaDskR
namespace Go.Proofs.Ytfacifhlcaghiaa.Dsk
open Go Go.RowKit
open Go.Proofs.Ytfacifhlcaghiaa.Gen
open Go.Proofs.Ytfacifhlcaghiaa.Own
open Go.Proofs.Ytfacifhlcaghiaa.RowK
set_option linter.unusedVariables false
def NewPost (n : Nat) (W : World) (e : Ending) (w' : World) : Prop :=
  ∃ h : Hd, e = .returned (.tuple #[ptr h, .int .i64 0]) ∧ IsDk w' W.heap.size h (List.replicate n blankL) [] ∧ Below W.heap.size W w'
set_option maxRecDepth 20000 in
set_option maxHeartbeats 2000000 in
theorem new_in (W : World) (n : Nat) (h1 : 1 ≤ n) (hn : n ≤ 4096) : Calls Try.prog 15 #[.int .i64 n] W (NewPost n W) := by
  have d1 : decide ((n : Int) < 1) = false := decide_eq_false (by omega)
  have d2 : decide (4096 < (n : Int)) = false := decide_eq_false (by omega)
  go_enter Try.func15, Try.ntmps15
  go_wp2_with fail
  refine (blank_any _).mono ?_; rintro e w1 ⟨rfl, b1⟩
  have bA : Below w1.heap.size w1 (w1.alloc (.cells #[.string ⟨blankL.toArray⟩] 9)) := (Below.refl _ _).alloc (Nat.le_refl _) _
  have hrp := repeat_any (w1.alloc (.cells #[.string ⟨blankL.toArray⟩] 9)) n h1 hn w1.heap.size blankL (Blk.fresh _ _ _)
  unfold RepPost at hrp
  have esz : (w1.alloc (.cells #[.string ⟨blankL.toArray⟩] 9)).heap.size = w1.heap.size + 1 := by simp
  rw [esz] at hrp
  clear esz
  have HRP := Lib.hid hrp
  have hb1 := b1.trans (bA.mono b1.size)
  have hs1 := b1.size
  clear hrp bA b1
  go_wp2_with fail
  refine HRP.out.mono ?_; rintro e w2 ⟨rfl, ho, b2⟩
  have hb2 := hb1.trans (b2.mono (by omega))
  have hs2 := b2.size
  have HO := Lib.hid ho
  clear ho b2 HRP
  go_wp2_with fail
  go_ret2
  have bB : Below w2.heap.size w2 (w2.alloc (.cells #[.slice (some ⟨w1.heap.size + 1, 0, none⟩) n n, .slice none 0 0] 82)) := (Below.refl _ _).alloc (Nat.le_refl _) _
  have hl : (List.replicate n blankL).length = n := List.length_replicate
  have hf : flatS (List.replicate n blankL) = List.replicate n (sv blankL) := by unfold flatS; rw [List.map_replicate]
  have hlt := (HO.out.lt (w1.heap.size + 1) rfl).2
  refine ⟨⟨w2.heap.size, .slice (some ⟨w1.heap.size + 1, 0, none⟩) n n, .slice none 0 0⟩, rfl, ⟨Blk.fresh _ _ _, ?_, ⟨rfl, .inl ⟨rfl, rfl⟩⟩, hb2.size, ?_, by simp [Value.ownBlock], fun k _ => by simp [Value.ownBlock], ok_new hn, by simp, by rw [hl]; exact h1⟩, hb2.trans (bB.mono hb2.size)⟩
  · rw [hl, hf]
    have h := own_below HO.out bB
    obtain ⟨e1, e2⟩ := h
    refine ⟨e1, ?_⟩
    rcases e2 with e2 | ⟨g, c, cur, e3, hg, r⟩
    · exact .inl e2
    · exact .inr ⟨g, c, cur, e3, by omega, r⟩
  · simp only [Value.ownBlock]
    intro e
    injection e with e
    omega
theorem new_out (W : World) (n : Int) (h : n < 1 ∨ 4096 < n) : Calls Try.prog 15 #[.int .i64 n] W fun e w' => e = .returned (.tuple #[.pointer none, .int .i64 1]) ∧ W = w' := by
  by_cases h1 : n < 1
  · have d1 : decide (n < 1) = true := decide_eq_true h1
    clear h
    go_enter Try.func15, Try.ntmps15
    go_wp2_with fail
    go_ret2
    exact ⟨rfl, rfl⟩
  · have d1 : decide (n < 1) = false := decide_eq_false h1
    have d2 : decide (4096 < n) = true := decide_eq_true (by omega)
    clear h
    go_enter Try.func15, Try.ntmps15
    go_wp2_with fail
    go_ret2
    exact ⟨rfl, rfl⟩
end Go.Proofs.Ytfacifhlcaghiaa.Dsk
