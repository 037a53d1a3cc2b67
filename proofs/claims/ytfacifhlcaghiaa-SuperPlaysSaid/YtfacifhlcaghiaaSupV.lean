/- Layer 5: a disk of two sectors or more from a world on, and what is done with it. -/
import Derived.Test.YtfacifhlcaghiaaSupQ
namespace Go.Proofs.Ytfacifhlcaghiaa.Sup
open Go Go.RowKit
open Go.Proofs.Ytfacifhlcaghiaa.Gen
open Go.Proofs.Ytfacifhlcaghiaa.Own
open Go.Proofs.Ytfacifhlcaghiaa.RowK
open Go.Proofs.Ytfacifhlcaghiaa.Num
open Go.Proofs.Ytfacifhlcaghiaa.NumC
open Go.Proofs.Ytfacifhlcaghiaa.Dsk
set_option linter.unusedVariables false
set_option linter.unusedSimpArgs false
/-- A disk from a world on. -/
def DkF (W1 : World) (g : Nat) (S : List Sec) (L : List Wr) (w : World) : Prop := ∃ vA vB, IsDk w W1.heap.size ⟨g, vA, vB⟩ S L ∧ Below W1.heap.size W1 w
theorem DkF.size {W1 w : World} {g : Nat} {S : List Sec} {L : List Wr} (h : DkF W1 g S L w) : W1.heap.size ≤ w.heap.size := by
  obtain ⟨_, _, _, b⟩ := h
  exact b.size
theorem DkF.below {W1 w : World} {g : Nat} {S : List Sec} {L : List Wr} (h : DkF W1 g S L w) : Below W1.heap.size W1 w := by
  obtain ⟨_, _, _, b⟩ := h
  exact b
theorem DkF.b {W1 w w' : World} {g : Nat} {S : List Sec} {L : List Wr} (h : DkF W1 g S L w) (b : Below w.heap.size w w') : DkF W1 g S L w' := by
  obtain ⟨vA, vB, d, k⟩ := h
  exact ⟨vA, vB, d.b b, k.trans (b.mono k.size)⟩
theorem DkF.post {W1 w w' : World} {g : Nat} {S S' : List Sec} {L L' : List Wr} {vA vB val : Value} {e : Ending} (d : IsDk w W1.heap.size ⟨g, vA, vB⟩ S L) (b : Below W1.heap.size W1 w) (h : DkPost w W1.heap.size ⟨g, vA, vB⟩ S' L' val e w') : e = .returned val ∧ DkF W1 g S' L' w' := by
  obtain ⟨rfl, vA', vB', d', k', _⟩ := h
  exact ⟨rfl, vA', vB', d', b.trans (k'.below d)⟩
theorem dk_next {W1 w : World} {g : Nat} {S : List Sec} {a : Nat} {t : Sec} {M : Nat} (h : DkF W1 g S [] w) (q : Two S a t M) (hM : M + 2 < 18446744073709551616) :
    Calls Try.prog 41 #[.pointer (some ⟨g, 0, none⟩), .int .i64 0] w fun e w' => e = .returned (.int .u64 (nextN S [] 0)) ∧ DkF W1 g S [] w' := by
  obtain ⟨vA, vB, d, b⟩ := h
  have := next_any w W1.heap.size (some ⟨g, vA, vB⟩) S [] d 0 (by omega) (by omega) (by have := q.best.1; omega)
  refine this.mono ?_
  rintro e w' ⟨rfl, b'⟩
  exact ⟨rfl, DkF.b ⟨vA, vB, d, b⟩ b'⟩
theorem dk_write {W1 w : World} {g : Nat} {S : List Sec} {n : Nat} (h : DkF W1 g S [] w) (h0 : n ≠ 0) (hn : n < 18446744073709551616) (t : Sec) (ht : t.length ≤ 48) (hl : 2 ≤ S.length) :
    Calls Try.prog 34 #[.pointer (some ⟨g, 0, none⟩), .int .i64 0, .int .u64 n, .string ⟨t.toArray⟩] w fun e w' => e = .returned (.int .i64 0) ∧ DkF W1 g S [⟨((0 : Nat) : Int) + (n : Int) % 2, putL n t⟩] w' := by
  obtain ⟨vA, vB, d, b⟩ := h
  have := swrite_in w W1.heap.size ⟨g, vA, vB⟩ S [] d (by simp) 0 n h0 hn t ht (by omega)
  exact this.mono fun e w' h => DkF.post d b h
theorem dk_sync {W1 w : World} {g : Nat} {S : List Sec} {L : List Wr} (h : DkF W1 g S L w) :
    Calls Try.prog 19 #[.pointer (some ⟨g, 0, none⟩)] w fun e w' => e = .returned (.tuple #[]) ∧ DkF W1 g (syncL S L) [] w' := by
  obtain ⟨vA, vB, d, b⟩ := h
  exact (sync_any w W1.heap.size ⟨g, vA, vB⟩ S L d).mono fun e w' h => DkF.post d b h
theorem dk_crash {W1 w : World} {g : Nat} {S : List Sec} {L : List Wr} (h : DkF W1 g S L w) (f : Int) (h0 : 0 ≤ f) (h1 : f < 18446744073709551616) :
    Calls Try.prog 20 #[.pointer (some ⟨g, 0, none⟩), .int .u64 f] w fun e w' => e = .returned (.tuple #[]) ∧ DkF W1 g (crashL f S L) [] w' := by
  obtain ⟨vA, vB, d, b⟩ := h
  exact (crash_any w W1.heap.size ⟨g, vA, vB⟩ S L f h0 h1 d).mono fun e w' h => DkF.post d b h
theorem dk_read {W1 w : World} {g : Nat} {S : List Sec} {a : Nat} {t : Sec} {M : Nat} (h : DkF W1 g S [] w) (q : Two S a t M) :
    Calls Try.prog 35 #[.pointer (some ⟨g, 0, none⟩), .int .i64 0] w fun e w' => e = .returned (.tuple #[.int .u64 a, .string ⟨t.toArray⟩, .bool (decide (a ≠ 0))]) ∧ DkF W1 g S [] w' := by
  obtain ⟨vA, vB, d, b⟩ := h
  have := sread_any w W1.heap.size (some ⟨g, vA, vB⟩) S [] d 0 (by omega) (by omega)
  rw [q.read] at this
  refine this.mono ?_
  rintro e w' ⟨rfl, b'⟩
  exact ⟨rfl, DkF.b ⟨vA, vB, d, b⟩ b'⟩
theorem dk_new (w : World) (m : Nat) (h0 : 1 ≤ m) (hm : m ≤ 4096) :
    Calls Try.prog 15 #[.int .i64 m] w fun e w' => ∃ g, e = .returned (.tuple #[.pointer (some ⟨g, 0, none⟩), .int .i64 0]) ∧ DkF w g (List.replicate m blankL) [] w' := by
  have h := new_in w m h0 hm
  unfold NewPost at h
  refine h.mono ?_
  rintro e w' ⟨⟨g, vA, vB⟩, rfl, d, b⟩
  exact ⟨g, rfl, vA, vB, d, b⟩
theorem awake5_f {W1 w : World} {g : Nat} {S : List Sec} {L : List Wr} (h : DkF W1 g S L w) : Calls Try.prog 32 #[] w fun e w' => e = .returned (.bool true) ∧ DkF W1 g S L w' := by
  refine (awake5_any w).mono ?_
  rintro e w' ⟨rfl, b⟩
  exact ⟨rfl, h.b b⟩
theorem next_none (w : World) : Calls Try.prog 41 #[.pointer none, .int .i64 0] w fun e w' => e = .returned (.int .u64 1) ∧ Below w.heap.size w w' := next_any w 0 none [] [] ⟨rfl, rfl⟩ 0 (by omega) (by omega) (by decide)
end Go.Proofs.Ytfacifhlcaghiaa.Sup
