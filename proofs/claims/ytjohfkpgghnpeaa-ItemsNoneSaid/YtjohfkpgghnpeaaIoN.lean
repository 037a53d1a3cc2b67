-- packed by pack.py, a program of this claim's repo
import Derived.Test.YtjohfkpgghnpeaaIoB
import Derived.Test.YtjohfkpgghnpeaaIoC
import Derived.Test.YtjohfkpgghnpeaaIoF
import Derived.Test.YtjohfkpgghnpeaaIoG
import Derived.Test.YtjohfkpgghnpeaaIoH
import Derived.Test.YtjohfkpgghnpeaaIoD
import Derived.Test.YtjohfkpgghnpeaaIoL
import Derived.Test.YtjohfkpgghnpeaaIoM
section
namespace Go.Proofs.Ytjohfkpgghnpeaa.ItemC
open Go Go.RowKit
open Go.Proofs.Ytjohfkpgghnpeaa.Gen
open Go.Proofs.Ytjohfkpgghnpeaa.Num
open Go.Proofs.Ytjohfkpgghnpeaa.NumC
set_option linter.unusedVariables false
def blk (s : List UInt8) : List UInt8 := (List.range 32).map fun i => s[i % s.length]?.getD 0
def row (s : List UInt8) (k j : Nat) : Int := if j < k then ((s[j % s.length]?.getD 0).toNat : Int) else 0
def Row (w : World) (g : Nat) (s : List UInt8) (k : Nat) : Prop := (∀ j, j < 32 → w.cell? ⟨g, j, none⟩ = some (.int .u8 (row s k j))) ∧ ∀ j, w.frozen? ⟨g, j, none⟩ = false
def zer : List UInt8 := List.replicate 32 0
theorem zeros_any (w : World) : Calls Try.prog 89 #[] w fun e w' => e = .returned (.string ⟨zer.toArray⟩) ∧ Below w.heap.size w w' := by
  go_enter Try.func89, Try.ntmps89
  go_wp2_with fail
  refine (Try.strings_Repeat_main ⟨#[0]⟩ 32 _ (by omega) (by omega) (by show 1 * 32 ≤ _; omega) (by show 0 < 1; omega)).mono ?_; rintro e w1 ⟨rfl, hb⟩
  go_wp2_with fail
  go_ret
  exact ⟨ret_str (by decide), hb⟩
theorem keep1 {g j : Nat} {v : Value} {w0 w w' : World} (hb : Below w.heap.size w w') (h : w.cell? ⟨g, j, none⟩ = some v ∧ Below w0.heap.size w0 w) : w'.cell? ⟨g, j, none⟩ = some v ∧ Below w0.heap.size w0 w' :=
  ⟨cellB hb h.1, thenB h.2 hb⟩
def mayB (l : List UInt8) : Bool := l == [] || (l.length == 32 && !(l == zer))
set_option maxHeartbeats 2000000 in
theorem may_any (v : Int) (l : List UInt8) (hl : l.length ≤ 140737488355328) (w : World) : Calls Try.prog 62 #[.agg #[.int .u64 v, .string ⟨l.toArray⟩]] w fun e w' => e = .returned (.bool (mayB l)) ∧ Below w.heap.size w w' := by
  by_cases h1 : l = []
  · subst h1
    go_enter Try.func62, Try.ntmps62
    go_wp2_with fail
    refine name_world (fun w' => w'.cell? ⟨w.heap.size, 1, none⟩ = some (.string ⟨#[]⟩) ∧ Below w.heap.size w w') ⟨by simp, (Below.refl _ _).alloc (Nat.le_refl _) _⟩ ?_
    rintro w1 ⟨hc, hb⟩
    go_quiet (fail)
    go_wp2_with fail
    go_ret
    exact ⟨rfl, bN hb _⟩
  · have e1 : (l == []) = false := by simpa using h1
    by_cases h2 : l.length = 32
    · have e3 : mayB l = !(l == zer) := by simp [mayB, h1, h2]
      rw [e3]
      clear e3
      go_enter Try.func62, Try.ntmps62
      go_wp2_with fail
      refine name_world (fun w' => w'.cell? ⟨w.heap.size, 1, none⟩ = some (.string ⟨l.toArray⟩) ∧ Below w.heap.size w w') ⟨by simp, (Below.refl _ _).alloc (Nat.le_refl _) _⟩ ?_
      rintro w1 ⟨hc, hb⟩
      go_region_held3 (fun w' => w'.cell? ⟨w.heap.size, 1, none⟩ = some (.string ⟨l.toArray⟩) ∧ Below w.heap.size w w')
        (first | exact ⟨hc, hb.drew⟩ | exact ⟨cellB (by assumption) hc, thenB hb (by assumption)⟩ | exact keep1 (by assumption) (by assumption))
        (first | (go_at_call 89; refine (zeros_any _).mono ?_; rintro e w2 ⟨rfl, hb2⟩))
      rename_i hHeld
      have hB := hHeld.2
      go_wp2_with fail
      go_ret
      exact ⟨rfl, hB⟩
    · have e2 : ((l.length : Int) == 32) = false := by simp; omega
      have e3 : mayB l = false := by simp [mayB, h1, h2]
      rw [e3]
      clear e3
      go_enter Try.func62, Try.ntmps62
      go_wp2_with fail
      refine name_world (fun w' => w'.cell? ⟨w.heap.size, 1, none⟩ = some (.string ⟨l.toArray⟩) ∧ Below w.heap.size w w') ⟨by simp, (Below.refl _ _).alloc (Nat.le_refl _) _⟩ ?_
      rintro w1 ⟨hc, hb⟩
      go_quiet (fail)
      go_wp2_with fail
      go_ret
      exact ⟨rfl, bN hb _⟩
theorem newer_any (v u : Int) (s t : ByteArray) (w : World) : Calls Try.prog 64 #[.agg #[.int .u64 v, .string s], .agg #[.int .u64 u, .string t]] w fun e w' => e = .returned (.bool (decide (u < v))) ∧ Below w.heap.size w w' := by
  go_enter Try.func64, Try.ntmps64
  go_wp2_with fail
  go_ret
  exact ⟨rfl, ((Below.refl _ _).alloc (Nat.le_refl _) _).alloc (by simp) _⟩
def itemP (v : Nat) (l : List UInt8) : List UInt8 := if mayB l then put v ++ text l else []
def nearD (l : List UInt8) (m : Int) : List UInt8 := if m = 0 then [] else if m = 1 then l.take 40 else blk (49 :: l.take 9)
end Go.Proofs.Ytjohfkpgghnpeaa.ItemC
end
