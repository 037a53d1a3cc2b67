-- packed by pack.py, a program of this claim's repo
import Derived.Test.YtjohfkpgghnpeaaIyB
import Derived.Test.YtjohfkpgghnpeaaIyC
import Derived.Test.YtjohfkpgghnpeaaIyG
import Derived.Test.YtjohfkpgghnpeaaIyH
import Derived.Test.YtjohfkpgghnpeaaIyI
import Derived.Test.YtjohfkpgghnpeaaIyD
import Derived.Test.YtjohfkpgghnpeaaIyM
import Derived.Test.YtjohfkpgghnpeaaIyN
section
namespace Go.Proofs.Ytjohfkpgghnpeaa.ItemC
open Go Go.RowKit
open Go.Proofs.Ytjohfkpgghnpeaa.Gen
open Go.Proofs.Ytjohfkpgghnpeaa.Num
open Go.Proofs.Ytjohfkpgghnpeaa.NumC
set_option linter.unusedVariables false
def blk (s : List UInt8) : List UInt8 := (List.range 32).map fun i => s[i % s.length]?.getD 0
def row (s : List UInt8) (k j : Nat) : Int := if j < k then ((s[j % s.length]?.getD 0).toNat : Int) else 0
def Row (w : World) (g : Nat) (s : List UInt8) (k : Nat) : Prop := (∀ j, j < 32 → w.cell? ⟨g, j, none⟩ = some (.int .u8 (row s k j))) ∧ ∀ j, w.frozen? ⟨g, j, none⟩ = false
theorem Row.set {w : World} {g : Nat} {s : List UInt8} {k : Nat} (h : Row w g s k) (hk : k < 32) : Row (w.setCell ⟨g, k, none⟩ (.int .u8 ((s[k % s.length]?.getD 0).toNat : Int))) g s (k + 1) := by
  refine ⟨fun j hj => ?_, fun j => by rw [World.frozen?_setCell]; exact h.2 j⟩
  rw [cell_set (h.1 j hj)]
  unfold row
  by_cases hjk : j = k
  · subst hjk
    rw [if_pos rfl, if_pos (by omega)]
  · rw [if_neg hjk]
    by_cases hlt : j < k
    · rw [if_pos hlt, if_pos (by omega)]
    · rw [if_neg hlt, if_neg (by omega)]
set_option maxRecDepth 20000 in
theorem block_str (s : List UInt8) (w : World) (g k : Nat) (h : Row w g s k) (hk : k = 32 ∨ s = []) :
    (convert 121 9 (.slice (some ⟨g, 0, none⟩) 32 32)).run Try.prog w = .ok (.string ⟨(blk s).toArray⟩) w := by
  have := run_convert_bytes_arg (P := Try.prog) w 121 5 Try.underlying121 Try.underlying5 g 0 32 32 ((List.range 32).map fun i => ((s[i % s.length]?.getD 0).toNat : Int)) (by simp) (fun i hi => by
    have hi : i < 32 := hi
    have := h.1 i hi
    rw [Nat.zero_add, this]
    rw [List.getD_eq_getElem?_getD, List.getElem?_map, List.getElem?_range hi]
    show _ = some (Value.int .u8 ((s[i % s.length]?.getD 0).toNat : Int))
    unfold row
    rcases hk with rfl | rfl
    · rw [if_pos hi]
    · show some (Value.int .u8 (if i < k then _ else _)) = _
      split <;> rfl) 9 Try.underlying9
  rw [this]
  unfold blk strOfNums
  rw [List.map_map]
  congr 5
  funext i
  simp
theorem make32 (w : World) : (Instr.makeSlice 121 (.int .i64 32) (.int .i64 32)).run Try.prog w = .ok (.slice (some ⟨w.heap.size, 0, none⟩) 32 32) (w.alloc (.cells (Array.replicate 32 (.int .u8 0)) 5)) := by
  obtain ⟨i, h1, h2, h3, h4⟩ := Own.info_one (P := Try.prog) (e := 5) (z := .int .u8 0) (s := 1) (b := 1) (by kernel_rfl)
  have := run_makeSlice (P := Try.prog) w 121 5 i _ Try.underlying121 h1 h2 .i64 .i64 32 32 (by omega) (by omega) (by rw [h3]; decide) (by rw [h4]; decide) (by decide)
  have e : madeCells (Value.int .u8 0).cells 32 = Array.replicate 32 (.int .u8 0) := by kernel_rfl
  rw [this, h3, ← e]
  rfl
theorem row0 (w : World) (s : List UInt8) : Row (w.alloc (.cells (Array.replicate 32 (.int .u8 0)) 5)) w.heap.size s 0 := by
  refine ⟨fun j hj => ?_, fun j => ?_⟩
  · rw [World.cell?_alloc_new]
    unfold row
    rw [if_neg (by omega)]
    simp [hj]
  · unfold World.frozen?
    rw [heap_alloc_new w _]
    simp
theorem idx (s : List UInt8) (j : Nat) (h : j < s.length) (h2 : j < (⟨s.toArray⟩ : ByteArray).size) : ((⟨s.toArray⟩ : ByteArray)[j]'h2).toNat = (s[j]?.getD 0).toNat := by
  rw [List.getElem?_eq_getElem h]
  rfl
set_option maxRecDepth 20000 in
set_option maxHeartbeats 2000000 in
theorem block_any (s : List UInt8) (hs : s.length ≤ 140737488351232) (w : World) : Calls Try.prog 58 #[.string ⟨s.toArray⟩] w fun e w' => e = .returned (.string ⟨(blk s).toArray⟩) ∧ Below w.heap.size w w' := by
  have hmk := make32 w
  have hr0 := row0 w s
  have hb0 := (Below.refl w.heap.size w).alloc (Nat.le_refl _) (.cells (Array.replicate 32 (.int .u8 0)) 5)
  generalize w.alloc (.cells (Array.replicate 32 (.int .u8 0)) 5) = w0 at hmk hr0 hb0
  obtain ⟨g, hg⟩ : ∃ g, g = w.heap.size := ⟨_, rfl⟩
  rw [← hg] at hmk hr0
  have HG := Lib.hid hg
  clear hg
  go_enter Try.func58, Try.ntmps58
  go_wp2_with fail
  go_loopw [4] (fun c wr => ∃ k : Nat, c = .int .i64 k ∧ k ≤ 32 ∧ Row wr g s k ∧ Below w.heap.size w wr) (fun c _ => 32 - (intOf c).toNat)
  case atStart => exact ⟨0, rfl, by omega, hr0, hb0⟩
  case round =>
    obtain ⟨k, rfl, hk, hrow, hb⟩ := hrel
    by_cases hlt : k < 32
    · by_cases hz : s = []
      · subst hz
        have hcv := block_str [] _ g k hrow (Or.inr rfl)
        go_wp2_with fail
        go_ret
        exact ⟨rfl, hb⟩
      · have hpos : 0 < s.length := List.length_pos_iff.2 hz
        have hc := hrow.1 k hlt
        have hf := hrow.2 k
        have hm : k % s.length < s.length := Nat.mod_lt _ hpos
        have hm2 : (k : Int).tmod (s.length : Int) = ((k % s.length : Nat) : Int) := by rw [Int.tmod_eq_emod_of_nonneg (by omega)]; omega
        have hset := hrow.set hlt
        go_wp2_with fail
        exact ⟨⟨k + 1, by go_num, by omega, by rw [idx s _ hm]; exact hset, hb.setCell (Nat.le_of_eq HG.out.symm) _⟩, by simp [intOf]; omega⟩
    · obtain rfl : k = 32 := by omega
      have hcv := block_str s _ g 32 hrow (Or.inl rfl)
      go_wp2_with fail
      go_ret
      exact ⟨rfl, hb⟩
def zer : List UInt8 := List.replicate 32 0
theorem blk_len (s : List UInt8) : (blk s).length = 32 := by simp [blk]
theorem zeros_any (w : World) : Calls Try.prog 89 #[] w fun e w' => e = .returned (.string ⟨zer.toArray⟩) ∧ Below w.heap.size w w' := by
  go_enter Try.func89, Try.ntmps89
  go_wp2_with fail
  refine (Try.strings_Repeat_main ⟨#[0]⟩ 32 _ (by omega) (by omega) (by show 1 * 32 ≤ _; omega) (by show 0 < 1; omega)).mono ?_; rintro e w1 ⟨rfl, hb⟩
  go_wp2_with fail
  go_ret
  exact ⟨ret_str (by decide), hb⟩
theorem refzeros_any (w : World) : Calls Try.prog 86 #[] w fun e w' => e = .returned (.string ⟨zer.toArray⟩) ∧ Below w.heap.size w w' := by
  go_enter Try.func86, Try.ntmps86
  go_wp2_with fail
  go_ret
  exact ⟨ret_str (by decide), Below.refl _ _⟩
theorem keep1 {g j : Nat} {v : Value} {w0 w w' : World} (hb : Below w.heap.size w w') (h : w.cell? ⟨g, j, none⟩ = some v ∧ Below w0.heap.size w0 w) : w'.cell? ⟨g, j, none⟩ = some v ∧ Below w0.heap.size w0 w' :=
  ⟨cellB hb h.1, thenB h.2 hb⟩
def mayB (l : List UInt8) : Bool := l == [] || (l.length == 32 && !(l == zer))
set_option maxHeartbeats 2000000 in
theorem may_any (v : Int) (l : List UInt8) (hl : l.length ≤ 140737488355328) (w : World) : Calls Try.prog 62 #[.agg #[.int .u64 v, .string ⟨l.toArray⟩]] w fun e w' => e = .returned (.bool (mayB l)) ∧ Below w.heap.size w w' := by
  by_cases h1 : l = []
  · subst h1
    go_enter Try.func62, Try.ntmps62
    go_wp2_with fail
    refine name_world (fun w' => w'.cell? ⟨w.heap.size, 1, none⟩ = some (.string ⟨#[]⟩) ∧ Below w.heap.size w w') ⟨by simp, (Below.refl _ _).alloc (Nat.le_refl _) _⟩ ?_
    rintro w1 ⟨hc, hb⟩
    go_quiet (fail)
    go_wp2_with fail
    go_ret
    exact ⟨rfl, bN hb _⟩
  · have e1 : (l == []) = false := by simpa using h1
    by_cases h2 : l.length = 32
    · have e3 : mayB l = !(l == zer) := by simp [mayB, h1, h2]
      rw [e3]
      clear e3
      go_enter Try.func62, Try.ntmps62
      go_wp2_with fail
      refine name_world (fun w' => w'.cell? ⟨w.heap.size, 1, none⟩ = some (.string ⟨l.toArray⟩) ∧ Below w.heap.size w w') ⟨by simp, (Below.refl _ _).alloc (Nat.le_refl _) _⟩ ?_
      rintro w1 ⟨hc, hb⟩
      go_region_held3 (fun w' => w'.cell? ⟨w.heap.size, 1, none⟩ = some (.string ⟨l.toArray⟩) ∧ Below w.heap.size w w')
        (first | exact ⟨hc, hb.drew⟩ | exact ⟨cellB (by assumption) hc, thenB hb (by assumption)⟩ | exact keep1 (by assumption) (by assumption))
        (first | (go_at_call 89; refine (zeros_any _).mono ?_; rintro e w2 ⟨rfl, hb2⟩))
      rename_i hHeld
      have hB := hHeld.2
      go_wp2_with fail
      go_ret
      exact ⟨rfl, hB⟩
    · have e2 : ((l.length : Int) == 32) = false := by simp; omega
      have e3 : mayB l = false := by simp [mayB, h1, h2]
      rw [e3]
      clear e3
      go_enter Try.func62, Try.ntmps62
      go_wp2_with fail
      refine name_world (fun w' => w'.cell? ⟨w.heap.size, 1, none⟩ = some (.string ⟨l.toArray⟩) ∧ Below w.heap.size w w') ⟨by simp, (Below.refl _ _).alloc (Nat.le_refl _) _⟩ ?_
      rintro w1 ⟨hc, hb⟩
      go_quiet (fail)
      go_wp2_with fail
      go_ret
      exact ⟨rfl, bN hb _⟩
set_option maxHeartbeats 2000000 in
theorem refmay_any (v : Int) (l : List UInt8) (hl : l.length ≤ 140737488355328) (w : World) : Calls Try.prog 59 #[.agg #[.int .u64 v, .string ⟨l.toArray⟩]] w fun e w' => e = .returned (.bool (mayB l)) ∧ Below w.heap.size w w' := by
  by_cases h1 : l = []
  · subst h1
    go_enter Try.func59, Try.ntmps59
    go_wp2_with fail
    refine name_world (fun w' => w'.cell? ⟨w.heap.size, 1, none⟩ = some (.string ⟨#[]⟩) ∧ Below w.heap.size w w') ⟨by simp, (Below.refl _ _).alloc (Nat.le_refl _) _⟩ ?_
    rintro w1 ⟨hc, hb⟩
    go_quiet (fail)
    go_wp2_with fail
    go_ret
    exact ⟨rfl, bN hb _⟩
  · have e1 : (l == []) = false := by simpa using h1
    by_cases h2 : l.length = 32
    · have e3 : mayB l = !(l == zer) := by simp [mayB, h1, h2]
      rw [e3]
      clear e3
      go_enter Try.func59, Try.ntmps59
      go_wp2_with fail
      refine name_world (fun w' => w'.cell? ⟨w.heap.size, 1, none⟩ = some (.string ⟨l.toArray⟩) ∧ Below w.heap.size w w') ⟨by simp, (Below.refl _ _).alloc (Nat.le_refl _) _⟩ ?_
      rintro w1 ⟨hc, hb⟩
      go_region_held3 (fun w' => w'.cell? ⟨w.heap.size, 1, none⟩ = some (.string ⟨l.toArray⟩) ∧ Below w.heap.size w w')
        (first | exact ⟨hc, hb.drew⟩ | exact ⟨cellB (by assumption) hc, thenB hb (by assumption)⟩ | exact keep1 (by assumption) (by assumption))
        (first | (go_at_call 86; refine (refzeros_any _).mono ?_; rintro e w2 ⟨rfl, hb2⟩))
      rename_i hHeld
      have hB := hHeld.2
      go_wp2_with fail
      go_ret
      exact ⟨rfl, hB⟩
    · have e2 : ((l.length : Int) == 32) = false := by simp; omega
      have e3 : mayB l = false := by simp [mayB, h1, h2]
      rw [e3]
      clear e3
      go_enter Try.func59, Try.ntmps59
      go_wp2_with fail
      refine name_world (fun w' => w'.cell? ⟨w.heap.size, 1, none⟩ = some (.string ⟨l.toArray⟩) ∧ Below w.heap.size w w') ⟨by simp, (Below.refl _ _).alloc (Nat.le_refl _) _⟩ ?_
      rintro w1 ⟨hc, hb⟩
      go_quiet (fail)
      go_wp2_with fail
      go_ret
      exact ⟨rfl, bN hb _⟩
theorem newer_any (v u : Int) (s t : ByteArray) (w : World) : Calls Try.prog 64 #[.agg #[.int .u64 v, .string s], .agg #[.int .u64 u, .string t]] w fun e w' => e = .returned (.bool (decide (u < v))) ∧ Below w.heap.size w w' := by
  go_enter Try.func64, Try.ntmps64
  go_wp2_with fail
  go_ret
  exact ⟨rfl, ((Below.refl _ _).alloc (Nat.le_refl _) _).alloc (by simp) _⟩
def itemP (v : Nat) (l : List UInt8) : List UInt8 := if mayB l then put v ++ text l else []
def nearD (l : List UInt8) (m : Int) : List UInt8 := if m = 0 then [] else if m = 1 then l.take 40 else blk (49 :: l.take 9)
theorem m7 (a : Int) : Go.bits .and .i64 a 7 = a % 8 := and_mask_i64 a 3 (by decide)
theorem near_len (l : List UInt8) (m : Int) : (nearD l m).length ≤ 40 := by
  unfold nearD
  split
  · exact Nat.zero_le _
  · split
    · rw [List.length_take]; omega
    · rw [blk_len]; omega
set_option maxHeartbeats 2000000 in
theorem near_any (v : Int) (l : List UInt8) (hl : l.length ≤ 9223372036854775807) (o : Int) (w : World) : Calls Try.prog 20 #[.agg #[.int .u64 v, .string ⟨l.toArray⟩], .int .i64 o] w fun e w' => e = .returned (.agg #[.int .u64 v, .string ⟨(nearD l (o % 8)).toArray⟩]) ∧ Below w.heap.size w w' := by
  have hm := m7 o
  have hr : 0 ≤ o % 8 ∧ o % 8 < 8 := by omega
  generalize o % 8 = m at hm hr
  have c9 : (⟨l.toArray⟩ : ByteArray).extract 0 (min (l.length : Int) 9).toNat = ⟨(l.take 9).toArray⟩ := cut l 9
  have c40 : (⟨l.toArray⟩ : ByteArray).extract 0 (min (l.length : Int) 40).toNat = ⟨(l.take 40).toArray⟩ := cut l 40
  by_cases h0 : m = 0
  · subst h0
    go_enter Try.func20, Try.ntmps20
    go_wp2_with fail
    exact bodyPost_ret (v := .agg #[.int .u64 v, .string ⟨#[]⟩]) (by simp [results, Try.results20, go_sem]) rfl ⟨rfl, ((Below.refl _ _).alloc (Nat.le_refl _) _).alloc (by simp) _⟩
  · by_cases h1 : m = 1
    · subst h1
      go_enter Try.func20, Try.ntmps20
      go_wp2_with fail
      exact bodyPost_ret (v := .agg #[.int .u64 v, .string ⟨(l.take 40).toArray⟩]) (by simp [results, Try.results20, go_sem]) rfl ⟨rfl, ((Below.refl _ _).alloc (Nat.le_refl _) _).alloc (by simp) _⟩
    · have e0 : (m == 0) = false := by simpa using h0
      have e1 : (m == 1) = false := by simpa using h1
      rw [show nearD l m = blk (49 :: l.take 9) by unfold nearD; rw [if_neg h0, if_neg h1]]
      have hblk := Lib.hid (fun W : World => block_any (49 :: l.take 9) (by simp; omega) W)
      generalize blk (49 :: l.take 9) = B at hblk ⊢
      go_enter Try.func20, Try.ntmps20
      go_wp2_with fail
      rw [show (⟨#[49]⟩ : ByteArray) ++ ⟨(l.take 9).toArray⟩ = ⟨(49 :: l.take 9).toArray⟩ from str_app2 [49] (l.take 9)]
      refine (hblk.out _).mono ?_; rintro e w2 ⟨rfl, hb2⟩
      have hc0 : w2.cell? ⟨w.heap.size + 1, 0, none⟩ = some (.int .u64 v) := cellB hb2 (by simp)
      have hc1 : w2.cell? ⟨w.heap.size + 1, 1, none⟩ = some (.string ⟨#[]⟩) := cellB hb2 (by simp)
      have hf1 : w2.frozen? ⟨w.heap.size + 1, 1, none⟩ = false := by rw [hb2.frozen (by simp)]; unfold World.frozen?; rw [show w.heap.size + 1 = (w.alloc (.cells #[.int .u64 v, .string ⟨l.toArray⟩] 28)).heap.size by simp, heap_alloc_new]; rfl
      have hf0 : w2.frozen? ⟨w.heap.size + 1, 0, none⟩ = false := by rw [hb2.frozen (by simp)]; unfold World.frozen?; rw [show w.heap.size + 1 = (w.alloc (.cells #[.int .u64 v, .string ⟨l.toArray⟩] 28)).heap.size by simp, heap_alloc_new]; rfl
      replace hb2 := (((Below.refl w.heap.size w).alloc (Nat.le_refl _) (.cells #[.int .u64 v, .string ⟨l.toArray⟩] 28)).alloc (by simp) (.cells #[.int .u64 v, .string ⟨#[]⟩] 28)).trans (hb2.mono (B' := w.heap.size) (by simp; omega))
      go_wp2_with fail
      exact bodyPost_ret (v := .agg #[.int .u64 v, .string ⟨B.toArray⟩]) (by simp [results, Try.results20, go_sem, hc0, hc1]) rfl ⟨rfl, by first | exact ((hb2.setCell (Nat.le_succ _) _).setCell (Nat.le_succ _) _).setCell (Nat.le_succ _) _ | exact hb2.setCell (Nat.le_succ _) _⟩
end Go.Proofs.Ytjohfkpgghnpeaa.ItemC
end
section
namespace Go.Proofs.Ytjohfkpgghnpeaa.ItemC
open Go Go.RowKit
open Go.Proofs.Ytjohfkpgghnpeaa.Gen
open Go.Proofs.Ytjohfkpgghnpeaa.Num
open Go.Proofs.Ytjohfkpgghnpeaa.NumC
set_option linter.unusedVariables false
def R.item (r : R) : R × (Nat × List UInt8) :=
  let a := r.num 18446744073709551615
  let b := a.1.text 32
  let q := if b.1.err = 0 ∧ mayB b.2 = false then b.1.fail 3 else b.1
  if q.err ≠ 0 then (q, (0, [])) else (q, (a.2, b.2))
end Go.Proofs.Ytjohfkpgghnpeaa.ItemC
end
