/- Layer 4's laws: a sector of one byte; awake; DiskNone. -/
import Derived.Test.YtfacifhlcaghiaaDskD
import Derived.Test.YtfacifhlcaghiaaDskM
import Derived.Test.YtfacifhlcaghiaaNumC4
import Derived.Laws.BytesArg
namespace Go.Proofs.Ytfacifhlcaghiaa.Dsk
open Go Go.RowKit
open Go.Proofs.Ytfacifhlcaghiaa.Gen
open Go.Proofs.Ytfacifhlcaghiaa.Own
open Go.Proofs.Ytfacifhlcaghiaa.RowK
set_option linter.unusedVariables false
theorem made_bytes (m : Nat) : madeCells (Value.int .u8 0).cells m = Array.replicate m (.int .u8 0) := by
  unfold madeCells
  apply Array.ext
  · simp
  · intro i h1 h2
    simp [Value.cells, Nat.mod_one]
theorem make_bytes (m : Nat) (hm : m ≤ 20000) (w : World) : (Instr.makeSlice 54 (.int .i64 (m : Int)) (.int .i64 (m : Int))).run Try.prog w = .ok (.slice (some ⟨w.heap.size, 0, none⟩) m m) (w.alloc (.cells (Array.replicate m (.int .u8 0)) 5)) := by
  obtain ⟨i, h1, h2, h3, h4⟩ := Own.info_one (P := Try.prog) (e := 5) (z := .int .u8 0) (s := 1) (b := 1) (by kernel_rfl)
  have := run_makeSlice (P := Try.prog) w 54 5 i _ Try.underlying54 h1 h2 .i64 .i64 (m : Int) (m : Int) (by omega) (by omega) (by rw [h3, Int.toNat_natCast]; omega) (by rw [h4]; omega) (by omega)
  rw [this, h3, Int.toNat_natCast, Nat.mul_one, made_bytes]
/-- A row of bytes as a string. -/
theorem conv_bytes (l : List UInt8) (w : World) (g : Nat) (h : ∀ j, (hj : j < l.length) → w.cell? ⟨g, j, none⟩ = some (.int .u8 (l[j].toNat : Int))) :
    (convert 54 9 (.slice (some ⟨g, 0, none⟩) l.length l.length)).run Try.prog w = .ok (.string ⟨l.toArray⟩) w := by
  have := run_convert_bytes_arg (P := Try.prog) w 54 5 Try.underlying54 Try.underlying5 g 0 l.length l.length (l.map fun b => (b.toNat : Int)) (by simp) (fun i hi => by
    rw [Nat.zero_add, h i hi]
    simp [hi]) 9 Try.underlying9
  rw [this]
  unfold strOfNums
  rw [List.map_map]
  have e : l.map ((fun n : Int => UInt8.ofNat n.toNat) ∘ fun b : UInt8 => (b.toNat : Int)) = l := by
    conv => rhs; rw [← List.map_id l]
    exact List.map_congr_left (fun b _ => by simp)
  rw [e]
/-- So many cells of one byte, noughts behind. -/
def SecC (w : World) (g : Nat) (c : Int) (k : Nat) : Prop := (∀ j, j < 64 → w.cell? ⟨g, j, none⟩ = some (.int .u8 (if j < k then c else 0))) ∧ ∀ j, w.frozen? ⟨g, j, none⟩ = false
theorem SecC.set {w : World} {g : Nat} {c : Int} {k : Nat} (h : SecC w g c k) (hk : k < 64) : SecC (w.setCell ⟨g, k, none⟩ (.int .u8 c)) g c (k + 1) := by
  refine ⟨fun j hj => ?_, fun j => by rw [World.frozen?_setCell]; exact h.2 j⟩
  rw [NumC.cell_set (h.1 j hj)]
  by_cases hjk : j = k
  · subst hjk
    rw [if_pos rfl, if_pos (by omega)]
  · rw [if_neg hjk]
    by_cases hlt : j < k
    · rw [if_pos hlt, if_pos (by omega)]
    · rw [if_neg hlt, if_neg (by omega)]
set_option maxRecDepth 20000 in
set_option maxHeartbeats 2000000 in
theorem sector_any (c : UInt8) (w : World) : Calls Try.prog 16 #[.int .u8 (c.toNat : Int)] w fun e w' => e = .returned (.string ⟨(List.replicate 64 c).toArray⟩) ∧ Below w.heap.size w w' := by
  have hmk := make_bytes 64 (by omega) w
  have hr0 : SecC (w.alloc (.cells (Array.replicate 64 (.int .u8 0)) 5)) w.heap.size (c.toNat : Int) 0 := by
    refine ⟨fun j hj => ?_, fun j => ?_⟩
    · rw [World.cell?_alloc_new, if_neg (by omega)]
      simp [hj]
    · unfold World.frozen?
      rw [heap_alloc_new w _]
      simp
  have hb0 := (Below.refl w.heap.size w).alloc (Nat.le_refl _) (.cells (Array.replicate 64 (.int .u8 0)) 5)
  generalize w.alloc (.cells (Array.replicate 64 (.int .u8 0)) 5) = w0 at hmk hr0 hb0
  obtain ⟨g, hg⟩ : ∃ g, g = w.heap.size := ⟨_, rfl⟩
  rw [← hg] at hmk hr0
  have HG := Lib.hid hg
  clear hg
  rw [show ((64 : Nat) : Int) = 64 from rfl] at hmk
  go_enter Try.func16, Try.ntmps16
  go_wp2_with fail
  go_loopw [4] (fun iv wr => ∃ k : Nat, iv = .int .i64 k ∧ k ≤ 64 ∧ SecC wr g (c.toNat : Int) k ∧ Below w.heap.size w wr) (fun iv _ => 64 - (intOf iv).toNat)
  case atStart => exact ⟨0, rfl, by omega, hr0, hb0⟩
  case round =>
    obtain ⟨k, rfl, hk, hrow, hb⟩ := hrel
    by_cases hlt : k < 64
    · have hc := hrow.1 k hlt
      have hf := hrow.2 k
      have hset := hrow.set hlt
      go_wp2_with fail
      go_roundw
      case rel => exact ⟨k + 1, by go_num, by omega, hset, hb.setCell (Nat.le_of_eq HG.out.symm) _⟩
      case measure => simp [intOf]; omega
    · obtain rfl : k = 64 := by omega
      have hcv := conv_bytes (List.replicate 64 c) wr g (fun j hj => by
        rw [List.length_replicate] at hj
        rw [hrow.1 j hj, if_pos hj, List.getElem_replicate])
      rw [List.length_replicate] at hcv
      go_wp2_with fail
      go_ret
      exact ⟨rfl, hb⟩
theorem sector0_any (w : World) : Calls Try.prog 16 #[.int .u8 0] w fun e w' => e = .returned (.string ⟨blankL.toArray⟩) ∧ Below w.heap.size w w' := sector_any 0 w
theorem aw4_rd : rdL (crashL 0 (List.replicate 2 blankL) [⟨0, padL [97, 98, 99]⟩]) [] 0 = blankL := by decide
set_option maxRecDepth 20000 in
set_option maxHeartbeats 2000000 in
theorem awake4_any (W : World) : Calls Try.prog 17 #[] W fun e w' => e = .returned (.bool true) ∧ Below W.heap.size W w' := by
  have hnw := new_in W 2 (by omega) (by omega)
  rw [show ((2 : Nat) : Int) = 2 from rfl] at hnw
  unfold NewPost at hnw
  have HNW := Lib.hid hnw
  clear hnw
  go_enter Try.func17, Try.ntmps17
  go_wp2_with fail
  refine HNW.out.mono ?_; rintro e w1 ⟨h, rfl, d1, b1⟩
  have hl2 : (List.replicate 2 blankL).length = 2 := rfl
  have hwr := write_in w1 W.heap.size h _ [] d1 (by simp) 0 (by rw [hl2]; omega) [97, 98, 99] (by decide)
  unfold DkPost at hwr
  rw [show ((0 : Nat) : Int) = 0 from rfl] at hwr
  unfold ptr
  unfold ptr at hwr
  have HWR := Lib.hid hwr
  clear hwr
  go_wp2_with fail
  refine HWR.out.mono ?_; rintro e w2 ⟨rfl, vA, vB, d2, k2, m2⟩
  have b2 := b1.trans ((k2.below d1))
  have hcr := crash_any w2 W.heap.size _ _ _ 0 (by omega) (by omega) d2
  unfold DkPost ptr at hcr
  have HCR := Lib.hid hcr
  clear hcr k2
  go_wp2_with fail
  refine HCR.out.mono ?_; rintro e w3 ⟨rfl, vA3, vB3, d3, k3, m3⟩
  have b3 := b2.trans (k3.below d2)
  have hrd := read_in w3 W.heap.size _ _ _ d3 0 (by rw [show ([] ++ [(⟨0, padL [97, 98, 99]⟩ : Wr)]) = [⟨0, padL [97, 98, 99]⟩] from rfl]; decide)
  rw [show ([] ++ [(⟨0, padL [97, 98, 99]⟩ : Wr)]) = [⟨0, padL [97, 98, 99]⟩] from rfl, aw4_rd, show ((0 : Nat) : Int) = 0 from rfl] at hrd
  unfold ReadPost ptr at hrd
  have HRD := Lib.hid hrd
  clear hrd k3
  go_wp2_with fail
  refine HRD.out.mono ?_; rintro e w4 ⟨rfl, b4⟩
  have hb4 := b3.trans (b4.mono b3.size)
  go_wp2_with fail
  refine (sector0_any _).mono ?_; rintro e w5 ⟨rfl, b5⟩
  have hb5 := hb4.trans (b5.mono hb4.size)
  go_wp2_with fail
  go_ret
  exact ⟨rfl, hb5⟩
end Go.Proofs.Ytfacifhlcaghiaa.Dsk
