/- Layer 3: the walk of the law FramePuts. -/
import Derived.Test.YtjkjcpbhlgjgcaaDoorFrameC
import Derived.Test.YtjkjcpbhlgjgcaaDoorOpen
import Derived.Laws.BytesArg
namespace Go.Proofs.YtjkjcpbhlgjgcaaDoor.FrameC
open Go Go.RowKit
open Go.Proofs.YtjkjcpbhlgjgcaaDoor.Gen
open Go.Proofs.YtjkjcpbhlgjgcaaDoor.Num
open Go.Proofs.YtjkjcpbhlgjgcaaDoor.NumC
open Go.Proofs.YtjkjcpbhlgjgcaaDoor.CrcC (Tab ofN ofN_lt of_any refOf_any)
set_option linter.unusedVariables false
theorem awake_any (w : World) (ht : Tab w) : Calls Tryd.prog 10 #[] w fun e w' => e = .returned (.bool true) ∧ Below w.heap.size w w' := by
  have hg := Lib.hid (get_back [116, 101, 120, 116] (by decide))
  have hl := fputL_len [116, 101, 120, 116]
  have hp := Lib.hid (fun W : World => fput_any [116, 101, 120, 116] (by decide) W)
  generalize fputL [116, 101, 120, 116] = P at hg hp hl
  go_enter Tryd.func10, Tryd.ntmps10
  go_wp2_with fail
  refine (hp.out _ ht).mono ?_; rintro e w2 ⟨rfl, hb⟩
  go_wp2_with fail
  refine (fget_any P (by omega) _ (ht.b hb)).mono ?_; rintro e w3 ⟨rfl, hb3⟩
  rw [hg.out]
  replace hb := thenB hb hb3
  go_wp2_with fail
  go_ret
  exact ⟨rfl, hb⟩
theorem made_zeros (m : Nat) : madeCells (Value.int .u8 0).cells m = Array.replicate m (.int .u8 0) := by
  unfold madeCells
  apply Array.ext
  · simp
  · intro i h1 h2
    simp [Value.cells, Nat.mod_one]
theorem make_any (m : Nat) (hm : m ≤ 20000) (w : World) : (Instr.makeSlice 22 (.int .i64 (m : Int)) (.int .i64 (m : Int))).run Tryd.prog w = .ok (.slice (some ⟨w.heap.size, 0, none⟩) m m) (w.alloc (.cells (Array.replicate m (.int .u8 0)) 5)) := by
  obtain ⟨i, h1, h2, h3, h4⟩ := Own.info_one (P := Tryd.prog) (e := 5) (z := .int .u8 0) (s := 1) (b := 1) (by kernel_rfl)
  have := run_makeSlice (P := Tryd.prog) w 22 5 i _ Tryd.underlying22 h1 h2 .i64 .i64 (m : Int) (m : Int) (by omega) (by omega) (by rw [h3, Int.toNat_natCast]; omega) (by rw [h4]; omega) (by omega)
  rw [this, h3, Int.toNat_natCast, Nat.mul_one, made_zeros]
theorem conv_zeros (m : Nat) (w : World) (g : Nat) (h : ∀ j, j < m → w.cell? ⟨g, j, none⟩ = some (.int .u8 0)) :
    (convert 22 9 (.slice (some ⟨g, 0, none⟩) m m)).run Tryd.prog w = .ok (.string ⟨(List.replicate m (0 : UInt8)).toArray⟩) w := by
  have := run_convert_bytes_arg (P := Tryd.prog) w 22 5 Tryd.underlying22 Tryd.underlying5 g 0 m m (List.replicate m 0) (by simp) (fun i hi => by
    rw [Nat.zero_add, h i hi]
    simp [hi]) 9 Tryd.underlying9
  rw [this]
  unfold strOfNums
  simp
end Go.Proofs.YtjkjcpbhlgjgcaaDoor.FrameC
namespace Go.Proofs.YtjkjcpbhlgjgcaaDoor.framePuts
open Go Go.RowKit
open Go.Proofs.YtjkjcpbhlgjgcaaDoor.Gen
open Go.Proofs.YtjkjcpbhlgjgcaaDoor.Num
open Go.Proofs.YtjkjcpbhlgjgcaaDoor.NumC
open Go.Proofs.YtjkjcpbhlgjgcaaDoor.FrameC
open Go.Proofs.YtjkjcpbhlgjgcaaDoor.CrcC (Tab Laid)
set_option linter.unusedVariables false
set_option maxRecDepth 20000 in
set_option maxHeartbeats 4000000 in
theorem puts_walk (l : List UInt8) (hl : l.length ≤ 140737488351232) (o : Int) (ho0 : -9223372036854775808 ≤ o) (ho1 : o ≤ 9223372036854775807) (w : World) (ht : Tab w) : Calls Tryd.prog 3 #[.string ⟨l.toArray⟩, .int .i64 o] w fun e w' => e = .returned (.bool true) ∧ Below w.heap.size w w' := by
  have c2 : (⟨l.toArray⟩ : ByteArray).extract 0 (min (l.length : Int) 200).toNat = ⟨(l.take 200).toArray⟩ := cut l 200
  have h2 : (l.take 200).length ≤ 200 := by rw [List.length_take]; omega
  generalize l.take 200 = t at c2 h2
  have m7 : Go.bits .and .i64 o 7 = o % 8 := and_mask_i64 o 3 (by decide)
  have m127 : Go.bits .and .i64 (o / 8) 127 = o / 8 % 128 := and_mask_i64 (o / 8) 7 (by decide)
  obtain ⟨m, hm⟩ : ∃ m : Nat, (m : Int) = 16300 + o / 8 % 128 := ⟨(16300 + o / 8 % 128).toNat, by omega⟩
  have hm2 : m ≤ 20000 := by omega
  have hq : 0 ≤ o / 8 % 128 := by omega
  generalize o / 8 % 128 = q at m127 hm hq
  have hm' : (16300 : Int) + q = (m : Int) := hm.symm
  clear hm
  have hmk := make_any m hm2 w
  have hcv := conv_zeros m (w.alloc (.cells (Array.replicate m (.int .u8 0)) 5)) w.heap.size (fun j hj => by simp [hj])
  obtain ⟨b, hb0⟩ : ∃ b, b = (if o % 8 = 7 then t ++ List.replicate m (0 : UInt8) else t) := ⟨_, rfl⟩
  have hbl : b.length ≤ 30000 := by
    rw [hb0]
    split
    · rw [List.length_append, List.length_replicate]; omega
    · omega
  have hput := Lib.hid (fun W : World => fput_any b (by omega) W)
  have hrput := Lib.hid (fun W : World => reffput_any b (by omega) W)
  have hP1 : 16384 < b.length → fputL b = [] := fun h => if_pos h
  have hP2 := get_back b
  have hpl := fputL_len b
  generalize fputL b = P at hput hrput hP1 hP2 hpl
  have HP1 := Lib.hid hP1
  have HP2 := Lib.hid hP2
  clear hP1 hP2
  by_cases h7 : o % 8 = 7
  · rw [h7] at m7
    rw [if_pos h7] at hb0
    have ht2 : (⟨t.toArray⟩ : ByteArray) ++ ⟨(List.replicate m (0 : UInt8)).toArray⟩ = ⟨b.toArray⟩ := by rw [hb0]; exact str_app2 _ _
    have hsz : (⟨t.toArray⟩ : ByteArray).size + (⟨(List.replicate m (0 : UInt8)).toArray⟩ : ByteArray).size ≤ 30000 := by rw [size_mk, size_mk, List.length_replicate]; omega
    generalize List.replicate m (0 : UInt8) = zs at hcv ht2 hsz
    clear hb0 h7
    · go_enter Tryd.func3, Tryd.ntmps3
      go_wp2_with fail
      have hb : Below w.heap.size w (w.alloc (.cells (Array.replicate m (.int .u8 0)) 5)) := (Below.refl w.heap.size w).alloc (Nat.le_refl _) _
      generalize w.alloc (.cells (Array.replicate m (.int .u8 0)) 5) = w1 at hb
      refine (hput.out _ (ht.b hb)).mono ?_; rintro e w2 ⟨rfl, hb2⟩
      replace hb := thenB hb hb2
      clear hb2
      go_wp2_with fail
      refine (fget_any P (by omega) _ (ht.b hb)).mono ?_; rintro e w3 ⟨rfl, hb3⟩
      replace hb := thenB hb hb3
      clear hb3
      by_cases hlong : 16384 < b.length
      · have hP := HP1.out hlong
        go_wp2_with fail
        refine (FrameC.awake_any _ (ht.b hb)).mono ?_; rintro e w4 ⟨rfl, hb4⟩
        replace hb := thenB hb hb4
        go_wp2_with fail
        go_ret
        exact ⟨rfl, hb⟩
      · have hG := HP2.out (by omega)
        go_wp2_with fail
        refine (FrameC.awake_any _ (ht.b hb)).mono ?_; rintro e w4 ⟨rfl, hb4⟩
        replace hb := thenB hb hb4
        clear hb4
        go_wp2_with fail
        refine (hrput.out _).mono ?_; rintro e w5 ⟨rfl, hb5⟩
        replace hb := thenB hb hb5
        go_wp2_with fail
        go_ret
        exact ⟨rfl, hb⟩
  · rw [if_neg h7] at hb0
    subst hb0
    have e7 : (o % 8 == 7) = false := by simpa using h7
    have hb : Below w.heap.size w w := Below.refl _ _
    · go_enter Tryd.func3, Tryd.ntmps3
      go_wp2_with fail
      refine (hput.out _ (ht.b hb)).mono ?_; rintro e w2 ⟨rfl, hb2⟩
      replace hb := thenB hb hb2
      clear hb2
      go_wp2_with fail
      refine (fget_any P (by omega) _ (ht.b hb)).mono ?_; rintro e w3 ⟨rfl, hb3⟩
      replace hb := thenB hb hb3
      clear hb3
      have hlong : ¬ 16384 < b.length := by omega
      · have hG := HP2.out (by omega)
        go_wp2_with fail
        refine (FrameC.awake_any _ (ht.b hb)).mono ?_; rintro e w4 ⟨rfl, hb4⟩
        replace hb := thenB hb hb4
        clear hb4
        go_wp2_with fail
        refine (hrput.out _).mono ?_; rintro e w5 ⟨rfl, hb5⟩
        replace hb := thenB hb hb5
        go_wp2_with fail
        go_ret
        exact ⟨rfl, hb⟩
theorem walk (a0 : ByteArray) (w0 : a0.size ≤ 140737488351232) (a1 : Int) (w1 : (Lit.int .i64 a1).wf = true) (W : World) (h : Laid W) : Calls Tryd.prog 3 #[.string a0, .int .i64 a1] W fun e w' => e = .returned (.bool true) ∧ Below W.heap.size W w' := by
  have hb := bounds_i64 w1
  obtain ⟨⟨l⟩⟩ := a0
  exact puts_walk l w0 a1 (by omega) (by omega) W h.tab
end Go.Proofs.YtjkjcpbhlgjgcaaDoor.framePuts
