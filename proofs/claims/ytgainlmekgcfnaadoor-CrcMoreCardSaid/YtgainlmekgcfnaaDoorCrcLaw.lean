/- Layer 2: the walks of the laws CrcOf, CrcMore, CrcBit. -/
import Derived.Test.YtgainlmekgcfnaaDoorCrcC
import Derived.Test.YtgainlmekgcfnaaDoorOpen
import Derived.Laws.BytesArg
import Derived.Lib.LaidTab
namespace Go.Proofs.YtgainlmekgcfnaaDoor.CrcC
open Go Go.RowKit
open Go.Proofs.YtgainlmekgcfnaaDoor.Gen
open Go.Proofs.YtgainlmekgcfnaaDoor.Crc
set_option linter.unusedVariables false
/-- What a row's list gives. -/
def Laid (w : World) : Prop := Tryd.prog.globalNamed "tarn/crc.turns" = some 0 ∧ Lib.TabIs Tryd.prog w "tarn/crc.turns" .u32 [0, 498536548, 997073096, 651767980, 1994146192, 1802195444, 1303535960, 1342533948, 3988292384, 4027552580, 3604390888, 3412177804, 2607071920, 2262029012, 2685067896, 3183342108]
theorem Laid.tab {w : World} (h : Laid w) : Tab w := by
  intro i hi
  have := h.2.cell h.1 i hi
  rw [this]
  have e : ∀ i, i < 16 → (([0, 498536548, 997073096, 651767980, 1994146192, 1802195444, 1303535960, 1342533948, 3988292384, 4027552580, 3604390888, 3412177804, 2607071920, 2262029012, 2685067896, 3183342108] : List Int).getD i 0) = (tabAt i : Int) := by decide
  rw [e i hi]
theorem awake_any (w : World) (ht : Tab w) : Calls Tryd.prog 6 #[] w fun e w' => e = .returned (.bool true) ∧ Below w.heap.size w w' := by
  have hk : ofN [49, 50, 51, 52, 53, 54, 55, 56, 57] = 3421780262 := by decide +kernel
  go_enter Tryd.func6, Tryd.ntmps6
  go_wp2_with fail
  refine (of_any [49, 50, 51, 52, 53, 54, 55, 56, 57] (by simp) _ ht).mono ?_; rintro e w2 ⟨rfl, hb⟩
  rw [hk]
  go_wp2_with fail
  go_ret
  exact ⟨rfl, hb⟩
theorem ext (l : List UInt8) (i j : Nat) : (⟨l.toArray⟩ : ByteArray).extract i j = ⟨((l.drop i).take (j - i)).toArray⟩ := by
  apply ByteArray.ext
  rw [ByteArray.data_extract]
  apply Array.ext'
  simp [List.extract]
theorem cut (l : List UInt8) (n : Nat) : (⟨l.toArray⟩ : ByteArray).extract 0 (min (l.length : Int) (n : Int)).toNat = ⟨(l.take n).toArray⟩ := by
  rw [ext]
  congr 2
  rw [List.drop_zero, Nat.sub_zero]
  rw [List.take_eq_take_iff]
  omega
theorem str_app2 (l m : List UInt8) : (⟨l.toArray⟩ : ByteArray) ++ ⟨m.toArray⟩ = ⟨(l ++ m).toArray⟩ := by rw [ByteArray.mk_append_mk]
end Go.Proofs.YtgainlmekgcfnaaDoor.CrcC
namespace Go.Proofs.YtgainlmekgcfnaaDoor.crcOf
open Go Go.RowKit
open Go.Proofs.YtgainlmekgcfnaaDoor.Gen
open Go.Proofs.YtgainlmekgcfnaaDoor.Crc
open Go.Proofs.YtgainlmekgcfnaaDoor.CrcC
set_option linter.unusedVariables false
set_option maxHeartbeats 2000000 in
theorem of_walk (l : List UInt8) (hl : l.length ≤ 140737488351232) (w : World) (ht : Tab w) : Calls Tryd.prog 3 #[.string ⟨l.toArray⟩] w fun e w' => e = .returned (.bool true) ∧ Below w.heap.size w w' := by
  have c5 : (⟨l.toArray⟩ : ByteArray).extract 0 (min (l.length : Int) 500).toNat = ⟨(l.take 500).toArray⟩ := cut l 500
  have h5 : (l.take 500).length ≤ 500 := by rw [List.length_take]; omega
  generalize l.take 500 = t at c5 h5
  go_enter Tryd.func3, Tryd.ntmps3
  go_wp2_with fail
  refine (awake_any _ ht).mono ?_; rintro e w2 ⟨rfl, hb⟩
  go_wp2_with fail
  refine (of_any t (by omega) _ (ht.b hb)).mono ?_; rintro e w3 ⟨rfl, hb3⟩
  replace hb := thenB hb hb3
  go_wp2_with fail
  refine (refOf_any t (by omega) _).mono ?_; rintro e w4 ⟨rfl, hb4⟩
  replace hb := thenB hb hb4
  go_wp2_with fail
  go_ret
  exact ⟨rfl, hb⟩
theorem walk (a0 : ByteArray) (w0 : a0.size ≤ 140737488351232) (W : World) (h : Laid W) : Calls Tryd.prog 3 #[.string a0] W fun e w' => e = .returned (.bool true) ∧ Below W.heap.size W w' := by
  obtain ⟨⟨l⟩⟩ := a0
  exact of_walk l w0 W h.tab
end Go.Proofs.YtgainlmekgcfnaaDoor.crcOf
namespace Go.Proofs.YtgainlmekgcfnaaDoor.crcMore
open Go Go.RowKit
open Go.Proofs.YtgainlmekgcfnaaDoor.Gen
open Go.Proofs.YtgainlmekgcfnaaDoor.Crc
open Go.Proofs.YtgainlmekgcfnaaDoor.CrcC
set_option linter.unusedVariables false
set_option maxHeartbeats 2000000 in
theorem more_walk (c : Nat) (hc : c < 4294967296) (l : List UInt8) (hl : l.length ≤ 140737488351232) (m : List UInt8) (hm : m.length ≤ 140737488351232) (w : World) (ht : Tab w) : Calls Tryd.prog 4 #[.int .u32 c, .string ⟨l.toArray⟩, .string ⟨m.toArray⟩] w fun e w' => e = .returned (.bool true) ∧ Below w.heap.size w w' := by
  have c1 : (⟨l.toArray⟩ : ByteArray).extract 0 (min (l.length : Int) 200).toNat = ⟨(l.take 200).toArray⟩ := cut l 200
  have c2 : (⟨m.toArray⟩ : ByteArray).extract 0 (min (m.length : Int) 200).toNat = ⟨(m.take 200).toArray⟩ := cut m 200
  have h1 : (l.take 200).length ≤ 200 := by rw [List.length_take]; omega
  have h2 : (m.take 200).length ≤ 200 := by rw [List.length_take]; omega
  generalize l.take 200 = a at c1 h1
  generalize m.take 200 = b at c2 h2
  go_enter Tryd.func4, Tryd.ntmps4
  go_wp2_with fail
  go_quiet (fail)
  clear c1 c2
  refine name_exit (fun w' => Below w.heap.size w w') (drewB _ _) ?_
  intro w1 hb
  simp only [Exit.then]
  have hm1 := moreN_lt hc a
  have hm2 := Lib.hid (moreN_append c a b)
  have hm3 := moreN_lt (c := 4294967295) (by omega) (a ++ b)
  have hof := Lib.hid (show Go.bits .xor .u32 IntKind.u32.max ((moreN 4294967295 (a ++ b) : Nat) : Int) = ((ofN (a ++ b) : Nat) : Int) by unfold ofN; rw [← xor_ones _ hm3]; exact u32_xor_nat 4294967295 _ (by omega) hm3)
  have hab : (a ++ b).length ≤ 400 := by rw [List.length_append]; omega
  have ht1 := ht.b hb
  go_wp2_with fail
  refine (awake_any _ ht1).mono ?_; rintro e w2 ⟨rfl, hb2⟩
  replace ht1 := ht1.b hb2
  replace hb := thenB hb hb2
  clear hb2
  go_wp2_with fail
  refine (more_any c hc a (by omega) _ ht1).mono ?_; rintro e w3 ⟨rfl, hb2⟩
  replace ht1 := ht1.b hb2
  replace hb := thenB hb hb2
  clear hb2
  go_wp2_with fail
  refine (refMore_any c hc a (by omega) _).mono ?_; rintro e w4 ⟨rfl, hb2⟩
  replace ht1 := ht1.b hb2
  replace hb := thenB hb hb2
  clear hb2
  go_wp2_with fail
  refine (more_any c hc a (by omega) _ ht1).mono ?_; rintro e w5 ⟨rfl, hb2⟩
  replace ht1 := ht1.b hb2
  replace hb := thenB hb hb2
  clear hb2
  go_wp2_with fail
  refine (more_any (moreN c a) hm1 b (by omega) _ ht1).mono ?_; rintro e w6 ⟨rfl, hb2⟩
  replace ht1 := ht1.b hb2
  replace hb := thenB hb hb2
  clear hb2
  rw [← hm2.out]
  go_wp2_with fail
  rw [str_app2]
  refine (more_any c hc (a ++ b) (by omega) _ ht1).mono ?_; rintro e w7 ⟨rfl, hb2⟩
  replace ht1 := ht1.b hb2
  replace hb := thenB hb hb2
  clear hb2
  go_wp2_with fail
  rw [str_app2]
  refine (more_any 4294967295 (by omega) (a ++ b) (by omega) _ ht1).mono ?_; rintro e w8 ⟨rfl, hb2⟩
  replace ht1 := ht1.b hb2
  replace hb := thenB hb hb2
  clear hb2
  go_wp2_with fail
  rw [str_app2]
  refine (of_any (a ++ b) (by omega) _ ht1).mono ?_; rintro e w9 ⟨rfl, hb2⟩
  replace hb := thenB hb hb2
  have hof := hof.out
  go_wp2_with fail
  go_ret
  exact ⟨rfl, hb⟩
theorem walk (a0 : Int) (w0 : (Lit.int .u32 a0).wf = true) (a1 : ByteArray) (w1 : a1.size ≤ 140737488351232) (a2 : ByteArray) (w2 : a2.size ≤ 140737488351232) (W : World) (h : Laid W) : Calls Tryd.prog 4 #[.int .u32 a0, .string a1, .string a2] W fun e w' => e = .returned (.bool true) ∧ Below W.heap.size W w' := by
  have hb := bounds_u32 w0
  obtain ⟨n, rfl⟩ : ∃ n : Nat, a0 = n := ⟨a0.toNat, by omega⟩
  obtain ⟨⟨l⟩⟩ := a1
  obtain ⟨⟨m⟩⟩ := a2
  exact more_walk n (by omega) l w1 m w2 W h.tab
end Go.Proofs.YtgainlmekgcfnaaDoor.crcMore
namespace Go.Proofs.YtgainlmekgcfnaaDoor.crcBit
open Go Go.RowKit
open Go.Proofs.YtgainlmekgcfnaaDoor.Gen
open Go.Proofs.YtgainlmekgcfnaaDoor.Crc
open Go.Proofs.YtgainlmekgcfnaaDoor.CrcC
set_option linter.unusedVariables false
/-- Bytes in memory. -/
def At (w : World) (g : Nat) (l : List UInt8) : Prop := ∀ j, j < l.length → w.cell? ⟨g, j, none⟩ = some (.int .u8 ((l[j]?.getD 0).toNat : Int))
theorem At.b {w w' : World} {g : Nat} {l : List UInt8} (h : At w g l) (hb : Below w.heap.size w w') : At w' g l := fun j hj => cellB hb (h j hj)
theorem conv_at (w : World) (g cap : Nat) (l : List UInt8) (h : At w g l) :
    (convert 28 9 (.slice (some ⟨g, 0, none⟩) l.length cap)).run Tryd.prog w = .ok (.string ⟨l.toArray⟩) w := by
  have := run_convert_bytes_arg (P := Tryd.prog) w 28 5 Tryd.underlying28 Tryd.underlying5 g 0 l.length cap (l.map fun b => (b.toNat : Int)) (by simp) (fun i hi => by
    rw [Nat.zero_add, h i hi]
    simp [hi]) 9 Tryd.underlying9
  rw [this]
  unfold strOfNums
  rw [List.map_map]
  have : (fun n : Int => UInt8.ofNat n.toNat) ∘ (fun b : UInt8 => (b.toNat : Int)) = id := by
    funext b
    simp
  rw [this, List.map_id]
theorem At.set {w : World} {g : Nat} {l : List UInt8} (h : At w g l) (i : Nat) (hi : i < l.length) (y : Nat) (hy : y < 256) : At (w.setCell ⟨g, i, none⟩ (.int .u8 (y : Int))) g (l.set i (UInt8.ofNat y)) := by
  intro j hj
  rw [List.length_set] at hj
  by_cases hij : j = i
  · subst hij
    rw [World.cell?_setCell_same (h := h j hj)]
    simp [hj]
    omega
  · rw [World.cell?_setCell_other (h := fun e => hij (by simpa using (congrArg Addr.off e).symm)), h j hj, List.getElem?_set_ne (by omega)]
theorem other (l : List UInt8) (i : Nat) (hi : i < l.length) (y : Nat) (hy : y < 256) (hne : y ≠ l[i].toNat) : ofN (l.set i (UInt8.ofNat y)) ≠ ofN l := by
  have h1 : l = l.take i ++ l[i] :: l.drop (i + 1) := by
    rw [List.getElem_cons_drop, List.take_append_drop]
  have h2 : l.set i (UInt8.ofNat y) = l.take i ++ UInt8.ofNat y :: l.drop (i + 1) := List.set_eq_take_append_cons_drop ▸ by simp [hi]
  have h3 : moreN 4294967295 (l.set i (UInt8.ofNat y)) ≠ moreN 4294967295 l := by
    rw [h2]
    conv => rhs; rw [h1]
    exact moreN_other _ _ (fun e => hne (by rw [← e]; simp; omega)) (by omega)
  have h4 := moreN_lt (c := 4294967295) (by omega) l
  have h5 := moreN_lt (c := 4294967295) (by omega) (l.set i (UInt8.ofNat y))
  unfold ofN
  omega
theorem shl1 (k : Nat) (hk : k < 8) : 2 ^ k < 256 := by
  have : 2 ^ k ≤ 2 ^ 7 := Nat.pow_le_pow_right (by decide) (by omega)
  omega
theorem flip_ne (x k : Nat) : x ^^^ 2 ^ k ≠ x := by
  intro h
  have : x ^^^ (x ^^^ 2 ^ k) = x ^^^ x := by rw [h]
  rw [← Nat.xor_assoc, Nat.xor_self, Nat.zero_xor] at this
  have h2 : 0 < 2 ^ k := Nat.pow_pos (by decide)
  omega
theorem frozen_bytes (w : World) (e : TypeId) (s : ByteArray) (j : Nat) (hj : j < s.size) : (Lib.bytesWorld w e s).frozen? ⟨w.heap.size, j, none⟩ = false := by
  unfold World.frozen?
  rw [Lib.bytesWorld_at_new]
  have : s.size ≤ (Lib.bytesCells w e s).size := by unfold Lib.bytesCells; simp
  simp
  omega
set_option maxHeartbeats 4000000 in
theorem bit_walk (l : List UInt8) (hl : l.length ≤ 140737488351232) (a : Int) (ha0 : -9223372036854775808 ≤ a) (ha1 : a ≤ 9223372036854775807) (w : World) (ht : Tab w) : Calls Tryd.prog 5 #[.string ⟨l.toArray⟩, .int .i64 a] w fun e w' => e = .returned (.bool true) ∧ Below w.heap.size w w' := by
  have c5 : (⟨l.toArray⟩ : ByteArray).extract 0 (min (l.length : Int) 500).toNat = ⟨(l.take 500).toArray⟩ := cut l 500
  have h5 : (l.take 500).length ≤ 500 := by rw [List.length_take]; omega
  generalize l.take 500 = t at c5 h5
  have hconv := Lib.run_convert_string_bytes (P := Tryd.prog) w 9 28 5 ⟨t.toArray⟩ Tryd.underlying9 Tryd.underlying28 Tryd.underlying5
  have hbel := conv_below w 5 ⟨t.toArray⟩
  have hcells := Lib.bytesWorld_cell w 5 ⟨t.toArray⟩
  have hfroz := frozen_bytes w 5 ⟨t.toArray⟩
  rw [size_mk] at hconv hcells
  rw [size_mk] at hfroz
  generalize Lib.bytesWorld w 5 ⟨t.toArray⟩ = w1 at hconv hbel hcells hfroz
  generalize grownCap w t.length 0 5 = cap at hconv
  have hat : At w1 w.heap.size t := fun j hj => by have := hcells j hj; simpa [List.getD] using this
  clear hcells
  have ht1 := ht.b hbel
  obtain ⟨g, hg⟩ : ∃ g, g = w.heap.size := ⟨_, rfl⟩
  rw [← hg] at hconv hat hfroz
  have HG := Lib.hid hg
  clear hg
  by_cases hz : t.length = 0
  · go_enter Tryd.func5, Tryd.ntmps5
    go_wp2_with fail
    refine (awake_any _ ht1).mono ?_; rintro e w2 ⟨rfl, hb⟩
    go_wp2_with fail
    go_ret
    exact ⟨rfl, thenB hbel hb⟩
  · have hpos : 0 < t.length := by omega
    obtain ⟨i, hi⟩ : ∃ i : Nat, (i : Int) = (a / 8 % 65536) % (t.length : Int) := ⟨((a / 8 % 65536) % (t.length : Int)).toNat, by have := Int.emod_nonneg (a / 8 % 65536) (show (t.length : Int) ≠ 0 by omega); omega⟩
    have hil : i < t.length := by have := Int.emod_lt_of_pos (a / 8 % 65536) (show (0 : Int) < (t.length : Int) by omega); omega
    obtain ⟨k, hk⟩ : ∃ k : Nat, (k : Int) = a % 8 := ⟨(a % 8).toNat, by omega⟩
    have hk8 : k < 8 := by omega
    have m16 : Go.bits .and .i64 (a / 8) 65535 = a / 8 % 65536 := and_mask_i64 (a / 8) 16 (by decide)
    have m3 : Go.bits .and .i64 a 7 = a % 8 := and_mask_i64 a 3 (by decide)
    rw [← hk] at m3
    clear hk
    have hq0 : 0 ≤ a / 8 % 65536 := by omega
    have hq1 : a / 8 % 65536 < 65536 := by omega
    generalize a / 8 % 65536 = q at m16 hi hq0 hq1
    have hi2 : q.tmod (t.length : Int) = (i : Int) := by rw [Int.tmod_eq_emod_of_nonneg hq0]; exact hi.symm
    have HI := Lib.hid hi
    clear hi
    have hcv := conv_at w1 g cap t hat
    go_enter Tryd.func5, Tryd.ntmps5
    go_wp2_with fail
    refine (of_any t (by omega) _ ht1).mono ?_; rintro e w2 ⟨rfl, hb2⟩
    have hat2 := hat.b hb2
    have hci := hat2 i hil
    have hfi : w2.frozen? ⟨g, i, none⟩ = false := by rw [hb2.frozen (World.block_lt_of_cell? w1 _ (hat i hil))]; exact hfroz i hil
    have hg2 : t[i]?.getD 0 = t[i] := by simp [hil]
    rw [hg2] at hci
    have hxl : t[i].toNat < 256 := UInt8.toNat_lt t[i]
    have hx := u8_xor_nat t[i].toNat (2 ^ k) hxl (shl1 k hk8)
    have hoth := Lib.hid (other t i hil (t[i].toNat ^^^ 2 ^ k) (Nat.xor_lt_two_pow (n := 8) hxl (shl1 k hk8)) (flip_ne _ _))
    have hyl : t[i].toNat ^^^ 2 ^ k < 256 := Nat.xor_lt_two_pow (n := 8) hxl (shl1 k hk8)
    have hset := hat2.set i hil _ hyl
    generalize t[i].toNat ^^^ 2 ^ k = y at hx hoth hyl hset
    go_wp2_with fail
    have e2 : (2 : Int) ^ k % 256 = ((2 ^ k : Nat) : Int) := by
      have := shl1 k hk8
      rw [show (2 : Int) ^ k = ((2 ^ k : Nat) : Int) by simp]
      generalize (2 : Nat) ^ k = p at this ⊢
      omega
    rw [e2, hx]
    have hbT : Below w.heap.size w (w2.setCell ⟨g, i, none⟩ (.int .u8 (y : Int))) := (thenB hbel hb2).setCell (p := ⟨g, i, none⟩) (Nat.le_of_eq HG.out.symm) _
    have ht3 := ht.b hbT
    generalize w2.setCell ⟨g, i, none⟩ (.int .u8 (y : Int)) = w3 at hset hbT ht3
    have hll : (t.set i (UInt8.ofNat y)).length = t.length := List.length_set
    generalize t.set i (UInt8.ofNat y) = t2 at hset hoth hll
    refine (awake_any _ ht3).mono ?_; rintro e w4 ⟨rfl, hb4⟩
    have hcv2 := conv_at w4 g cap t2 (hset.b hb4)
    rw [hll] at hcv2
    go_wp2_with fail
    refine (of_any t2 (by omega) _ (ht3.b hb4)).mono ?_; rintro e w5 ⟨rfl, hb5⟩
    have hne : (((ofN t2 : Nat) : Int) == ((ofN t : Nat) : Int)) = false := by
      have := hoth.out
      simp
      omega
    have hfin := thenB (thenB hbT hb4) hb5
    have hne2 := hoth.out
    go_wp2_with fail
    go_ret
    exact ⟨by show Ending.returned (.bool (((ofN t2 : Nat) : Int) != ((ofN t : Nat) : Int))) = _; unfold bne; rw [hne]; rfl, hfin⟩
theorem walk (a0 : ByteArray) (w0 : a0.size ≤ 140737488351232) (a1 : Int) (w1 : (Lit.int .i64 a1).wf = true) (W : World) (h : Laid W) : Calls Tryd.prog 5 #[.string a0, .int .i64 a1] W fun e w' => e = .returned (.bool true) ∧ Below W.heap.size W w' := by
  have hb := bounds_i64 w1
  obtain ⟨⟨l⟩⟩ := a0
  exact bit_walk l w0 a1 (by omega) (by omega) W h.tab
end Go.Proofs.YtgainlmekgcfnaaDoor.crcBit
