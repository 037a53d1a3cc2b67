/- Contracts of layer 2 (crc) and its reference: checks. The table is a hypothesis. -/
import Derived.Test.YtjkjcpbhlgjgcaaDoorCrcPure
import Derived.Test.YtjkjcpbhlgjgcaaDoorGen
import Derived.Test.YtjkjcpbhlgjgcaaDoorProg
import Derived.WalkKit
import Derived.WalkSpells
import Derived.BigQuiet
import Derived.Deep.QuietTactic
import Derived.Lib.MinMax
import Derived.Outline
import Derived.Lib.ConvBytes
import Derived.Lib.LaidTab
import Derived.Laws.BitsAllLaws
namespace Go.Proofs.YtjkjcpbhlgjgcaaDoor.CrcC
open Go Go.RowKit
open Go.Proofs.YtjkjcpbhlgjgcaaDoor.Gen
open Go.Proofs.YtjkjcpbhlgjgcaaDoor.Crc
set_option linter.unusedVariables false
theorem gTab : Tryd.prog.globalNamed "tarn/crc.turns" = some 0 := by kernel_rfl
/-- The table of what four bits become, in memory. -/
def Tab (w : World) : Prop := ∀ i, i < 16 → w.cell? ⟨0, i, none⟩ = some (.int .u32 (tabAt i : Int))
/-- What a row's list gives. -/
def Laid (w : World) : Prop := Tryd.prog.globalNamed "tarn/crc.turns" = some 0 ∧ Lib.TabIs Tryd.prog w "tarn/crc.turns" .u32 [0, 498536548, 997073096, 651767980, 1994146192, 1802195444, 1303535960, 1342533948, 3988292384, 4027552580, 3604390888, 3412177804, 2607071920, 2262029012, 2685067896, 3183342108]
theorem Laid.tab {w : World} (h : Laid w) : Tab w := by
  intro i hi
  have := h.2.cell h.1 i hi
  rw [this]
  have e : ∀ i, i < 16 → (([0, 498536548, 997073096, 651767980, 1994146192, 1802195444, 1303535960, 1342533948, 3988292384, 4027552580, 3604390888, 3412177804, 2607071920, 2262029012, 2685067896, 3183342108] : List Int).getD i 0) = (tabAt i : Int) := by decide
  rw [e i hi]
theorem Tab.b {w w' : World} (h : Tab w) (hb : Below w.heap.size w w') : Tab w' := fun i hi => cellB hb (h i hi)
theorem ret_int {k : IntKind} {a b : Int} (h : a = b) : Ending.returned (.int k a) = .returned (.int k b) := by rw [h]
theorem tab_lt (i : Nat) : tabAt i < 4294967296 := by
  rcases Nat.lt_or_ge i 16 with h | h
  · exact (show ∀ i, i < 16 → tabAt i < 4294967296 by decide) i h
  · unfold tabAt
    rw [List.getD_eq_getElem?_getD, List.getElem?_eq_none (by simpa [tabs] using h)]
    decide
set_option maxHeartbeats 1000000 in
theorem nibble_any (c b : Nat) (hc : c < 4294967296) (hb : b < 4294967296) (w : World) (ht : Tab w) : Calls Tryd.prog 68 #[.int .u32 c, .int .u32 b] w fun e w' => e = .returned (.int .u32 (nib c b)) ∧ w = w' := by
  have hx := u32_xor_nat c b hc hb
  have ha : Go.bits .and .u32 ((c ^^^ b : Nat) : Int) 15 = (((c ^^^ b) % 16 : Nat) : Int) := by
    have := u32_and_nat (c ^^^ b) 15 (xor_lt32 hc hb) (by omega)
    rw [show (15 : Nat) = 2 ^ 4 - 1 from rfl, Nat.and_two_pow_sub_one_eq_mod] at this
    exact this
  have hr : (c ^^^ b) % 16 < 16 := Nat.mod_lt _ (by omega)
  have hcell := ht _ hr
  have hy := u32_xor_nat (tabAt ((c ^^^ b) % 16)) (c / 16) (tab_lt _) (by omega)
  have hn : tabAt ((c ^^^ b) % 16) ^^^ c / 16 = nib c b := rfl
  rw [hn] at hy
  clear hn
  generalize (c ^^^ b) % 16 = i at ha hr hcell hy
  generalize c ^^^ b = x at hx ha
  generalize tabAt i = t at hcell hy
  have HY := Lib.hid hy
  clear hy
  go_enter Tryd.func68, Tryd.ntmps68
  go_wp2_with fail
  go_ret
  exact ⟨ret_int (by rw [← HY.out, show (c : Int) / 16 = ((c / 16 : Nat) : Int) by omega]), rfl⟩
theorem nib_lt {c b : Nat} (hc : c < 4294967296) : nib c b < 4294967296 := xor_lt32 (tab_lt _) (by omega)
theorem size_mk (l : List UInt8) : (⟨l.toArray⟩ : ByteArray).size = l.length := by show l.toArray.size = _; simp
theorem more_take (c : Nat) (l : List UInt8) (k : Nat) (hk : k < l.length) : moreN c (l.take (k + 1)) = byteN (moreN c (l.take k)) l[k].toNat := by
  rw [List.take_succ_eq_append_getElem hk, moreN_snoc]
theorem conv_below (w : World) (e : TypeId) (s : ByteArray) : Below w.heap.size w (Lib.bytesWorld w e s) :=
  ⟨rfl, rfl, rfl, by rw [Lib.bytesWorld_size]; omega, fun j hj => Lib.bytesWorld_at_old w e s j hj⟩
set_option maxHeartbeats 2000000 in
theorem more_any (c : Nat) (hc : c < 4294967296) (l : List UInt8) (hl : l.length ≤ 140737488355328) (w : World) (ht : Tab w) : Calls Tryd.prog 52 #[.int .u32 c, .string ⟨l.toArray⟩] w fun e w' => e = .returned (.int .u32 (moreN c l)) ∧ Below w.heap.size w w' := by
  have hconv := Lib.run_convert_string_bytes (P := Tryd.prog) w 9 22 5 ⟨l.toArray⟩ Tryd.underlying9 Tryd.underlying22 Tryd.underlying5
  have hbel := conv_below w 5 ⟨l.toArray⟩
  have hcells := Lib.bytesWorld_cell w 5 ⟨l.toArray⟩
  rw [size_mk] at hconv hcells
  generalize Lib.bytesWorld w 5 ⟨l.toArray⟩ = w1 at hconv hbel hcells
  generalize grownCap w l.length 0 5 = cap at hconv
  obtain ⟨ad, had⟩ : ∃ ad : Addr, ad = ⟨w.heap.size, 0, none⟩ := ⟨_, rfl⟩
  have hcells : ∀ k, k < l.length → w1.cell? (ad.add k) = some (.int .u8 ((l[k]?.getD 0).toNat : Int)) := fun k hk => by
    have := hcells k hk
    rw [had]
    have e : (⟨w.heap.size, 0, none⟩ : Addr).add k = ⟨w.heap.size, k, none⟩ := by
      cases k with
      | zero => rfl
      | succ k => simp [Addr.add]
    rw [e]
    simpa [List.getD] using this
  rw [← had] at hconv
  clear had
  have ht1 := ht.b hbel
  go_enter Tryd.func52, Tryd.ntmps52
  go_wp2_with fail
  go_loop [0, 10] (fun a i => ∃ m k : Nat, a = .int .u32 m ∧ i = .int .i64 k ∧ m < 4294967296 ∧ k ≤ l.length ∧ Hid (m = moreN c (l.take k))) (fun _ i => l.length - (intOf i).toNat)
  case atStart => exact ⟨c, 0, rfl, rfl, hc, by omega, rfl⟩
  case round =>
    obtain ⟨m, k, rfl, rfl, hm, hk, H⟩ := hrel
    by_cases hlt : k < l.length
    · have hcell := hcells k hlt
      have hv := more_take c l k hlt
      rw [← H.out] at hv
      have hg : l[k]?.getD 0 = l[k] := by simp [hlt]
      rw [hg] at hcell
      have hbl : l[k].toNat < 256 := UInt8.toNat_lt l[k]
      obtain ⟨b, hb⟩ : ∃ b, b = l[k].toNat := ⟨_, rfl⟩
      rw [← hb] at hcell hv hbl
      have HV := Lib.hid hv
      clear hv H hg hcells hb
      have hn1 := nib_lt (b := b) hm
      go_wp2_with fail
      refine (nibble_any m b hm (by omega) _ ht1).mono ?_; rintro e w2 ⟨rfl, rfl⟩
      go_wp2_with fail
      rw [show (b : Int) / 16 = ((b / 16 : Nat) : Int) by omega]
      refine (nibble_any (nib m b) (b / 16) hn1 (by omega) _ ht1).mono ?_; rintro e w2 ⟨rfl, rfl⟩
      have hn2 := nib_lt (c := nib m b) (b := b / 16) hn1
      go_wp2_with fail
      exact ⟨⟨byteN m b, k + 1, rfl, by go_num, hn2, by omega, HV.out.symm⟩, by simp [intOf]; omega⟩
    · obtain rfl : k = l.length := by omega
      go_wp2_with fail
      go_ret
      exact ⟨ret_int (by rw [H.out, List.take_length]), hbel⟩
theorem step_odd {y : Nat} (h : y % 2 = 1) : Crc.step y = y / 2 ^^^ 3988292384 := by unfold Crc.step; rw [if_pos h]; rfl
theorem step_ev {y : Nat} (h : ¬ y % 2 = 1) : Crc.step y = y / 2 := by unfold Crc.step; rw [if_neg h, Nat.xor_zero]
/-- So many bits. -/
def steps : Nat → Nat → Nat
  | 0, x => x
  | j + 1, x => Crc.step (steps j x)
theorem steps_lt {x : Nat} (h : x < 4294967296) : ∀ j, steps j x < 4294967296
  | 0 => h
  | j + 1 => step_lt (steps_lt h j)
theorem steps_8 (c b : Nat) (hb : b < 256) : steps 8 (c ^^^ b) = byteN c b := (byteN_eq c b hb).symm
theorem idx (s : List UInt8) (j : Nat) (h : j < s.length) (h2 : j < (⟨s.toArray⟩ : ByteArray).size) : ((⟨s.toArray⟩ : ByteArray)[j]'h2).toNat = (s[j]?.getD 0).toNat := by
  rw [List.getElem?_eq_getElem h]
  rfl
set_option maxHeartbeats 4000000 in
theorem refMore_any (c : Nat) (hc : c < 4294967296) (l : List UInt8) (hl : l.length ≤ 140737488355328) (w : World) : Calls Tryd.prog 58 #[.int .u32 c, .string ⟨l.toArray⟩] w fun e w' => e = .returned (.int .u32 (moreN c l)) ∧ Below w.heap.size w w' := by
  go_enter Tryd.func58, Tryd.ntmps58
  go_wp2_with fail
  go_loop [0, 5, 6, 7] (fun a i _ _ => ∃ m k : Nat, a = .int .u32 m ∧ i = .int .i64 k ∧ m < 4294967296 ∧ k ≤ l.length ∧ Hid (m = moreN c (l.take k))) (fun _ i _ _ => l.length - (intOf i).toNat)
  case atStart => exact ⟨c, 0, rfl, rfl, hc, by omega, rfl⟩
  case round =>
    obtain ⟨m, k, rfl, rfl, hm, hk, H⟩ := hrel
    by_cases hlt : k < l.length
    · have hv := more_take c l k hlt
      rw [← H.out] at hv
      have hbl : l[k].toNat < 256 := UInt8.toNat_lt l[k]
      have hz := idx l k hlt (by rw [size_mk]; exact hlt)
      have hg : l[k]?.getD 0 = l[k] := by simp [hlt]
      rw [hg] at hz
      generalize l[k].toNat = b at hv hbl hz
      have HV := Lib.hid hv
      have hx := u32_xor_nat m b hm (by omega)
      have h8 := steps_8 m b hbl
      have hxl := xor_lt32 hm (show b < 4294967296 by omega)
      generalize m ^^^ b = x at hx h8 hxl
      have H8 := Lib.hid h8
      clear hv H hg h8
      go_wp2_with fail
      go_loop [0, 6, 7] (fun a i _ => ∃ y j : Nat, a = .int .u32 y ∧ i = .int .i64 j ∧ y < 4294967296 ∧ j ≤ 8 ∧ Hid (y = steps j x)) (fun _ i _ => 8 - (intOf i).toNat)
      case atStart => exact ⟨x, 0, rfl, rfl, hxl, by omega, rfl⟩
      case round =>
        obtain ⟨y, j, rfl, rfl, hy, hj, HY⟩ := hrel
        by_cases hj8 : j < 8
        · by_cases hp : y % 2 = 1
          · have hs := step_odd hp
            have hxx := u32_xor_nat (y / 2) 3988292384 (by omega) (by omega)
            rw [← hs] at hxx
            have hl2 := step_lt hy
            have HXX := Lib.hid hxx
            clear hxx hs
            go_wp2_with fail
            exact ⟨⟨Crc.step y, j + 1, by rw [show (y : Int) / 2 = ((y / 2 : Nat) : Int) by omega]; exact congrArg (Value.int IntKind.u32) HXX.out, by go_num, hl2, by omega, by show Crc.step y = Crc.step (steps j x); rw [← HY.out]⟩, by simp [intOf]; omega⟩
          · have HS := Lib.hid (step_ev hp)
            go_wp2_with fail
            exact ⟨⟨Crc.step y, j + 1, by rw [HS.out]; go_num, by go_num, by rw [HS.out]; omega, by omega, by show Crc.step y = Crc.step (steps j x); rw [← HY.out]⟩, by simp [intOf]; omega⟩
        · obtain rfl : j = 8 := by omega
          go_wp2_with fail
          exact ⟨⟨y, k + 1, rfl, by go_num, hy, by omega, by show y = _; rw [HV.out, ← H8.out]; exact HY.out⟩, by simp [intOf]; omega⟩
    · obtain rfl : k = l.length := by omega
      go_wp2_with fail
      go_ret
      exact ⟨ret_int (by rw [H.out, List.take_length]), Below.refl _ _⟩
theorem xor_ones (m : Nat) (hm : m < 4294967296) : 4294967295 ^^^ m = 4294967295 - m := by
  apply Nat.eq_of_testBit_eq
  intro i
  have h1 : (4294967295 - m).testBit i = (decide (i < 32) && !m.testBit i) := by
    have := Nat.testBit_two_pow_sub_succ (n := 32) hm i
    rwa [show 2 ^ 32 - (m + 1) = 4294967295 - m by omega] at this
  have h2 : Nat.testBit 4294967295 i = decide (i < 32) := Nat.testBit_two_pow_sub_one 32 i
  rw [Nat.testBit_xor, h1, h2]
  by_cases c : i < 32
  · simp [c]
  · have h3 : m.testBit i = false := Nat.testBit_lt_two_pow (Nat.lt_of_lt_of_le hm (Nat.pow_le_pow_right (n := 2) (by decide) (show 32 ≤ i by omega)))
    simp [c, h3]
/-- The check of bytes. -/
def ofN (l : List UInt8) : Nat := 4294967295 - moreN 4294967295 l
theorem ofN_lt (l : List UInt8) : ofN l < 4294967296 := by unfold ofN; omega
theorem of_any (l : List UInt8) (hl : l.length ≤ 140737488355328) (w : World) (ht : Tab w) : Calls Tryd.prog 27 #[.string ⟨l.toArray⟩] w fun e w' => e = .returned (.int .u32 (ofN l)) ∧ Below w.heap.size w w' := by
  have hm := moreN_lt (c := 4294967295) (by omega) l
  go_enter Tryd.func27, Tryd.ntmps27
  go_wp2_with fail
  refine (more_any 4294967295 (by omega) l hl _ ht).mono ?_; rintro e w2 ⟨rfl, hb⟩
  go_wp2_with fail
  go_ret
  exact ⟨ret_int (by unfold ofN; rw [← xor_ones _ hm]; exact u32_xor_nat 4294967295 _ (by omega) hm), hb⟩
theorem refOf_any (l : List UInt8) (hl : l.length ≤ 140737488355328) (w : World) : Calls Tryd.prog 33 #[.string ⟨l.toArray⟩] w fun e w' => e = .returned (.int .u32 (ofN l)) ∧ Below w.heap.size w w' := by
  have hm := moreN_lt (c := 4294967295) (by omega) l
  go_enter Tryd.func33, Tryd.ntmps33
  go_wp2_with fail
  refine (refMore_any 4294967295 (by omega) l hl _).mono ?_; rintro e w2 ⟨rfl, hb⟩
  go_wp2_with fail
  go_ret
  exact ⟨ret_int (by unfold ofN; omega), hb⟩
end Go.Proofs.YtjkjcpbhlgjgcaaDoor.CrcC
