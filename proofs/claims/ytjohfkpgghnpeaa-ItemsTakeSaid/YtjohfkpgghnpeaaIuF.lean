-- packed by pack.py, a program of this claim's repo
import Derived.Test.YtjohfkpgghnpeaaIuB
import Derived.Test.YtjohfkpgghnpeaaIuC
import Derived.Test.YtjohfkpgghnpeaaIuD
import Derived.Test.YtjohfkpgghnpeaaIuE
import Derived.Lib.BufferOwn
import Derived.Lib.BufferWrite
import Derived.Lib.ConvBytes
import Derived.Laws.BitsAllLaws
section
namespace Go.Proofs.Ytjohfkpgghnpeaa.NumC
open Go Go.RowKit
open Go.Proofs.Ytjohfkpgghnpeaa.Gen
open Go.Proofs.Ytjohfkpgghnpeaa.Num
set_option linter.unusedVariables false
structure Src (w : World) (b : Nat) (all : List UInt8) (r : R) : Prop where
  c0 : w.cell? ⟨b, 0, none⟩ = some (.string ⟨all.toArray⟩)
  c1 : w.cell? ⟨b, 1, none⟩ = some (.int .i64 ((all.length - r.s.length : Nat) : Int))
  c2 : w.cell? ⟨b, 2, none⟩ = some (.int .i64 (r.err : Int))
  f1 : w.frozen? ⟨b, 1, none⟩ = false
  f2 : w.frozen? ⟨b, 2, none⟩ = false
  suf : r.s <:+ all
  ok : r.ok
  len : all.length ≤ 140737488355328
  err : r.err ≤ 1000
theorem cell_set {w : World} {b i j : Nat} {u v : Value} (hc : w.cell? ⟨b, i, none⟩ = some u) : (w.setCell ⟨b, j, none⟩ v).cell? ⟨b, i, none⟩ = some (if i = j then v else u) := by
  by_cases hij : i = j
  · subst hij
    rw [World.cell?_setCell_same (h := hc), if_pos rfl]
  · rw [World.cell?_setCell_other (h := fun e => hij (by simpa using (congrArg Addr.off e).symm)), hc, if_neg hij]
theorem ext (l : List UInt8) (i j : Nat) : (⟨l.toArray⟩ : ByteArray).extract i j = ⟨((l.drop i).take (j - i)).toArray⟩ := by
  apply ByteArray.ext
  rw [ByteArray.data_extract]
  apply Array.ext'
  simp [List.extract]
theorem value_take (l : List UInt8) (k : Nat) (hk : k < l.length) : value (l.take (k + 1)) = value (l.take k) * 256 + l[k].toNat := by
  rw [List.take_succ_eq_append_getElem hk, value_snoc]
theorem value_take_lt (l : List UInt8) (k : Nat) (hk : k < l.length) (hl : l.length ≤ 8) : value (l.take k) < 72057594037927936 := by
  have h1 := value_lt (l.take k)
  have h2 : (l.take k).length ≤ 7 := by rw [List.length_take]; omega
  have h3 : 256 ^ (l.take k).length ≤ 256 ^ 7 := Nat.pow_le_pow_right (by decide) h2
  omega
theorem or_byte (n b : Nat) (hn : n < 72057594037927936) (hb : b < 256) : Go.bits .or .u64 ((n * 256 : Nat) : Int) (b : Int) = ((n * 256 + b : Nat) : Int) := by
  rw [u64_or_nat _ _ (by omega) (by omega)]
  congr 1
  have := Nat.shiftLeft_add_eq_or_of_lt (i := 8) (show b < 2 ^ 8 by omega) n
  rw [Nat.shiftLeft_eq] at this
  exact this.symm
theorem conv_below (w : World) (e : TypeId) (s : ByteArray) : Below w.heap.size w (Lib.bytesWorld w e s) :=
  ⟨rfl, rfl, rfl, by rw [Lib.bytesWorld_size]; omega, fun j hj => Lib.bytesWorld_at_old w e s j hj⟩
set_option maxHeartbeats 2000000 in
theorem big_any (l : List UInt8) (hl : l.length ≤ 8) (w : World) : Calls Try.prog 111 #[.string ⟨l.toArray⟩] w fun e w' => e = .returned (.int .u64 (value l)) ∧ Below w.heap.size w w' := by
  have hconv := Lib.run_convert_string_bytes (P := Try.prog) w 9 121 5 ⟨l.toArray⟩ Try.underlying9 Try.underlying121 Try.underlying5
  have hbel := conv_below w 5 ⟨l.toArray⟩
  have hcells := Lib.bytesWorld_cell w 5 ⟨l.toArray⟩
  rw [size_mk] at hconv hcells
  generalize Lib.bytesWorld w 5 ⟨l.toArray⟩ = w1 at hconv hbel hcells
  generalize grownCap w l.length 0 5 = cap at hconv
  obtain ⟨ad, had⟩ : ∃ ad : Addr, ad = ⟨w.heap.size, 0, none⟩ := ⟨_, rfl⟩
  have hcells : ∀ k, k < l.length → w1.cell? (ad.add k) = some (.int .u8 ((l[k]?.getD 0).toNat : Int)) := fun k hk => by
    have := hcells k hk
    rw [had]
    have e : (⟨w.heap.size, 0, none⟩ : Addr).add k = ⟨w.heap.size, k, none⟩ := by
      cases k with
      | zero => rfl
      | succ k => simp [Addr.add]
    rw [e]
    simpa [List.getD] using this
  rw [← had] at hconv
  clear had
  go_enter Try.func111, Try.ntmps111
  go_wp2_with fail
  go_loop [3, 9] (fun a c => ∃ m k : Nat, a = .int .u64 m ∧ c = .int .i64 k ∧ k ≤ l.length ∧ Hid (m = value (l.take k))) (fun _ c => l.length - (intOf c).toNat)
  case atStart => exact ⟨0, 0, rfl, rfl, by omega, rfl⟩
  case round =>
    obtain ⟨m, k, rfl, rfl, hk, H⟩ := hrel
    by_cases hlt : k < l.length
    · have hc := hcells k hlt
      have hm := value_take_lt l k hlt hl
      rw [← H.out] at hm
      have hv := value_take l k hlt
      rw [← H.out] at hv
      have hg : l[k]?.getD 0 = l[k] := by simp [hlt]
      rw [hg] at hc
      have hbl := UInt8.toNat_lt l[k]
      have HV := Lib.hid hv
      have HO := Lib.hid (or_byte m l[k].toNat hm hbl)
      clear hv H hg
      go_wp2_with fail
      refine ⟨⟨m * 256 + l[k].toNat, k + 1, ?_, by go_num, by omega, HV.out.symm⟩, by simp [intOf]; omega⟩
      rw [show (m : Int) * 256 = ((m * 256 : Nat) : Int) by omega, HO.out]
    · obtain rfl : k = l.length := by omega
      go_wp2_with fail
      go_ret
      exact ⟨ret_int (by rw [H.out, List.take_length]), hbel⟩
theorem take_snd_len (r : R) (n : Int) : (r.take n).2.length ≤ n.toNat := by
  unfold R.take
  split
  · exact Nat.zero_le _
  · simp only [List.length_take]; omega
theorem take_all {r : R} {n : Int} (h : ¬ (n < 0 ∨ (r.s.length : Int) < n)) : (r.take n).2.length = n.toNat ∧ (r.take n).1.err = r.err := by
  unfold R.take
  rw [if_neg h]
  exact ⟨by simp only [List.length_take]; omega, rfl⟩
theorem take_none {r : R} {n : Nat} (h : (r.s.length : Int) < n) : (r.take n).2 = [] ∧ ((r.take n).1.err ≠ 0) ∧ (r.take n).1 = r.fail 2 := by
  unfold R.take
  rw [if_pos (Or.inr h)]
  refine ⟨rfl, ?_, rfl⟩
  unfold R.fail
  split
  · decide
  · rename_i h1
    intro h2
    exact h1 ⟨h2, by decide⟩
theorem fail_after {r : R} (h : r.err ≠ 0) (e : Nat) : r.fail e = r := by
  unfold R.fail
  rw [if_neg (fun ⟨a, _⟩ => h a)]
theorem num_split {r : R} {m : Nat} (ho : r.ok) : ((r.take 1).2 = [] ∧ r.num m = ((r.take 1).1, 0)) ∨ ∃ c : UInt8, (r.take 1).2 = [c] ∧
    ((8 < c.toNat ∧ r.num m = ((r.take 1).1.fail 3, 0)) ∨ (c.toNat ≤ 8 ∧
      (((r.take 1).1.take c.toNat).2.length = c.toNat ∧ ((width (value ((r.take 1).1.take c.toNat).2) = c.toNat ∧ value ((r.take 1).1.take c.toNat).2 ≤ m ∧ r.num m = (((r.take 1).1.take c.toNat).1, value ((r.take 1).1.take c.toNat).2)) ∨
        (¬ (width (value ((r.take 1).1.take c.toNat).2) = c.toNat ∧ value ((r.take 1).1.take c.toNat).2 ≤ m) ∧ r.num m = (((r.take 1).1.take c.toNat).1.fail 3, 0))) ∨
       ((((r.take 1).1.take c.toNat).2 = [] ∧ 0 < c.toNat ∧ (((r.take 1).1.take c.toNat).1.fail 3 = ((r.take 1).1.take c.toNat).1) ∧ r.num m = (((r.take 1).1.take c.toNat).1, 0)))))) := by
  have hl := take_snd_len r 1
  have ho1 := R.take_ok ho 1
  unfold R.num
  generalize r.take 1 = t at hl ho1
  obtain ⟨r1, l1⟩ := t
  dsimp only at hl ho1 ⊢
  match l1, hl with
  | [], _ => exact Or.inl ⟨rfl, rfl⟩
  | [c], _ =>
    refine Or.inr ⟨c, rfl, ?_⟩
    dsimp only
    by_cases h8 : 8 < c.toNat
    · rw [if_pos h8]
      exact Or.inl ⟨h8, rfl⟩
    · rw [if_neg h8]
      refine Or.inr ⟨by omega, ?_⟩
      by_cases hn : (r1.s.length : Int) < (c.toNat : Nat)
      · obtain ⟨e1, e2, e3⟩ := take_none hn
        refine Or.inr ⟨e1, by omega, fail_after e2 3, ?_⟩
        rw [if_pos e2]
      · obtain ⟨e1, e2⟩ := take_all (r := r1) (n := (c.toNat : Nat)) (by omega)
        rw [Int.toNat_natCast] at e1
        refine Or.inl ⟨e1, ?_⟩
        generalize hq : r1.take (c.toNat : Nat) = q at e1 e2
        obtain ⟨r2, l2⟩ := q
        dsimp only at e1 e2 ⊢
        by_cases hr : r2.err = 0
        · by_cases hw : width (value l2) = c.toNat ∧ value l2 ≤ m
          · refine Or.inl ⟨hw.1, hw.2, ?_⟩
            rw [if_neg (by omega), if_neg (by omega)]
          · refine Or.inr ⟨hw, ?_⟩
            rw [if_neg (by omega), if_pos (by omega)]
        · by_cases hw : width (value l2) = c.toNat ∧ value l2 ≤ m
          · have hs1 := ho1 (by rw [← e2]; exact hr)
            have hc0 : c.toNat = 0 := by rw [hs1] at hn; simp at hn; omega
            have hl0 : l2 = [] := List.length_eq_zero_iff.1 (by omega)
            refine Or.inl ⟨hw.1, hw.2, ?_⟩
            rw [if_pos hr, hl0]
            rfl
          · refine Or.inr ⟨hw, ?_⟩
            rw [if_pos hr, fail_after hr]
theorem num_le (r : R) (m : Nat) (ho : r.ok) : (r.num m).2 ≤ m := by
  rcases num_split (r := r) (m := m) ho with ⟨_, h⟩ | ⟨c, _, ⟨_, h⟩ | ⟨_, ⟨_, ⟨_, h2, h⟩ | ⟨_, h⟩⟩ | ⟨_, _, _, h⟩⟩⟩
  all_goals rw [h]; first | exact Nat.zero_le _ | exact h2
theorem int_le (r : R) (n : Int) (ho : r.ok) : 0 ≤ (r.int n).2 ∧ (r.int n).2 ≤ max n 0 := by
  have := num_le r (max n 0).toNat ho
  unfold R.int
  dsimp only
  omega
end Go.Proofs.Ytjohfkpgghnpeaa.NumC
end
section
namespace Go.Proofs.Ytjohfkpgghnpeaa.NumC
open Go Go.RowKit
open Go.Proofs.Ytjohfkpgghnpeaa.Gen
open Go.Proofs.Ytjohfkpgghnpeaa.Num
set_option linter.unusedVariables false
end Go.Proofs.Ytjohfkpgghnpeaa.NumC
end
