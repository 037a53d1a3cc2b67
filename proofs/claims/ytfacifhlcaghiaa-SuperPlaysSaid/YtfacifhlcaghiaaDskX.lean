/- Contracts of layer 4 (disk): a failure. -/
import Derived.Test.YtfacifhlcaghiaaDskW
import Derived.Laws.BitsAllLaws
namespace Go.Proofs.Ytfacifhlcaghiaa.Dsk
open Go Go.RowKit
open Go.Proofs.Ytfacifhlcaghiaa.Gen
open Go.Proofs.Ytfacifhlcaghiaa.Own
open Go.Proofs.Ytfacifhlcaghiaa.RowK
set_option linter.unusedVariables false
set_option linter.unusedSimpArgs false
theorem crashN_len {f : Int} {S : List Sec} {L : List Wr} (h : OkD S L) (k : Nat) : (crashN f S L k).length = S.length := (crashN_ok h k).1
/-- Of any world. -/
def AnyW (w : World) : Prop := w = w
theorem anyW (w : World) : AnyW w := rfl
theorem and_mask_u64 (a : Int) (j : Nat) (hj : j ≤ 62) : Go.bits .and .u64 a ((2 ^ j - 1 : Nat) : Int) = a % ((2 ^ j : Nat) : Int) := by
  have hp : 2 ^ j ≤ 2 ^ 62 := Nat.pow_le_pow_right (by decide) hj
  have h1 : 0 < 2 ^ j := Nat.pow_pos (by decide)
  show IntKind.u64.wrap ((((BitVec.ofInt 64 a) &&& (BitVec.ofInt 64 ((2 ^ j - 1 : Nat) : Int)) : BitVec 64).toNat : Nat) : Int) = _
  have e2 : (BitVec.ofInt 64 ((2 ^ j - 1 : Nat) : Int)).toNat = 2 ^ j - 1 := by
    rw [BitVec.toNat_ofInt]
    omega
  rw [BitVec.toNat_and, e2, Nat.and_two_pow_sub_one_eq_mod]
  have e1 : (BitVec.ofInt 64 a).toNat = (a % 18446744073709551616).toNat := by
    rw [BitVec.toNat_ofInt]; rfl
  rw [e1]
  have e3 : (((a % 18446744073709551616).toNat % 2 ^ j : Nat) : Int) = a % ((2 ^ j : Nat) : Int) := by
    rw [Int.natCast_emod, Int.toNat_of_nonneg (by omega)]
    refine Int.emod_emod_of_dvd _ ?_
    have : (18446744073709551616 : Int) = ((2 ^ 64 : Nat) : Int) := by decide
    rw [this]
    exact Int.natCast_dvd_natCast.2 (Nat.pow_dvd_pow 2 (by omega))
  rw [e3]
  have h2 : 0 ≤ a % ((2 ^ j : Nat) : Int) := Int.emod_nonneg _ (by omega)
  have h3 : a % ((2 ^ j : Nat) : Int) < ((2 ^ j : Nat) : Int) := Int.emod_lt_of_pos _ (by omega)
  rw [IntKind.wrap_u64]
  omega
theorem cell_setne {w : World} {a i b j : Nat} (u : Value) (h : b ≠ a) : (w.setCell ⟨a, i, none⟩ u).cell? ⟨b, j, none⟩ = w.cell? ⟨b, j, none⟩ := World.cell?_of_block (Below.heap_setCell w ⟨a, i, none⟩ u b h)
theorem shift_fate (f : Int) (hf : 0 ≤ f) (k : Nat) : ∃ F : Int, Op.shift .shr .u64 f .i64 (IntKind.i64.wrap (2 * ((k : Int) % 32))) = pure (.int .u64 F) ∧ Go.bits .and .u64 F 3 = ((fate f k : Nat) : Int) := by
  have hw : IntKind.i64.wrap (2 * ((k : Int) % 32)) = ((2 * (k % 32) : Nat) : Int) := by rw [IntKind.wrap_i64]; omega
  refine ⟨f / 2 ^ (2 * (k % 32)), ?_, ?_⟩
  · rw [hw]
    have := shift_shr_u64 (x := f) (yk := .i64) (y := ((2 * (k % 32) : Nat) : Int)) (by omega) (by omega)
    rw [Int.toNat_natCast] at this
    exact this
  · have h3 := and_mask_u64 (f / 2 ^ (2 * (k % 32))) 2 (by decide)
    rw [show (((2 ^ 2 - 1 : Nat) : Nat) : Int) = 3 by decide] at h3
    rw [h3]
    unfold fate
    rw [Nat.shiftRight_eq_div_pow]
    obtain ⟨n, rfl⟩ : ∃ n : Nat, f = n := ⟨f.toNat, by omega⟩
    rw [Int.toNat_natCast]
    have e : ((n : Int) / 2 ^ (2 * (k % 32))) = ((n / 2 ^ (2 * (k % 32)) : Nat) : Int) := by
      rw [Int.natCast_ediv]
      congr 1
    rw [e]
    generalize n / 2 ^ (2 * (k % 32)) = q
    rfl
set_option maxRecDepth 20000 in
set_option maxHeartbeats 4000000 in
theorem crash_any (W : World) (B : Nat) (h : Hd) (S : List Sec) (L : List Wr) (f : Int) (hf0 : 0 ≤ f) (hf1 : f < 18446744073709551616) (d : IsDk W B h S L) : Calls Try.prog 20 #[ptr h, .int .u64 f] W (DkPost W B h (crashL f S L) [] (.tuple #[])) := by
  unfold ptr
  obtain ⟨g, vA, vB⟩ := h
  obtain ⟨g1, cap, rfl, hg1, hne, _⟩ := d.rowA
  obtain ⟨A, cap2, rfl, hcap2⟩ := own_slice d.rl
  have c1 : W.cell? ⟨g, 1, none⟩ = some (.slice A L.length cap2) := d.cells.2.1
  have hlen := d.few
  have hA : 0 < L.length → ∃ g2, A = some ⟨g2, 0, none⟩ ∧ g2 < W.heap.size := fun hL => by
    obtain ⟨g2, cap', e, _, h2, _⟩ := d.rowB (List.length_pos_iff.1 hL)
    injection e with e _ _
    exact ⟨g2, e, h2⟩
  have hinn := d.ok.inn
  have hsl := fun k => crashN_ok (f := f) d.ok k
  have HD := Lib.hid d
  have HSL := Lib.hid hsl
  have HIN := Lib.hid hinn
  clear d hsl hinn
  go_enter Try.func20, Try.ntmps20
  go_wp2_with fail
  go_loopw [13] (fun iv w => ∃ k : Nat, iv = .int .i64 k ∧ k ≤ L.length ∧ Hid (IsDk w B ⟨g, .slice (some ⟨g1, 0, none⟩) S.length cap, .slice A L.length cap2⟩ (crashN f S L k) L ∧ KeptD W w ⟨g, .slice (some ⟨g1, 0, none⟩) S.length cap, .slice A L.length cap2⟩)) (fun iv _ => L.length - (intOf iv).toNat)
  case atStart => exact ⟨0, rfl, by omega, Lib.hid ⟨HD.out, KeptD.refl _ _⟩⟩
  case round =>
    obtain ⟨k, rfl, hk, HI⟩ := hrel
    by_cases hlt : k < L.length
    · obtain ⟨g2, rfl, hg2⟩ := hA (by omega)
      have hsz := HI.out.2.size
      obtain ⟨r0, r1⟩ := HI.out.1.atB hlt
      have hin := HIN.out _ (List.getElem_mem hlt)
      have hst := crashN_succ f S L hlt
      obtain ⟨hl, hsz2⟩ := HSL.out k
      generalize L[k] = x at r0 r1 hin hst
      obtain ⟨a, s⟩ := x
      obtain ⟨h0, h1, h2⟩ := hin
      simp only at r0 r1 h0 h1 h2 hst
      obtain ⟨m, rfl⟩ : ∃ m : Nat, a = m := ⟨a.toNat, by omega⟩
      rw [Int.toNat_natCast] at hst
      unfold sv at r1
      have hm : m < S.length := by omega
      have hold := getD_sz hsz2 (show m < _ by rw [hl]; exact hm)
      obtain ⟨old, hO⟩ : ∃ old, old = (crashN f S L k).getD m [] := ⟨_, rfl⟩
      rw [← hO] at hst hold
      have hfl : fate f k < 4 := Nat.mod_lt _ (by decide)
      have hkl := keptL_len (f := fate f k) hold h2
      have HKC := Lib.hid (fun w => kept_any (fate f k) hfl old s hold h2 w)
      have HST := Lib.hid hst
      have HL := Lib.hid hl
      have HO := Lib.hid hO
      have hq1 : (k : Int).tmod 32 = ((k % 32 : Nat) : Int) := by rw [Int.tmod_eq_emod_of_nonneg (by omega)]; omega
      clear hst hl h0 hO hsz2
      go_upto_region 4 with fail
      have hbn : (Value.slice (some ⟨g1, 0, none⟩) S.length cap).ownBlock ≠ some wr.heap.size := fun e => by have := (HI.out.1.rs.lt _ e).2; omega
      have hbA : Below wr.heap.size wr (wr.alloc (.cells #[.int .i64 m, .string ⟨s.toArray⟩] 84)) := (Below.refl _ _).alloc (Nat.le_refl _) _
      refine name_world (fun w => IsDk w B ⟨g, .slice (some ⟨g1, 0, none⟩) S.length cap, .slice (some ⟨g2, 0, none⟩) L.length cap2⟩ (crashN f S L k) L ∧ KeptD W w ⟨g, .slice (some ⟨g1, 0, none⟩) S.length cap, .slice (some ⟨g2, 0, none⟩) L.length cap2⟩ ∧ Blk w wr.heap.size 84 #[.int .i64 m, .string ⟨s.toArray⟩]) ⟨HI.out.1.b hbA, HI.out.2.b hbA, Blk.fresh _ _ _⟩ ?_
      clear HI hbA r0 r1
      rintro w5 ⟨hd5, hk5, kb⟩
      have e0 : w5.cell? ⟨g, 0, none⟩ = some (.slice (some ⟨g1, 0, none⟩) S.length cap) := hd5.cells.1
      have e1 : w5.cell? ⟨wr.heap.size, 0, none⟩ = some (.int .i64 m) := kb.cell 0
      have e2 : w5.cell? ⟨wr.heap.size, 1, none⟩ = some (.string ⟨s.toArray⟩) := kb.cell 1
      obtain ⟨e4, e5⟩ := hd5.atA (j := m) (by rw [HL.out]; exact hm)
      rw [← HO.out] at e4
      unfold sv at e4
      have i0 : (0 : Int) ≤ (m : Int) := by omega
      have i1 : (m : Int) < (S.length : Int) := by omega
      have i2 : (m : Int) < ((crashN f S L k).length : Int) := by rw [HL.out]; exact i1
      obtain ⟨F, hsh, hnd⟩ := shift_fate f hf0 k
      have hnb : wr.heap.size ≠ g1 := fun e => hbn (by rw [e]; rfl)
      have HD5 := Lib.hid hd5
      have HK5 := Lib.hid hk5
      clear hd5 hk5 kb
      refine wp_region_noPanic ?_
      refine wp_region_held_drew (S := fun w' => w'.cell? ⟨g, 0, none⟩ = some (.slice (some ⟨g1, 0, none⟩) S.length cap) ∧ w'.cell? ⟨wr.heap.size, 0, none⟩ = some (.int .i64 m) ∧ w'.cell? ⟨wr.heap.size, 1, none⟩ = some (.string ⟨s.toArray⟩)) (by kernel_rfl) (by first | exact ⟨e0, e1, e2⟩ | exact ⟨(cell_setne _ (Ne.symm hne)).trans e0, (cell_setne _ hnb).trans e1, (cell_setne _ hnb).trans e2⟩) (fun hHeld => ?_)
      refine wpAnyH_take (i := 0) (v := ?_) rfl (by kernel_rfl) (by kernel_rfl) (by kernel_rfl) (fun _ _ _ h => h) (Or.inl ⟨by rfl, ?_⟩) (by assumption) ?_
      rotate_left
      · intro w hSw; (try dsimp only at hSw); go_simp; (first | done | with_reducible rfl)
      try simp only [Act.put, List.setIfInBounds_toArray, List.set_cons_zero, List.set_cons_succ]
      refine wpAnyH_take (i := 1) (v := ?_) rfl (by kernel_rfl) (by kernel_rfl) (by kernel_rfl) (fun _ _ _ h => h) (Or.inl ⟨by rfl, ?_⟩) (by assumption) ?_
      rotate_left
      · intro w hSw; (try dsimp only at hSw); go_simp; (first | done | with_reducible rfl)
      try simp only [Act.put, List.setIfInBounds_toArray, List.set_cons_zero, List.set_cons_succ]
      refine wpAnyH_take (i := 2) (v := ?_) rfl (by kernel_rfl) (by kernel_rfl) (by kernel_rfl) (fun _ _ _ h => h) (Or.inl ⟨by rfl, ?_⟩) (by assumption) ?_
      rotate_left
      · intro w hSw; (try dsimp only at hSw); go_simp; (first | done | with_reducible rfl)
      try simp only [Act.put, List.setIfInBounds_toArray, List.set_cons_zero, List.set_cons_succ]
      refine wpAnyH_take (i := 3) (v := ?_) rfl (by kernel_rfl) (by kernel_rfl) (by kernel_rfl) (fun _ _ _ h => h) (Or.inl ⟨by rfl, ?_⟩) (by assumption) ?_
      rotate_left
      · intro w hSw; (try dsimp only at hSw); go_simp; (first | done | with_reducible rfl)
      try simp only [Act.put, List.setIfInBounds_toArray, List.set_cons_zero, List.set_cons_succ]
      refine wpAnyH_take (i := 4) (v := ?_) rfl (by kernel_rfl) (by kernel_rfl) (by kernel_rfl) (fun _ _ _ h => h) (Or.inl ⟨by rfl, ?_⟩) (by assumption) ?_
      rotate_left
      · intro w hSw; (try dsimp only at hSw); go_simp; (first | done | with_reducible rfl)
      try simp only [Act.put, List.setIfInBounds_toArray, List.set_cons_zero, List.set_cons_succ]
      refine wpAnyH_take (i := 5) (v := ?_) rfl (by kernel_rfl) (by kernel_rfl) (by kernel_rfl) (fun _ _ _ h => h) (Or.inl ⟨by rfl, ?_⟩) (by assumption) ?_
      rotate_left
      · intro w hSw; (try dsimp only at hSw); go_simp; (first | done | with_reducible rfl)
      try simp only [Act.put, List.setIfInBounds_toArray, List.set_cons_zero, List.set_cons_succ]
      refine wpAnyH_take (i := 6) (v := ?_) rfl (by kernel_rfl) (by kernel_rfl) (by kernel_rfl) (fun _ _ _ h => h) (Or.inl ⟨by rfl, ?_⟩) (by assumption) ?_
      rotate_left
      · intro w hSw; (try dsimp only at hSw); go_simp; (first | done | with_reducible rfl)
      try simp only [Act.put, List.setIfInBounds_toArray, List.set_cons_zero, List.set_cons_succ]
      refine wpAnyH_take (i := 7) (v := ?_) rfl (by kernel_rfl) (by kernel_rfl) (by kernel_rfl) (fun _ _ _ h => h) (Or.inl ⟨by rfl, ?_⟩) (by assumption) ?_
      rotate_left
      · intro w hSw; (try dsimp only at hSw); go_simp; (first | done | with_reducible rfl)
      try simp only [Act.put, List.setIfInBounds_toArray, List.set_cons_zero, List.set_cons_succ]
      refine wpAnyH_take (i := 8) (v := ?_) rfl (by kernel_rfl) (by kernel_rfl) (by kernel_rfl) (fun _ _ _ h => h) (Or.inl ⟨by rfl, ?_⟩) (by assumption) ?_
      rotate_left
      · intro w hSw; (try dsimp only at hSw); go_simp; (first | done | with_reducible rfl)
      try simp only [Act.put, List.setIfInBounds_toArray, List.set_cons_zero, List.set_cons_succ]
      refine wpAnyH_take (i := 9) (v := ?_) rfl (by kernel_rfl) (by kernel_rfl) (by kernel_rfl) (fun _ _ _ h => h) (Or.inl ⟨by rfl, ?_⟩) (by assumption) ?_
      rotate_left
      · intro w hSw; (try dsimp only at hSw); go_simp; (first | done | with_reducible rfl)
      try simp only [Act.put, List.setIfInBounds_toArray, List.set_cons_zero, List.set_cons_succ]
      refine wpAnyH_take (i := 10) (v := ?_) rfl (by kernel_rfl) (by kernel_rfl) (by kernel_rfl) (fun _ _ _ h => h) (Or.inl ⟨by rfl, ?_⟩) (by assumption) ?_
      rotate_left
      · intro w hSw; (try dsimp only at hSw); go_simp; (first | done | with_reducible rfl)
      try simp only [Act.put, List.setIfInBounds_toArray, List.set_cons_zero, List.set_cons_succ]
      refine wpAnyH_take (i := 11) (v := ?_) rfl (by kernel_rfl) (by kernel_rfl) (by kernel_rfl) (fun _ _ _ h => h) (Or.inl ⟨by rfl, ?_⟩) (by assumption) ?_
      rotate_left
      · intro w hSw; (try dsimp only at hSw); go_simp; (first | done | with_reducible rfl)
      try simp only [Act.put, List.setIfInBounds_toArray, List.set_cons_zero, List.set_cons_succ]
      refine wpAnyH_take (i := 12) (v := ?_) rfl (by kernel_rfl) (by kernel_rfl) (by kernel_rfl) (fun _ _ _ h => h) (Or.inl ⟨by rfl, ?_⟩) (by assumption) ?_
      rotate_left
      · intro w hSw; (try dsimp only at hSw); go_simp; (first | done | with_reducible rfl)
      try simp only [Act.put, List.setIfInBounds_toArray, List.set_cons_zero, List.set_cons_succ]
      refine wpAnyH_take (i := 13) (v := ?_) rfl (by kernel_rfl) (by kernel_rfl) (by kernel_rfl) (fun _ _ _ h => h) (Or.inl ⟨by rfl, ?_⟩) (by assumption) ?_
      rotate_left
      · intro w hSw; (try dsimp only at hSw); go_simp; (first | done | with_reducible rfl)
      try simp only [Act.put, List.setIfInBounds_toArray, List.set_cons_zero, List.set_cons_succ]
      refine wpAnyH_take (i := 14) (v := ?_) rfl (by kernel_rfl) (by kernel_rfl) (by kernel_rfl) (fun _ _ _ h => h) (Or.inl ⟨by rfl, ?_⟩) (by assumption) ?_
      rotate_left
      · intro w hSw; (try dsimp only at hSw); go_simp; (first | done | with_reducible rfl)
      try simp only [Act.put, List.setIfInBounds_toArray, List.set_cons_zero, List.set_cons_succ]
      refine wpAnyH_take (i := 15) (v := ?_) rfl (by kernel_rfl) (by kernel_rfl) (by kernel_rfl) (fun _ _ _ h => h) (Or.inl ⟨by rfl, ?_⟩) (by assumption) ?_
      rotate_left
      · intro w hSw; (try dsimp only at hSw); go_simp; (first | done | with_reducible rfl)
      try simp only [Act.put, List.setIfInBounds_toArray, List.set_cons_zero, List.set_cons_succ]
      refine wpAnyH_take (i := 16) (v := ?_) rfl (by kernel_rfl) (by kernel_rfl) (by kernel_rfl) (fun _ _ _ h => h) (Or.inl ⟨by rfl, ?_⟩) (by assumption) ?_
      rotate_left
      · intro w hSw; (try dsimp only at hSw); go_simp; (first | done | with_reducible rfl)
      try simp only [Act.put, List.setIfInBounds_toArray, List.set_cons_zero, List.set_cons_succ]
      refine wpAnyH_take (i := 17) (v := ?_) rfl (by kernel_rfl) (by kernel_rfl) (by kernel_rfl) (fun _ _ _ h => h) (Or.inl ⟨by rfl, ?_⟩) (by assumption) ?_
      rotate_left
      · intro w hSw; (try dsimp only at hSw); go_simp; (first | done | with_reducible rfl)
      try simp only [Act.put, List.setIfInBounds_toArray, List.set_cons_zero, List.set_cons_succ]
      refine wpAnyH_take (i := 18) (v := ?_) rfl (by kernel_rfl) (by kernel_rfl) (by kernel_rfl) (fun _ _ _ h => h) (Or.inl ⟨by rfl, ?_⟩) (by assumption) ?_
      rotate_left
      · intro w hSw; (try dsimp only at hSw); go_simp; (first | done | with_reducible rfl)
      try simp only [Act.put, List.setIfInBounds_toArray, List.set_cons_zero, List.set_cons_succ]
      refine wpAnyH_take (i := 20) (v := ?_) rfl (by kernel_rfl) (by kernel_rfl) (by kernel_rfl) (fun _ _ _ h => h) (Or.inl ⟨by rfl, ?_⟩) (by assumption) ?_
      rotate_left
      · intro w hSw; (try dsimp only at hSw); go_simp; (first | done | with_reducible rfl)
      try simp only [Act.put, List.setIfInBounds_toArray, List.set_cons_zero, List.set_cons_succ]
      refine wpAnyH_take (i := 21) (v := ?_) rfl (by kernel_rfl) (by kernel_rfl) (by kernel_rfl) (fun _ _ _ h => h) (Or.inl ⟨by rfl, ?_⟩) (by assumption) ?_
      rotate_left
      · intro w hSw; (try dsimp only at hSw); go_simp; (first | done | with_reducible rfl)
      try simp only [Act.put, List.setIfInBounds_toArray, List.set_cons_zero, List.set_cons_succ]
      refine wpAnyH_ready (rs := [19]) (by kernel_rfl) (by simp) ?_
      refine AllReadyH.cons rfl (fun K hK => ?_) (AllReadyH.nil)
      go_simp
      refine hK.out _ _ (by first | exact ⟨e0, e1, e2⟩ | exact ⟨(cell_setne _ (Ne.symm hne)).trans e0, (cell_setne _ hnb).trans e1, (cell_setne _ hnb).trans e2⟩) (fun hHeld => ?_)
      clear hK K
      try simp only [Act.put, List.setIfInBounds_toArray, List.set_cons_zero, List.set_cons_succ]
      refine wpAnyH_ready (rs := [22]) (by kernel_rfl) (by simp) ?_
      refine AllReadyH.cons rfl (fun K hK => ?_) (AllReadyH.nil)
      go_simp
      refine (HKC.out _).mono ?_
      rintro e w6 ⟨rfl, ⟨n6, rfl⟩⟩
      refine hK.out _ _ (by first | exact ⟨e0, e1, e2⟩ | exact ⟨(cell_setne _ (Ne.symm hne)).trans e0, (cell_setne _ hnb).trans e1, (cell_setne _ hnb).trans e2⟩) (fun hHeld => ?_)
      clear hK K
      try simp only [Act.put, List.setIfInBounds_toArray, List.set_cons_zero, List.set_cons_succ]
      refine wpAnyH_take (i := 23) (v := ?_) rfl (by kernel_rfl) (by kernel_rfl) (by kernel_rfl) (fun _ _ _ h => h) (Or.inl ⟨by rfl, ?_⟩) (by assumption) ?_
      rotate_left
      · intro w hSw; (try dsimp only at hSw); go_simp; (first | done | with_reducible rfl)
      try simp only [Act.put, List.setIfInBounds_toArray, List.set_cons_zero, List.set_cons_succ]
      refine wpAnyH_ready (rs := [24]) (by kernel_rfl) (by simp) ?_
      refine AllReadyH.cons rfl (fun K hK => ?_) (AllReadyH.nil)
      go_simp
      refine hK.out _ _ (by first | exact ⟨e0, e1, e2⟩ | exact ⟨(cell_setne _ (Ne.symm hne)).trans e0, (cell_setne _ hnb).trans e1, (cell_setne _ hnb).trans e2⟩) (fun hHeld => ?_)
      clear hK K
      try simp only [Act.put, List.setIfInBounds_toArray, List.set_cons_zero, List.set_cons_succ]
      refine wpAnyH_done (by kernel_rfl) ?_ _
      refine NoPanic.normal ?_
      skip
      go_wp2_with fail
      go_roundw
      case rel =>
        have hf := (HD5.out.b (drewB w5 (1 + n6))).setS HL.out hm hkl
        refine ⟨k + 1, by go_num, by omega, Lib.hid ?_⟩
        rw [HST.out]
        exact ⟨hf.1, (HK5.out.b (drewB w5 _)).then hf.2⟩
      case measure => simp [intOf]; omega
    · obtain rfl : k = L.length := by omega
      obtain ⟨hdk, hkp⟩ := HI.out
      have e1 : wr.cell? ⟨g, 1, none⟩ = some (.slice A L.length cap2) := hdk.cells.2.1
      have e2 : wr.frozen? ⟨g, 1, none⟩ = false := hdk.cells.2.2.2
      have HDK := Lib.hid hdk
      have HKP := Lib.hid hkp
      clear hdk hkp HI
      go_wp2_with fail
      (first | refine bodyPost_end (results_none rfl _ _ _) rfl ?_ | refine bodyPost_ret (results_none rfl _ _ _) rfl ?_)
      exact ⟨rfl, _, _, HDK.out.clear.1, HKP.out.then HDK.out.clear.2, fun k hk => .inl (mine_clear k hk)⟩
end Go.Proofs.Ytfacifhlcaghiaa.Dsk
