/- The walk of the law SuperTorn. -/
import Derived.Test.YtfacifhlcaghiaaSupI
import Derived.Deep.DeepCutAuto
import Derived.Deep.CutBlock
import Derived.BigQuiet
namespace Go.Proofs.Ytfacifhlcaghiaa.Sup
open Go Go.RowKit
open Go.Proofs.Ytfacifhlcaghiaa.Gen
open Go.Proofs.Ytfacifhlcaghiaa.Own
open Go.Proofs.Ytfacifhlcaghiaa.RowK
open Go.Proofs.Ytfacifhlcaghiaa.Num
open Go.Proofs.Ytfacifhlcaghiaa.NumC
open Go.Proofs.Ytfacifhlcaghiaa.Dsk
set_option linter.unusedVariables false
set_option linter.unusedSimpArgs false
theorem or_one (n : Nat) (hn : n < 18446744073709551616) : ∃ p : Nat, Go.bits .or .u64 (n : Int) 1 = (p : Int) ∧ p ≠ 0 ∧ p < 18446744073709551616 := by
  refine ⟨n ||| 1, ?_, ?_, ?_⟩
  · exact u64_or_nat n 1 hn (by omega)
  · intro h
    have := Nat.right_le_or (n := n) (m := 1)
    omega
  · exact Nat.or_lt_two_pow (n := 64) hn (by omega)
/-- Two sectors' halves. -/
theorem getS_torn {p q : Nat} {t u : Sec} (hp : p ≠ 0) (hq : q ≠ 0) (hp2 : p < 18446744073709551616) (hq2 : q < 18446744073709551616) (ht : t.length ≤ 48) (hu : u.length ≤ 48) :
    getS ((putL p t).take 32 ++ (putL q u).drop 32) = if p = q then (p, (padW t).take 24 ++ (padW u).drop 24, true) else (0, [], false) := by
  have l1 := putL_len hp ht
  have l2 := putL_len hq hu
  have la : ((putL p t).take 32).length = 32 := by rw [List.length_take]; omega
  have hl : ((putL p t).take 32 ++ (putL q u).drop 32).length = 64 := by rw [List.length_append, la, List.length_drop]; omega
  have h1 := n8_putL hp hp2 ht
  have h2 := n8_putL hq hq2 hu
  have e1 : ((putL p t).take 32 ++ (putL q u).drop 32).take 32 = (putL p t).take 32 := List.take_left' la
  have e2 : ((putL p t).take 32 ++ (putL q u).drop 32).drop 32 = (putL q u).drop 32 := List.drop_left' la
  have e0 : n8 ((putL p t).take 32 ++ (putL q u).drop 32) = p := by rw [← n8_take, e1, n8_take, h1.1]
  unfold getS
  rw [if_pos hl, e0, e1, e2, h2.2]
  by_cases h : p = q
  · subst h
    rw [if_neg (by simp [hp]), if_pos rfl, (putL_front hp ht).1, (putL_front hq hu).2, List.drop_left' (e8_len p), List.drop_left' (e8_len p)]
  · rw [if_pos (.inr h), if_neg h]
theorem getS_short {s : Sec} (h : s.length ≠ 64) : getS s = (0, [], false) := if_neg h
theorem made64 (w : World) : (Instr.makeSlice 54 (.int .i64 64) (.int .i64 64)).run Try.prog w = .ok (.slice (some ⟨w.heap.size, 0, none⟩) 64 64) (w.alloc (.cells (Array.replicate 64 (.int .u8 0)) 5)) := make_bytes 64 (by omega) w
/-- What the walk keeps of the two words' array. -/
def TwoS (W1 : World) (g : Nat) (s t : ByteArray) (w' : World) : Prop := w'.cell? ⟨g, 0, none⟩ = some (.string s) ∧ w'.cell? ⟨g, 1, none⟩ = some (.string t) ∧ Below W1.heap.size W1 w'
set_option maxRecDepth 20000 in
set_option maxHeartbeats 8000000 in
theorem torn_walk (W : World) (n m : Nat) (hn : n < 18446744073709551616) (hm : m < 18446744073709551616) (s t : Sec) (hs : s.length ≤ 9223372036854775807) (ht : t.length ≤ 9223372036854775807) :
    Calls Try.prog 7 #[.int .u64 n, .int .u64 m, .agg #[.string ⟨s.toArray⟩, .string ⟨t.toArray⟩]] W fun e w' => e = .returned (.bool true) ∧ Below W.heap.size W w' := by
  obtain ⟨p, ep, hp0, hp⟩ := or_one n hn
  obtain ⟨q, eq, hq0, hq⟩ := or_one m hm
  have x1 : (⟨s.toArray⟩ : ByteArray).extract 0 (min s.length 48) = ⟨(s.take 48).toArray⟩ := by
    rw [quiet_extract, List.drop_zero]
    congr 2
    rw [Nat.sub_zero, List.take_eq_take_iff]
    omega
  have x2 : (⟨t.toArray⟩ : ByteArray).extract 0 (min t.length 48) = ⟨(t.take 48).toArray⟩ := by
    rw [quiet_extract, List.drop_zero]
    congr 2
    rw [Nat.sub_zero, List.take_eq_take_iff]
    omega
  have lt1 : (s.take 48).length ≤ 48 := by rw [List.length_take]; omega
  have lt2 : (t.take 48).length ≤ 48 := by rw [List.length_take]; omega
  have hm1 : min (s.length : Int) 48 = ((min s.length 48 : Nat) : Int) := by omega
  have hm2 : min (t.length : Int) 48 = ((min t.length 48 : Nat) : Int) := by omega
  have hm3 : min s.length 48 ≤ s.length := by omega
  have hm4 : min t.length 48 ≤ t.length := by omega
  generalize s.take 48 = a at x1 lt1
  generalize t.take 48 = b at x2 lt2
  have hgt := getS_torn hp0 hq0 hp hq lt1 lt2
  have l1 := putL_len hp0 lt1
  have l2 := putL_len hq0 lt2
  have HP1 := Lib.hid (fun w => put_any p hp a (by omega) w)
  have HP2 := Lib.hid (fun w => put_any q hq b (by omega) w)
  generalize putL p a = A at hgt l1 HP1
  generalize putL q b = B at hgt l2 HP2
  have y1 : (⟨A.toArray⟩ : ByteArray).extract 0 32 = ⟨(A.take 32).toArray⟩ := quiet_extract A 0 32
  have y2 : (⟨B.toArray⟩ : ByteArray).extract 32 B.length = ⟨(B.drop 32).toArray⟩ := by
    rw [quiet_extract, List.take_of_length_le (by rw [List.length_drop]; omega)]
  rw [l2] at y2
  have y3 : (⟨A.toArray⟩ : ByteArray).extract 0 63 = ⟨(A.take 63).toArray⟩ := quiet_extract A 0 63
  have la : (A.take 32).length = 32 := by rw [List.length_take]; omega
  have lb : (B.drop 32).length = 32 := by rw [List.length_drop]; omega
  have lc : (A.take 63).length = 63 := by rw [List.length_take]; omega
  have hgc := getS_short (s := A.take 63) (by omega)
  generalize A.take 32 = a1 at hgt y1 la
  generalize B.drop 32 = b1 at hgt y2 lb
  generalize A.take 63 = c1 at y3 lc hgc
  have z1 := str_add a1 b1
  have lm : (a1 ++ b1).length = 64 := by rw [List.length_append]; omega
  generalize a1 ++ b1 = M at hgt z1 lm
  have hG1 := fun w => get_any M (by omega) w
  have hG2 := fun w => get_any c1 (by omega) w
  have HGT := Lib.hid hgt
  clear hgt
  generalize getS M = G at HGT hG1
  obtain ⟨g1, g2, g3⟩ := G
  simp only at hG1
  have hmk := made64
  have hcv := fun w : World => conv_bytes (List.replicate 64 (0 : UInt8)) (w.alloc (.cells (Array.replicate 64 (.int .u8 0)) 5)) w.heap.size (fun j hj => by
    rw [List.length_replicate] at hj
    rw [(Blk.fresh w _ _).cell j, List.getElem_replicate]
    simp [hj])
  simp only [List.length_replicate] at hcv
  have hgz : getS (List.replicate 64 (0 : UInt8)) = (0, [], false) := getS_blank
  have lz : (List.replicate 64 (0 : UInt8)).length = 64 := List.length_replicate
  generalize List.replicate 64 (0 : UInt8) = z at hcv hgz lz
  have hG3 := fun w => get_any z (by omega) w
  rw [hgc] at hG2
  rw [hgz] at hG3
  have hw1 := Blk.fresh W 57 #[.string ⟨s.toArray⟩, .string ⟨t.toArray⟩]
  have hb1 := (Below.refl W.heap.size W).alloc (Nat.le_refl _) (.cells #[.string ⟨s.toArray⟩, .string ⟨t.toArray⟩] 57)
  clear hgc hgz lz
  have HG1 := Lib.hid hG1
  have HG2 := Lib.hid hG2
  have HG3 := Lib.hid hG3
  clear hG1 hG2 hG3
  go_enter Try.func7, Try.ntmps7
  go_wp2_with fail
  refine name_world (fun w => w.cell? ⟨W.heap.size, 0, none⟩ = some (.string ⟨s.toArray⟩) ∧ w.cell? ⟨W.heap.size, 1, none⟩ = some (.string ⟨t.toArray⟩) ∧ W.heap.size < w.heap.size ∧ Below W.heap.size W w) ⟨hw1.cell 0, hw1.cell 1, by simp, hb1⟩ ?_
  clear hw1 hb1
  rintro w1 ⟨c0, c1', hlt, hb1⟩
  have i1 : ((A.length : Int) != 64) = false := by rw [l1]; rfl
  have i2 : ((B.length : Int) != 64) = false := by rw [l2]; rfl
  have HPA : Hid (∀ w', TwoS w1 W.heap.size ⟨s.toArray⟩ ⟨t.toArray⟩ w' → Calls Try.prog 30 #[.int .u64 p, .string ⟨a.toArray⟩] w' fun e w'' => e = .returned (.string ⟨A.toArray⟩) ∧ TwoS w1 W.heap.size ⟨s.toArray⟩ ⟨t.toArray⟩ w'') := Lib.hid fun w' h => by
    refine (HP1.out w').mono ?_
    rintro e w2 ⟨rfl, b2⟩
    have hz := h.2.2.size
    exact ⟨rfl, (cellB b2 h.1), (cellB b2 h.2.1), thenB h.2.2 b2⟩
  have HPB : Hid (∀ w', TwoS w1 W.heap.size ⟨s.toArray⟩ ⟨t.toArray⟩ w' → Calls Try.prog 30 #[.int .u64 q, .string ⟨b.toArray⟩] w' fun e w'' => e = .returned (.string ⟨B.toArray⟩) ∧ TwoS w1 W.heap.size ⟨s.toArray⟩ ⟨t.toArray⟩ w'') := Lib.hid fun w' h => by
    refine (HP2.out w').mono ?_
    rintro e w2 ⟨rfl, b2⟩
    exact ⟨rfl, (cellB b2 h.1), (cellB b2 h.2.1), thenB h.2.2 b2⟩
  clear HP1 HP2
  unfold TwoS at HPA HPB
  go_wp2_with fail
  refine wp_region_noPanic ?_
  refine wp_region_held_drew (S := fun w' => w'.cell? ⟨W.heap.size, 0, none⟩ = some (.string ⟨s.toArray⟩) ∧ w'.cell? ⟨W.heap.size, 1, none⟩ = some (.string ⟨t.toArray⟩) ∧ Below w1.heap.size w1 w') (by kernel_rfl) (by first | exact ⟨c0, c1', (Below.refl _ _).drew⟩ | assumption) (fun hHeld => ?_)
  refine wpAnyH_take (i := 0) (v := ?_) rfl (by kernel_rfl) (by kernel_rfl) (by kernel_rfl) (fun _ _ _ h => h) (Or.inl ⟨by rfl, ?_⟩) (by assumption) ?_
  rotate_left
  · intro w hSw; (try dsimp only at hSw); go_simp; (first | done | with_reducible rfl)
  try simp only [Act.put, List.setIfInBounds_toArray, List.set_cons_zero, List.set_cons_succ]
  refine wpAnyH_take (i := 1) (v := ?_) rfl (by kernel_rfl) (by kernel_rfl) (by kernel_rfl) (fun _ _ _ h => h) (Or.inl ⟨by rfl, ?_⟩) (by assumption) ?_
  rotate_left
  · intro w hSw; (try dsimp only at hSw); go_simp; (first | done | with_reducible rfl)
  try simp only [Act.put, List.setIfInBounds_toArray, List.set_cons_zero, List.set_cons_succ]
  refine wpAnyH_take (i := 2) (v := ?_) rfl (by kernel_rfl) (by kernel_rfl) (by kernel_rfl) (fun _ _ _ h => h) (Or.inl ⟨by rfl, ?_⟩) (by assumption) ?_
  rotate_left
  · intro w hSw; (try dsimp only at hSw); go_simp; (first | done | with_reducible rfl)
  try simp only [Act.put, List.setIfInBounds_toArray, List.set_cons_zero, List.set_cons_succ]
  refine wpAnyH_take (i := 3) (v := ?_) rfl (by kernel_rfl) (by kernel_rfl) (by kernel_rfl) (fun _ _ _ h => h) (Or.inl ⟨by rfl, ?_⟩) (by assumption) ?_
  rotate_left
  · intro w hSw; (try dsimp only at hSw); go_simp; (first | done | with_reducible rfl)
  try simp only [Act.put, List.setIfInBounds_toArray, List.set_cons_zero, List.set_cons_succ]
  refine wpAnyH_take (i := 4) (v := ?_) rfl (by kernel_rfl) (by kernel_rfl) (by kernel_rfl) (fun _ _ _ h => h) (Or.inl ⟨by rfl, ?_⟩) (by assumption) ?_
  rotate_left
  · intro w hSw; (try dsimp only at hSw); go_simp; (first | done | with_reducible rfl)
  try simp only [Act.put, List.setIfInBounds_toArray, List.set_cons_zero, List.set_cons_succ]
  refine wpAnyH_take (i := 5) (v := ?_) rfl (by kernel_rfl) (by kernel_rfl) (by kernel_rfl) (fun _ _ _ h => h) (Or.inl ⟨by rfl, ?_⟩) (by assumption) ?_
  rotate_left
  · intro w hSw; (try dsimp only at hSw); go_simp; (first | done | with_reducible rfl)
  try simp only [Act.put, List.setIfInBounds_toArray, List.set_cons_zero, List.set_cons_succ]
  refine wpAnyH_take (i := 6) (v := ?_) rfl (by kernel_rfl) (by kernel_rfl) (by kernel_rfl) (fun _ _ _ h => h) (Or.inl ⟨by rfl, ?_⟩) (by assumption) ?_
  rotate_left
  · intro w hSw; (try dsimp only at hSw); go_simp; (first | done | with_reducible rfl)
  try simp only [Act.put, List.setIfInBounds_toArray, List.set_cons_zero, List.set_cons_succ]
  refine wpAnyH_take (i := 7) (v := ?_) rfl (by kernel_rfl) (by kernel_rfl) (by kernel_rfl) (fun _ _ _ h => h) (Or.inl ⟨by rfl, ?_⟩) (by assumption) ?_
  rotate_left
  · intro w hSw; (try dsimp only at hSw); go_simp; (first | done | with_reducible rfl)
  try simp only [Act.put, List.setIfInBounds_toArray, List.set_cons_zero, List.set_cons_succ]
  refine wpAnyH_take (i := 9) (v := ?_) rfl (by kernel_rfl) (by kernel_rfl) (by kernel_rfl) (fun _ _ _ h => h) (Or.inl ⟨by rfl, ?_⟩) (by assumption) ?_
  rotate_left
  · intro w hSw; (try dsimp only at hSw); go_simp; (first | done | with_reducible rfl)
  try simp only [Act.put, List.setIfInBounds_toArray, List.set_cons_zero, List.set_cons_succ]
  refine wpAnyH_take (i := 10) (v := ?_) rfl (by kernel_rfl) (by kernel_rfl) (by kernel_rfl) (fun _ _ _ h => h) (Or.inl ⟨by rfl, ?_⟩) (by assumption) ?_
  rotate_left
  · intro w hSw; (try dsimp only at hSw); go_simp; (first | done | with_reducible rfl)
  try simp only [Act.put, List.setIfInBounds_toArray, List.set_cons_zero, List.set_cons_succ]
  refine wpAnyH_take (i := 11) (v := ?_) rfl (by kernel_rfl) (by kernel_rfl) (by kernel_rfl) (fun _ _ _ h => h) (Or.inl ⟨by rfl, ?_⟩) (by assumption) ?_
  rotate_left
  · intro w hSw; (try dsimp only at hSw); go_simp; (first | done | with_reducible rfl)
  try simp only [Act.put, List.setIfInBounds_toArray, List.set_cons_zero, List.set_cons_succ]
  refine wpAnyH_take (i := 12) (v := ?_) rfl (by kernel_rfl) (by kernel_rfl) (by kernel_rfl) (fun _ _ _ h => h) (Or.inl ⟨by rfl, ?_⟩) (by assumption) ?_
  rotate_left
  · intro w hSw; (try dsimp only at hSw); go_simp; (first | done | with_reducible rfl)
  try simp only [Act.put, List.setIfInBounds_toArray, List.set_cons_zero, List.set_cons_succ]
  refine wpAnyH_take (i := 13) (v := ?_) rfl (by kernel_rfl) (by kernel_rfl) (by kernel_rfl) (fun _ _ _ h => h) (Or.inl ⟨by rfl, ?_⟩) (by assumption) ?_
  rotate_left
  · intro w hSw; (try dsimp only at hSw); go_simp; (first | done | with_reducible rfl)
  try simp only [Act.put, List.setIfInBounds_toArray, List.set_cons_zero, List.set_cons_succ]
  refine wpAnyH_take (i := 14) (v := ?_) rfl (by kernel_rfl) (by kernel_rfl) (by kernel_rfl) (fun _ _ _ h => h) (Or.inl ⟨by rfl, ?_⟩) (by assumption) ?_
  rotate_left
  · intro w hSw; (try dsimp only at hSw); go_simp; (first | done | with_reducible rfl)
  try simp only [Act.put, List.setIfInBounds_toArray, List.set_cons_zero, List.set_cons_succ]
  refine wpAnyH_take (i := 15) (v := ?_) rfl (by kernel_rfl) (by kernel_rfl) (by kernel_rfl) (fun _ _ _ h => h) (Or.inl ⟨by rfl, ?_⟩) (by assumption) ?_
  rotate_left
  · intro w hSw; (try dsimp only at hSw); go_simp; (first | done | with_reducible rfl)
  try simp only [Act.put, List.setIfInBounds_toArray, List.set_cons_zero, List.set_cons_succ]
  refine wpAnyH_take (i := 16) (v := ?_) rfl (by kernel_rfl) (by kernel_rfl) (by kernel_rfl) (fun _ _ _ h => h) (Or.inl ⟨by rfl, ?_⟩) (by assumption) ?_
  rotate_left
  · intro w hSw; (try dsimp only at hSw); go_simp; (first | done | with_reducible rfl)
  try simp only [Act.put, List.setIfInBounds_toArray, List.set_cons_zero, List.set_cons_succ]
  refine wpAnyH_ready (rs := [8]) (by kernel_rfl) (by simp) ?_
  refine AllReadyH.cons rfl (fun K hK => ?_) (AllReadyH.nil)
  go_simp
  refine (HPA.out _ (by assumption)).mono ?_
  rintro e w3 ⟨rfl, b3⟩
  go_simp
  refine hK.out _ _ (by first | exact ⟨c0, c1', (Below.refl _ _).drew⟩ | assumption) (fun hHeld => ?_)
  clear hK K
  try simp only [Act.put, List.setIfInBounds_toArray, List.set_cons_zero, List.set_cons_succ]
  refine wpAnyH_ready (rs := [17]) (by kernel_rfl) (by simp) ?_
  refine AllReadyH.cons rfl (fun K hK => ?_) (AllReadyH.nil)
  go_simp
  refine (HPB.out _ (by assumption)).mono ?_
  rintro e w4 ⟨rfl, b4⟩
  go_simp
  refine hK.out _ _ (by first | exact ⟨c0, c1', (Below.refl _ _).drew⟩ | assumption) (fun hHeld => ?_)
  clear hK K
  try simp only [Act.put, List.setIfInBounds_toArray, List.set_cons_zero, List.set_cons_succ]
  refine wpAnyH_take (i := 18) (v := ?_) rfl (by kernel_rfl) (by kernel_rfl) (by kernel_rfl) (fun _ _ _ h => h) (Or.inl ⟨by rfl, ?_⟩) (by assumption) ?_
  rotate_left
  · intro w hSw; (try dsimp only at hSw); go_simp; (first | done | with_reducible rfl)
  try simp only [Act.put, List.setIfInBounds_toArray, List.set_cons_zero, List.set_cons_succ]
  refine wpAnyH_take (i := 19) (v := ?_) rfl (by kernel_rfl) (by kernel_rfl) (by kernel_rfl) (fun _ _ _ h => h) (Or.inl ⟨by rfl, ?_⟩) (by assumption) ?_
  rotate_left
  · intro w hSw; (try dsimp only at hSw); go_simp; (first | done | with_reducible rfl)
  try simp only [Act.put, List.setIfInBounds_toArray, List.set_cons_zero, List.set_cons_succ]
  refine wpAnyH_done (by kernel_rfl) ?_ _
  refine NoPanic.normal ?_
  skip
  replace hHeld := thenB hb1 hHeld.2.2
  clear HPA HPB hb1 c0 c1' hlt
  have hq1 : ¬ 9223372036854775807 < a1.length + b1.length := by omega
  have HGB : Hid (∀ w', Below W.heap.size W w' → Calls Try.prog 31 #[.string ⟨M.toArray⟩] w' fun e w'' => e = .returned (.tuple #[.int .u64 g1, .string ⟨g2.toArray⟩, .bool g3]) ∧ Below W.heap.size W w'') := Lib.hid fun w' h => by
    refine (HG1.out w').mono ?_
    rintro e w2 ⟨rfl, b2⟩
    exact ⟨rfl, thenB h b2⟩
  clear HG1
  go_wp2_with fail
  go_region_held3 (fun w' => Below W.heap.size W w') (first | exact hHeld.drew | assumption)
    (first | (go_at_call 31; refine (HGB.out _ (by assumption)).mono ?_; rintro e w3 ⟨rfl, b3⟩))
  clear HGB
  rename_i hHeld
  have HAW := Lib.hid (awake5_b W)
  by_cases hpq : p = q
  · subst hpq
    have e := HGT.out
    rw [if_pos rfl] at e
    clear HGT
    cases e
    go_wp2_with fail
    refine (HG2.out _).mono ?_; rintro e w4 ⟨rfl, b4⟩
    have hb4 := thenB hHeld b4
    go_wp2_with fail
    refine (HG3.out _).mono ?_; rintro e w5 ⟨rfl, b5⟩
    have hb5 := thenB (hb4.alloc hb4.size _) b5
    go_wp2_with fail
    refine (HAW.out _ hb5).mono ?_; rintro e w6 ⟨rfl, b6⟩
    go_wp2_with fail
    go_ret
    exact ⟨rfl, b6⟩
  · have e := HGT.out
    rw [if_neg hpq] at e
    clear HGT
    cases e
    have hpe : ((p : Int) == (q : Int)) = false := by simp; omega
    have hpe2 : (p == q) = false := by simp [hpq]
    clear hpq
    go_wp2_with fail
    refine (HG2.out _).mono ?_; rintro e w4 ⟨rfl, b4⟩
    have hb4 := thenB hHeld b4
    go_wp2_with fail
    refine (HG3.out _).mono ?_; rintro e w5 ⟨rfl, b5⟩
    have hb5 := thenB (hb4.alloc hb4.size _) b5
    go_wp2_with fail
    refine (HAW.out _ hb5).mono ?_; rintro e w6 ⟨rfl, b6⟩
    go_wp2_with fail
    go_ret
    exact ⟨rfl, b6⟩
end Go.Proofs.Ytfacifhlcaghiaa.Sup
namespace Go.Proofs.Ytfacifhlcaghiaa.superTorn
open Go Go.RowKit
set_option maxRecDepth 20000 in
theorem walk {H : Type} {enc : TypeId × Value → H} {W : World} {b : Nat} (a0 : Int) (w0 : (Lit.int .u64 a0).wf = true) (a1 : Int) (w1 : (Lit.int .u64 a1).wf = true) {v2 : Value} (ok2 : Value.okWide Try.prog W .any b 57 v2) {d2 : DataW H} {p2 : List MemPlace} (h2 : DataW.Trod enc Try.prog W 0 (fun _ => true) true 57 v2 d2 p2) :
    Calls Try.prog 7 #[.int .u64 a0, .int .u64 a1, v2] W fun e w' => e = .returned (.bool true) ∧ Below W.heap.size W w' := by
  obtain ⟨⟨⟨⟨s⟩⟩, ⟨⟨t⟩⟩⟩, rfl, h1, h3⟩ := Open.open_agg (.pair .str .str) (by kernel_rfl) (by kernel_rfl) ok2 h2
  have h0 := bounds_u64 w0
  have h4 := bounds_u64 w1
  have h5 : s.length ≤ maxLen := h1
  have h6 : t.length ≤ maxLen := h3
  unfold maxLen at h5 h6
  obtain ⟨n, rfl⟩ : ∃ n : Nat, a0 = n := ⟨a0.toNat, by omega⟩
  obtain ⟨m, rfl⟩ : ∃ m : Nat, a1 = m := ⟨a1.toNat, by omega⟩
  exact Sup.torn_walk W n m (by omega) (by omega) s t (by omega) (by omega)
end Go.Proofs.Ytfacifhlcaghiaa.superTorn
