/- Layer 1: the walk of the law NumBack. -/
import Derived.Test.YtjkjcpbhlgjgcaaNumC4
import Derived.Test.YtjkjcpbhlgjgcaaNumBackP
import Derived.Test.YtjkjcpbhlgjgcaaOpen
namespace Go.Proofs.Ytjkjcpbhlgjgcaa.numBack
open Go Go.RowKit
open Go.Proofs.Ytjkjcpbhlgjgcaa.Gen
open Go.Proofs.Ytjkjcpbhlgjgcaa.Num
open Go.Proofs.Ytjkjcpbhlgjgcaa.NumC
open Go.Proofs.Ytjkjcpbhlgjgcaa.Own
set_option linter.unusedVariables false
theorem m24 (a : Int) : Go.bits .and .i64 a 16777215 = a % 16777216 := and_mask_i64 a 24 (by decide)
/-- What the law puts into its list. -/
def kept (l : List Int) (k : Nat) : List Int := (l.take k).map (· % 16777216)
theorem kept_succ (l : List Int) (k : Nat) (h : k < l.length) : kept l (k + 1) = kept l k ++ [(l[k]?.getD 0) % 16777216] := by
  unfold kept
  rw [List.take_succ_eq_append_getElem h, List.map_append, List.getElem?_eq_getElem h]
  rfl
theorem kept_in (l : List Int) (k : Nat) : ∀ x ∈ kept l k, 0 ≤ x ∧ x ≤ 16777215 := by
  intro x hx
  unfold kept at hx
  obtain ⟨y, _, rfl⟩ := List.mem_map.1 hx
  omega
theorem list_len (l : List Int) : (list l).length ≤ 9 * l.length + 9 := by
  have := listUpto_len l l.length
  rwa [listUpto_all] at this
theorem text_len (l : List UInt8) : (text l).length ≤ l.length + 9 := by
  have := put_len l.length
  unfold text
  rw [List.length_append]
  omega
theorem word_len (n : Nat) : (word n).length = 4 := bigs_length n 4
theorem kept_len (l : List Int) (k : Nat) (h : k ≤ l.length) : (kept l k).length = k := by unfold kept; simp; omega
/-- Two bytes as a text. -/
theorem conv2 (r : Nat) (hr : r + 1 < 256) (W : World) (g : Nat) (h : W.cell? ⟨g, 0, none⟩ = some (.int .u8 ((r : Int) + 1))) (h2 : W.cell? ⟨g, 1, none⟩ = some (.int .u8 0)) :
    (convert 45 9 (.slice (some ⟨g, 0, none⟩) 2 2)).run Try.prog W = .ok (.string ⟨[UInt8.ofNat (r + 1), 0].toArray⟩) W := by
  have := run_convert_bytes_arg (P := Try.prog) W 45 5 Try.underlying45 Try.underlying5 g 0 2 2 [(r : Int) + 1, 0] rfl (fun i hi => by
    match i, hi with
    | 0, _ => simpa using h
    | 1, _ => simpa using h2) 9 Try.underlying9
  rw [this]
  have e : ((r : Int) + 1).toNat = r + 1 := by omega
  simp [strOfNums, e]
set_option maxHeartbeats 4000000 in
theorem back_walk (n : Nat) (hn : n < 18446744073709551616) (s : ByteArray) (hs : s.size ≤ 140737488351232) (A : Option Addr) (cap : Nat) (l : List Int) (hl : l.length ≤ 9223372036854775807) (W : World) (hc : Ints W A l) (hr : ∀ n ∈ l, -9223372036854775808 ≤ n ∧ n ≤ 9223372036854775807) :
    Calls Try.prog 5 #[.int .u64 n, .string s, .slice A l.length cap] W fun e w' => e = .returned (.bool true) ∧ Below W.heap.size W w' := by
  obtain ⟨t, ht⟩ : ∃ t, t = s.extract 0 (min (s.size : Int) 300).toNat := ⟨_, rfl⟩
  have hts : t.size ≤ 300 := by rw [ht, ByteArray.size_extract]; omega
  go_enter Try.func5, Try.ntmps5
  go_wp2_with fail
  rw [← ht]
  clear ht
  refine name_world (fun w' => Below W.heap.size W w' ∧ w'.ownsRow W.heap.size 3 1 (.slice (some ⟨W.heap.size, 0, none⟩) 0 0) 0 ((kept l 0).map (.int .i64))) ⟨(Below.refl _ _).alloc (Nat.le_refl _) _, World.ownsRow_made W #[] 0 (Nat.le_refl _) (by simp [maxLen]) rfl⟩ ?_
  rintro w0 ⟨hb0, hown0⟩
  go_loopw [8, 9] (fun v c wr => ∃ (k : Nat) (B : Option Addr) (d : Nat), c = .int .i64 k ∧ v = .slice B k d ∧ k ≤ l.length ∧ k ≤ 30 ∧ wr.ownsRow W.heap.size 3 1 (.slice B k d) k ((kept l k).map (.int .i64)) ∧ Below W.heap.size W wr) (fun _ c _ => 30 - (intOf c).toNat)
  case atStart => exact ⟨0, _, _, rfl, rfl, by omega, by omega, hown0, hb0⟩
  case round =>
    obtain ⟨k, B, d, rfl, rfl, hk, hk30, hown, hb⟩ := hrel
    by_cases hlt : k < l.length ∧ k < 30
    · obtain ⟨hlt, hlt2⟩ := hlt
      obtain ⟨ad, rfl, hcell⟩ := hc.below hb k hlt
      have HS := Lib.hid (kept_succ l k hlt)
      generalize l[k]?.getD 0 = x at hcell HS
      have hx := m24 x
      have hown2 := hown.alloc (.cells #[.int .i64 (x % 16777216)] 3)
      have hsz := hb.size
      have hb2 := hb.alloc hb.size (.cells #[.int .i64 (x % 16777216)] 3)
      go_wp2_with (at_builtin
                   refine wpList_app1 _ rfl _ _ _ rfl W.heap.size 3 (.int .i64 0) 8 Try.underlying34 (by kernel_rfl) rfl _ k _ rfl hown2 ⟨wr.heap.size, 0, none⟩ (.int .i64 (x % 16777216)) rfl (by simp) rfl (by omega) (by omega) (by simp; omega) ?_
                   intro A' cap' w4 hown4 hc4 hg4 hbel4 _)
      exact ⟨⟨k + 1, A', cap', by go_num, rfl, by omega, by omega, by rw [HS.out]; simpa using hown4, hb2.trans hbel4⟩, by simp [intOf]; omega⟩
    · have hin := kept_in l k
      obtain ⟨hkl, hints⟩ := own_ints hown
      clear hown hc hr
      generalize kept l k = kk at hin hkl hints
      subst hkl
      have hg1 : ¬ (kk.length < l.length) ∨ (kk.length < l.length ∧ ¬ kk.length < 30) := by omega
      clear hlt
      have hl3 := list_len kk
      have hl2 := text_len t.data.toList
      have hl2' : t.data.toList.length ≤ 300 := by rw [Array.length_toList]; exact hts
      have hl1 := put_len n
      have hn2 : n % 4294967296 < 4294967296 := by omega
      have hw32 : IntKind.u32.wrap (n : Int) = ((n % 4294967296 : Nat) : Int) := by rw [IntKind.wrap_u32]; omega
      generalize n % 4294967296 = m at hn2 hw32
      have hl4 := word_len m
      have hin2 := Lib.hid hin
      clear hin
      replace hb0 := hb
      replace hb : Below wr.heap.size wr wr := Below.refl _ _
      have hb00 := hb0
      rcases hg1 with hg1 | ⟨hg1, hg2⟩
      all_goals
        go_wp2_with fail
        refine (put_any n hn _).mono ?_; rintro e w2 ⟨rfl, hb2⟩
        replace hb := thenB hb hb2; clear hb2
        go_wp2_with fail
        refine (text_any t (by omega) _).mono ?_; rintro e w2 ⟨rfl, hb2⟩
        replace hb := thenB hb hb2; clear hb2
        go_wp2_with fail
        refine (word_any m hn2 _).mono ?_; rintro e w2 ⟨rfl, hb2⟩
        replace hb := thenB hb hb2; clear hb2
        go_wp2_with fail
        refine (list_any B d kk (by omega) (fun x hx => by have := (hin2.out x hx).2; omega) _ (Ints.below hints hb)).mono ?_; rintro e w2 ⟨rfl, hb2⟩
        replace hb := thenB hb hb2; clear hb2
        go_wp2_with fail
        rw [str_app2, str_app2, str_app2]
        have hall : (put n ++ text t.data.toList ++ word m ++ list kk).length ≤ 140737488351232 := by simp only [List.length_append]; omega
        refine (from_any _ (put n ++ text t.data.toList ++ word m ++ list kk) (by omega)).mono ?_; rintro e w3 ⟨rfl, hs3, hb3⟩
        have hle1 := hb.size
        replace hb := thenB hb hb3; clear hb3
        have ea : put n ++ text t.data.toList ++ word m ++ list kk = put n ++ (text t.data.toList ++ (word m ++ (list kk ++ []))) := by simp
        have r1 := num_back n 18446744073709551615 (text t.data.toList ++ (word m ++ (list kk ++ []))) hn (by omega)
        have r2 := text_back t.data.toList 300 (word m ++ (list kk ++ [])) (by omega) (by omega)
        have r3 := word_back m (list kk ++ []) hn2
        have r4 := list_back 30 16777215 (by omega) kk [] (by omega) (by omega) hin2.out
        rw [ea] at hs3
        clear ea
        rw [List.append_nil] at r1 r2 r3 r4 hs3
        generalize put n ++ (text t.data.toList ++ (word m ++ list kk)) = all at hs3 r1
        generalize w2.heap.size = b1 at hs3 hle1
        go_wp2_with fail
        refine (num_any _ b1 _ _ 18446744073709551615 (by omega) hs3).mono ?_; rintro e w4 ⟨rfl, hs4, hg4⟩
        rw [r1] at hs4
        dsimp only at hs4
        replace hb := ownB hb hg4 hle1
        clear hs3 hg4
        go_wp2_with fail
        refine (srctext_any _ b1 _ _ 300 (by omega) (by omega) hs4).mono ?_; rintro e w5 ⟨rfl, hs5, hg5⟩
        rw [r2] at hs5
        dsimp only at hs5
        replace hb := ownB hb hg5 hle1
        clear hs4 hg5
        go_wp2_with fail
        refine (srcword_any _ b1 _ _ hs5).mono ?_; rintro e w6 ⟨rfl, hs6, hg6⟩
        rw [r3] at hs6
        dsimp only at hs6
        replace hb := ownB hb hg6 hle1
        clear hs5 hg6
        go_wp2_with fail
        refine (srclist_any _ b1 _ _ 30 16777215 (by omega) (by omega) (by omega) (by omega) hs6).mono ?_; rintro e w7 ⟨C, c, rfl, hown7, hs7, hg7⟩
        rw [r4] at hs7 hown7
        dsimp only at hs7 hown7
        have hint7 := (own_ints hown7).2
        replace hb := ownB hb hg7 hle1
        clear hs6 hg7
        go_wp2_with fail
        have e8 : ((n : Int) / 256) = ((n / 256 : Nat) : Int) := by omega
        rw [e8]
        have hn8 : n / 256 < 72057594037927936 := by omega
        clear e8
        generalize n / 256 = n8 at hn8
        refine (high_any 8 n8 _ (by omega) (by omega)).mono ?_; rintro e w8 ⟨rfl, hb8⟩
        have hs8 := hs7.below hb8
        have hown8 := own_below hown7 hb8
        replace hb := thenB hb hb8
        clear hs7 hown7 hb8 hint7
        have hh8 := high_len n8
        have hcv := conv2 (high n8).length (by omega)
        have r5 := num_long n8 hn8
        generalize UInt8.ofNat ((high n8).length + 1) = c8 at hcv r5
        go_wp2_with fail
        have hb9 := hb.alloc hb.size (.cells #[.int .u8 (((high n8).length : Int) + 1), .int .u8 0] 5)
        replace hb := thenB hb ((Below.refl _ _).alloc (Nat.le_refl _) (.cells #[.int .u8 (((high n8).length : Int) + 1), .int .u8 0] 5))
        have hs9 := hs8.grown (World.grownBy_alloc w8 (.cells #[.int .u8 (((high n8).length : Int) + 1), .int .u8 0] 5) none) (by simp)
        have hown9 := hown8.alloc (.cells #[.int .u8 (((high n8).length : Int) + 1), .int .u8 0] 5)
        rw [show (⟨#[c8, 0]⟩ : ByteArray) ++ ⟨(high n8).toArray⟩ = ⟨(c8 :: 0 :: high n8).toArray⟩ from str_app2 [c8, 0] (high n8)]
        have hnb : ∀ g, (Value.slice C kk.length c).ownBlock = some g → g < (w8.alloc (.cells #[.int .u8 (((high n8).length : Int) + 1), .int .u8 0] 5)).heap.size := fun g hg => (hown9.lt g hg).2
        refine (from_any _ (c8 :: 0 :: high n8) (by simp only [List.length_cons]; omega)).mono ?_; rintro e w9 ⟨rfl, hsq, hb9⟩
        replace hs9 := hs9.below hb9
        replace hown9 := own_below hown9 hb9
        have hle2 := hb.size
        have hne := hs8.lt
        clear hs8 hown8 hcv
        have hle3 : w8.heap.size ≤ (w8.alloc (.cells #[.int .u8 (((high n8).length : Int) + 1), .int .u8 0] 5)).heap.size := by simp
        replace hb := thenB hb hb9
        clear hb9
        generalize (w8.alloc (.cells #[.int .u8 (((high n8).length : Int) + 1), .int .u8 0] 5)).heap.size = b2 at hsq hle2 hle3 hnb
        have hbb : b1 ≠ b2 := by omega
        generalize c8 :: 0 :: high n8 = all2 at hsq r5
        go_wp2_with fail
        refine (num_any _ b2 _ _ 18446744073709551615 (by omega) hsq).mono ?_; rintro e w10 ⟨rfl, hsq2, hg10⟩
        rw [r5] at hsq2
        dsimp only at hsq2
        replace hs9 := hs9.grown hg10 (by simpa using hbb)
        replace hb := ownB hb hg10 hle2
        replace hown9 := hown9.kept hg10 (Or.inr (fun e => by have := hnb b2 e; omega))
        clear hg10 hsq hnb
        go_wp2_with fail
        refine (awake_any _).mono ?_; rintro e w11 ⟨rfl, hb11⟩
        replace hs9 := hs9.below hb11
        replace hsq2 := hsq2.below hb11
        replace hown9 := own_below hown9 hb11
        replace hb := thenB hb hb11
        clear hb11
        go_wp2_with fail
        refine (same_any _ C B c d kk (by omega) (own_ints hown9).2 (Ints.below hints hb)).mono ?_; rintro e w12 ⟨rfl, hb12⟩
        replace hs9 := hs9.below hb12
        replace hsq2 := hsq2.below hb12
        replace hb := thenB hb hb12
        clear hb12
        go_wp2_with fail
        refine (end_any _ _ _ _ hs9).mono ?_; rintro e w13 ⟨rfl, hs13, hg13⟩
        replace hsq2 := hsq2.grown hg13 (by simpa using hbb.symm)
        replace hb := ownB hb hg13 hle1
        have e7 : R.endE ⟨[], 0⟩ = 0 := rfl
        go_wp2_with fail
        refine (err_any _ _ _ _ hsq2).mono ?_; rintro e w14 ⟨rfl, rfl⟩
        go_wp2_with fail
        go_ret
        exact ⟨rfl, thenB hb00 hb⟩
theorem walk {H : Type} {enc : TypeId × Value → H} {W : World} {b : Nat} (a0 : Int) (w0 : (Lit.int .u64 a0).wf = true) (a1 : ByteArray) (w1 : a1.size ≤ 140737488351232) {v2 : Value} (ok2 : Value.okWide Try.prog W .any b 34 v2) {d2 : DataW H} {p2 : List MemPlace} (h2 : DataW.Trod enc Try.prog W 0 (fun _ => true) true 34 v2 d2 p2) :
    Calls Try.prog 5 #[.int .u64 a0, .string a1, v2] W fun e w' => e = .returned (.bool true) ∧ Below W.heap.size W w' := by
  obtain ⟨x, rfl, hok⟩ := Open.open_sl (.int .i64) Try.underlying34 (by kernel_rfl) ok2 h2
  have hb := bounds_u64 w0
  obtain ⟨n, rfl⟩ : ∃ n : Nat, a0 = n := ⟨a0.toNat, by omega⟩
  exact back_walk n (by omega) a1 w1 x.A x.cap x.l (Open.ints_cells hok).1 W (Open.ints_cells hok).2 (Open.ints_range hok)
end Go.Proofs.Ytjkjcpbhlgjgcaa.numBack
