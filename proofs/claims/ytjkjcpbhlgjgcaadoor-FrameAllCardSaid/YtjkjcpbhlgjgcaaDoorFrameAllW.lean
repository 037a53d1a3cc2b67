/- The law FrameAll: what its printed function answers (plain), and the walk of its row. -/
import Derived.Test.YtjkjcpbhlgjgcaaDoorFramePr
import Derived.Test.YtjkjcpbhlgjgcaaDoorOpenKd
namespace Go.Proofs.YtjkjcpbhlgjgcaaDoor.frameAll
open Go Go.RowKit
open Go.Proofs.YtjkjcpbhlgjgcaaDoor.Num
open Go.Proofs.YtjkjcpbhlgjgcaaDoor.NumC (put_len)
open Go.Proofs.YtjkjcpbhlgjgcaaDoor.FrameC (fputL frame_back get_back fputL_len getL)
open Go.Proofs.YtjkjcpbhlgjgcaaDoor.NumPr
open Go.Proofs.YtjkjcpbhlgjgcaaDoor.FramePr
open Go.Proofs.YtjkjcpbhlgjgcaaDoor.Gv
open Go.Proofs.YtjkjcpbhlgjgcaaDoor.PNum
open Go.Proofs.YtjkjcpbhlgjgcaaDoor.PFr
open Go.Proofs.YtjkjcpbhlgjgcaaDoorW.PrintWords Go.Proofs.YtjkjcpbhlgjgcaaDoorW.PrintLast Go.Proofs.YtjkjcpbhlgjgcaaDoorW.PrintMore
set_option linter.unusedVariables false
theorem awake_eq (k : Nat) (hk : 20 < k) : tarnlaw03_awake.f k = some true := by
  unfold tarnlaw03_awake.f
  have e : (⟨#[116, 101, 120, 116]⟩ : ByteArray) = bs [116, 101, 120, 116] := rfl
  have hl := fputL_len [116, 101, 120, 116]
  rw [e, fput_eq, Option.bind_some]
  rw [fget_eq _ (by omega) k hk, get_back _ (by decide)]
  simp only [Option.bind_some]
  rw [bs_toList]
  rfl
theorem cmp_loop (F : List ByteArray) (n : Nat) (hn : n = F.length) (hb : n ≤ 1000000000000) : ∀ (d j k : Nat), j + d = n → d < k → tarnlaw03_FrameAll.l2 k F (n : Int) F (j : Int) = some true := by
  intro d
  induction d with
  | zero =>
    intro j k hj hk
    obtain ⟨k, rfl⟩ : ∃ q, k = q + 1 := ⟨k - 1, by omega⟩
    simp only [tarnlaw03_FrameAll.l2]
    rw [if_neg (by omega), ← hn]
    simp
  | succ d ih =>
    intro j k hj hk
    obtain ⟨k, rfl⟩ : ∃ q, k = q + 1 := ⟨k - 1, by omega⟩
    simp only [tarnlaw03_FrameAll.l2]
    rw [if_pos (by omega), if_pos (by omega), if_pos (by omega), if_pos (by omega), if_pos trivial, show wrap64 ((j : Int) + 1) = ((j + 1 : Nat) : Int) by unfold wrap64; omega]
    exact ih (j + 1) k (by omega) (by omega)
theorem end_eq (S : List UInt8) (hS : S.length ≤ 1000000) (k : Nat) (hk : S.length + 100 < k) :
    tarnlaw03_FrameAll.j3 k (bs S) ((fall S.length ⟨S, 0⟩).1.map bs) (at_ S (fall S.length ⟨S, 0⟩).2) ((fall S.length ⟨S, 0⟩).1.length : Int) = some true := by
  obtain ⟨k, rfl⟩ : ∃ q, k = q + 1 := ⟨k - 1, by omega⟩
  have hl := fall_len S.length ⟨S, 0⟩ rfl
  dsimp only at hl
  simp only [tarnlaw03_FrameAll.j3]
  rw [fall_eq_all S (by omega) k (by omega)]
  simp only [Option.bind_some]
  rw [awake_eq k (by omega)]
  simp only [Option.bind_some]
  rw [if_pos trivial, if_pos trivial, if_pos (by simp)]
  obtain ⟨k, rfl⟩ : ∃ q, k = q + 1 := ⟨k - 1, by omega⟩
  simp only [tarnlaw03_FrameAll.j4]
  rw [if_neg (by simp)]
  exact cmp_loop _ _ (by simp) (by omega) _ 0 k (Nat.zero_add _) (by omega)
theorem ref_loop (S : List UInt8) (hS : S.length ≤ 1000000) (f : Nat) : ∀ (r : R) (k : Nat) (P W : List ByteArray), r.err = 0 → r.s.length ≤ f → r.s.length + P.length ≤ S.length → W <+: (fall f r).1.map bs → f + S.length + 200 < k →
    ∃ k', S.length + 100 < k' ∧ tarnlaw03_FrameAll.l1 k (bs S) (P ++ W) (at_ S r) (P.length : Int) (bs r.s) 0 = tarnlaw03_FrameAll.j3 k' (bs S) (P ++ (fall f r).1.map bs) (at_ S (fall f r).2) ((P.length + (fall f r).1.length : Nat) : Int) := by
  induction f with
  | zero =>
    intro r k P W he hl hP hW hk
    obtain ⟨k, rfl⟩ : ∃ q, k = q + 1 := ⟨k - 1, by omega⟩
    have hs : r.s = [] := List.length_eq_zero_iff.1 (by omega)
    have hw : W = [] := by simpa [fall] using hW
    subst hw
    refine ⟨k, by omega, ?_⟩
    simp only [tarnlaw03_FrameAll.l1]
    rw [bs_toList, if_pos hs]
    rfl
  | succ f ih =>
    intro r k P W he hl hP hW hk
    obtain ⟨k, rfl⟩ : ∃ q, k = q + 1 := ⟨k - 1, by omega⟩
    rw [fall] at hW ⊢
    simp only [tarnlaw03_FrameAll.l1]
    rw [bs_toList]
    by_cases hs : r.s = []
    · rw [if_pos hs] at hW ⊢
      rw [if_pos hs]
      have hw : W = [] := by simpa using hW
      subst hw
      exact ⟨k, by omega, rfl⟩
    · rw [if_neg hs] at hW ⊢
      have hfe := rftake_eq (r := r) (fun e => absurd he e) k (by omega)
      rw [he] at hfe
      rw [if_neg hs, show (0 : Int) = ((0 : Nat) : Int) from rfl, hfe]
      simp only [Option.bind_some]
      by_cases hf : (frame r).1.err = 0
      · have hlt := frame_shorter r he hf
        have hnf : ¬ (frame r).1.err ≠ 0 := fun z => z hf
        rw [if_neg hnf] at hW ⊢
        rw [if_pos (by omega)]
        dsimp only at hW ⊢
        rw [List.map_cons] at hW ⊢
        have hat : wrap64 (((bs S).size : Int) - ((bs (frame r).1.s).size : Int)) = at_ S (frame r).1 := by
          rw [bs_size, bs_size]
          unfold wrap64 at_
          omega
        have hp1 : wrap64 ((P.length : Int) + 1) = (((P ++ [bs (frame r).2]).length : Nat) : Int) := by
          rw [List.length_append, List.length_singleton]
          unfold wrap64
          omega
        rw [hat, hp1, hf]
        have fin : ∀ W', W' <+: (fall f (frame r).1).1.map bs → ∃ k', S.length + 100 < k' ∧ tarnlaw03_FrameAll.l1 k (bs S) ((P ++ [bs (frame r).2]) ++ W') (at_ S (frame r).1) (((P ++ [bs (frame r).2]).length : Nat) : Int) (bs (frame r).1.s) ((0 : Nat) : Int) =
            tarnlaw03_FrameAll.j3 k' (bs S) (P ++ bs (frame r).2 :: (fall f (frame r).1).1.map bs) (at_ S (fall f (frame r).1).2) ((P.length + ((frame r).2 :: (fall f (frame r).1).1).length : Nat) : Int) := fun W' hW' => by
          obtain ⟨k', h1, h2⟩ := ih (frame r).1 k (P ++ [bs (frame r).2]) W' hf (by omega) (by rw [List.length_append, List.length_singleton]; omega) hW' (by omega)
          refine ⟨k', h1, h2.trans ?_⟩
          rw [List.append_assoc, List.singleton_append, List.length_append, List.length_singleton, List.length_cons]
          congr 2
          omega
        cases W with
        | nil =>
          rw [if_pos (by simp), if_pos (by simp; omega), List.append_nil]
          have := fin [] List.nil_prefix
          rwa [List.append_nil] at this
        | cons w W =>
          obtain ⟨hw, hW'⟩ := List.cons_prefix_cons.1 hW
          subst hw
          rw [if_neg (by simp; omega), show P ++ bs (frame r).2 :: W = (P ++ [bs (frame r).2]) ++ W by simp]
          exact fin W hW'
      · rw [if_pos hf] at hW ⊢
        have hw : W = [] := by simpa using hW
        subst hw
        rw [if_neg (by omega)]
        exact ⟨k, by omega, rfl⟩
def cut60 (s : ByteArray) : List UInt8 := s.data.toList.take 60
theorem put_loop (l : List ByteArray) (a1 : ByteArray) (n : Nat) (hn : n = min l.length 8) : ∀ (d j k : Nat), j + d = n → d < k →
    tarnlaw03_FrameAll.l0 k l a1 (bs (((l.take j).map cut60).flatMap fputL)) (((l.take j).map cut60).map bs) (j : Int) = tarnlaw03_FrameAll.j1 (k - d - 1) a1 (bs (((l.take n).map cut60).flatMap fputL)) (((l.take n).map cut60).map bs) := by
  have hlen : ∀ m : List (List UInt8), (∀ t ∈ m, t.length ≤ 60) → (m.flatMap fputL).length ≤ 100 * m.length := by
    intro m
    induction m with
    | nil => intro _; simp
    | cons a m ih =>
      intro h
      have h1 := ih (fun t ht => h t (List.mem_cons_of_mem _ ht))
      have h2 := fputL_len2 a
      have h3 := h a (List.mem_cons_self ..)
      rw [List.flatMap_cons, List.length_append, List.length_cons]
      omega
  intro d
  induction d with
  | zero =>
    intro j k hj hk
    obtain ⟨k, rfl⟩ : ∃ q, k = q + 1 := ⟨k - 1, by omega⟩
    obtain rfl : j = n := by omega
    simp only [tarnlaw03_FrameAll.l0, Nat.add_sub_cancel, Nat.sub_zero]
    by_cases h : (j : Int) < (l.length : Int)
    · rw [if_pos h, if_neg (by omega)]
    · rw [if_neg h]
  | succ d ih =>
    intro j k hj hk
    obtain ⟨k, rfl⟩ : ∃ q, k = q + 1 := ⟨k - 1, by omega⟩
    have hjl : j < l.length := by omega
    have hrd : rdOf ByteArray.empty l (j : Int) = l[j] := by
      unfold rdOf
      rw [Int.toNat_natCast, List.getD_eq_getElem?_getD, List.getElem?_eq_getElem hjl]
      rfl
    simp only [tarnlaw03_FrameAll.l0]
    rw [hrd]
    obtain ⟨m, hm⟩ : ∃ m, m = l[j].data.toList := ⟨_, rfl⟩
    have hlj : l[j] = bs m := by rw [hm, bs_mk]
    have hcut : cut60 l[j] = m.take 60 := by unfold cut60; rw [hm]
    have htk : (l.take (j + 1)).map cut60 = (l.take j).map cut60 ++ [m.take 60] := by
      rw [List.take_succ_eq_append_getElem hjl, List.map_append, List.map_singleton, hcut]
    rw [hlj, mn_eq, bs_size]
    have he : (bs m).extract 0 (min (m.length : Int) 60).toNat = bs (m.take 60) := by
      rw [bs_ext, List.drop_zero, Nat.sub_zero]
      congr 1
      rw [List.take_eq_take_iff]
      omega
    rw [if_pos (by omega), if_pos (by omega), if_pos (by omega), if_pos (by omega), if_pos (by omega), he, rfput_eq]
    simp only [Option.bind_some]
    have h1 := hlen ((l.take j).map cut60) (fun t ht => by
      obtain ⟨s, _, rfl⟩ := List.mem_map.1 ht
      unfold cut60
      rw [List.length_take]
      omega)
    have h2 := fputL_len2 (m.take 60)
    rw [List.length_take] at h2
    have h3 : ((l.take j).map cut60).length ≤ 8 := by rw [List.length_map, List.length_take]; omega
    rw [if_pos (by rw [bs_size, bs_size]; omega), if_pos (by rw [List.length_map]; omega), bs_app, show wrap64 ((j : Int) + 1) = ((j + 1 : Nat) : Int) by unfold wrap64; omega]
    have := ih (j + 1) k (by omega) (by omega)
    rw [htk, List.flatMap_append, List.map_append, List.flatMap_singleton, List.map_singleton] at this
    rw [this, show k + 1 - (d + 1) - 1 = k - d - 1 by omega]
theorem pure (l : List ByteArray) (a1 : ByteArray) : ∃ k, tarnlaw03_FrameAll.f k l a1 = some true := by
  obtain ⟨ts, hts⟩ : ∃ ts, ts = (l.take (min l.length 8)).map cut60 := ⟨_, rfl⟩
  have h60 : ∀ t ∈ ts, t.length ≤ 60 := fun t ht => by
    rw [hts] at ht
    obtain ⟨s, _, rfl⟩ := List.mem_map.1 ht
    unfold cut60
    rw [List.length_take]
    omega
  have h8 : ts.length ≤ 8 := by rw [hts, List.length_map, List.length_take]; omega
  have hfl : ∀ m : List (List UInt8), (∀ t ∈ m, t.length ≤ 60) → (m.flatMap fputL).length ≤ 100 * m.length := by
    intro m
    induction m with
    | nil => intro _; simp
    | cons a m ih =>
      intro h
      have h1 := ih (fun t ht => h t (List.mem_cons_of_mem _ ht))
      have h2 := fputL_len2 a
      have h3 := h a (List.mem_cons_self ..)
      rw [List.flatMap_cons, List.length_append, List.length_cons]
      omega
  have hlen := hfl ts h60
  obtain ⟨tl, htl⟩ : ∃ tl, tl = a1.data.toList := ⟨_, rfl⟩
  have ha1 : a1 = bs tl := by rw [htl, bs_mk]
  obtain ⟨S, hS⟩ : ∃ S, S = ts.flatMap fputL ++ tl.take 30 := ⟨_, rfl⟩
  have hSl : S.length ≤ 1000 := by rw [hS, List.length_append, List.length_take]; omega
  have hput := put_loop l a1 (min l.length 8) rfl (min l.length 8) 0 (S.length * 3 + 2000) (Nat.zero_add _) (by omega)
  refine ⟨S.length * 3 + 2000, ?_⟩
  unfold tarnlaw03_FrameAll.f
  rw [List.take_zero] at hput
  refine hput.trans ?_
  rw [← hts]
  obtain ⟨k, hk⟩ : ∃ k, S.length * 3 + 2000 - min l.length 8 - 1 = k + 1 := ⟨S.length * 3 + 2000 - min l.length 8 - 2, by omega⟩
  rw [hk]
  simp only [tarnlaw03_FrameAll.j1]
  have he : (bs tl).extract 0 (min (tl.length : Int) 30).toNat = bs (tl.take 30) := by
    rw [bs_ext, List.drop_zero, Nat.sub_zero]
    congr 1
    rw [List.take_eq_take_iff]
    omega
  rw [ha1, mn_eq, bs_size, if_pos (by omega), if_pos (by omega), he, if_pos (by rw [bs_size, bs_size, List.length_take]; omega), bs_app, ← hS]
  obtain ⟨f', hf1, hf2⟩ := fall_app ts S.length (tl.take 30) (fun t ht => by have := h60 t ht; omega) (by rw [← hS]; exact Nat.le_refl _)
  rw [← hS] at hf2
  obtain ⟨k', h1, h2⟩ := ref_loop S (by omega) S.length ⟨S, 0⟩ k [] (ts.map bs) rfl (Nat.le_refl _) (by simp) (by
    rw [hf2, List.map_append]
    exact List.prefix_append _ _) (by omega)
  rw [at_start, List.nil_append, List.nil_append] at h2
  refine h2.trans ?_
  have := end_eq S (by omega) k' h1
  rw [show ((([] : List ByteArray).length + (fall S.length ⟨S, 0⟩).1.length : Nat) : Int) = ((fall S.length ⟨S, 0⟩).1.length : Int) by simp]
  exact this
open Go.Proofs.YtjkjcpbhlgjgcaaDoor.Open in
theorem walk {H : Type} {enc : TypeId × Value → H} {W : World} {b : Nat} {v0 : Value} (ok0 : Value.okWide Tryd.prog W .any b 30 v0) {d0 : DataW H} {p0 : List MemPlace} (h0 : DataW.Trod enc Tryd.prog W 0 (fun _ => true) true 30 v0 d0 p0) (a1 : ByteArray) (w1 : a1.size ≤ 140737488351232) (h : CrcC.Laid W) :
    Calls Tryd.prog 4 #[v0, .string a1] W fun e w' => e = .returned (.bool true) ∧ Below W.heap.size W w' := by
  obtain ⟨x, rfl, hok⟩ := open_sl .str Tryd.underlying30 (by kernel_rfl) ok0 h0
  obtain ⟨k, hk⟩ := pure x.l a1
  exact tarnlaw03_FrameAll.calls k x.A x.cap x.l a1 true W (OpenKd.C_strs x hok) hok.1 h.tab hk
end Go.Proofs.YtjkjcpbhlgjgcaaDoor.frameAll
