/- Contracts of layer 8 (item), what is taken; the walks of the laws. -/
import Derived.Test.YtjkjcpbhlgjgcaaItemC
namespace Go.Proofs.Ytjkjcpbhlgjgcaa.ItemC
open Go Go.RowKit
open Go.Proofs.Ytjkjcpbhlgjgcaa.Gen
open Go.Proofs.Ytjkjcpbhlgjgcaa.Num
open Go.Proofs.Ytjkjcpbhlgjgcaa.NumC
set_option linter.unusedVariables false
/-- The item that bytes are at. -/
def R.item (r : R) : R × (Nat × List UInt8) :=
  let a := r.num 18446744073709551615
  let b := a.1.text 32
  let q := if b.1.err = 0 ∧ mayB b.2 = false then b.1.fail 3 else b.1
  if q.err ≠ 0 then (q, (0, [])) else (q, (a.2, b.2))
theorem set2 (w : World) (B : Nat) (u v : Value) : Below B w ((w.setCell ⟨B, 0, none⟩ u).setCell ⟨B, 1, none⟩ v) := ((Below.refl B w).setCell (p := ⟨B, 0, none⟩) (Nat.le_refl B) u).setCell (p := ⟨B, 1, none⟩) (Nat.le_refl B) v
theorem item_if (b : R × List UInt8) (x : Nat) : (b.1.err = 0 ∧ mayB b.2 = false ∧ (let q := if b.1.err = 0 ∧ mayB b.2 = false then b.1.fail 3 else b.1; if q.err ≠ 0 then (q, ((0 : Nat), ([] : List UInt8))) else (q, (x, b.2))) = (b.1.fail 3, (0, []))) ∨
    (b.1.err = 0 ∧ mayB b.2 = true ∧ (let q := if b.1.err = 0 ∧ mayB b.2 = false then b.1.fail 3 else b.1; if q.err ≠ 0 then (q, ((0 : Nat), ([] : List UInt8))) else (q, (x, b.2))) = (b.1, (x, b.2))) ∨
    (b.1.err ≠ 0 ∧ (let q := if b.1.err = 0 ∧ mayB b.2 = false then b.1.fail 3 else b.1; if q.err ≠ 0 then (q, ((0 : Nat), ([] : List UInt8))) else (q, (x, b.2))) = (b.1, (0, []))) := by
  dsimp only
  by_cases h1 : b.1.err = 0
  · cases h2 : mayB b.2
    · have : (b.1.fail 3).err = 3 := by unfold R.fail; rw [if_pos ⟨h1, by decide⟩]
      exact Or.inl ⟨h1, rfl, by simp [h1, this]⟩
    · exact Or.inr (Or.inl ⟨h1, rfl, by simp [h1]⟩)
  · exact Or.inr (Or.inr ⟨h1, by simp [h1]⟩)
set_option maxHeartbeats 4000000 in
theorem itake_any (w : World) (b : Nat) (all : List UInt8) (r : R) (h : Src w b all r) :
    Calls Try.prog 41 #[.pointer (some ⟨b, 0, none⟩)] w fun x w' => x = .returned (.agg #[.int .u64 (R.item r).2.1, .string ⟨(R.item r).2.2.toArray⟩]) ∧ Src w' b all (R.item r).1 ∧ w.grownBy w' (some b) := by
  have hne : (some w.heap.size : Option Nat) ≠ some b := by have := h.lt; simp; omega
  obtain ⟨w0, hw0⟩ : ∃ w0, w0 = w.alloc (.cells #[.int .u64 0, .string ⟨#[]⟩] 48) := ⟨_, rfl⟩
  have hs0 : Src w0 b all r := by rw [hw0]; exact h.grown (World.grownBy_alloc w _ none) (by simp)
  have hg0 : w.grownBy w0 (some b) := by rw [hw0]; exact World.grownBy_alloc w _ _
  have hk0 : Blk w0 w.heap.size 48 #[.int .u64 0, .string ⟨#[]⟩] := by rw [hw0]; exact Blk.fresh w _ _
  have h1 := num_any w0 b all r 18446744073709551615 (by omega) hs0
  have ho1 := R.num_ok h.ok 18446744073709551615
  obtain ⟨q, hq⟩ : ∃ q, q = R.item r := ⟨_, rfl⟩
  rw [← hq]
  unfold R.item at hq
  generalize r.num 18446744073709551615 = a at h1 hq ho1
  obtain ⟨r1, x⟩ := a
  dsimp only at h1 hq ho1
  have h2 := fun (W : World) (hW : Src W b all r1) => srctext_any W b all r1 32 (by omega) (by omega) hW
  have hcase := item_if (r1.text 32) x
  dsimp only at hcase
  rw [← hq] at hcase
  clear hq
  have hd : (r1.text 32).2.length ≤ 140737488355328 := by
    have h1 := take_snd_len (r1.int (min 32 65536)).1 (r1.int (min 32 65536)).2
    have h2 := int_le r1 (min 32 65536) ho1
    have h3 : (r1.text 32).2 = ((r1.int (min 32 65536)).1.take (r1.int (min 32 65536)).2).2 := rfl
    rw [h3]
    omega
  generalize r1.text 32 = t at h2 hcase hd
  obtain ⟨r2, d⟩ := t
  dsimp only at h2 hcase hd
  have H1 := Lib.hid h1
  have H2 := Lib.hid h2
  clear h1 h2 h
  go_enter Try.func41, Try.ntmps41
  go_wp2_with fail
  rw [← hw0]
  refine H1.out.mono ?_; rintro e w2 ⟨rfl, hs2, hg2⟩
  have hk2 := hk0.grown hg2 hne
  have hgg2 := Lib.grownBy_trans hg0 hg2
  clear H1 hs0 hg0 hk0 hw0
  go_wp2_with fail
  refine (H2.out _ hs2).mono ?_; rintro e w3 ⟨rfl, hs3, hg3⟩
  replace hk2 := hk2.grown hg3 hne
  replace hgg2 := Lib.grownBy_trans hgg2 hg3
  have hne3 : (some w3.heap.size : Option Nat) ≠ some b := by have := hs3.lt; simp; omega
  have hne4 : w.heap.size ≠ w3.heap.size := by have := hk2.lt; omega
  clear H2 hs2 hg2 hg3
  obtain ⟨w4, hw4⟩ : ∃ w4, w4 = w3.alloc (.cells #[.int .u64 x, .string ⟨d.toArray⟩] 48) := ⟨_, rfl⟩
  have hs4 : Src w4 b all r2 := by rw [hw4]; exact hs3.grown (World.grownBy_alloc w3 _ none) (by simp)
  have hg4 : w.grownBy w4 (some b) := by rw [hw4]; exact Lib.grownBy_allocR hgg2 _
  have hj4 : Blk w4 w3.heap.size 48 #[.int .u64 x, .string ⟨d.toArray⟩] := by rw [hw4]; exact Blk.fresh w3 _ _
  have hk4 : Blk w4 w.heap.size 48 #[.int .u64 0, .string ⟨#[]⟩] := by rw [hw4]; exact hk2.grown (World.grownBy_alloc w3 _ none) (by simp)
  clear hs3 hgg2 hk2
  go_wp2_with fail
  rw [← hw4]
  clear hw4
  generalize w3.heap.size = g3 at hne3 hne4 hj4
  have hld := may_len (l := d)
  have hgb : (some b : Option Nat) ≠ some w.heap.size := fun e => hne e.symm
  obtain ⟨c1, c2, rfl⟩ | ⟨c1, c2, rfl⟩ | ⟨c1, rfl⟩ := hcase
  · refine (err_any _ b all r2 hs4).mono ?_; rintro e w5 ⟨rfl, rfl⟩
    have j0 := hj4.cell 0
    have j1 := hj4.cell 1
    go_wp2_with fail
    refine (may_any _ d hd _).mono ?_; rintro e w5 ⟨rfl, hb5⟩
    replace hs4 := hs4.below hb5
    replace hg4 := Lib.grownBy_below hg4 hb5
    replace hk4 := hk4.b hb5
    clear hj4 hb5 j0 j1
    go_wp2_with fail
    refine (wrong_any _ b all r2 3 (by omega) hs4).mono ?_; rintro e w6 ⟨rfl, hs6, hg6⟩
    replace hk4 := hk4.grown hg6 hne
    replace hg4 := Lib.grownBy_trans hg4 hg6
    have he6 : (r2.fail 3).err = 3 := by unfold R.fail; rw [if_pos ⟨c1, by decide⟩]
    go_wp2_with fail
    refine (err_any _ b all _ hs6).mono ?_; rintro e w7 ⟨rfl, rfl⟩
    have k0 := hk4.cell 0
    have k1 := hk4.cell 1
    have k2 := hk4.frozen 0
    have k3 := hk4.frozen 1
    go_wp2_with fail
    exact bodyPost_ret (v := .agg #[.int .u64 0, .string ⟨#[]⟩]) (by simp [results, Try.results41, go_sem, k0, k1]) rfl ⟨rfl, (hs6.grown (Lib.grownBy_setCell _ _ _ _) hgb).grown (Lib.grownBy_setCell _ _ _ _) hgb, grownA hg4 (set2 _ _ _ _)⟩
  · refine (err_any _ b all r2 hs4).mono ?_; rintro e w5 ⟨rfl, rfl⟩
    have j0 := hj4.cell 0
    have j1 := hj4.cell 1
    go_wp2_with fail
    refine (may_any _ d hd _).mono ?_; rintro e w5 ⟨rfl, hb5⟩
    replace hs4 := hs4.below hb5
    replace hg4 := Lib.grownBy_below hg4 hb5
    replace hk4 := hk4.b hb5
    replace hj4 := hj4.b hb5
    clear hb5 j0 j1
    go_wp2_with fail
    refine (err_any _ b all _ hs4).mono ?_; rintro e w7 ⟨rfl, rfl⟩
    have k0 := hk4.cell 0
    have k1 := hk4.cell 1
    have k2 := hk4.frozen 0
    have k3 := hk4.frozen 1
    have j0 := hj4.cell 0
    have j1 := hj4.cell 1
    go_wp2_with fail
    exact bodyPost_ret (v := .agg #[.int .u64 x, .string ⟨d.toArray⟩]) (by simp [results, Try.results41, go_sem, k0, k1]) rfl ⟨rfl, (hs4.grown (Lib.grownBy_setCell _ _ _ _) hgb).grown (Lib.grownBy_setCell _ _ _ _) hgb, grownA hg4 (set2 _ _ _ _)⟩
  · refine (err_any _ b all r2 hs4).mono ?_; rintro e w5 ⟨rfl, rfl⟩
    have hk := Nat.pos_of_ne_zero c1
    go_wp2_with fail
    refine (err_any _ b all _ hs4).mono ?_; rintro e w7 ⟨rfl, rfl⟩
    have k0 := hk4.cell 0
    have k1 := hk4.cell 1
    have k2 := hk4.frozen 0
    have k3 := hk4.frozen 1
    go_wp2_with fail
    exact bodyPost_ret (v := .agg #[.int .u64 0, .string ⟨#[]⟩]) (by simp [results, Try.results41, go_sem, k0, k1]) rfl ⟨rfl, (hs4.grown (Lib.grownBy_setCell _ _ _ _) hgb).grown (Lib.grownBy_setCell _ _ _ _) hgb, grownA hg4 (set2 _ _ _ _)⟩
end Go.Proofs.Ytjkjcpbhlgjgcaa.ItemC
