/- Layer 8: the walk of the law ItemPuts. -/
import Derived.Test.YtjkjcpbhlgjgcaaItemC2
import Derived.Test.YtjkjcpbhlgjgcaaOpen
namespace Go.Proofs.Ytjkjcpbhlgjgcaa.itemPuts
open Go Go.RowKit
open Go.Proofs.Ytjkjcpbhlgjgcaa.Gen
open Go.Proofs.Ytjkjcpbhlgjgcaa.Num
open Go.Proofs.Ytjkjcpbhlgjgcaa.NumC
open Go.Proofs.Ytjkjcpbhlgjgcaa.ItemC
set_option linter.unusedVariables false
set_option linter.unusedSimpArgs false
/-- What the item's bytes give. -/
theorem item_back (v : Nat) (hv : v < 18446744073709551616) (l : List UInt8) (h : mayB l = true) : R.item ⟨itemP v l, 0⟩ = (⟨[], 0⟩, (v, l)) := by
  have h1 := num_back v 18446744073709551615 (text l ++ []) hv (by omega)
  have h2 := text_back l 32 [] (by have := may_len h; omega) (by have := may_len h; omega)
  unfold R.item
  rw [show itemP v l = put v ++ (text l ++ []) by unfold itemP; rw [if_pos h, List.append_nil], h1]
  dsimp only
  rw [h2]
  simp [h]
theorem item_none : R.item ⟨[], 0⟩ = (⟨[], 2⟩, (0, [])) := rfl
theorem put_ne (v : Nat) (l : List UInt8) (h : mayB l = true) : itemP v l ≠ [] := by
  unfold itemP
  rw [if_pos h]
  unfold put
  simp
theorem itemP_len (v : Nat) (l : List UInt8) : (itemP v l).length ≤ 50 := by
  unfold itemP
  split
  · rename_i h
    have := may_len h
    have := put_len v
    have := text_len l
    rw [List.length_append]
    omega
  · simp
/-- What stays while the law compares. -/
def St (W0 : World) (g g8 b : Nat) (v u v8 u8 : Value) (P : List UInt8) (q : R) (w : World) : Prop :=
  Blk w g 48 #[v, u] ∧ Blk w g8 48 #[v8, u8] ∧ Src w b P q ∧ Below W0.heap.size W0 w
theorem St.b {W0 : World} {g g8 b : Nat} {v u v8 u8 : Value} {P : List UInt8} {q : R} {w w' : World} (h : St W0 g g8 b v u v8 u8 P q w) (hb : Below w.heap.size w w') : St W0 g g8 b v u v8 u8 P q w' :=
  ⟨h.1.b hb, h.2.1.b hb, h.2.2.1.below hb, thenB h.2.2.2 hb⟩
theorem keepR {W0 : World} {g g8 b : Nat} {v u v8 u8 : Value} {P : List UInt8} {q : R} {w w' : World} (hb : Below w.heap.size w w') (h : w.cell? ⟨g, 0, none⟩ = some v ∧ w.cell? ⟨g, 1, none⟩ = some u ∧ St W0 g g8 b v u v8 u8 P q w) :
    w'.cell? ⟨g, 0, none⟩ = some v ∧ w'.cell? ⟨g, 1, none⟩ = some u ∧ St W0 g g8 b v u v8 u8 P q w' :=
  ⟨cellB hb h.1, cellB hb h.2.1, h.2.2.b hb⟩
set_option maxHeartbeats 4000000 in
theorem puts_walk (n : Nat) (hn : n < 18446744073709551616) (l : List UInt8) (hl : l.length ≤ 9223372036854775807) (o : Int) (W : World) :
    Calls Try.prog 7 #[.agg #[.int .u64 n, .string ⟨l.toArray⟩], .int .i64 o] W fun e w' => e = .returned (.bool true) ∧ Below W.heap.size W w' := by
  have hnear := Lib.hid (fun W : World => near_any n l hl o W)
  have hdl := near_len l (o % 8)
  generalize nearD l (o % 8) = d at hnear hdl
  have hput := Lib.hid (fun W : World => iput_any n hn d (by omega) W)
  have hrput := Lib.hid (fun W : World => refiput_any n hn d (by omega) W)
  have hpl := itemP_len n d
  have hb1 := item_back n hn d
  have hb2 := put_ne n d
  have hb3 : mayB d = false → itemP n d = [] := fun h => by unfold itemP; rw [h]; rfl
  have Hb1 := Lib.hid hb1
  have Hb2 := Lib.hid hb2
  have Hb3 := Lib.hid hb3
  clear hb1 hb2 hb3
  generalize itemP n d = P at hput hrput hpl Hb1 Hb2 Hb3
  go_enter Try.func7, Try.ntmps7
  go_wp2_with fail
  refine (hnear.out _).mono ?_; rintro e w1 ⟨rfl, hb⟩
  replace hb := ((Below.refl W.heap.size W).alloc (Nat.le_refl _) (.cells #[.int .u64 n, .string ⟨l.toArray⟩] 48)).trans (hb.mono (B' := W.heap.size) (by simp))
  go_wp2_with fail
  have hk := Blk.fresh w1 48 #[.int .u64 n, .string ⟨d.toArray⟩]
  replace hb := hb.alloc hb.size (.cells #[.int .u64 n, .string ⟨d.toArray⟩] 48)
  generalize w1.alloc (.cells #[.int .u64 n, .string ⟨d.toArray⟩] 48) = w2 at hk hb
  generalize w1.heap.size = g at hk
  refine (hput.out _).mono ?_; rintro e w3 ⟨rfl, hb3⟩
  replace hk := hk.b hb3
  replace hb := thenB hb hb3
  clear hb3
  have k0 := hk.cell 0
  have k1 := hk.cell 1
  go_wp2_with fail
  refine (from_any _ P (by omega)).mono ?_; rintro e w4 ⟨rfl, hs4, hb4⟩
  have hne := hk.lt
  have hle := hb.size
  replace hk := hk.b hb4
  replace hb := thenB hb hb4
  clear hb4 k0 k1
  generalize w3.heap.size = b at hs4 hne hle
  have hgb : (some g : Option Nat) ≠ some b := by simp; omega
  go_wp2_with fail
  refine (itake_any _ b _ _ hs4).mono ?_; rintro e w5 ⟨rfl, hs5, hg5⟩
  replace hk := hk.grown hg5 hgb
  replace hb := ownB hb hg5 hle
  clear hs4 hg5
  cases hm : mayB d
  · obtain rfl := Hb3.out hm
    rw [item_none] at hs5
    have hin := item_none
    dsimp only at hs5
    go_wp2_with fail
    have hg8 := hk.lt
    have hne8 := hs5.lt
    refine name_world (St W g w5.heap.size b (.int .u64 n) (.string ⟨d.toArray⟩) (.int .u64 0) (.string ⟨#[]⟩) [] ⟨[], 2⟩) ⟨hk.grown (World.grownBy_alloc w5 _ none) (by simp), Blk.fresh w5 _ _, hs5.grown (World.grownBy_alloc w5 _ none) (by simp), hb.alloc hb.size _⟩ ?_
    clear hk hs5 hb
    generalize w5.heap.size = g8 at hg8 hne8
    intro w6 hst
    have k0 : w6.cell? ⟨g, 0, none⟩ = some (.int .u64 n) := hst.1.cell 0
    have k1 : w6.cell? ⟨g, 1, none⟩ = some (.string ⟨d.toArray⟩) := hst.1.cell 1
    go_region_held3 (fun w' => w'.cell? ⟨g, 0, none⟩ = some (.int .u64 n) ∧ w'.cell? ⟨g, 1, none⟩ = some (.string ⟨d.toArray⟩) ∧ St W g g8 b (.int .u64 n) (.string ⟨d.toArray⟩) (.int .u64 0) (.string ⟨#[]⟩) [] ⟨[], 2⟩ w')
      (first | exact ⟨k0, k1, hst.b (Below.refl _ _).drew⟩ | exact keepR (by assumption) (by assumption) | exact keepR (by assumption) ⟨k0, k1, hst.b (Below.refl _ _).drew⟩)
      (first | (go_at_call 35; refine (ItemC.awake_any _).mono ?_; rintro e w7 ⟨rfl, hb7⟩) | (go_at_call 42; refine (hrput.out _).mono ?_; rintro e w7 ⟨rfl, hb7⟩) | (go_at_call 36; refine (may_any n d (by omega) _).mono ?_; rintro e w7 ⟨rfl, hb7⟩) | (go_at_call 43; refine (refmay_any n d (by omega) _).mono ?_; rintro e w7 ⟨rfl, hb7⟩))
    rename_i hHeld
    have hst7 := hHeld.2.2
    clear hHeld k0 k1
    have k0 : w7.cell? ⟨g, 0, none⟩ = some (.int .u64 n) := hst7.1.cell 0
    have k1 : w7.cell? ⟨g, 1, none⟩ = some (.string ⟨d.toArray⟩) := hst7.1.cell 1
    have j0 := hst7.2.1.cell 0
    have j1 := hst7.2.1.cell 1
    go_wp2_with fail
    go_ret
    exact ⟨rfl, hst7.2.2.2⟩
  · have hin := Hb1.out hm
    rw [hin] at hs5
    dsimp only at hs5
    have hpe : (P == []) = false := by simpa using Hb2.out hm
    go_wp2_with fail
    have hg8 := hk.lt
    have hne8 := hs5.lt
    refine name_world (St W g w5.heap.size b (.int .u64 n) (.string ⟨d.toArray⟩) (.int .u64 n) (.string ⟨d.toArray⟩) P ⟨[], 0⟩) ⟨hk.grown (World.grownBy_alloc w5 _ none) (by simp), Blk.fresh w5 _ _, hs5.grown (World.grownBy_alloc w5 _ none) (by simp), hb.alloc hb.size _⟩ ?_
    clear hk hs5 hb
    generalize w5.heap.size = g8 at hg8 hne8
    intro w6 hst
    have k0 : w6.cell? ⟨g, 0, none⟩ = some (.int .u64 n) := hst.1.cell 0
    have k1 : w6.cell? ⟨g, 1, none⟩ = some (.string ⟨d.toArray⟩) := hst.1.cell 1
    go_region_held3 (fun w' => w'.cell? ⟨g, 0, none⟩ = some (.int .u64 n) ∧ w'.cell? ⟨g, 1, none⟩ = some (.string ⟨d.toArray⟩) ∧ St W g g8 b (.int .u64 n) (.string ⟨d.toArray⟩) (.int .u64 n) (.string ⟨d.toArray⟩) P ⟨[], 0⟩ w')
      (first | exact ⟨k0, k1, hst.b (Below.refl _ _).drew⟩ | exact keepR (by assumption) (by assumption) | exact keepR (by assumption) ⟨k0, k1, hst.b (Below.refl _ _).drew⟩)
      (first | (go_at_call 35; refine (ItemC.awake_any _).mono ?_; rintro e w7 ⟨rfl, hb7⟩) | (go_at_call 42; refine (hrput.out _).mono ?_; rintro e w7 ⟨rfl, hb7⟩) | (go_at_call 36; refine (may_any n d (by omega) _).mono ?_; rintro e w7 ⟨rfl, hb7⟩) | (go_at_call 43; refine (refmay_any n d (by omega) _).mono ?_; rintro e w7 ⟨rfl, hb7⟩))
    rename_i hHeld
    have hst7 := hHeld.2.2
    clear hHeld k0 k1
    go_wp2_with fail
    refine (end_any _ b _ _ hst7.2.2.1).mono ?_; rintro e w8 ⟨rfl, _, hg8'⟩
    have hk8 := hst7.1.grown hg8' hgb
    have hj8 := hst7.2.1.grown hg8' (by simp; omega)
    have e7 : R.endE ⟨[], 0⟩ = 0 := rfl
    have k0 : w8.cell? ⟨g, 0, none⟩ = some (.int .u64 n) := hk8.cell 0
    have k1 : w8.cell? ⟨g, 1, none⟩ = some (.string ⟨d.toArray⟩) := hk8.cell 1
    have j0 := hj8.cell 0
    have j1 := hj8.cell 1
    have hfin := ownB hst7.2.2.2 hg8' hle
    go_wp2_with fail
    go_ret
    exact ⟨rfl, hfin⟩
theorem walk_agg (a : Int) (s : ByteArray) (h1 : (Lit.int .u64 a).wf = true) (h2 : s.size ≤ maxLen) (a1 : Int) (W : World) :
    Calls Try.prog 7 #[.agg #[.int .u64 a, .string s], .int .i64 a1] W fun e w' => e = .returned (.bool true) ∧ Below W.heap.size W w' := by
  have hb := bounds_u64 h1
  obtain ⟨n, rfl⟩ : ∃ n : Nat, a = n := ⟨a.toNat, by omega⟩
  obtain ⟨⟨l⟩⟩ := s
  have h3 : l.length ≤ maxLen := h2
  unfold maxLen at h3
  exact puts_walk n (by omega) l (by omega) a1 W
theorem walk {H : Type} {enc : TypeId × Value → H} {W : World} {b : Nat} {v0 : Value} (ok0 : Value.okWide Try.prog W .any b 48 v0) {d0 : DataW H} {p0 : List MemPlace} (h0 : DataW.Trod enc Try.prog W 0 (fun _ => true) true 48 v0 d0 p0) (a1 : Int) (w1 : (Lit.int .i64 a1).wf = true) :
    Calls Try.prog 7 #[v0, .int .i64 a1] W fun e w' => e = .returned (.bool true) ∧ Below W.heap.size W w' := by
  obtain ⟨y, rfl, h1, h2⟩ := Open.open_agg (.pair (.int .u64) .str) (by kernel_rfl) (by kernel_rfl) ok0 h0
  exact walk_agg y.1 y.2 h1 h2 a1 W
end Go.Proofs.Ytjkjcpbhlgjgcaa.itemPuts
