/- The walks of the laws of layer 21 (order): OrderNone, OrderPlays. -/
import Derived.Test.YtanggnjifckhmaaOrdC
import Derived.Test.YtanggnjifckhmaaOpen
import Derived.Deep.DeepCutAuto
import Derived.Deep.CutBlock
import Derived.Deep.LoopGhost
namespace Go.Proofs.Ytanggnjifckhmaa.OrdC
open Go Go.RowKit
open Go.Proofs.Ytanggnjifckhmaa.Gen
open Go.Proofs.Ytanggnjifckhmaa.Own
open Go.Proofs.Ytanggnjifckhmaa.RowK
set_option linter.unusedVariables false
theorem awake_any (w : World) : Calls Try.prog 27 #[] w fun e w' => e = .returned (.bool true) ∧ Below w.heap.size w w' := by
  have ho := new_ord w (.slice none 0 0)
  have hb : Below w.heap.size w (w.alloc (.cells #[.slice none 0 0] 46)) := (Below.refl _ _).alloc (Nat.le_refl _) _
  have HO := Lib.hid ho
  clear ho
  go_enter Try.func27, Try.ntmps27
  go_wp2_with fail
  refine (use_any _ _ _ _ _ 1 HO.out (by simp)).mono ?_; rintro e w1 ⟨rfl, v1, o1, k1, _⟩
  have hb1 : Below w.heap.size w w1 := hb.trans (k1.below HO.out)
  have o1 : IsOrd w1 w.heap.size w.heap.size v1 [1] := o1
  go_wp2_with fail
  refine (use_any _ _ _ _ _ 2 o1 (by simp)).mono ?_; rintro e w2 ⟨rfl, v2, o2, k2, _⟩
  have hb2 : Below w.heap.size w w2 := hb1.trans (k2.below o1)
  have o2 : IsOrd w2 w.heap.size w.heap.size v2 ([2] ++ [1]) := o2
  go_wp2_with fail
  refine (pop_any _ _ _ _ [2] 1 o2).mono ?_; rintro e w3 ⟨rfl, v3, o3, k3, _⟩
  have hb3 : Below w.heap.size w w3 := hb2.trans (k3.below o2)
  go_wp2_with fail
  refine (len_any _ _ _ _ _ o3).mono ?_; rintro e w4 ⟨rfl, rfl⟩
  go_wp2_with fail
  go_ret
  exact ⟨rfl, hb3⟩
theorem none_walk (n : Int) (W : World) : Calls Try.prog 8 #[.int .i64 n] W fun e w' => e = .returned (.bool true) ∧ Below W.heap.size W w' := by
  go_enter Try.func8, Try.ntmps8
  go_wp2_with fail
  refine (use_nil n _).mono ?_; rintro e w1 ⟨rfl, rfl⟩
  go_wp2_with fail
  refine (pop_empty none _ 0 (.slice none 0 0) (fun g e => by cases e)).mono ?_; rintro e w1 ⟨rfl, rfl⟩
  go_wp2_with fail
  refine (awake_any _).mono ?_; rintro e w1 ⟨rfl, hb⟩
  go_wp2_with fail
  refine (has_nil n _).mono ?_; rintro e w2 ⟨rfl, rfl⟩
  go_wp2_with fail
  refine (len_nil _).mono ?_; rintro e w2 ⟨rfl, rfl⟩
  go_wp2_with fail
  refine (drop_out none n _ 0 (.slice none 0 0) [] (fun g e => by cases e)).mono ?_; rintro e w2 ⟨rfl, rfl⟩
  go_wp2_with fail
  refine (all_nil _).mono ?_; rintro e w2 ⟨rfl, rfl⟩
  go_wp2_with fail
  go_ret
  exact ⟨rfl, hb⟩
theorem without_snoc (l : List Int) (x n : Int) : without (l ++ [x]) n = if x = n then without l n else without l n ++ [x] := by
  unfold without
  rw [List.filter_append]
  by_cases h : x = n
  · rw [if_pos h]; simp [h]
  · rw [if_neg h]; simp [h]
theorem without_len (l : List Int) (n : Int) : (without l n).length ≤ l.length := List.length_filter_le _ _
set_option maxHeartbeats 2000000 in
theorem without_any (A : Option Addr) (cap : Nat) (l : List Int) (n : Int) (W : World) (hl : l.length ≤ 1000) (hc : ∀ i, i < l.length → ∃ ad, A = some ad ∧ W.cell? (ad.add i) = some (.int .i64 (l[i]?.getD 0))) :
    Calls Try.prog 20 #[.slice A l.length cap, .int .i64 n] W (AllPost (without l n) W) := by
  go_enter Try.func20, Try.ntmps20
  go_wp2_with fail
  go_loopw [5, 6] (fun v i wr => ∃ k : Nat, i = .int .i64 k ∧ k ≤ l.length ∧ wr.ownsRow W.heap.size 3 1 v (without (l.take k) n).length (flat (without (l.take k) n)) ∧ Below W.heap.size W wr) (fun _ i _ => l.length - (intOf i).toNat)
  case atStart => exact ⟨0, rfl, by omega, own_empty (Nat.le_refl _) (heap_alloc_new _ _), (Below.refl _ _).alloc (Nat.le_refl _) _⟩
  case round =>
    obtain ⟨k, rfl, hk, hown, hb⟩ := hrel
    by_cases hlt : k < l.length
    · obtain ⟨ad, rfl, hcell⟩ := hc k hlt
      have hts : l.take (k + 1) = l.take k ++ [l[k]?.getD 0] := by
        rw [List.take_succ_eq_append_getElem hlt, List.getElem?_eq_getElem hlt]
        rfl
      have hlen := without_len (l.take k) n
      have hlk : (l.take k).length ≤ k := List.length_take_le _ _
      generalize l[k]?.getD 0 = x at hcell hts
      have hw := without_snoc (l.take k) x n
      rw [← hts] at hw
      have hcell' := cellB hb hcell
      clear hcell hts
      by_cases hx : x = n
      · rw [if_pos hx] at hw
        have HW := Lib.hid hw
        have hd : (x == n) = true := by simp [hx]
        clear hw
        subst hx
        go_wp2_with fail
        go_roundw
        case rel => exact ⟨k + 1, by go_num, by omega, by rw [HW.out]; exact hown, hb⟩
        case measure => simp [intOf]; omega
      · rw [if_neg hx] at hw
        have hw1 : (without (l.take (k + 1)) n).length = (without (l.take k) n).length + 1 := by rw [hw]; simp
        have hw2 : flat (without (l.take (k + 1)) n) = flat (without (l.take k) n) ++ [.int .i64 x] := by rw [hw, flat_append]; rfl
        have HW1 := Lib.hid hw1
        have HW2 := Lib.hid hw2
        clear hw hw1 hw2
        have hsz := hb.size
        go_wp2_with (at_builtin
                     refine wpList_app1 _ rfl _ _ _ rfl W.heap.size 3 (.int .i64 0) 8 Try.underlying22 info3 rfl _ _ _ rfl (hown.alloc _) ⟨wr.heap.size, 0, none⟩ (.int .i64 x) rfl ?c1 rfl (by omega) (by omega) (by simp; omega) ?_
                     case c1 => simp
                     intro A' cap' w4 hown4 hc4 hg4 hb4 hob4)
        have hb5 : Below W.heap.size W w4 := (hb.alloc hb.size _).trans hb4
        go_roundw
        case rel => exact ⟨k + 1, by go_num, by omega, by rw [HW1.out, HW2.out]; exact hown4, hb5⟩
        case measure => simp [intOf]; omega
    · obtain rfl : k = l.length := by omega
      obtain ⟨A1, cap1, rfl, hc1⟩ := own_slice hown
      rw [List.take_length] at hown ⊢
      go_wp2_with fail
      go_ret
      exact ⟨A1, cap1, rfl, hown, hb⟩
theorem m4 (a : Int) : Go.bits .and .i64 a 15 = a % 16 := and_mask_i64 a 4 (by decide)
theorem m3 (a : Int) : Go.bits .and .i64 a 7 = a % 8 := and_mask_i64 a 3 (by decide)
theorem has_lt (l : List Int) (n : Int) : decide ((without l n).length < l.length) = hasB l n := by
  rw [Bool.eq_iff_iff, decide_eq_true_iff]
  unfold hasB without
  constructor
  · intro h
    rw [List.contains_iff_mem]
    refine Classical.byContradiction fun hn => ?_
    rw [List.filter_eq_self.2 (fun x hx => by simp; rintro rfl; exact hn hx)] at h
    omega
  · intro h
    rw [List.contains_iff_mem] at h
    refine List.length_filter_lt_length_iff_exists.2 ⟨n, h, by simp⟩
theorem erase_without {l : List Int} (h : l.Nodup) (n : Int) : l.erase n = without l n := by
  unfold without
  rw [h.erase_eq_filter]
/-- The order, and the law's own list. -/
structure MSt (W : World) (g : Nat) (v mv : Value) (l : List Int) (i : Nat) (w : World) : Prop where
  ord : IsOrd w W.heap.size g v l
  row : w.ownsRow W.heap.size 3 1 mv l.length (flat l)
  ng : mv.ownBlock ≠ some g
  nv : ∀ k, mv.ownBlock = some k → v.ownBlock ≠ some k
  nodup : l.Nodup
  len : l.length ≤ i
  below : Below W.heap.size W w
/-- The law's list made anew, the order turned. -/
theorem mst_drop {W w w1 w2 : World} {g i : Nat} {v mv v' mv' : Value} {l l' : List Int} {i' : Nat} (h : MSt W g v mv l i w) (hb : Below w.heap.size w w1) (hr : w1.ownsRow w.heap.size 3 1 mv' l'.length (flat l'))
    (ho : IsOrd w2 W.heap.size g v' l') (hk : Kept w1 w2 g v) (hob : ∀ k, v'.ownBlock = some k → v.ownBlock = some k ∨ w1.heap.size ≤ k) (hnd : l'.Nodup) (hlen : l'.length ≤ i') : MSt W g v' mv' l' i' w2 := by
  have hg := h.ord.blk.lt
  have hlow := h.ord.low
  refine ⟨ho, ?_, ?_, ?_, hnd, hlen, ?_⟩
  · obtain ⟨h1, h2⟩ := hr
    refine ⟨h1, ?_⟩
    rcases h2 with h2 | ⟨g1, cap, cur, rfl, hg1, hh, r⟩
    · exact .inl h2
    · have hlt : g1 < w1.heap.size := (Array.getElem?_eq_some_iff.1 hh).1
      refine .inr ⟨g1, cap, cur, rfl, by have := h.below.size; omega, (hk.block g1 hlt (by omega) (fun e => ?_)).trans hh, r⟩
      have := (h.ord.own.lt _ e.symm).2
      omega
  · intro e
    have := (hr.lt _ e).1
    omega
  · intro k e1 e2
    have h1 := hr.lt k e1
    rcases hob k e2 with e3 | e3
    · have := (h.ord.own.lt k e3).2
      omega
    · omega
  · exact (h.below.trans (hb.mono h.below.size)).trans (hk.below (h.ord.b hb))
theorem own_none {w : World} {B n cap : Nat} {e : TypeId} {k : Nat} {A : Option Addr} {xs : List Value} (h : w.ownsRow B e k (.slice A n cap) n xs) : A = none → n = 0 ∧ cap = 0 := by
  rintro rfl
  rcases h.2 with ⟨h1, _⟩ | ⟨_, _, _, h1, _⟩
  · injection h1 with _ h2 h3
    exact ⟨h2, h3⟩
  · cases h1
theorem own_one {w : World} {B g : Nat} {e : TypeId} {u : Value} (hB : B ≤ g) (hg : w.heap[g]? = some (.cells #[u] e (0, 0))) : w.ownsRow B e 1 (.slice (some ⟨g, 0, none⟩) 1 1) 1 [u] :=
  ⟨rfl, .inr ⟨g, 1, #[u], rfl, hB, hg, Nat.le_refl _, by unfold maxLen; omega, by simp, by simp⟩⟩
theorem mst_kept {W w w1 : World} {g i : Nat} {v mv : Value} {l : List Int} (h : MSt W g v mv l i w) (hk : Kept w w1 g v) : w1.ownsRow W.heap.size 3 1 mv l.length (flat l) ∧ ∀ k, mv.ownBlock = some k → w1.heap[k]? = w.heap[k]? := by
  have hm : ∀ k, mv.ownBlock = some k → w1.heap[k]? = w.heap[k]? := fun k e => hk.block k (h.row.lt k e).2 (fun e2 => h.ng (by rw [e, e2])) (fun e2 => h.nv k e e2.symm)
  exact ⟨own_move h.row hm, hm⟩
theorem MSt.b {W w w1 : World} {g i : Nat} {v mv : Value} {l : List Int} (h : MSt W g v mv l i w) (hb : Below w.heap.size w w1) : MSt W g v mv l i w1 :=
  ⟨h.ord.b hb, own_below h.row hb, h.ng, h.nv, h.nodup, h.len, h.below.trans (hb.mono h.below.size)⟩
theorem mst_pop {W w w2 : World} {g i g4 cap : Nat} {v v' : Value} {l : List Int} {z : Int} (h : MSt W g v (.slice (some ⟨g4, 0, none⟩) (l.length + 1) cap) (l ++ [z]) i w)
    (ho : IsOrd w2 W.heap.size g v' l) (hk : Kept w w2 g v) (hob : ∀ k, v'.ownBlock = some k → v.ownBlock = some k ∨ w.heap.size ≤ k) (hz : w.cell? ⟨g4, l.length, none⟩ = some (.int .i64 z)) :
    MSt W g v' (.slice (some ⟨g4, 0, none⟩) l.length cap) l (i + 1) w2 ∧ w2.cell? ⟨g4, l.length, none⟩ = some (.int .i64 z) := by
  obtain ⟨hrow, hm⟩ := mst_kept h hk
  have hg4 := hm g4 rfl
  obtain ⟨h1, h2⟩ := hrow
  rcases h2 with ⟨h2, _⟩ | ⟨g1, cap1, cur, hv, hB, hh, hc, hcm, hs, ht⟩
  · cases h2
  · injection hv with hv1 hv2 hv3
    injection hv1 with hv1
    injection hv1 with hv1
    subst hv1
    subst hv3
    have hlen : (l ++ [z]).length = l.length + 1 := by simp
    rw [hlen] at hc
    rw [Nat.mul_one] at hs ht
    refine ⟨⟨ho, row_lit hh hB rfl (by omega) (by unfold maxLen at hcm; omega) hs ?_, h.ng, fun k e1 e2 => ?_, ?_, ?_, h.below.trans (hk.below h.ord)⟩, (World.cell?_of_block hg4).trans hz⟩
    · have : (flat (l ++ [z])).take l.length = flat l := by rw [flat_append]; exact List.take_left' (flat_len l)
      rw [← this, ← ht, List.take_take, Nat.min_eq_left (by rw [hlen]; omega)]
    · rcases hob k e2 with e3 | e3
      · exact h.nv k e1 e3
      · have := (h.row.lt k e1).2
        omega
    · exact (List.nodup_append.1 h.nodup).1
    · have := h.len
      rw [hlen] at this
      omega
theorem mst_use {W w w3 w4 w5 : World} {g i : Nat} {v mv v' : Value} {l : List Int} {n : Int} {A : Option Addr} {cap : Nat} (h : MSt W g v mv l i w) (ho : IsOrd w3 W.heap.size g v' (n :: without l n)) (hk : Kept w w3 g v)
    (hob : ∀ k, v'.ownBlock = some k → v.ownBlock = some k ∨ w.heap.size ≤ k) (hb4 : Below w3.heap.size w3 w4) (hb5 : Below w3.heap.size w4 w5)
    (hr : w5.ownsRow w3.heap.size 3 1 (.slice A (1 + (without l n).length) cap) (1 + (without l n).length) ([.int .i64 n] ++ flat (without l n))) (hs : w4.heap.size ≤ w5.heap.size) :
    MSt W g v' (.slice A (1 + (without l n).length) cap) (n :: without l n) (i + 1) w5 := by
  have hb := hb4.trans hb5
  have ho5 := ho.b hb
  have hlow := h.ord.low
  have hglt := ho.blk.lt
  have hl1 : (n :: without l n).length = 1 + (without l n).length := by simp; omega
  have hWs : W.heap.size ≤ w3.heap.size := Nat.le_trans h.below.size hk.size
  refine ⟨ho5, ?_, fun e => ?_, fun k e1 e2 => ?_, ?_, ?_, (h.below.trans (hk.below h.ord)).trans (hb.mono hWs)⟩
  · rw [hl1]
    obtain ⟨h1, h2⟩ := hr
    refine ⟨h1, ?_⟩
    rcases h2 with h2 | ⟨g1, cap1, cur, hv, hg1, r⟩
    · exact .inl h2
    · exact .inr ⟨g1, cap1, cur, hv, by omega, r⟩
  · have := (hr.lt _ e).1
    omega
  · have h1 := (hr.lt k e1).1
    have h2 := (ho.own.lt k e2).2
    omega
  · refine List.nodup_cons.2 ⟨?_, List.Pairwise.filter _ h.nodup⟩
    unfold without
    rw [List.mem_filter]
    simp
  · have h1 := without_len l n
    have h2 := h.len
    omega
set_option maxRecDepth 100000 in
set_option maxHeartbeats 8000000 in
theorem plays_walk (A : Option Addr) (cap : Nat) (l0 : List (Int × Int)) (W : World) (hl : l0.length ≤ 9223372036854775807)
    (hc : ∀ i, i < l0.length → ∃ ad, ∃ u v : Int, A = some ad ∧ W.cell? (ad.add (i * 2)) = some (.int .i64 u) ∧ W.cell? ⟨(ad.add (i * 2)).block, (ad.add (i * 2)).off + 1, none⟩ = some (.int .i64 v)) :
    Calls Try.prog 7 #[.slice A l0.length cap] W fun e w' => e = .returned (.bool true) ∧ Below W.heap.size W w' := by
  go_enter Try.func7, Try.ntmps7
  go_wp2_with fail
  go_loopg [4, 5] 60 (fun gg mv i wr => ∃ i0 : Nat, ∃ v : Value, ∃ l : List Int, i = .int .i64 i0 ∧ i0 ≤ 60 ∧ gg = 60 - i0 ∧ MSt W W.heap.size v mv l i0 wr)
  case atStart => exact ⟨0, .slice none 0 0, [], rfl, by omega, rfl, ⟨(new_ord W (.slice none 0 0)).b ((Below.refl _ _).alloc (Nat.le_refl _) _), own_empty (by simp) (heap_alloc2_new _ _ _), by simp [Value.ownBlock], by simp [Value.ownBlock], List.nodup_nil, by simp, ((Below.refl _ _).alloc (Nat.le_refl _) _).alloc (by simp) _⟩⟩
  case round =>
    obtain ⟨i0, v, l, rfl, hi, rfl, hM⟩ := hrel
    by_cases hlt : i0 < l0.length ∧ i0 < 60
    · obtain ⟨h1, h2⟩ := hlt
      obtain ⟨ad, x, y, rfl, hcx, hcy⟩ := hc i0 h1
      have hcx' := cellB hM.below hcx
      have hcy' := cellB hM.below hcy
      obtain ⟨n, e15, n0, n1⟩ : ∃ n, Go.bits .and .i64 y 15 = n ∧ 0 ≤ n ∧ n < 16 := ⟨_, rfl, by rw [m4]; omega, by rw [m4]; omega⟩
      obtain ⟨q, e7, q0, q1⟩ : ∃ q, Go.bits .and .i64 x 7 = q ∧ 0 ≤ q ∧ q < 8 := ⟨_, rfl, by rw [m3]; omega, by rw [m3]; omega⟩
      obtain ⟨t, et, t0, t1⟩ : ∃ t, (q + 1) % 5 = t ∧ 0 ≤ t ∧ t < 5 := ⟨_, rfl, by omega, by omega⟩
      obtain ⟨A4, cap4, rfl, hcap4⟩ := own_slice hM.row
      go_upto_block 2 with fail
      go_cut [4, 7, 40] (fun s4 s7 s40 wx => ∃ v' l', MSt W W.heap.size v' s4 l' (i0 + 1) wx)
      case first =>
        clear hcx' hcy' hcx hcy e15 e7
        have hMlen := hM.len
        have hrow := hM.row
        have hcells := (own_ints (l := l) hrow).2
        by_cases h3 : t = 3
        · subst h3
          go_wp2_with fail
          refine (without_any A4 cap4 l n _ (by omega) hcells).mono ?_; rintro e w3 ⟨A5, cap5, rfl, hr5, b5⟩
          have hd := drop_any w3 _ _ _ _ n (hM.ord.b b5)
          rw [erase_without hM.nodup] at hd
          have hlt1 := has_lt l n
          go_wp2_with fail
          refine hd.mono ?_; rintro e w4 ⟨rfl, v', ho', hk', hob'⟩
          have hfin := mst_drop (i' := i0 + 1) hM b5 hr5 ho' hk' hob' (List.Pairwise.filter _ hM.nodup) (by have := without_len l n; omega)
          clear hd hr5 hcells hrow
          go_wp2_with fail
          go_meet
          exact ⟨_, _, hfin⟩
        · by_cases h4 : t = 4
          · subst h4
            rcases List.eq_nil_or_concat l with rfl | ⟨l1, z, rfl⟩
            · have hp := pop_empty (some W.heap.size) wr W.heap.size v (fun g e => by injection e with e; subst e; exact hM.ord)
              clear hcells hrow
              go_wp2_with fail
              refine hp.mono ?_; rintro e w3 ⟨rfl, rfl⟩
              go_wp2_with fail
              go_meet
              exact ⟨v, [], ⟨hM.ord, hM.row, hM.ng, hM.nv, hM.nodup, by simp, hM.below⟩⟩
            · rw [List.concat_eq_append] at *
              have hp := pop_any wr W.heap.size W.heap.size v l1 z hM.ord
              obtain ⟨ad4, rfl, hz⟩ := hcells l1.length (by simp)
              have hz : wr.cell? (ad4.add l1.length) = some (.int .i64 z) := by rw [hz]; simp
              obtain ⟨g4, hg4⟩ : ∃ g4, ad4 = ⟨g4, 0, none⟩ := by
                obtain ⟨g4, _, _, hv, _⟩ := own_block hrow (by simp)
                injection hv with hv1
                injection hv1 with hv1
                exact ⟨g4, hv1⟩
              subst hg4
              rw [add_lit, Nat.zero_add] at hz
              have hlen1 : (l1 ++ [z]).length = l1.length + 1 := by simp
              have hpos : decide (0 < l1.length + 1) = true := by simp
              have hwr : IntKind.i64.wrap ((l1.length : Int) + 1 - 1) = (l1.length : Int) := by rw [IntKind.wrap_i64]; omega
              have hwr2 : IntKind.i64.wrap (l1.length : Int) = (l1.length : Int) := by rw [IntKind.wrap_i64]; omega
              rw [hlen1] at hcap4 hMlen
              have hc1 : (l1.length : Int) ≤ (cap4 : Int) := by omega
              rw [hlen1] at hM ⊢
              clear hcells hrow
              go_wp2_with fail
              refine hp.mono ?_; rintro e w3 ⟨rfl, v', ho', hk', hob'⟩
              obtain ⟨hfin, hz3⟩ := mst_pop hM ho' hk' hob' hz
              clear hz hp
              go_wp2_with fail
              go_meet
              exact ⟨_, _, hfin⟩
          · have hu := use_any wr W.heap.size W.heap.size v l n hM.ord (by omega)
            rw [erase_without hM.nodup] at hu
            have ht3 : (t == 3) = false := by simp [h3]
            have ht4 : (t == 4) = false := by simp [h4]
            have hcap5 := own_none hrow
            clear hcells
            go_wp2_with fail
            refine hu.mono ?_; rintro e w3 ⟨rfl, v', ho', hk', hob'⟩
            have hsz3 := hk'.size
            obtain ⟨hrow3, hn3⟩ := mst_kept hM hk'
            have hcells3 := (own_ints (l := l) hrow3).2
            have hw := without_any A4 cap4 l n (w3.alloc (.cells #[.int .i64 n] 3)) (by omega) (fun i hi => by
              obtain ⟨ad', e1, e2⟩ := hcells3 i hi
              exact ⟨ad', e1, (World.cell?_alloc_lt _ _ _ (World.block_lt_of_cell? _ _ e2)).trans e2⟩)
            have HW := Lib.hid hw
            clear hw hcells3 hrow hu
            go_wp2_with fail
            refine HW.out.mono ?_; rintro e w4 ⟨A5, cap5, rfl, hr5, b5⟩
            have hone : w4.heap[w3.heap.size]? = some (.cells #[.int .i64 n] 3 (0, 0)) := (b5.block _ (by simp)).trans (heap_alloc_new _ _)
            have hlw := without_len l n
            have hnil5 := own_none hr5
            have HC5 : Hid (∀ ad, A5 = some ad → ∀ j u, (flat (without l n))[j]? = some u → w4.cell? (ad.add j) = some u) := by
              rintro ad5 rfl j u hj
              obtain ⟨ad6, e6, e7⟩ := Own.own_cell hr5 j u hj
              injection e6 with e6
              subst e6
              exact e7
            have hb4 : w3.heap.size + 1 ≤ w4.heap.size := by have := b5.size; simpa using this
            have hb34 : Below w3.heap.size w3 w4 := ((Below.refl _ _).alloc (Nat.le_refl _) _).trans (b5.mono (by simp))
            go_wp2_with (at_builtin
                         refine wpList_appS _ rfl (.tmp 45) (.tmp 48) _ rfl w3.heap.size 3 (.int .i64 0) 1 8 Try.underlying22 info3 rfl (by decide) _ 1 [.int .i64 n] rfl
                           (own_one (Nat.le_refl _) hone) A5 (without l n).length cap5 (flat (without l n)) (by rw [flat_len, Nat.mul_one]) rfl hnil5 HC5.out (flat_one _) (by omega) (by omega) (by omega) ?_
                         intro A6 cap6 w5 hr6 hc6 hb6 hs6)
            have hfin := mst_use hM ho' hk' hob' hb34 hb6 hr6 hs6
            go_meet
            exact ⟨_, _, hfin⟩
      case rest =>
        clear hM hcx hcy hcx' hcy'
        obtain ⟨v', l', hM⟩ := hcut
        obtain ⟨A5, cap5, rfl, hcap5⟩ := own_slice hM.row
        have hMlen := hM.len
        have hall := all_any _ _ _ _ _ hM.ord
        go_wp2_with fail
        refine hall.mono ?_; rintro e w3 ⟨A6, cap6, rfl, hr6, b6⟩
        have hM3 := hM.b b6
        have hlen := len_any _ _ _ _ _ hM3.ord
        have hhas := has_any _ _ _ _ _ n hM3.ord
        have hwo := without_any A5 cap5 l' n w3 (by omega) (own_ints (l := l') hM3.row).2
        have hlt1 := has_lt l' n
        clear hM hall
        go_wp2_with fail
        refine hlen.mono ?_; rintro e w4 ⟨rfl, rfl⟩
        go_wp2_with fail
        refine hhas.mono ?_; rintro e w4 ⟨rfl, rfl⟩
        go_wp2_with fail
        refine hwo.mono ?_; rintro e w4 ⟨A7, cap7, rfl, _, b7⟩
        have hM4 := hM3.b b7
        have hr7 := own_below (hr6) b7
        clear hM3 hr6 hlen hhas hwo
        go_wp2_with fail
        go_loopw [11] (fun x wr => ∃ j : Nat, x = .int .i64 j ∧ j ≤ l'.length ∧ MSt W W.heap.size v' (.slice A5 l'.length cap5) l' (i0 + 1) wr ∧ wr.ownsRow wc.heap.size 3 1 (.slice A6 l'.length cap6) l'.length (flat l')) (fun x _ => l'.length - (intOf x).toNat)
        case atStart => exact ⟨0, rfl, by omega, hM4, hr7⟩
        case round =>
          clear hM4 hr7 hlt1
          obtain ⟨j, rfl, hj, hM5, hr8⟩ := hrel
          by_cases hjl : j < l'.length
          · obtain ⟨ad5, rfl, hc5⟩ := (own_ints (l := l') hM5.row).2 j hjl
            obtain ⟨ad6, rfl, hc6⟩ := (own_ints (l := l') hr8).2 j hjl
            have hz0 : (0 : Int) ≤ (j : Int) := by omega
            have hz1 : (j : Int) < (l'.length : Int) := by omega
            have HM5 := Lib.hid hM5
            have HR8 := Lib.hid hr8
            clear hM5 hr8
            go_wp2_with fail
            go_quiet (fail)
            go_wp2_with fail
            go_roundw
            case rel => exact ⟨j + 1, by go_num, by omega, HM5.out.b (drewB _ _), own_below HR8.out (drewB _ _)⟩
            case measure => simp [intOf]; omega
          · obtain rfl : j = l'.length := by omega
            go_wp2_with fail
            go_roundg (60 - (i0 + 1))
            case measure => omega
            case rel => exact ⟨i0 + 1, v', l', by go_num, by omega, rfl, hM5⟩
    · by_cases h1 : i0 < l0.length
      · have h2 : ¬ i0 < 60 := fun h => hlt ⟨h1, h⟩
        go_wp2_with fail
        refine (awake_any _).mono ?_; rintro e w3 ⟨rfl, b3⟩
        go_wp2_with fail
        go_ret
        exact ⟨rfl, hM.below.trans (b3.mono hM.below.size)⟩
      · go_wp2_with fail
        refine (awake_any _).mono ?_; rintro e w3 ⟨rfl, b3⟩
        go_wp2_with fail
        go_ret
        exact ⟨rfl, hM.below.trans (b3.mono hM.below.size)⟩
end Go.Proofs.Ytanggnjifckhmaa.OrdC
namespace Go.Proofs.Ytanggnjifckhmaa.orderPlays
open Go Go.RowKit Go.Proofs.Ytanggnjifckhmaa.Open Go.Proofs.Ytanggnjifckhmaa.OrdC
theorem walk {H : Type} {enc : TypeId × Value → H} {W : World} {b : Nat} {v1 : Value} (ok1 : Value.okWide Try.prog W .any b 43 v1) {d1 : DataW H} {p1 : List MemPlace} (h1 : DataW.Trod enc Try.prog W 0 (fun _ => true) true 43 v1 d1 p1) :
    Calls Try.prog 7 #[v1] W fun e w' => e = .returned (.bool true) ∧ Below W.heap.size W w' := by
  obtain ⟨x, rfl, hok⟩ := open_sl (.pair (.int .i64) (.int .i64)) Try.underlying43 (by kernel_rfl) ok1 h1
  obtain ⟨q1, q2, q3, q4, _⟩ := hok
  refine plays_walk x.A x.cap x.l W (by unfold maxLen at q2; omega) (fun i hi => ?_)
  cases hA : x.A with
  | none => rw [(q3 hA).1] at hi; simp at hi
  | some a =>
    have c := q4 a hA i x.l[i] (List.getElem?_eq_getElem hi)
    have c0 := c 0 (.int .i64 x.l[i].1) rfl
    have c1 := c 1 (.int .i64 x.l[i].2) rfl
    exact ⟨a, _, _, rfl, c0, by rw [← c1, show i * (Sh.pair (.int .i64) (.int .i64)).size = i * 2 from rfl, ← Go.Deep.add_add]; rfl⟩
end Go.Proofs.Ytanggnjifckhmaa.orderPlays
namespace Go.Proofs.Ytanggnjifckhmaa.orderNone
open Go Go.RowKit Go.Proofs.Ytanggnjifckhmaa.OrdC
theorem walk {W : World} (a0 : Int) (_w0 : (Lit.int .i64 a0).wf = true) : Calls Try.prog 8 #[.int .i64 a0] W fun e w' => e = .returned (.bool true) ∧ Below W.heap.size W w' := none_walk a0 W
end Go.Proofs.Ytanggnjifckhmaa.orderNone
