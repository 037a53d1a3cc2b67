-- packed by pack.py, a program of this claim's repo
import Derived.Test.YtjohfkpgghnpeaaIqC
import Derived.Test.YtjohfkpgghnpeaaIqD
import Derived.Test.YtjohfkpgghnpeaaIqE
import Derived.Test.YtjohfkpgghnpeaaIqB
import Derived.Test.YtjohfkpgghnpeaaIqF
import Derived.Test.YtjohfkpgghnpeaaIqG
import Derived.Test.YtjohfkpgghnpeaaIqH
import Derived.Test.YtjohfkpgghnpeaaIqA
import Derived.Test.YtjohfkpgghnpeaaIqI
import Derived.Test.YtjohfkpgghnpeaaIqJ
import Derived.Test.YtjohfkpgghnpeaaIqK
import Derived.Test.YtjohfkpgghnpeaaIqL
import Derived.Test.YtjohfkpgghnpeaaIqM
import Derived.Test.YtjohfkpgghnpeaaIqN
import Derived.Test.YtjohfkpgghnpeaaIqO
import Derived.Test.YtjohfkpgghnpeaaIqP
import Derived.Test.YtjohfkpgghnpeaaIqQ
import Derived.Test.YtjohfkpgghnpeaaIqR
import Derived.Test.YtjohfkpgghnpeaaIqS
import Derived.Test.YtjohfkpgghnpeaaIqT
import Derived.Test.YtjohfkpgghnpeaaIqU
import Derived.Test.YtjohfkpgghnpeaaIqV
import Derived.Test.YtjohfkpgghnpeaaIqW
import Derived.Test.YtjohfkpgghnpeaaIqX
import Derived.Deep.DeepCutAuto
import Derived.Deep.CutBlock
import Derived.Deep.LoopGhost
section
namespace Go.Proofs.Ytjohfkpgghnpeaa.SetC
open Go Go.RowKit
open Go.Proofs.Ytjohfkpgghnpeaa.Gen
open Go.Proofs.Ytjohfkpgghnpeaa.Own
open Go.Proofs.Ytjohfkpgghnpeaa.RowK
open Go.Proofs.Ytjohfkpgghnpeaa.ItemC
open Go.Proofs.Ytjohfkpgghnpeaa.PRef
open Go.Proofs.Ytjohfkpgghnpeaa.ItmPr (ofL rd_at rlay_eq rget_eq same_eq putL_ok)
open Go.Proofs.YtjohfkpgghnpeaaW.PrintWords (Kd)
set_option linter.unusedVariables false
structure St (W : World) (g : Nat) (v mv : Value) (l : List H) (w : World) : Prop where
  set : IsSet w W.heap.size g v l
  row : w.ownsRow W.heap.size 30 3 mv l.length (flat l)
  ng : mv.ownBlock ≠ some g
  nv : ∀ k, mv.ownBlock = some k → v.ownBlock ≠ some k
  below : Below W.heap.size W w
theorem St.b {W w w1 : World} {g : Nat} {v mv : Value} {l : List H} (h : St W g v mv l w) (hb : Below w.heap.size w w1) : St W g v mv l w1 :=
  ⟨h.set.b hb, own_below h.row hb, h.ng, h.nv, h.below.trans (hb.mono h.below.size)⟩
theorem IsSet.move {w w1 : World} {B g : Nat} {v : Value} {l : List H} (h : IsSet w B g v l) (hm : ∀ k, k = g ∨ v.ownBlock = some k → w1.heap[k]? = w.heap[k]?) : IsSet w1 B g v l :=
  ⟨(hm g (.inl rfl)).trans h.blk, move_own h.own (fun k hk => hm k (.inr hk)), h.low, h.ne, h.ok⟩
theorem St.then {W w w1 w2 : World} {g : Nat} {v v' mv mv' : Value} {l l' : List H} (h : St W g v mv l w) (hb : Below W.heap.size W w1) (hs1 : w.heap.size ≤ w1.heap.size) (hset1 : IsSet w1 W.heap.size g v l)
    (hr : w1.ownsRow W.heap.size 30 3 mv' l'.length (flat l')) (hmv : ∀ k, mv'.ownBlock = some k → mv.ownBlock = some k ∨ w.heap.size ≤ k)
    (hset : IsSet w2 W.heap.size g v' l') (hk : Kept w1 w2 g v) (hv : v'.ownBlock = v.ownBlock ∨ ∃ k, v'.ownBlock = some k ∧ w1.heap.size ≤ k) : St W g v' mv' l' w2 := by
  have hg := h.set.blk.lt
  have n1 : mv'.ownBlock ≠ some g := fun e => by
    rcases hmv g e with e | e
    · exact h.ng e
    · omega
  have n2 : ∀ k, mv'.ownBlock = some k → v.ownBlock ≠ some k := fun k e e2 => by
    rcases hmv k e with e | e
    · exact h.nv k e e2
    · have := (h.set.own.lt k e2).2
      omega
  refine ⟨hset, move_own hr (fun k e => hk.block k (hr.lt k e).2 (fun e2 => n1 (by rw [e, e2])) (fun e2 => n2 k e e2.symm)), n1, fun k e e2 => ?_, hb.trans (hk.below hset1 hb.size)⟩
  rcases hv with hv | ⟨q, hv, hq⟩
  · rw [hv] at e2; exact n2 k e e2
  · rw [hv] at e2
    injection e2 with e2
    have := (hr.lt k e).2
    omega
theorem own_low {w : World} {B B' : Nat} {e : TypeId} {k n : Nat} {v : Value} {xs : List Value} (h : w.ownsRow B e k v n xs) (hb : B' ≤ B) : w.ownsRow B' e k v n xs := by
  obtain ⟨h1, h2⟩ := h
  refine ⟨h1, ?_⟩
  rcases h2 with h2 | ⟨g, cap, cur, hv, hg, r⟩
  · exact .inl h2
  · exact .inr ⟨g, cap, cur, hv, by omega, r⟩
set_option maxRecDepth 100000 in
set_option maxHeartbeats 16000000 in
theorem play_walk (A : Option Addr) (cap : Nat) (l0 : List (Int × Int × Int × ByteArray)) (W : World) (hl : l0.length ≤ 9223372036854775807) (hs : ∀ x ∈ l0, x.2.2.2.size ≤ 9223372036854775807)
    (hc : ∀ i, (hi : i < l0.length) → ∃ ad, A = some ad ∧ W.cell? (ad.add (i * 4)) = some (.int .i64 l0[i].1) ∧ W.cell? ⟨(ad.add (i * 4)).block, (ad.add (i * 4)).off + 1, none⟩ = some (.int .i64 l0[i].2.1) ∧
      W.cell? ⟨(ad.add (i * 4)).block, (ad.add (i * 4)).off + 2, none⟩ = some (.int .u64 l0[i].2.2.1) ∧ W.cell? ⟨(ad.add (i * 4)).block, (ad.add (i * 4)).off + 3, none⟩ = some (.string l0[i].2.2.2)) :
    Calls Try.prog 5 #[.slice A l0.length cap] W fun e w' => e = .returned (.bool true) ∧ Below W.heap.size W w' := by
  go_enter Try.func5, Try.ntmps5
  go_wp2_with fail
  refine (new_calls W).mono ?_; rintro e w1 ⟨rfl, hs1, hb1, hz1⟩
  have hM : St W W.heap.size (.slice none 0 0) (.slice (some ⟨w1.heap.size, 0, none⟩) 0 0) [] (w1.alloc (.cells #[] 30)) :=
    ⟨hs1.b ((Below.refl _ _).alloc (Nat.le_refl _) _), own_empty (by omega) (heap_alloc_new _ _), by simp [Value.ownBlock]; omega, by simp [Value.ownBlock], hb1.alloc hb1.size _⟩
  clear hs1
  rw [hz1] at hM
  go_wp2_with fail
  go_loopg [4, 5] 60 (fun gg mv i wr => ∃ i0 : Nat, ∃ v : Value, ∃ l : List H, i = .int .i64 i0 ∧ i0 ≤ 60 ∧ gg = 60 - i0 ∧ St W W.heap.size v mv l wr)
  case atStart => exact ⟨0, .slice none 0 0, [], rfl, by omega, rfl, hM⟩
  case round =>
    clear hM
    obtain ⟨i0, v, l, rfl, hi, rfl, hM⟩ := hrel
    by_cases hlt : i0 < l0.length ∧ i0 < 60
    · obtain ⟨h1, h2⟩ := hlt
      obtain ⟨ad, rfl, c0, c1, c2, c3⟩ := hc i0 h1
      have hsz := hs _ (List.getElem_mem h1)
      generalize l0[i0] = x at c0 c1 c2 c3 hsz
      obtain ⟨what, blk, ver, data⟩ := x
      simp only at c0 c1 c2 c3 hsz
      have d0 := cellB hM.below c0
      have d1 := cellB hM.below c1
      have d2 := cellB hM.below c2
      have d3 := cellB hM.below c3
      obtain ⟨A4, cap4, rfl, hcap4⟩ := own_slice hM.row
      obtain ⟨q7, e7⟩ : ∃ q, Go.bits .and .i64 what 7 = q := ⟨_, rfl⟩
      clear c0 c1 c2 c3
      obtain ⟨s, hns, hss⟩ : ∃ s : ByteArray, Gv.tarnlaw08_Near.f ver data (what / 8) = some (ver, s) ∧ s.size ≤ 140737488355328 := by
        refine ⟨⟨(nearD data.data.toList (what / 8 % 8)).toArray⟩, by unfold Gv.tarnlaw08_Near.f; rw [if_pos hsz], ?_⟩
        have h := near_len data.data.toList (what / 8 % 8)
        show (nearD data.data.toList (what / 8 % 8)).toArray.size ≤ _
        rw [List.size_toArray]
        omega
      obtain ⟨ve, hve⟩ : ∃ ve, Go.bits .and .u64 ver 15 = ve := ⟨_, rfl⟩
      have HNS := Lib.hid hns
      clear hns
      have hA := hM.b (w1 := wr.alloc (.cells #[.int .i64 what, .int .i64 blk, .int .u64 ver, .string data] 52)) ((Below.refl _ _).alloc (Nat.le_refl _) _)
      have kA : Blk (wr.alloc (.cells #[.int .i64 what, .int .i64 blk, .int .u64 ver, .string data] 52)) wr.heap.size 52 #[.int .i64 what, .int .i64 blk, .int .u64 ver, .string data] := Blk.fresh _ _ _
      go_wp2_with fail
      refine (Gv.tarnlaw08_Near.calls _ _ _ _ _ _ HNS.out).mono ?_; rintro e w3 ⟨rfl, b3⟩
      have hB := hA.b b3
      have kB := kA.b b3
      have szB : wr.heap.size + 1 ≤ w3.heap.size := by have := b3.size; simpa using this
      have kw := kB.cell 0
      clear hA kA
      go_upto_region 8 with fail
      refine name_world (fun w => St W W.heap.size v (.slice A4 l.length cap4) l w ∧ Blk w wr.heap.size 52 #[.int .i64 what, .int .i64 blk, .int .u64 ver, .string data] ∧ Blk w w3.heap.size 28 #[.int .u64 ve, .string s]) ⟨hB.b ((Below.refl _ _).alloc (Nat.le_refl _) _), (Below.heap_alloc _ _ _ (by omega)).trans kB, Blk.fresh _ _ _⟩ ?_
      clear hB kB kw d0 d1 d2 d3 b3
      rintro w4 ⟨hM4, k6, k7⟩
      have k60 : w4.cell? ⟨wr.heap.size, 0, none⟩ = some (.int .i64 what) := k6.cell 0
      go_upto_if 45 with fail
      go_cut [4] (fun s4 wx => ∃ v' l', St W W.heap.size v' s4 l' wx ∧ Blk wx wr.heap.size 52 #[.int .i64 what, .int .i64 blk, .int .u64 ver, .string data])
      case first =>
        have hset0 := hM.set
        have hrow0 := hM.row
        have hlen := hM4.set.ok.len
        have k61 : w4.cell? ⟨wr.heap.size, 1, none⟩ = some (.int .i64 blk) := k6.cell 1
        have k70 : w4.cell? ⟨w3.heap.size, 0, none⟩ = some (.int .u64 ve) := k7.cell 0
        have k71 : w4.cell? ⟨w3.heap.size, 1, none⟩ = some (.string s) := k7.cell 1
        have hgw : W.heap.size < wr.heap.size := hset0.blk.lt
        have hvw : ∀ k, v.ownBlock = some k → k < wr.heap.size := fun k e => (hset0.own.lt k e).2
        have hmw : ∀ k, (Value.slice A4 l.length cap4).ownBlock = some k → k < wr.heap.size := fun k e => (hrow0.lt k e).2
        have HVW := Lib.hid hvw
        have HMW := Lib.hid hmw
        have HM4 := Lib.hid hM4
        clear hset0 hrow0 hvw hmw hM hM4
        by_cases hq : q7 = 4
        · subst hq
          have hrd := tarnref09_Drop.calls 100 A4 cap4 l blk ve (dropL l blk ve).1 (dropL l blk ve).2 w4 (C_own HM4.out.row (by omega)) hcap4 (rdrop_eq l blk ve HM4.out.set.ok.1 (by omega) 100 (by omega))
          have hsd := fun w5 (h : IsSet w5 W.heap.size W.heap.size v l) => drop_calls w5 W.heap.size W.heap.size v l blk ve h
          unfold DropPost at hsd
          generalize dropL l blk ve = r at hrd hsd
          obtain ⟨l', is'⟩ := r
          have HRD := Lib.hid hrd
          have HSD := Lib.hid hsd
          clear hrd hsd
          go_wp2_with fail
          refine HRD.out.mono ?_; rintro e w5 ⟨v0, rfl, hR, b5⟩
          obtain ⟨hr5, _⟩ := R_flat hR
          obtain ⟨A5, cap5, rfl, hc5⟩ := own_slice hr5
          have hset5 := HM4.out.set.b b5
          have k61' := cellB b5 k61
          have k70' := cellB b5 k70
          have k6' := k6.b b5
          clear hR k60 k61 k70 k71
          go_wp2_with fail
          refine (HSD.out _ hset5).mono ?_; rintro e w6 ⟨rfl, v', hset6, hk6, hv6⟩
          have hfin : St W W.heap.size v' (.slice A5 l'.length cap5) l' w6 := HM4.out.then (HM4.out.below.trans (b5.mono HM4.out.below.size)) b5.size hset5 (own_low hr5 HM4.out.below.size) (fun k e => .inr (hr5.lt k e).1) hset6 hk6 hv6
          have k6'' : Blk w6 wr.heap.size 52 #[.int .i64 what, .int .i64 blk, .int .u64 ver, .string data] := (hk6.block _ k6'.lt (by omega) (fun e => by have := HVW.out _ e.symm; omega)).trans k6'
          clear k61' k70' hset5 hr5
          go_wp2_with fail
          go_meet
          exact ⟨v', l', hfin, k6''⟩
        · have hq2 : (q7 == 4) = false := by simp [hq]
          have hrl := tarnref09_Lay.calls 300 (fun k => (Value.slice A4 l.length cap4).ownBlock = some k) (.slice A4 l.length cap4) l blk ve s (putL l blk ⟨ve, s⟩).1 (putL l blk ⟨ve, s⟩).2 W w4 HM4.out.below (own_R HM4.out.row) (rlay_eq l blk ⟨ve, s⟩ HM4.out.set.ok hss 300 (by omega))
          have hsp := fun w5 (h : IsSet w5 W.heap.size W.heap.size v l) hB => put_calls w5 W.heap.size W.heap.size v l blk ⟨ve, s⟩ h hss hB
          unfold PutPost at hsp
          generalize putL l blk ⟨ve, s⟩ = r at hrl hsp
          obtain ⟨l', is'⟩ := r
          have HRD := Lib.hid hrl
          have HSD := Lib.hid hsp
          clear hrl hsp
          go_wp2_with fail
          refine HRD.out.mono ?_; rintro e w5 ⟨v0, rfl, hR, b5, hkp⟩
          obtain ⟨hr5, hok5⟩ := R_flat hR
          obtain ⟨A5, cap5, rfl, hc5⟩ := own_slice hr5
          have hset5 : IsSet w5 W.heap.size W.heap.size v l := HM4.out.set.move (fun k hk => hkp.2 k (by rcases hk with rfl | hk; exact HM4.out.set.blk.lt; exact (HM4.out.set.own.lt k hk).2) (fun e => by
            rcases hk with rfl | hk
            · exact HM4.out.ng e
            · exact HM4.out.nv k e hk))
          have k6' : Blk w5 wr.heap.size 52 #[.int .i64 what, .int .i64 blk, .int .u64 ver, .string data] := (hkp.2 _ k6.lt (fun e => by have := HMW.out _ e; omega)).trans k6
          have k7' : Blk w5 w3.heap.size 28 #[.int .u64 ve, .string s] := (hkp.2 _ k7.lt (fun e => by have := HMW.out _ e; omega)).trans k7
          have k61' : w5.cell? ⟨wr.heap.size, 1, none⟩ = some (.int .i64 blk) := k6'.cell 1
          have k70' : w5.cell? ⟨w3.heap.size, 0, none⟩ = some (.int .u64 ve) := k7'.cell 0
          have k71' : w5.cell? ⟨w3.heap.size, 1, none⟩ = some (.string s) := k7'.cell 1
          have sz5 : w4.heap.size ≤ w5.heap.size := hkp.1
          clear hR k60 k61 k70 k71
          go_wp2_with fail
          refine (HSD.out _ hset5 b5.size).mono ?_; rintro e w6 ⟨rfl, v', hset6, hk6, hv6⟩
          have hfin : St W W.heap.size v' (.slice A5 l'.length cap5) l' w6 := HM4.out.then b5 sz5 hset5 hr5 hok5 hset6 hk6 hv6
          have k6'' : Blk w6 wr.heap.size 52 #[.int .i64 what, .int .i64 blk, .int .u64 ver, .string data] := (hk6.block _ k6'.lt (by omega) (fun e => by have := HVW.out _ e.symm; omega)).trans k6'
          clear k61' k70' k71' hset5 hr5 hkp
          go_wp2_with fail
          go_meet
          exact ⟨v', l', hfin, k6''⟩
      case rest =>
        clear k60 k6 k7 hM4 hM
        obtain ⟨v', l', hM, k6⟩ := hcut
        obtain ⟨A5, cap5, rfl, hcap5⟩ := own_slice hM.row
        have hlen := hM.set.ok.len
        have k61 : wc.cell? ⟨wr.heap.size, 1, none⟩ = some (.int .i64 blk) := k6.cell 1
        have hget := get_calls wc W.heap.size W.heap.size v' l' blk hM.set
        have hrg : ∀ w, St W W.heap.size v' (.slice A5 l'.length cap5) l' w → _ := fun w h => tarnref09_Get.calls 100 A5 cap5 l' blk (getL l' blk).1.f0 (getL l' blk).1.f1 (getL l' blk).2 w (C_own h.row (by omega)) hcap5 (rget_eq l' blk h.set.ok.1 (by omega) 100 (by omega))
        have hsame := same_eq l' 100 (by omega) (by omega)
        obtain ⟨y, hy⟩ : ∃ y, getL l' blk = y := ⟨_, rfl⟩
        rw [hy] at hget hrg
        clear hy
        obtain ⟨⟨y0, y1⟩, is'⟩ := y
        have HG := Lib.hid hget
        have HRG := Lib.hid hrg
        have HSAME := Lib.hid hsame
        have HM := Lib.hid hM
        clear hget hrg hsame hM
        go_wp2_with fail
        refine HG.out.mono ?_; rintro e w5 ⟨rfl, b5⟩
        have hM5 := HM.out.b b5
        have k6' := k6.b b5
        have bA : Below w5.heap.size w5 (w5.alloc (.cells #[.int .u64 y0, .string y1] 28)) := (Below.refl _ _).alloc (Nat.le_refl _) _
        have hM6 := hM5.b bA
        have kA := k6'.b bA
        have kI : Blk (w5.alloc (.cells #[.int .u64 y0, .string y1] 28)) w5.heap.size 28 #[.int .u64 y0, .string y1] := Blk.fresh _ _ _
        have k61' := kA.cell 1
        simp only [List.getElem?_toArray] at k61'
        have HRG6 := Lib.hid (HRG.out _ hM6)
        have HM6 := Lib.hid hM6
        clear hM5 hM6 k61 k6 bA k6'
        go_wp2_with fail
        refine HRG6.out.mono ?_; rintro e w6 ⟨rfl, b6⟩
        have hM7 := HM6.out.b b6
        have kI' := kI.b b6
        have i0c : w6.cell? ⟨w5.heap.size, 0, none⟩ = some (.int .u64 y0) := kI'.cell 0
        have i1c : w6.cell? ⟨w5.heap.size, 1, none⟩ = some (.string y1) := kI'.cell 1
        have lt6 := kI'.lt
        have bB : Below w6.heap.size w6 (w6.alloc (.cells #[.int .u64 y0, .string y1] 28)) := (Below.refl _ _).alloc (Nat.le_refl _) _
        have hM8 := hM7.b bB
        have hsm := item_same y0 y1
        have hln := len_calls _ _ _ _ _ hM8.set
        have HLN := Lib.hid hln
        have HM8 := Lib.hid hM8
        clear hM7 hM8 kI kA k61' kI' bB hln
        go_wp2_with fail
        refine HLN.out.mono ?_; rintro e w7 ⟨rfl, b7⟩
        have hM9 := HM8.out.b b7
        have hal := all_calls _ _ _ _ _ hM9.set
        have HAL := Lib.hid hal
        have HM9 := Lib.hid hM9
        clear hM9 hal i0c i1c
        go_wp2_with fail
        refine HAL.out.mono ?_; rintro e w8 ⟨A8, cap8, rfl, hr8, hc8, b8⟩
        have hM10 := HM9.out.b b8
        have hsame2 := tarnref09_Same.calls 100 A8 cap8 l' A5 cap5 l' true w8 (C_own hr8 (by omega)) hc8 (C_own hM10.row (by omega)) hcap5 HSAME.out
        have HS2 := Lib.hid hsame2
        have HM10 := Lib.hid hM10
        clear hM10 hsame2 hr8
        go_wp2_with fail
        refine HS2.out.mono ?_; rintro e w9 ⟨rfl, ⟨nd, rfl⟩⟩
        have hM11 := HM10.out.b (drewB w8 nd)
        go_wp2_with fail
        go_roundg (60 - (i0 + 1))
        case measure => omega
        case rel => exact ⟨i0 + 1, v', l', by go_num, by omega, rfl, hM11⟩
    · by_cases h1 : i0 < l0.length
      · have h2 : ¬ i0 < 60 := fun h => hlt ⟨h1, h⟩
        go_wp2_with fail
        refine (awake_calls _).mono ?_; rintro e w3 ⟨rfl, b3⟩
        go_wp2_with fail
        go_ret
        exact ⟨rfl, hM.below.trans (b3.mono hM.below.size)⟩
      · go_wp2_with fail
        refine (awake_calls _).mono ?_; rintro e w3 ⟨rfl, b3⟩
        go_wp2_with fail
        go_ret
        exact ⟨rfl, hM.below.trans (b3.mono hM.below.size)⟩
end Go.Proofs.Ytjohfkpgghnpeaa.SetC
namespace Go.Proofs.Ytjohfkpgghnpeaa.itemsPlay
open Go Go.RowKit Go.Proofs.Ytjohfkpgghnpeaa.Open Go.Proofs.Ytjohfkpgghnpeaa.SetC
set_option maxRecDepth 20000 in
theorem walk {H : Type} {enc : TypeId × Value → H} {W : World} {b : Nat} {v1 : Value} (ok1 : Value.okWide Try.prog W .any b 48 v1) {d1 : DataW H} {p1 : List MemPlace} (h1 : DataW.Trod enc Try.prog W 0 (fun _ => true) true 48 v1 d1 p1) :
    Calls Try.prog 5 #[v1] W fun e w' => e = .returned (.bool true) ∧ Below W.heap.size W w' := by
  obtain ⟨x, rfl, hok⟩ := open_sl (.pair (.int .i64) (.pair (.int .i64) (.pair (.int .u64) .str))) Try.underlying48 (by kernel_rfl) ok1 h1
  obtain ⟨q1, q2, q3, q4, q5⟩ := hok
  refine play_walk x.A x.cap x.l W (by unfold maxLen at q2; omega) (fun y hy => by have := (q5 y hy).2.2.2; unfold Sh.ok maxLen at this; omega) (fun i hi => ?_)
  cases hA : x.A with
  | none => rw [(q3 hA).1] at hi; simp at hi
  | some a =>
    have c := q4 a hA i x.l[i] (List.getElem?_eq_getElem hi)
    have c0 := c 0 (.int .i64 x.l[i].1) rfl
    have c1 := c 1 (.int .i64 x.l[i].2.1) rfl
    have c2 := c 2 (.int .u64 x.l[i].2.2.1) rfl
    have c3 := c 3 (.string x.l[i].2.2.2) rfl
    rw [show i * (Sh.pair (.int .i64) (.pair (.int .i64) (.pair (.int .u64) .str))).size = i * 4 from rfl, ← Go.Deep.add_add] at c1 c2 c3
    exact ⟨a, rfl, c0, c1, c2, c3⟩
end Go.Proofs.Ytjohfkpgghnpeaa.itemsPlay
end
