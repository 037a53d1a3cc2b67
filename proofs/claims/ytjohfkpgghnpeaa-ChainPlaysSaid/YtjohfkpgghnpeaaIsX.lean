-- packed by pack.py, a program of this claim's repo
import Derived.Test.YtjohfkpgghnpeaaIsC
import Derived.Test.YtjohfkpgghnpeaaIsD
import Derived.Test.YtjohfkpgghnpeaaIsE
import Derived.Test.YtjohfkpgghnpeaaIsB
import Derived.Test.YtjohfkpgghnpeaaIsF
import Derived.Test.YtjohfkpgghnpeaaIsG
import Derived.Test.YtjohfkpgghnpeaaIsH
import Derived.Test.YtjohfkpgghnpeaaIsA
import Derived.Test.YtjohfkpgghnpeaaIsI
import Derived.Test.YtjohfkpgghnpeaaIsJ
import Derived.Test.YtjohfkpgghnpeaaIsK
import Derived.Test.YtjohfkpgghnpeaaIsL
import Derived.Test.YtjohfkpgghnpeaaIsM
import Derived.Test.YtjohfkpgghnpeaaIsN
import Derived.Test.YtjohfkpgghnpeaaIsO
import Derived.Test.YtjohfkpgghnpeaaIsP
import Derived.Test.YtjohfkpgghnpeaaIsQ
import Derived.Test.YtjohfkpgghnpeaaIsR
import Derived.Test.YtjohfkpgghnpeaaIsS
import Derived.Test.YtjohfkpgghnpeaaIsT
import Derived.Test.YtjohfkpgghnpeaaIsU
import Derived.Test.YtjohfkpgghnpeaaIsV
import Derived.Test.YtjohfkpgghnpeaaIsW
import Derived.Deep.DeepCutAuto
import Derived.Deep.CutBlock
import Derived.Deep.LoopGhost
import Derived.BigQuiet
section
namespace Go.Proofs.Ytjohfkpgghnpeaa.SetC
open Go Go.RowKit
open Go.Proofs.Ytjohfkpgghnpeaa.Gen
open Go.Proofs.Ytjohfkpgghnpeaa.Own
open Go.Proofs.Ytjohfkpgghnpeaa.RowK
open Go.Proofs.Ytjohfkpgghnpeaa.ItemC
open Go.Proofs.Ytjohfkpgghnpeaa.PRef
open Go.Proofs.Ytjohfkpgghnpeaa.ItmPr (ofL rd_at rlay_eq rget_eq same_eq putL_ok)
open Go.Proofs.YtjohfkpgghnpeaaW.PrintWords (Kd)
set_option linter.unusedVariables false
structure St (W : World) (g : Nat) (v mv : Value) (l : List H) (w : World) : Prop where
  set : IsSet w W.heap.size g v l
  row : w.ownsRow W.heap.size 30 3 mv l.length (flat l)
  ng : mv.ownBlock ≠ some g
  nv : ∀ k, mv.ownBlock = some k → v.ownBlock ≠ some k
  below : Below W.heap.size W w
theorem IsSet.move {w w1 : World} {B g : Nat} {v : Value} {l : List H} (h : IsSet w B g v l) (hm : ∀ k, k = g ∨ v.ownBlock = some k → w1.heap[k]? = w.heap[k]?) : IsSet w1 B g v l :=
  ⟨(hm g (.inl rfl)).trans h.blk, move_own h.own (fun k hk => hm k (.inr hk)), h.low, h.ne, h.ok⟩
theorem St.then {W w w1 w2 : World} {g : Nat} {v v' mv mv' : Value} {l l' : List H} (h : St W g v mv l w) (hb : Below W.heap.size W w1) (hs1 : w.heap.size ≤ w1.heap.size) (hset1 : IsSet w1 W.heap.size g v l)
    (hr : w1.ownsRow W.heap.size 30 3 mv' l'.length (flat l')) (hmv : ∀ k, mv'.ownBlock = some k → mv.ownBlock = some k ∨ w.heap.size ≤ k)
    (hset : IsSet w2 W.heap.size g v' l') (hk : Kept w1 w2 g v) (hv : v'.ownBlock = v.ownBlock ∨ ∃ k, v'.ownBlock = some k ∧ w1.heap.size ≤ k) : St W g v' mv' l' w2 := by
  have hg := h.set.blk.lt
  have n1 : mv'.ownBlock ≠ some g := fun e => by
    rcases hmv g e with e | e
    · exact h.ng e
    · omega
  have n2 : ∀ k, mv'.ownBlock = some k → v.ownBlock ≠ some k := fun k e e2 => by
    rcases hmv k e with e | e
    · exact h.nv k e e2
    · have := (h.set.own.lt k e2).2
      omega
  refine ⟨hset, move_own hr (fun k e => hk.block k (hr.lt k e).2 (fun e2 => n1 (by rw [e, e2])) (fun e2 => n2 k e e2.symm)), n1, fun k e e2 => ?_, hb.trans (hk.below hset1 hb.size)⟩
  rcases hv with hv | ⟨q, hv, hq⟩
  · rw [hv] at e2; exact n2 k e e2
  · rw [hv] at e2
    injection e2 with e2
    have := (hr.lt k e).2
    omega
theorem own_low {w : World} {B B' : Nat} {e : TypeId} {k n : Nat} {v : Value} {xs : List Value} (h : w.ownsRow B e k v n xs) (hb : B' ≤ B) : w.ownsRow B' e k v n xs := by
  obtain ⟨h1, h2⟩ := h
  refine ⟨h1, ?_⟩
  rcases h2 with h2 | ⟨g, cap, cur, hv, hg, r⟩
  · exact .inl h2
  · exact .inr ⟨g, cap, cur, hv, by omega, r⟩
end Go.Proofs.Ytjohfkpgghnpeaa.SetC
namespace Go.Proofs.Ytjohfkpgghnpeaa.itemsPlay
open Go Go.RowKit Go.Proofs.Ytjohfkpgghnpeaa.Open Go.Proofs.Ytjohfkpgghnpeaa.SetC
end Go.Proofs.Ytjohfkpgghnpeaa.itemsPlay
end
section
namespace Go.Proofs.Ytjohfkpgghnpeaa.SetC
open Go Go.RowKit
open Go.Proofs.Ytjohfkpgghnpeaa.Gen
open Go.Proofs.Ytjohfkpgghnpeaa.Own
open Go.Proofs.Ytjohfkpgghnpeaa.RowK
open Go.Proofs.Ytjohfkpgghnpeaa.ItemC
open Go.Proofs.Ytjohfkpgghnpeaa.PRef
open Go.Proofs.Ytjohfkpgghnpeaa.ItmPr (ofL)
set_option linter.unusedVariables false
theorem Kept.pre {w w1 w2 : World} {g : Nat} {v : Value} (hb : Below w.heap.size w w1) (hk : Kept w1 w2 g v) : Kept w w2 g v :=
  ⟨hk.os.trans hb.os, hk.tape.trans hb.tape, hk.output.trans hb.output, Nat.le_trans hb.size hk.size, fun k h n1 n2 => (hk.block k (Nat.lt_of_lt_of_le h hb.size) n1 n2).trans (hb.block k h)⟩
def ChPost (l : List H) (W : World) (e : Ending) (w' : World) : Prop :=
  ∃ v gc, e = .returned (.pointer (some ⟨gc, 0, none⟩)) ∧ Blk w' gc 90 #[.pointer (some ⟨W.heap.size, 0, none⟩)] ∧ IsSet w' W.heap.size W.heap.size v (ofL [] l) ∧ Below W.heap.size W w' ∧ W.heap.size < gc ∧ v.ownBlock ≠ some gc
set_option maxHeartbeats 2000000 in
theorem chnew_calls (W : World) (A : Option Addr) (cap : Nat) (l : List H) (hl : l.length ≤ 1000) (hs : ∀ x ∈ l, x.f1.f1.size ≤ 140737488355328) (h : Rd W A cap l) :
    Calls Try.prog 19 #[.slice A l.length cap] W (ChPost l W) := by
  have HO := Lib.hid (of_calls W A cap l hl hs h)
  clear h hs hl
  go_enter Try.func19, Try.ntmps19
  go_wp2_with fail
  refine HO.out.mono ?_; rintro e w1 ⟨v, rfl, hset, hb⟩
  go_wp2_with fail
  go_ret
  have hlt := hset.blk.lt
  refine ⟨v, w1.heap.size, rfl, Blk.fresh _ _ _, hset.b ((Below.refl _ _).alloc (Nat.le_refl _) _), hb.alloc hb.size _, hlt, fun e => ?_⟩
  have := (hset.own.lt _ e).2
  omega
def StorePost (W : World) (B g : Nat) (v : Value) (l : List H) (b : Int) (x : It) (e : Ending) (w' : World) : Prop :=
  e = .returned (.bool (putL l b x).2) ∧ ∃ v', IsSet w' B g v' (putL l b x).1 ∧ Kept W w' g v ∧ (v'.ownBlock = v.ownBlock ∨ ∃ k, v'.ownBlock = some k ∧ W.heap.size ≤ k)
set_option maxHeartbeats 2000000 in
theorem store_calls (W : World) (B gc g : Nat) (v : Value) (l : List H) (b : Int) (x : It) (hc : Blk W gc 90 #[.pointer (some ⟨g, 0, none⟩)]) (h : IsSet W B g v l) (hd : x.f1.size ≤ 140737488355328) (hB : B ≤ W.heap.size) :
    Calls Try.prog 22 #[.pointer (some ⟨gc, 0, none⟩), .int .i64 b, .agg #[.int .u64 x.f0, .string x.f1]] W (StorePost W B g v l b x) := by
  have hput : ∀ (w : World), Below W.heap.size W w → Calls Try.prog 31 #[.pointer (some ⟨g, 0, none⟩), .int .i64 b, .agg #[.int .u64 x.f0, .string x.f1]] w (StorePost W B g v l b x) := fun w hb => by
    refine (put_calls w B g v l b x (h.b hb) hd (Nat.le_trans hB hb.size)).mono ?_
    rintro e w2 ⟨rfl, v', hset, hk, hv⟩
    exact ⟨rfl, v', hset, hk.pre hb, hv.imp_right (fun ⟨k, e, hk⟩ => ⟨k, e, Nat.le_trans hb.size hk⟩)⟩
  have HP := Lib.hid hput
  have hnil : ((some (⟨gc, 0, none⟩ : Addr)) == none) = false := rfl
  have hc1 : (W.alloc (.cells #[.int .u64 x.f0, .string x.f1] 28)).cell? ⟨gc, 0, none⟩ = some (.pointer (some ⟨g, 0, none⟩)) := (hc.b ((Below.refl _ _).alloc (Nat.le_refl _) _)).cell 0
  have hb1 : Below W.heap.size W (W.alloc (.cells #[.int .u64 x.f0, .string x.f1] 28)) := (Below.refl _ _).alloc (Nat.le_refl _) _
  have k0 : (W.alloc (.cells #[.int .u64 x.f0, .string x.f1] 28)).cell? ⟨W.heap.size, 0, none⟩ = some (.int .u64 x.f0) := (Blk.fresh W _ _).cell 0
  have k1 : (W.alloc (.cells #[.int .u64 x.f0, .string x.f1] 28)).cell? ⟨W.heap.size, 1, none⟩ = some (.string x.f1) := (Blk.fresh W _ _).cell 1
  clear hput h hc
  go_enter Try.func22, Try.ntmps22
  go_wp2_with fail
  go_region_with (go_at_call 31; refine (HP.out _ (by first | exact hb1 | exact bN hb1 1 | exact bN hb1 2 | exact bN hb1 3 | exact bN hb1 4 | exact bN hb1 5 | exact bN hb1 6 | exact bN hb1 7 | exact bN hb1 8 | exact bN hb1 _)).mono ?_; rintro e w2 ⟨rfl, hpost⟩)
  all_goals
    go_wp2_with fail
    go_ret
    exact ⟨rfl, hpost⟩
set_option maxHeartbeats 2000000 in
theorem load_calls (W : World) (B gc g : Nat) (v : Value) (l : List H) (b : Int) (hc : Blk W gc 90 #[.pointer (some ⟨g, 0, none⟩)]) (h : IsSet W B g v l) :
    Calls Try.prog 24 #[.pointer (some ⟨gc, 0, none⟩), .int .i64 b] W fun e w' => e = .returned (.agg #[.int .u64 (getL l b).1.f0, .string (getL l b).1.f1]) ∧ Below W.heap.size W w' := by
  have hg := fun (w : World) (hb : Below W.heap.size W w) => get_calls w B g v l b (h.b hb)
  generalize getL l b = y at hg ⊢
  obtain ⟨⟨y0, y1⟩, is⟩ := y
  have HG := Lib.hid hg
  have hnil : ((some (⟨gc, 0, none⟩ : Addr)) == none) = false := rfl
  have hb1 : Below W.heap.size W (W.alloc (.cells #[.int .u64 0, .string ⟨#[]⟩] 28)) := (Below.refl _ _).alloc (Nat.le_refl _) _
  have hc1 : (W.alloc (.cells #[.int .u64 0, .string ⟨#[]⟩] 28)).cell? ⟨gc, 0, none⟩ = some (.pointer (some ⟨g, 0, none⟩)) := (hc.b hb1).cell 0
  have k0 : Blk (W.alloc (.cells #[.int .u64 0, .string ⟨#[]⟩] 28)) W.heap.size 28 #[.int .u64 0, .string ⟨#[]⟩] := Blk.fresh W _ _
  clear hg h hc
  go_enter Try.func24, Try.ntmps24
  go_wp2_with fail
  refine (HG.out _ hb1).mono ?_; rintro e w1 ⟨rfl, b1⟩
  have hk1 := k0.b b1
  have q0 := hk1.cell 0
  have q1 := hk1.cell 1
  have q2 := hk1.frozen 0
  have q3 := hk1.frozen 1
  have hlt := hk1.lt
  have hb2 := hb1.trans (b1.mono hb1.size)
  clear hk1 k0 hb1 b1 hc1 HG
  go_wp2_with fail
  have e0 : ∀ a, (((w1.setCell ⟨W.heap.size, 0, none⟩ (.int .u64 y0)).setCell ⟨W.heap.size, 1, none⟩ (.string y1)).alloc (.cells #[.int .u64 y0, .string y1] 28)).cell? ⟨W.heap.size, a, none⟩ = ((w1.setCell ⟨W.heap.size, 0, none⟩ (.int .u64 y0)).setCell ⟨W.heap.size, 1, none⟩ (.string y1)).cell? ⟨W.heap.size, a, none⟩ := fun a => World.cell?_alloc_lt _ _ _ (by simpa using hlt)
  have f0 := (e0 0).trans (show _ = some (.int .u64 y0) by simp [go_sem, q0])
  have f1 := (e0 1).trans (show _ = some (.string y1) by simp [go_sem, q1])
  exact bodyPost_ret (v := .agg #[.int .u64 y0, .string y1]) (by simp [results, Try.results24, go_sem, f0, f1]) rfl ⟨rfl, (set2B hb2 _ _).alloc (by simpa using hb2.size) _⟩
theorem chall_calls (W : World) (B gc g : Nat) (v : Value) (l : List H) (hc : Blk W gc 90 #[.pointer (some ⟨g, 0, none⟩)]) (h : IsSet W B g v l) :
    Calls Try.prog 26 #[.pointer (some ⟨gc, 0, none⟩)] W (RowPost l W) := by
  have HC := Lib.hid (all_calls W B g v l h)
  have hnil : ((some (⟨gc, 0, none⟩ : Addr)) == none) = false := rfl
  have hcell := hc.cell 0
  simp only [List.getElem?_toArray] at hcell
  clear h hc
  go_enter Try.func26, Try.ntmps26
  go_wp2_with fail
  refine HC.out.mono ?_; rintro e w1 ⟨A1, cap1, rfl, hown, hc, hb⟩
  go_wp2_with fail
  go_ret
  exact ⟨A1, cap1, rfl, hown, hc, hb⟩
end Go.Proofs.Ytjohfkpgghnpeaa.SetC
end
section
namespace Go.Proofs.Ytjohfkpgghnpeaa.SetC
open Go Go.RowKit
open Go.Proofs.Ytjohfkpgghnpeaa.Gen
open Go.Proofs.Ytjohfkpgghnpeaa.Own
open Go.Proofs.Ytjohfkpgghnpeaa.RowK
open Go.Proofs.Ytjohfkpgghnpeaa.ItemC
open Go.Proofs.Ytjohfkpgghnpeaa.PRef
open Go.Proofs.Ytjohfkpgghnpeaa.ItmPr (ofL rd_at rlay_eq rget_eq same_eq putL_ok of_eq near_eq nearL near_length near_dom ofL_ok)
open Go.Proofs.YtjohfkpgghnpeaaW.PrintWords (Kd)
set_option linter.unusedVariables false
structure Cs (W : World) (g gc : Nat) (v : Value) (l : List H) (w : World) : Prop where
  set : IsSet w W.heap.size g v l
  ch : Blk w gc 90 #[.pointer (some ⟨g, 0, none⟩)]
  ne : gc ≠ g
  nv : v.ownBlock ≠ some gc
  low : W.heap.size ≤ gc
  below : Below W.heap.size W w
theorem IsSet.lower {w : World} {B B' g : Nat} {v : Value} {l : List H} (h : IsSet w B g v l) (hb : B' ≤ B) : IsSet w B' g v l :=
  ⟨h.blk, own_low h.own hb, Nat.le_trans hb h.low, h.ne, h.ok⟩
theorem Cs.b {W w w1 : World} {g gc : Nat} {v : Value} {l : List H} (h : Cs W g gc v l w) (hb : Below w.heap.size w w1) : Cs W g gc v l w1 :=
  ⟨h.set.b hb, h.ch.b hb, h.ne, h.nv, h.low, h.below.trans (hb.mono h.below.size)⟩
theorem Cs.put {W w w2 : World} {g gc : Nat} {v v' : Value} {l l' : List H} (h : Cs W g gc v l w) (hset : IsSet w2 W.heap.size g v' l') (hk : Kept w w2 g v) (hv : v'.ownBlock = v.ownBlock ∨ ∃ k, v'.ownBlock = some k ∧ w.heap.size ≤ k) : Cs W g gc v' l' w2 := by
  refine ⟨hset, (hk.block gc h.ch.lt h.ne (fun e => h.nv e.symm)).trans h.ch, h.ne, fun e => ?_, h.low, h.below.trans (hk.below h.set h.below.size)⟩
  rcases hv with hv | ⟨k, hv, hk2⟩
  · exact h.nv (hv ▸ e)
  · rw [hv] at e
    injection e with e
    have := h.ch.lt
    omega
theorem chnew_cs (W : World) (w : World) (hb : Below W.heap.size W w) (A : Option Addr) (cap : Nat) (l : List H) (hl : l.length ≤ 1000) (hs : ∀ x ∈ l, x.f1.f1.size ≤ 140737488355328) (h : Rd w A cap l) :
    Calls Try.prog 19 #[.slice A l.length cap] w fun e w' => ∃ v g gc, e = .returned (.pointer (some ⟨gc, 0, none⟩)) ∧ Cs W g gc v (ofL [] l) w' ∧ Below w.heap.size w w' := by
  refine (chnew_calls w A cap l hl hs h).mono ?_
  rintro e w' ⟨v, gc, rfl, hch, hset, hb2, hlt, hne⟩
  have := hb.size
  exact ⟨v, w.heap.size, gc, rfl, ⟨hset.lower hb.size, hch, by omega, hne, by omega, hb.trans (hb2.mono hb.size)⟩, hb2⟩
def aw5 : List H := [⟨3, ⟨5, ⟨#[]⟩⟩⟩]
theorem aw5_put1 : putL [] 3 ⟨5, ⟨#[]⟩⟩ = (aw5, true) := by rfl
theorem aw5_put2 : putL aw5 3 ⟨4, ⟨#[]⟩⟩ = (aw5, false) := by rfl
theorem aw5_get : getL aw5 3 = (⟨5, ⟨#[]⟩⟩, true) := by rfl
set_option maxRecDepth 20000 in
set_option maxHeartbeats 2000000 in
theorem chawake_calls (W : World) : Calls Try.prog 27 #[] W fun e w' => e = .returned (.bool true) ∧ Below W.heap.size W w' := by
  go_enter Try.func27, Try.ntmps27
  go_wp2_with fail
  refine (chnew_cs W W (Below.refl _ _) none 0 [] (by decide) (fun x hx => by cases hx) ⟨fun _ => ⟨rfl, rfl⟩, fun ad e => by cases e⟩).mono ?_; rintro e w1 ⟨v1, g, gc, rfl, hs1, hb1⟩
  rw [show ofL [] ([] : List H) = [] from rfl] at hs1
  go_wp2_with fail
  refine (store_calls w1 _ gc g _ _ 3 ⟨5, ⟨#[]⟩⟩ hs1.ch hs1.set (by decide) hs1.below.size).mono ?_; rintro e w2 ⟨rfl, v2, hset, hk2, hv2⟩
  have hs2 := hs1.put hset hk2 hv2
  rw [aw5_put1] at hs2 ⊢
  clear hs1 hb1 hk2 hset hv2
  go_wp2_with fail
  refine (load_calls w2 _ gc g _ _ 3 hs2.ch hs2.set).mono ?_; rintro e w3 ⟨rfl, b3⟩
  have hs3 := hs2.b b3
  rw [aw5_get]
  have hfl : ∀ w : World, Sem.run Try.prog (Instr.field 28 (.agg #[.int .u64 5, .string ⟨#[]⟩]) 0) w = .ok (.int .u64 5) w := fun w => rfl
  clear hs2 b3
  go_wp2_with fail
  refine (store_calls w3 _ gc g _ _ 3 ⟨4, ⟨#[]⟩⟩ hs3.ch hs3.set (by decide) hs3.below.size).mono ?_; rintro e w4 ⟨rfl, v4, hset, hk4, hv4⟩
  have hs4 := hs3.put hset hk4 hv4
  rw [aw5_put2] at hs4 ⊢
  go_wp2_with fail
  go_ret
  exact ⟨rfl, hs4.below⟩
structure Cst (W : World) (g gc : Nat) (v mv : Value) (l : List H) (w : World) : Prop where
  cs : Cs W g gc v l w
  row : w.ownsRow W.heap.size 30 3 mv l.length (flat l)
  ng : mv.ownBlock ≠ some g
  nc : mv.ownBlock ≠ some gc
  nv : ∀ k, mv.ownBlock = some k → v.ownBlock ≠ some k
theorem Cst.b {W w w1 : World} {g gc : Nat} {v mv : Value} {l : List H} (h : Cst W g gc v mv l w) (hb : Below w.heap.size w w1) : Cst W g gc v mv l w1 :=
  ⟨h.cs.b hb, own_below h.row hb, h.ng, h.nc, h.nv⟩
theorem Cst.lay {W w w1 : World} {g gc : Nat} {v mv : Value} {l : List H} (h : Cst W g gc v mv l w) (hb : Below W.heap.size W w1) (hm : ∀ k, k < w.heap.size → mv.ownBlock ≠ some k → w1.heap[k]? = w.heap[k]?) : Cs W g gc v l w1 :=
  ⟨h.cs.set.move (fun k hk => hm k (by rcases hk with rfl | hk; exact h.cs.set.blk.lt; exact (h.cs.set.own.lt k hk).2) (fun e => by
    rcases hk with rfl | hk
    · exact h.ng e
    · exact h.nv k e hk)), (hm gc h.cs.ch.lt h.nc).trans h.cs.ch, h.cs.ne, h.cs.nv, h.cs.low, hb⟩
theorem Cst.fin {W w w1 w2 : World} {g gc : Nat} {v v' mv mv' : Value} {l l' : List H} (h : Cst W g gc v mv l w) (hs1 : w.heap.size ≤ w1.heap.size) (hc1 : Cs W g gc v l w1)
    (hr : w1.ownsRow W.heap.size 30 3 mv' l'.length (flat l')) (hmv : ∀ k, mv'.ownBlock = some k → mv.ownBlock = some k ∨ w.heap.size ≤ k)
    (hset : IsSet w2 W.heap.size g v' l') (hk : Kept w1 w2 g v) (hv : v'.ownBlock = v.ownBlock ∨ ∃ k, v'.ownBlock = some k ∧ w1.heap.size ≤ k) : Cst W g gc v' mv' l' w2 := by
  have hst := St.then (W := W) (w := w) (w1 := w1) (w2 := w2) (g := g) (v := v) (v' := v') (mv := mv) (mv' := mv') (l := l) (l' := l')
  have hg := h.cs.set.blk.lt
  have hgc := h.cs.ch.lt
  have n1 : mv'.ownBlock ≠ some g := fun e => by
    rcases hmv g e with e | e
    · exact h.ng e
    · omega
  have n3 : mv'.ownBlock ≠ some gc := fun e => by
    rcases hmv gc e with e | e
    · exact h.nc e
    · omega
  have n2 : ∀ k, mv'.ownBlock = some k → v.ownBlock ≠ some k := fun k e e2 => by
    rcases hmv k e with e | e
    · exact h.nv k e e2
    · have := (h.cs.set.own.lt k e2).2
      omega
  refine ⟨hc1.put hset hk hv, move_own hr (fun k e => hk.block k (hr.lt k e).2 (fun e2 => n1 (by rw [e, e2])) (fun e2 => n2 k e e2.symm)), n1, n3, fun k e e2 => ?_⟩
  rcases hv with hv | ⟨q, hv, hq⟩
  · rw [hv] at e2; exact n2 k e e2
  · rw [hv] at e2
    injection e2 with e2
    have := (hr.lt k e).2
    omega
set_option maxRecDepth 100000 in
set_option maxHeartbeats 16000000 in
theorem chain_walk (A1 : Option Addr) (c1 : Nat) (l1 : List H) (A : Option Addr) (cap : Nat) (l0 : List H) (W : World) (hr1 : Kd.C k30 W A1 l1.length l1) (hc1 : l1.length ≤ c1) (hs1 : ∀ x ∈ l1, x.f1.f1.size ≤ 9223372036854775807) (hv1 : ∀ x ∈ l1, 0 ≤ x.f1.f0 ∧ x.f1.f0 < 18446744073709551616)
    (hl : l0.length ≤ 9223372036854775807) (hs : ∀ x ∈ l0, x.f1.f1.size ≤ 9223372036854775807)
    (hc : ∀ i, (hi : i < l0.length) → ∃ ad, A = some ad ∧ W.cell? (ad.add (i * 3)) = some (.int .i64 l0[i].f0) ∧ W.cell? ⟨(ad.add (i * 3)).block, (ad.add (i * 3)).off + 1, none⟩ = some (.int .u64 l0[i].f1.f0) ∧
      W.cell? ⟨(ad.add (i * 3)).block, (ad.add (i * 3)).off + 2, none⟩ = some (.string l0[i].f1.f1)) :
    Calls Try.prog 4 #[.slice A1 l1.length c1, .slice A l0.length cap] W fun e w' => e = .returned (.bool true) ∧ Below W.heap.size W w' := by
  have hn1 := fun w (hb : Below W.heap.size W w) => tarnlaw09_Near.calls 100 A1 c1 l1 (nearL l1) w (Kd.C_below hr1 hb) hc1 (near_eq l1 hs1 100 (by omega))
  have hx1 : ∀ z ∈ nearL l1, z.f1.f1.size ≤ 140737488355328 := fun z hz => (near_dom hv1 z hz).sz
  have hy1 := near_length l1
  generalize nearL l1 = x at hn1 hx1 hy1
  have hro := of_eq x (by omega) hx1 1000 (by omega)
  have hnw := fun w hb A c (h1 : Rd w A c x) => chnew_cs W w hb A c x (by omega) hx1 h1
  generalize ofL [] x = m0 at hro hnw
  have HN1 := Lib.hid hn1
  have HRO := Lib.hid hro
  have HNW := Lib.hid hnw
  have HCC := Lib.hid hc
  have HS := Lib.hid hs
  clear hn1 hro hnw hx1 hs1 hv1 hr1 hc hs
  go_enter Try.func4, Try.ntmps4
  go_wp2_with fail
  refine (HN1.out _ (Below.refl _ _)).mono ?_; rintro e w1 ⟨v1, rfl, hR1, b1⟩
  obtain ⟨ho1, _⟩ := R_flat hR1
  obtain ⟨X, cx, rfl, hcx⟩ := own_slice ho1
  have HNW1 := Lib.hid (HNW.out w1 b1 X cx (own_rd ho1).1)
  clear hR1 ho1
  go_wp2_with fail
  refine HNW1.out.mono ?_; rintro e w2 ⟨v, g, gc, rfl, hcs, b2⟩
  have HCS := Lib.hid hcs
  have hb2 := hcs.below
  clear hcs b1 b2
  go_wp2_with fail
  refine (HN1.out _ hb2).mono ?_; rintro e w3 ⟨v3, rfl, hR3, b3⟩
  obtain ⟨ho3, _⟩ := R_flat hR3
  obtain ⟨Y, cy, rfl, hcy⟩ := own_slice ho3
  have hcs := HCS.out.b b3
  have HOF := Lib.hid (tarnref09_Of.calls 1000 Y cy x m0 w3 (C_rd (own_rd ho3).1 (by omega)) hcy HRO.out)
  clear hR3 ho3 b3 hb2
  have HCS3 := Lib.hid hcs
  clear hcs
  go_wp2_with fail
  refine HOF.out.mono ?_; rintro e w4 ⟨mv, rfl, hR4, b4⟩
  obtain ⟨ho4, _⟩ := R_flat hR4
  have hcs := HCS3.out.b b4
  have hM : Cst W g gc v mv m0 w4 := by
    have l1 := HCS3.out.set.blk.lt
    have l2 := HCS3.out.ch.lt
    refine ⟨hcs, own_low ho4 HCS3.out.below.size, fun e => ?_, fun e => ?_, fun k e e2 => ?_⟩
    · have := (ho4.lt _ e).1; omega
    · have := (ho4.lt _ e).1; omega
    · have := (ho4.lt _ e).1
      have := (HCS3.out.set.own.lt _ e2).2
      omega
  clear hcs ho4 hR4 b4 HCS3 HCS HOF HNW1 HNW HN1 HRO
  go_wp2_with fail
  go_loopg [6, 7] 40 (fun gg mv i wr => ∃ i0 : Nat, ∃ v : Value, ∃ l : List H, i = .int .i64 i0 ∧ i0 ≤ 40 ∧ gg = 40 - i0 ∧ Cst W g gc v mv l wr)
  case atStart => exact ⟨0, v, m0, rfl, by omega, rfl, hM⟩
  case round =>
    clear hM
    obtain ⟨i0, v, l, rfl, hi, rfl, hM⟩ := hrel
    by_cases hlt : i0 < l0.length ∧ i0 < 40
    · obtain ⟨h1, h2⟩ := hlt
      obtain ⟨ad, rfl, c0, c1, c2⟩ := HCC.out i0 h1
      have hsz := HS.out _ (List.getElem_mem h1)
      generalize l0[i0] = x at c0 c1 c2 hsz
      obtain ⟨blk, ver, data⟩ := x
      simp only at c0 c1 c2 hsz
      have d0 := cellB hM.cs.below c0
      have d1 := cellB hM.cs.below c1
      have d2 := cellB hM.cs.below c2
      obtain ⟨A4, cap4, rfl, hcap4⟩ := own_slice hM.row
      clear c0 c1 c2
      obtain ⟨s, hns, hss⟩ : ∃ s : ByteArray, Gv.tarnlaw08_Near.f ver data (blk / 64) = some (ver, s) ∧ s.size ≤ 140737488355328 := by
        refine ⟨⟨(nearD data.data.toList (blk / 64 % 8)).toArray⟩, by unfold Gv.tarnlaw08_Near.f; rw [if_pos hsz], ?_⟩
        have h := near_len data.data.toList (blk / 64 % 8)
        show (nearD data.data.toList (blk / 64 % 8)).toArray.size ≤ _
        rw [List.size_toArray]
        omega
      have HNS := Lib.hid hns
      clear hns
      go_upto_region 5 with fail
      go_cut [8] (fun s8 wx => ∃ a8, s8 = .pointer (some ⟨a8, 0, none⟩) ∧ Blk wx a8 28 #[.int .u64 ver, .string s] ∧ Below wr.heap.size wr wx ∧ wr.heap.size ≤ a8)
      case first =>
        go_wp2_with fail
        have kB : ∀ {w' : World}, Below wr.heap.size wr w' → (w'.cell? (ad.add (i0 * 3)) = some (.int .i64 blk) ∧ w'.cell? ⟨(ad.add (i0 * 3)).block, (ad.add (i0 * 3)).off + 1, none⟩ = some (.int .u64 ver) ∧ w'.cell? ⟨(ad.add (i0 * 3)).block, (ad.add (i0 * 3)).off + 2, none⟩ = some (.string data) ∧ Below wr.heap.size wr w') := fun hb => ⟨cellB hb d0, cellB hb d1, cellB hb d2, hb⟩
        have kC : ∀ {w' : World}, Below wr.drew.heap.size wr.drew w' → Below wr.heap.size wr w' := fun hb => (Below.refl _ _).drew.trans hb
        have kD : ∀ {w' : World}, Below (wr.alloc (.cells #[.int .u64 0, .string ⟨#[]⟩] 28)).drew.heap.size (wr.alloc (.cells #[.int .u64 0, .string ⟨#[]⟩] 28)).drew w' → Below wr.heap.size wr w' := fun hb => ((Below.refl _ _).alloc (Nat.le_refl _) _).drew.trans (hb.mono (by simp))
        go_region_held3 (fun w' => w'.cell? (ad.add (i0 * 3)) = some (.int .i64 blk) ∧ w'.cell? ⟨(ad.add (i0 * 3)).block, (ad.add (i0 * 3)).off + 1, none⟩ = some (.int .u64 ver) ∧ w'.cell? ⟨(ad.add (i0 * 3)).block, (ad.add (i0 * 3)).off + 2, none⟩ = some (.string data) ∧ Below wr.heap.size wr w')
          (first | exact kB (Below.refl _ _).drew | exact kB ((Below.refl _ _).alloc (Nat.le_refl _) _).drew | (refine kB (kC ?_); assumption) | (refine kB (kD ?_); assumption) | (refine kB ((kC ?_).alloc (kC ?_).size _) <;> assumption) | (refine kB (((kD ?_).setCell (p := ⟨wr.heap.size, 0, none⟩) (Nat.le_refl _) _).setCell (p := ⟨wr.heap.size, 1, none⟩) (Nat.le_refl _) _); assumption))
          (first | (go_at_call 20; refine (Gv.tarnlaw08_Near.calls _ _ _ _ _ _ HNS.out).mono ?_; rintro e w3 ⟨rfl, b3⟩; (first | (have q3 : Blk w3 wr.heap.size 28 #[.int .u64 0, .string ⟨#[]⟩] := Blk.b (w := (wr.alloc (.cells #[.int .u64 0, .string ⟨#[]⟩] 28)).drew) (Blk.fresh wr _ _) b3; have q30 := q3.cell 0; have q31 := q3.cell 1; have q32 := q3.frozen 0; have q33 := q3.frozen 1) | skip)))
        all_goals
          go_wp2_with fail
          go_meet
          first
          | exact ⟨w3.heap.size, rfl, Blk.fresh _ _ _, (kC b3).alloc (kC b3).size _, (kC b3).size⟩
          | exact ⟨wr.heap.size, rfl, heap_set (c := 1) (heap_set (c := 0) q3 _) _, ((kD b3).setCell (p := ⟨wr.heap.size, 0, none⟩) (Nat.le_refl _) _).setCell (p := ⟨wr.heap.size, 1, none⟩) (Nat.le_refl _) _, Nat.le_refl _⟩
      case rest =>
        obtain ⟨a8, rfl, k8, b8, le8⟩ := hcut
        have k80 := k8.cell 0
        have k82 := k8.frozen 0
        obtain ⟨ve, hve⟩ : ∃ ve, Go.bits .and .u64 ver 15 = ve := ⟨_, rfl⟩
        obtain ⟨qa, hqa⟩ : ∃ q, Go.bits .and .i64 (blk / 512) 3 = q := ⟨_, rfl⟩
        obtain ⟨qb, hqb⟩ : ∃ q, Go.bits .and .i64 blk 63 = q := ⟨_, rfl⟩
        have b9 := b8.setCell (p := ⟨a8, 0, none⟩) le8 (.int .u64 ve)
        have k9 : Blk (wc.setCell ⟨a8, 0, none⟩ (.int .u64 ve)) a8 28 #[.int .u64 ve, .string s] := heap_set (c := 0) k8 _
        have hmw : ∀ k, (Value.slice A4 l.length cap4).ownBlock = some k → k < wr.heap.size := fun k e => (hM.row.lt k e).2
        have HMW := Lib.hid hmw
        clear hmw
        have HM9 := Lib.hid (hM.b b9)
        have D0 := Lib.hid (cellB b9 d0)
        clear d0 d1 d2 hM
        go_upto_region 7 with fail
        refine name_world (fun w => Cst W g gc v (.slice A4 l.length cap4) l w ∧ Blk w a8 28 #[.int .u64 ve, .string s] ∧ w.cell? (ad.add (i0 * 3)) = some (.int .i64 blk)) ⟨HM9.out, k9, D0.out⟩ ?_
        clear HM9 D0 k8 k80 k82 b8 b9 k9
        rintro w4 ⟨hM4, k6, e0⟩
        go_upto_if 58 with fail
        go_cut [9] (fun s9 wx => ∃ n : Int, s9 = .int .i64 n ∧ wx = w4)
        case first =>
          by_cases hq : 0 < qa
          · go_wp2_with fail
            go_meet
            exact ⟨_, rfl, rfl⟩
          · go_wp2_with fail
            go_meet
            exact ⟨_, rfl, rfl⟩
        case rest =>
          obtain ⟨n, rfl, rfl⟩ := hcut
          have k60 : wc.cell? ⟨a8, 0, none⟩ = some (.int .u64 ve) := k6.cell 0
          have k61 : wc.cell? ⟨a8, 1, none⟩ = some (.string s) := k6.cell 1
          have hlen := hM4.cs.set.ok.len
          have hrl := tarnref09_Lay.calls 300 (fun k => (Value.slice A4 l.length cap4).ownBlock = some k) (.slice A4 l.length cap4) l n ve s (putL l n ⟨ve, s⟩).1 (putL l n ⟨ve, s⟩).2 W wc hM4.cs.below (own_R hM4.row) (rlay_eq l n ⟨ve, s⟩ hM4.cs.set.ok hss 300 (by omega))
          have hsp := fun w5 (h : Cs W g gc v l w5) => store_calls w5 W.heap.size gc g v l n ⟨ve, s⟩ h.ch h.set hss h.below.size
          unfold StorePost at hsp
          generalize putL l n ⟨ve, s⟩ = r at hrl hsp
          obtain ⟨l', is'⟩ := r
          have HRD := Lib.hid hrl
          have HSD := Lib.hid hsp
          have HM4 := Lib.hid hM4
          clear hrl hsp hM4 e0 hqa hqb hve
          go_wp2_with fail
          refine HRD.out.mono ?_; rintro e w5 ⟨v0, rfl, hR, b5, hkp⟩
          obtain ⟨hr5, hok5⟩ := R_flat hR
          obtain ⟨A5, cap5, rfl, hc5⟩ := own_slice hr5
          have hcs5 : Cs W g gc v l w5 := HM4.out.lay b5 (fun k hk hn => hkp.2 k hk (fun e => hn e))
          have k6' : Blk w5 a8 28 #[.int .u64 ve, .string s] := (hkp.2 _ k6.lt (fun e => by have := HMW.out _ e; omega)).trans k6
          have k70' : w5.cell? ⟨a8, 0, none⟩ = some (.int .u64 ve) := k6'.cell 0
          have k71' : w5.cell? ⟨a8, 1, none⟩ = some (.string s) := k6'.cell 1
          have sz5 : wc.heap.size ≤ w5.heap.size := hkp.1
          have HR5 := Lib.hid hr5
          have HCS5 := Lib.hid hcs5
          clear hR k60 k61 k6 k6' hkp hr5 hcs5
          go_wp2_with fail
          refine (HSD.out _ HCS5.out).mono ?_; rintro e w6 ⟨rfl, v', hset6, hk6, hv6⟩
          have hfin : Cst W g gc v' (.slice A5 l'.length cap5) l' w6 := HM4.out.fin sz5 HCS5.out HR5.out hok5 hset6 hk6 hv6
          have hlen' := hfin.cs.set.ok.len
          clear k70' k71' hset6 hk6 hv6 HR5 HCS5 HM4 HSD HRD hok5
          have hrg := tarnref09_Get.calls 100 A5 cap5 l' n (getL l' n).1.f0 (getL l' n).1.f1 (getL l' n).2 w6 (C_own hfin.row (by omega)) hc5 (rget_eq l' n hfin.cs.set.ok.1 (by omega) 100 (by omega))
          have hld : ∀ w, Cst W g gc v' (.slice A5 l'.length cap5) l' w → _ := fun w h => load_calls w W.heap.size gc g v' l' n h.cs.ch h.cs.set
          generalize getL l' n = y at hrg hld
          obtain ⟨⟨y0, y1⟩, is2⟩ := y
          have hsame := same_eq l' 100 (by omega) (by omega)
          have HRG := Lib.hid hrg
          have HLD := Lib.hid hld
          have HSAME := Lib.hid hsame
          have HF := Lib.hid hfin
          clear hrg hld hsame hfin
          go_wp2_with fail
          refine HRG.out.mono ?_; rintro e w7 ⟨rfl, b7⟩
          have HF7 := Lib.hid (HF.out.b b7)
          clear b7 HRG
          go_upto_region 15 with fail
          refine name_world (fun w => Cst W g gc v' (.slice A5 l'.length cap5) l' w ∧ Blk w w7.heap.size 28 #[.int .u64 y0, .string y1]) ⟨HF7.out.b ((Below.refl _ _).alloc (Nat.le_refl _) _), Blk.fresh _ _ _⟩ ?_
          clear HF HF7
          rintro w8 ⟨hM8, kI⟩
          have i0c : w8.cell? ⟨w7.heap.size, 0, none⟩ = some (.int .u64 y0) := kI.cell 0
          have i1c : w8.cell? ⟨w7.heap.size, 1, none⟩ = some (.string y1) := kI.cell 1
          have hsm := item_same y0 y1
          have kB : ∀ {w' : World}, Below w8.heap.size w8 w' → (w'.cell? ⟨w7.heap.size, 0, none⟩ = some (.int .u64 y0) ∧ w'.cell? ⟨w7.heap.size, 1, none⟩ = some (.string y1) ∧ Below w8.heap.size w8 w') := fun hb => ⟨cellB hb i0c, cellB hb i1c, hb⟩
          have hL : ∀ w', (w'.cell? ⟨w7.heap.size, 0, none⟩ = some (.int .u64 y0) ∧ w'.cell? ⟨w7.heap.size, 1, none⟩ = some (.string y1) ∧ Below w8.heap.size w8 w') → Calls Try.prog 24 #[.pointer (some ⟨gc, 0, none⟩), .int .i64 n] w' fun e w'' => e = .returned (.agg #[.int .u64 y0, .string y1]) ∧ Below w8.heap.size w8 w'' := fun w' h => by
            refine (HLD.out w' (hM8.b h.2.2)).mono ?_
            rintro e w'' ⟨rfl, b⟩
            exact ⟨rfl, h.2.2.trans (b.mono h.2.2.size)⟩
          have hA : ∀ w', (w'.cell? ⟨w7.heap.size, 0, none⟩ = some (.int .u64 y0) ∧ w'.cell? ⟨w7.heap.size, 1, none⟩ = some (.string y1) ∧ Below w8.heap.size w8 w') → Calls Try.prog 26 #[.pointer (some ⟨gc, 0, none⟩)] w' fun e w'' => ∃ A cap, e = .returned (.slice A l'.length cap) ∧ Hid (∀ w3, Below w''.heap.size w'' w3 → w3.ownsRow w'.heap.size 30 3 (.slice A l'.length cap) l'.length (flat l')) ∧ Hid (l'.length ≤ cap) ∧ Below w8.heap.size w8 w'' := fun w' h => by
            have h8 := hM8.b h.2.2
            refine (chall_calls w' W.heap.size gc g v' l' h8.cs.ch h8.cs.set).mono ?_
            rintro e w'' ⟨A, cap, rfl, hown, hcap, b⟩
            exact ⟨A, cap, rfl, Lib.hid (fun w3 hb => own_below hown hb), Lib.hid hcap, h.2.2.trans (b.mono h.2.2.size)⟩
          have hS : ∀ w' (A : Option Addr) (cap B : Nat), w'.ownsRow B 30 3 (.slice A l'.length cap) l'.length (flat l') → l'.length ≤ cap → (w'.cell? ⟨w7.heap.size, 0, none⟩ = some (.int .u64 y0) ∧ w'.cell? ⟨w7.heap.size, 1, none⟩ = some (.string y1) ∧ Below w8.heap.size w8 w') → Calls Try.prog 25 #[.slice A l'.length cap, .slice A5 l'.length cap5] w' fun e w'' => e = .returned (.bool true) ∧ Below w8.heap.size w8 w'' := fun w' A cap B ho hcap h => by
            refine (tarnref09_Same.calls 100 A cap l' A5 cap5 l' true w' (C_own ho (by omega)) hcap (C_own (hM8.b h.2.2).row (by omega)) hc5 HSAME.out).mono ?_
            rintro e w'' ⟨rfl, ⟨nd, rfl⟩⟩
            exact ⟨rfl, bN h.2.2 nd⟩
          have HL := Lib.hid hL
          have HA := Lib.hid hA
          have HS2 := Lib.hid hS
          have HM8 := Lib.hid hM8
          clear hL hA hS hM8 HLD HSAME
          go_wp2_with fail
          go_region_held3 (fun w' => w'.cell? ⟨w7.heap.size, 0, none⟩ = some (.int .u64 y0) ∧ w'.cell? ⟨w7.heap.size, 1, none⟩ = some (.string y1) ∧ Below w8.heap.size w8 w')
            (first | exact kB (Below.refl _ _).drew | (refine kB ?_; assumption))
            (first | (go_at_call 24; refine (HL.out _ (by assumption)).mono ?_; rintro e w9 ⟨rfl, b9⟩) | (go_at_call 26; refine (HA.out _ (by assumption)).mono ?_; rintro e w9 ⟨A9, cap9, rfl, ho9, hc9, b9⟩) | (go_at_call 25; refine (HS2.out _ _ _ _ (ho9.out _ (Below.refl _ _)) hc9.out (by assumption)).mono ?_; rintro e w10 ⟨rfl, b10⟩))
          rename_i hHeld
          have hM9 := HM8.out.b hHeld.2.2
          clear hHeld
          go_wp2_with fail
          go_roundg (40 - (i0 + 1))
          case measure => omega
          case rel => exact ⟨i0 + 1, v', l', by go_num, by omega, rfl, hM9⟩
    · by_cases h1 : i0 < l0.length
      · have h2 : ¬ i0 < 40 := fun h => hlt ⟨h1, h⟩
        go_wp2_with fail
        refine (chawake_calls _).mono ?_; rintro e w3 ⟨rfl, b3⟩
        go_wp2_with fail
        go_ret
        exact ⟨rfl, hM.cs.below.trans (b3.mono hM.cs.below.size)⟩
      · go_wp2_with fail
        refine (chawake_calls _).mono ?_; rintro e w3 ⟨rfl, b3⟩
        go_wp2_with fail
        go_ret
        exact ⟨rfl, hM.cs.below.trans (b3.mono hM.cs.below.size)⟩
end Go.Proofs.Ytjohfkpgghnpeaa.SetC
namespace Go.Proofs.Ytjohfkpgghnpeaa.chainPlays
open Go Go.RowKit
open Go.Proofs.Ytjohfkpgghnpeaa.Open
open Go.Proofs.Ytjohfkpgghnpeaa.ItmPr
set_option linter.unusedVariables false
set_option maxRecDepth 20000 in
theorem walk {H : Type} {enc : TypeId × Value → H} {W : World} {b : Nat} {v0 : Value} (ok0 : Value.okWide Try.prog W .any b 22 v0) {d0 : DataW H} {p0 : List MemPlace} (h0 : DataW.Trod enc Try.prog W 0 (fun _ => true) true 22 v0 d0 p0)
    {v1 : Value} (ok1 : Value.okWide Try.prog W .any b 22 v1) {d1 : DataW H} {p1 : List MemPlace} (h1 : DataW.Trod enc Try.prog W 0 (fun _ => true) true 22 v1 d1 p1) :
    Calls Try.prog 4 #[v0, v1] W fun e w' => e = .returned (.bool true) ∧ Below W.heap.size W w' := by
  obtain ⟨x, rfl, hok⟩ := open_sl shH Try.underlying22 (by kernel_rfl) ok0 h0
  obtain ⟨y, rfl, hok1⟩ := open_sl shH Try.underlying22 (by kernel_rfl) ok1 h1
  have hly : (y.l.map ofSh).length = y.l.length := List.length_map ..
  have h := SetC.chain_walk x.A x.cap (x.l.map ofSh) y.A y.cap (y.l.map ofSh) W (C_held x hok) (by rw [List.length_map]; exact hok.1) (held_size x hok) (held_ver x hok) (by have q1 := hok1.1; have q2 := hok1.2.1; unfold maxLen at q2; rw [List.length_map]; omega) (held_size y hok1) (fun i hi => ?_)
  · rw [List.length_map, List.length_map] at h
    exact h
  · have hi2 : i < y.l.length := by rw [← hly]; exact hi
    rw [List.getElem_map]
    cases hA : y.A with
    | none => have := (hok1.2.2.1 hA).1; rw [this] at hi2; simp at hi2
    | some a =>
      have c := hok1.2.2.2.1 a hA i y.l[i] (List.getElem?_eq_getElem hi2)
      have c0 := c 0 (.int .i64 y.l[i].1) rfl
      have c1 := c 1 (.int .u64 y.l[i].2.1) rfl
      have c2 := c 2 (.string y.l[i].2.2) rfl
      rw [show i * shH.size = i * 3 from rfl, ← Go.Deep.add_add] at c1 c2
      exact ⟨a, rfl, c0, c1, c2⟩
end Go.Proofs.Ytjohfkpgghnpeaa.chainPlays
end
