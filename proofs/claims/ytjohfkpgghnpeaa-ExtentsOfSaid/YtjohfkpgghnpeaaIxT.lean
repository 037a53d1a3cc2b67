-- packed by pack.py, a program of this claim's repo
import Derived.Test.YtjohfkpgghnpeaaIxC
import Derived.Test.YtjohfkpgghnpeaaIxD
import Derived.Test.YtjohfkpgghnpeaaIxE
import Derived.Test.YtjohfkpgghnpeaaIxB
import Derived.Test.YtjohfkpgghnpeaaIxF
import Derived.Test.YtjohfkpgghnpeaaIxG
import Derived.Test.YtjohfkpgghnpeaaIxH
import Derived.Test.YtjohfkpgghnpeaaIxA
import Derived.Test.YtjohfkpgghnpeaaIxI
import Derived.Test.YtjohfkpgghnpeaaIxJ
import Derived.Test.YtjohfkpgghnpeaaIxK
import Derived.Test.YtjohfkpgghnpeaaIxL
import Derived.Test.YtjohfkpgghnpeaaIxM
import Derived.Test.YtjohfkpgghnpeaaIxN
import Derived.Test.YtjohfkpgghnpeaaIxO
import Derived.Test.YtjohfkpgghnpeaaIxP
import Derived.Test.YtjohfkpgghnpeaaIxQ
import Derived.Test.YtjohfkpgghnpeaaIxR
import Derived.Test.YtjohfkpgghnpeaaIxS
import Derived.Deep.Slices
import Derived.Laws.StructEq
import Derived.BigQuiet
import Derived.BigRegion
import Derived.IntWalk
import Derived.Lib.MinMax
import Derived.Deep.DeepCutAuto
import Derived.Deep.CutBlock
section
namespace Go.Proofs.Ytjohfkpgghnpeaa.SetC
open Go Go.RowKit
open Go.Proofs.Ytjohfkpgghnpeaa.Gen
open Go.Proofs.Ytjohfkpgghnpeaa.Own
open Go.Proofs.Ytjohfkpgghnpeaa.RowK
open Go.Proofs.Ytjohfkpgghnpeaa.ItemC
open Go.Proofs.Ytjohfkpgghnpeaa.PRef
open Go.Proofs.Ytjohfkpgghnpeaa.ItmPr (ofL)
set_option linter.unusedVariables false
def Rd (w : World) (A : Option Addr) (cap : Nat) (l : List H) : Prop :=
  (A = none → l.length = 0 ∧ cap = 0) ∧ ∀ ad, A = some ad → ∀ (j : Nat) (u : Value), (flat l)[j]? = some u → w.cell? (ad.add j) = some u
theorem Rd.b {w w' : World} {A : Option Addr} {cap : Nat} {l : List H} (h : Rd w A cap l) (hb : Below w.heap.size w w') : Rd w' A cap l :=
  ⟨h.1, fun ad e j u hu => cellB hb (h.2 ad e j u hu)⟩
theorem own_rd {w : World} {B n cap : Nat} {A : Option Addr} {l : List H} (h : w.ownsRow B 30 3 (.slice A n cap) n (flat l)) : Rd w A cap l ∧ n = l.length := by
  have hn : n = l.length := by have := h.1; rw [flat_len] at this; omega
  subst hn
  refine ⟨⟨?_, ?_⟩, rfl⟩
  · rintro rfl
    rcases h.2 with ⟨h1, _⟩ | ⟨_, _, _, h1, _⟩
    · injection h1 with _ h2 h3
      exact ⟨h2, h3⟩
    · cases h1
  · rintro ad rfl j u hu
    rcases h.2 with ⟨h1, _⟩ | ⟨g, _, _, h1, _⟩
    · cases h1
    · injection h1 with h1 _ _
      injection h1 with h1
      subst h1
      exact h.cells (g := g) rfl j u hu
def RowPost (l : List H) (W : World) (e : Ending) (w' : World) : Prop :=
  ∃ A cap, e = .returned (.slice A l.length cap) ∧ w'.ownsRow W.heap.size 30 3 (.slice A l.length cap) l.length (flat l) ∧ l.length ≤ cap ∧ Below W.heap.size W w'
set_option maxHeartbeats 2000000 in
theorem clone_calls (W : World) (A : Option Addr) (cap : Nat) (l : List H) (hl : l.length ≤ 1000) (h : Rd W A cap l) :
    Calls Try.prog 65 #[.slice A l.length cap] W (RowPost l W) := by
  cases A with
  | none =>
    obtain ⟨h1, rfl⟩ := h.1 rfl
    obtain rfl : l = [] := List.eq_nil_of_length_eq_zero h1
    have heq := fun w : World => Lib.run_eql_slice_nil (P := Try.prog) w 22 30 none 0 0 0 0 Try.underlying22
    clear h h1
    go_enter Try.func65, Try.ntmps65
    go_wp2_with fail
    go_ret
    exact ⟨none, 0, rfl, ⟨rfl, .inl ⟨rfl, rfl⟩⟩, Nat.le_refl _, Below.refl _ _⟩
  | some a =>
    have heq := fun w : World => Lib.run_eql_slice_nil (P := Try.prog) w 22 30 (some a) l.length cap 0 0 Try.underlying22
    simp only [Option.isNone_some] at heq
    have hsrc : ∀ ad, some a = some ad → ∀ j u, (flat l)[j]? = some u → (W.alloc (.cells #[] 30)).cell? (ad.add j) = some u := fun ad e j u hu => by
      have := h.2 ad e j u hu
      rw [World.cell?_alloc_lt _ _ _ (World.block_lt_of_cell? _ _ this), this]
    have HSRC := Lib.hid hsrc
    clear h hsrc
    go_enter Try.func65, Try.ntmps65
    go_wp2_with (at_builtin
                 refine wpList_appS _ rfl (.tmp 5) (.tmp 6) _ rfl W.heap.size 30 (.agg #[.int .i64 0, .int .u64 0, .string ⟨#[]⟩]) 3 32 Try.underlying22 info3 rfl (by decide) _ 0 [] rfl
                   (own_empty (Nat.le_refl _) (heap_alloc_new _ _)) (some a) l.length cap (flat l) (by rw [flat_len]) rfl (fun e => by cases e) HSRC.out (flat_one l) (by omega) (by omega) (by simp) ?_
                 intro A1 cap1 w1 hown1 hc1 hb1 hs1
                 simp only [Nat.zero_add, List.nil_append] at hown1 hc1)
    go_ret
    exact ⟨A1, cap1, rfl, hown1, hc1, ((Below.refl _ _).alloc (Nat.le_refl _) _).trans hb1⟩
theorem all_calls (W : World) (B g : Nat) (v : Value) (l : List H) (h : IsSet W B g v l) : Calls Try.prog 34 #[.pointer (some ⟨g, 0, none⟩)] W (RowPost l W) := by
  obtain ⟨A, cap, rfl, hcap⟩ := Own.own_slice h.own
  have hcl := clone_calls W A cap l (by have := h.ok.len; omega) (own_rd h.own).1
  have hcell := h.blk.cell 0
  simp only [List.getElem?_toArray] at hcell
  have HC := Lib.hid hcl
  clear hcl h
  go_enter Try.func34, Try.ntmps34
  go_wp2_with fail
  refine HC.out.mono ?_; rintro e w1 ⟨A1, cap1, rfl, hown, hc, hb⟩
  go_wp2_with fail
  go_ret
  exact ⟨A1, cap1, rfl, hown, hc, hb⟩
theorem ofL_snoc : ∀ (l m : List H) (x : H), ofL m (l ++ [x]) = (putL (ofL m l) x.f0 x.f1).1
  | [], m, x => rfl
  | a :: l, m, x => ofL_snoc l _ x
def OfPost (l : List H) (W : World) (e : Ending) (w' : World) : Prop :=
  ∃ v, e = .returned (.pointer (some ⟨W.heap.size, 0, none⟩)) ∧ IsSet w' W.heap.size W.heap.size v (ofL [] l) ∧ Below W.heap.size W w'
theorem Rd.at_ {w : World} {A : Option Addr} {cap : Nat} {l : List H} (h : Rd w A cap l) {j : Nat} (hj : j < l.length) : ∃ ad, A = some ad ∧ w.cell? (ad.add (j * 3)) = some (.int .i64 l[j].f0) ∧ w.cell? ⟨(ad.add (j * 3)).block, (ad.add (j * 3)).off + 1, none⟩ = some (.int .u64 l[j].f1.f0) ∧ w.cell? ⟨(ad.add (j * 3)).block, (ad.add (j * 3)).off + 2, none⟩ = some (.string l[j].f1.f1) := by
  cases A with
  | none => have := (h.1 rfl).1; omega
  | some ad =>
    have hx := List.getElem?_eq_getElem hj
    have h1 := h.2 ad rfl _ _ (flat_get hx 1 _ rfl)
    have h2 := h.2 ad rfl _ _ (flat_get hx 2 _ rfl)
    rw [← Go.Deep.add_add] at h1 h2
    exact ⟨ad, rfl, h.2 ad rfl _ _ (flat_get hx 0 _ rfl), h1, h2⟩
set_option maxHeartbeats 2000000 in
theorem of_calls (W : World) (A : Option Addr) (cap : Nat) (l : List H) (hl : l.length ≤ 1000) (hs : ∀ x ∈ l, x.f1.f1.size ≤ 140737488355328) (h : Rd W A cap l) :
    Calls Try.prog 38 #[.slice A l.length cap] W (OfPost l W) := by
  have HR := Lib.hid h
  have HS := Lib.hid hs
  clear h hs
  go_enter Try.func38, Try.ntmps38
  go_wp2_with fail
  refine (new_calls W).mono ?_; rintro e w1 ⟨rfl, hs1, hb1, hz1⟩
  go_wp2_with fail
  go_loopw [9] (fun i wr => ∃ k : Nat, ∃ v, i = .int .i64 k ∧ k ≤ l.length ∧ IsSet wr W.heap.size W.heap.size v (ofL [] (l.take k)) ∧ Below W.heap.size W wr) (fun i _ => l.length - (intOf i).toNat)
  case atStart => exact ⟨0, _, rfl, by omega, hs1, hb1⟩
  case round =>
    clear hs1 hb1 hz1
    obtain ⟨k, v, rfl, hk, hset, hb⟩ := hrel
    by_cases hlt : k < l.length
    · have hx := HS.out _ (List.getElem_mem hlt)
      obtain ⟨ad, rfl, c0, c1, c2⟩ := HR.out.at_ hlt
      have hsn : ofL [] (l.take (k + 1)) = (putL (ofL [] (l.take k)) l[k].f0 l[k].f1).1 := by
        rw [List.take_succ_eq_append_getElem hlt, ofL_snoc]
      have HSN := Lib.hid hsn
      clear hsn
      generalize l[k] = x at hx c0 c1 c2 HSN
      have d0 := cellB hb c0
      have d1 := cellB hb c1
      have d2 := cellB hb c2
      clear c0 c1 c2
      have hb2 := hb.alloc (o := .cells #[.int .i64 x.f0, .int .u64 x.f1.f0, .string x.f1.f1] 30) hb.size
      have hset2 := hset.b (w' := wr.alloc (.cells #[.int .i64 x.f0, .int .u64 x.f1.f0, .string x.f1.f1] 30)) ((Below.refl _ _).alloc (Nat.le_refl _) _)
      have hput := put_calls _ W.heap.size W.heap.size v _ x.f0 x.f1 hset2 hx hb2.size
      have HP := Lib.hid hput
      have HS2 := Lib.hid hset2
      clear hput hset2 hset
      go_wp2_with fail
      refine HP.out.mono ?_; rintro e w2 ⟨rfl, v', hset3, hk3, _⟩
      have hb3 := hb2.trans (hk3.below HS2.out hb2.size)
      rw [← HSN.out] at hset3
      clear hk3 hb2 hb HP HS2 HSN
      go_wp2_with fail
      go_roundw
      case rel => exact ⟨k + 1, v', by go_num, by omega, hset3, hb3⟩
      case measure => simp [intOf]; omega
    · obtain rfl : k = l.length := by omega
      rw [List.take_length] at hset
      go_wp2_with fail
      go_ret
      exact ⟨v, rfl, hset, hb⟩
end Go.Proofs.Ytjohfkpgghnpeaa.SetC
end
section
namespace Go.Proofs.Ytjohfkpgghnpeaa.SetC
open Go Go.RowKit
open Go.Proofs.Ytjohfkpgghnpeaa.Gen
open Go.Proofs.Ytjohfkpgghnpeaa.Own
open Go.Proofs.Ytjohfkpgghnpeaa.RowK
open Go.Proofs.Ytjohfkpgghnpeaa.ItemC
open Go.Proofs.Ytjohfkpgghnpeaa.PRef
open Go.Proofs.Ytjohfkpgghnpeaa.ItmPr (ofL rd_at)
open Go.Proofs.YtjohfkpgghnpeaaW.PrintWords
set_option linter.unusedVariables false
theorem flat_of_reps {R : H → List Value → Prop} (hR : ∀ x c, R x c → c = hc x) {xs : List H} {inner : List Value} (h : Reps R 3 xs inner) (hl : inner.length = xs.length * 3) : inner = flat xs := by
  apply List.ext_getElem?
  intro t
  rcases Nat.lt_or_ge t (xs.length * 3) with ht | ht
  · have hj : t / 3 < xs.length := by omega
    have h2 := hR _ _ (h.2 (t / 3) _ (List.getElem?_eq_getElem hj))
    have hi : t % 3 < (hc xs[t / 3]).length := by simp [hc]; omega
    have e2 := flat_get (List.getElem?_eq_getElem hj) (t % 3) _ (List.getElem?_eq_getElem hi)
    rw [show t / 3 * 3 + t % 3 = t by omega] at e2
    rw [e2, ← List.getElem?_eq_getElem hi, ← h2, List.getElem?_take, if_pos (by omega), List.getElem?_drop, show t / 3 * 3 + t % 3 = t by omega]
  · rw [List.getElem?_eq_none (by omega), List.getElem?_eq_none (by rw [flat_len]; exact ht)]
theorem R_flat {w : World} {base : Nat} {ok : Nat → Prop} {v : Value} {xs : List H} (h : Kd.R k30 30 w base ok v xs) : w.ownsRow base 30 3 v xs.length (flat xs) ∧ ∀ k, v.ownBlock = some k → ok k := by
  obtain ⟨h0, inner, ho, hr⟩ := h
  have e := flat_of_reps (fun x c hx => k30_openM hx) hr ho.1
  subst e
  exact ⟨ho, h0⟩
theorem C_rd {w : World} {A : Option Addr} {cap : Nat} {l : List H} (h : Rd w A cap l) (hl : l.length ≤ 1000) : Kd.C k30 w A l.length l := by
  refine ⟨rfl, by omega, fun hn => ?_⟩
  cases A with
  | none => have := (h.1 rfl).1; omega
  | some ad => exact ⟨ad, rfl, fun j p hj => ⟨hc p, rfl, k30_mk w p, fun i u hu => h.2 ad rfl _ _ (flat_get hj i u hu)⟩⟩
def dropR (b ver : Int) : List H → List H × Bool
  | [] => ([], false)
  | h :: t => if h.f0 = b ∧ h.f1.f0 ≤ ver then ((dropR b ver t).1, true) else (h :: (dropR b ver t).1, (dropR b ver t).2)
end Go.Proofs.Ytjohfkpgghnpeaa.SetC
end
section
namespace Go.Proofs.Ytjohfkpgghnpeaa.SetC
open Go Go.RowKit
open Go.Proofs.Ytjohfkpgghnpeaa.Gen
open Go.Proofs.Ytjohfkpgghnpeaa.Own
open Go.Proofs.Ytjohfkpgghnpeaa.RowK
open Go.Proofs.Ytjohfkpgghnpeaa.ItemC
open Go.Proofs.Ytjohfkpgghnpeaa.PRef
open Go.Proofs.Ytjohfkpgghnpeaa.ItmPr (ofL)
set_option linter.unusedVariables false
end Go.Proofs.Ytjohfkpgghnpeaa.SetC
end
section
namespace Go.Proofs.Ytjohfkpgghnpeaa.SetC
open Go Go.RowKit
open Go.Proofs.Ytjohfkpgghnpeaa.Gen
open Go.Proofs.Ytjohfkpgghnpeaa.Own
open Go.Proofs.Ytjohfkpgghnpeaa.RowK
open Go.Proofs.Ytjohfkpgghnpeaa.ItemC
open Go.Proofs.Ytjohfkpgghnpeaa.PRef
open Go.Proofs.Ytjohfkpgghnpeaa.ItmPr (ofL ofL_ok ofL_mem)
set_option linter.unusedVariables false
theorem pos_end {l : List H} {b : Int} (h : ∀ y ∈ l, y.f0 < b) : pos l b = l.length :=
  pos_is b l l.length (Nat.le_refl _) (fun t ht y hy => h y (List.mem_of_getElem? hy)) (fun y hy => by rw [List.getElem?_eq_none (Nat.le_refl _)] at hy; cases hy)
theorem hit_end {l : List H} {b : Int} (h : ∀ y ∈ l, y.f0 < b) : hit l b = false := by
  unfold hit
  rw [pos_end h, List.getElem?_eq_none (Nat.le_refl _)]
theorem putL_end {l : List H} {b : Int} {x : It} (h0 : 0 ≤ b) (h1 : b < 64) (hm : mayB x.f1.data.toList = true) (h : ∀ y ∈ l, y.f0 < b) : (putL l b x).1 = l ++ [⟨b, x⟩] := by
  unfold putL
  rw [if_neg (by rintro (e | e | e); · omega
                 · omega
                 · rw [hm] at e; cases e), if_pos (hit_end h), pos_end h]
  exact ins_end l _
theorem ofL_self_aux : ∀ (l m : List H), Ok (m ++ l) → (∀ x ∈ l, mayB x.f1.f1.data.toList = true) → ofL m l = m ++ l
  | [], m, _, _ => (List.append_nil m).symm
  | a :: l, m, h, hm => by
    have ha := h.2 a (by simp)
    have hp := (List.pairwise_append.1 h.1).2.2
    show ofL (putL m a.f0 a.f1).1 l = _
    rw [putL_end ha.1 ha.2 (hm a List.mem_cons_self) (fun y hy => hp y hy a List.mem_cons_self)]
    have h2 := ofL_self_aux l (m ++ [a]) (by simpa using h) (fun x hx => hm x (List.mem_cons_of_mem _ hx))
    rw [List.append_assoc] at h2
    exact h2
theorem ofL_self (l : List H) : ofL [] (ofL [] l) = ofL [] l :=
  ofL_self_aux (ofL [] l) [] (ofL_ok l [] ⟨List.Pairwise.nil, by simp⟩) (ofL_mem l [] (fun y hy => by cases hy) (fun y _ h => h))
theorem ofL_le (l : List H) : (ofL [] l).length ≤ 64 := (ofL_ok l [] ⟨List.Pairwise.nil, by simp⟩).len
theorem ofL_sz (l : List H) (hs : ∀ x ∈ l, x.f1.f1.size ≤ 140737488355328) : ∀ x ∈ ofL [] l, x.f1.f1.size ≤ 140737488355328 :=
  ofL_mem l [] (fun y hy => by cases hy) (fun y hy _ => hs y hy)
def usedL : List H → Int → Nat
  | [], _ => 0
  | x :: l, b => (if x.f0 < b then x.f1.f1.size else 0) + usedL l b
theorem own_low' {w : World} {B B' : Nat} {e : TypeId} {k n : Nat} {v : Value} {xs : List Value} (h : w.ownsRow B e k v n xs) (hb : B' ≤ B) : w.ownsRow B' e k v n xs := by
  obtain ⟨h1, h2⟩ := h
  refine ⟨h1, ?_⟩
  rcases h2 with h2 | ⟨g, cap, cur, hv, hg, r⟩
  · exact .inl h2
  · exact .inr ⟨g, cap, cur, hv, by omega, r⟩
def lackP (q : List H) (h : H) : Bool := !(getL q h.f0).2 || decide ((getL q h.f0).1.f0 < h.f1.f0)
def lacksL (l1 l2 : List H) : List H := (ofL [] l1).filter (lackP (ofL [] l2))
end Go.Proofs.Ytjohfkpgghnpeaa.SetC
end
section
namespace Go.Proofs.Ytjohfkpgghnpeaa.SetC
open Go Go.RowKit
open Go.Proofs.Ytjohfkpgghnpeaa.Gen
open Go.Proofs.Ytjohfkpgghnpeaa.Own
open Go.Proofs.Ytjohfkpgghnpeaa.RowK
open Go.Proofs.Ytjohfkpgghnpeaa.ItemC
open Go.Proofs.Ytjohfkpgghnpeaa.PRef
open Go.Proofs.Ytjohfkpgghnpeaa.ItmPr (ofL ofL_ok ofL_mem)
set_option linter.unusedVariables false
structure E where
  f0 : Int
  f1 : Int
  f2 : Int
  f3 : Int
def ec (d : E) : List Value := [.int .i64 d.f0, .int .i64 d.f1, .int .u64 d.f2, .int .u64 d.f3]
def flatE (l : List E) : List Value := l.flatMap ec
theorem flatE_len (l : List E) : (flatE l).length = l.length * 4 := by
  induction l with
  | nil => rfl
  | cons a l ih =>
    show (ec a ++ flatE l).length = _
    rw [List.length_append, ih, List.length_cons]
    show 4 + _ = _
    omega
theorem flatE_append (a b : List E) : flatE (a ++ b) = flatE a ++ flatE b := by unfold flatE; rw [List.flatMap_append]
theorem oneE_flat (x : E) : flatE [x] = ec x := List.append_nil _
theorem oneE_one (x : E) : ∀ u ∈ ec x, u.oneCell' = true := by
  intro u hu
  simp only [ec, List.mem_cons, List.not_mem_nil, or_false] at hu
  rcases hu with rfl | rfl | rfl | rfl <;> rfl
theorem oneE_cells (w : World) (x : E) : ∀ ad : Addr, some (⟨w.heap.size, 0, none⟩ : Addr) = some ad → ∀ j u, (ec x)[j]? = some u → (w.alloc (.cells (ec x).toArray 32)).cell? (ad.add j) = some u := by
  rintro ad e j u hu
  injection e with e
  subst e
  rw [add_lit, Nat.zero_add, (Blk.fresh w _ _).cell j, List.getElem?_toArray]
  exact hu
theorem infoE : (Try.prog.info? 32).map (fun i => (i.zero, i.size, i.bytes)) = some (some (.agg #[.int .i64 0, .int .i64 0, .int .u64 0, .int .u64 0]), 4, 32) := by kernel_rfl
theorem own_putK {w : World} {T : TypeId} {K B g cap n : Nat} {xs : List Value} (h : w.ownsRow B T K (.slice (some ⟨g, 0, none⟩) n cap) n xs) (c : Nat) (u : Value) : (w.setCell ⟨g, c, none⟩ u).ownsRow B T K (.slice (some ⟨g, 0, none⟩) n cap) n (xs.set c u) := by
  obtain ⟨h1, h2⟩ := h
  refine ⟨by rw [List.length_set, h1], ?_⟩
  rcases h2 with ⟨h2, _⟩ | ⟨g2, cap2, cur, hv, hg, hh, hc1, hc2, hsz, htk⟩
  · cases h2
  · injection hv with hv1 hv2 hv3
    injection hv1 with hv1
    injection hv1 with hv1
    subst hv1
    subst hv3
    refine Or.inr ⟨g, cap, cur.setIfInBounds c u, rfl, hg, heap_set hh u, hc1, hc2, by rw [Array.size_setIfInBounds, hsz], ?_⟩
    rw [Array.toList_setIfInBounds, List.take_set, htk]
def stepE (out : List E) (h : H) : List E :=
  match out.getLast? with
  | some e => if e.f0 + e.f1 = h.f0 then out.dropLast ++ [⟨e.f0, e.f1 + 1, min e.f2 h.f1.f0, max e.f3 h.f1.f0⟩] else out ++ [⟨h.f0, 1, h.f1.f0, h.f1.f0⟩]
  | none => out ++ [⟨h.f0, 1, h.f1.f0, h.f1.f0⟩]
theorem stepE_snoc (a : List E) (e : E) (h : H) : stepE (a ++ [e]) h = if e.f0 + e.f1 = h.f0 then a ++ [⟨e.f0, e.f1 + 1, min e.f2 h.f1.f0, max e.f3 h.f1.f0⟩] else (a ++ [e]) ++ [⟨h.f0, 1, h.f1.f0, h.f1.f0⟩] := by
  unfold stepE
  rw [List.getLast?_concat, List.dropLast_concat]
theorem flatE_mid (a : List E) (e : E) (u1 u2 u3 : Int) : (((flatE (a ++ [e])).set (a.length * 4 + 1) (.int .i64 u1)).set (a.length * 4 + 2) (.int .u64 u2)).set (a.length * 4 + 3) (.int .u64 u3) = flatE (a ++ [⟨e.f0, u1, u2, u3⟩]) := by
  rw [flatE_append, flatE_append]
  rw [List.set_append_right _ _ (by rw [flatE_len]; omega), List.set_append_right _ _ (by rw [flatE_len]; omega), List.set_append_right _ _ (by rw [flatE_len]; omega), flatE_len, Nat.add_sub_cancel_left, Nat.add_sub_cancel_left, Nat.add_sub_cancel_left]
  rfl
theorem flatE_last (a : List E) (e : E) (i : Nat) (u : Value) (hu : (ec e)[i]? = some u) : (flatE (a ++ [e]))[a.length * 4 + i]? = some u := by
  rw [flatE_append, List.getElem?_append_right (by rw [flatE_len]; omega), flatE_len, Nat.add_sub_cancel_left, oneE_flat]
  exact hu
def ofE (m : List H) : List E := m.foldl stepE []
theorem ofE_snoc (m : List H) (x : H) : ofE (m ++ [x]) = stepE (ofE m) x := by unfold ofE; rw [List.foldl_append]; rfl
def okE (n : Nat) (e : E) : Prop := 0 ≤ e.f0 ∧ e.f0 < 64 ∧ 1 ≤ e.f1 ∧ e.f1 ≤ n
theorem stepE_ok {out : List E} {h : H} {n : Nat} (ho : ∀ e ∈ out, okE n e) (h0 : 0 ≤ h.f0) (h1 : h.f0 < 64) : ∀ e ∈ stepE out h, okE (n + 1) e := by
  have hup : ∀ e ∈ out, okE (n + 1) e := fun e he => by have := ho e he; unfold okE at *; omega
  have hnew : okE (n + 1) ⟨h.f0, 1, h.f1.f0, h.f1.f0⟩ := by unfold okE; simp only; omega
  rcases List.eq_nil_or_concat out with rfl | ⟨a, e, rfl⟩
  · intro e he
    obtain rfl := List.mem_singleton.1 he
    exact hnew
  · rw [List.concat_eq_append] at *
    rw [stepE_snoc]
    intro z hz
    split at hz
    · rcases List.mem_append.1 hz with hz | hz
      · exact hup z (List.mem_append_left _ hz)
      · obtain rfl := List.mem_singleton.1 hz
        have := ho e (by simp)
        unfold okE at *
        simp only
        omega
    · rcases List.mem_append.1 hz with hz | hz
      · exact hup z hz
      · obtain rfl := List.mem_singleton.1 hz
        exact hnew
theorem ofE_ok (m : List H) (hm : ∀ x ∈ m, 0 ≤ x.f0 ∧ x.f0 < 64) : ∀ k, k ≤ m.length → ∀ e ∈ ofE (m.take k), okE k e
  | 0, _ => fun e he => by cases he
  | k + 1, hk => by
    have hlt : k < m.length := by omega
    rw [List.take_succ_eq_append_getElem hlt, ofE_snoc]
    have := hm _ (List.getElem_mem hlt)
    exact stepE_ok (ofE_ok m hm k (by omega)) this.1 this.2
theorem stepE_len (out : List E) (h : H) : (stepE out h).length ≤ out.length + 1 := by
  rcases List.eq_nil_or_concat out with rfl | ⟨a, e, rfl⟩
  · exact Nat.le_refl _
  · rw [List.concat_eq_append, stepE_snoc]
    split <;> simp
theorem ofE_len (m : List H) : ∀ k, k ≤ m.length → (ofE (m.take k)).length ≤ k
  | 0, _ => Nat.le_refl _
  | k + 1, hk => by
    have hlt : k < m.length := by omega
    rw [List.take_succ_eq_append_getElem hlt, ofE_snoc]
    have := ofE_len m k (by omega)
    have := stepE_len (ofE (m.take k)) m[k]
    omega
theorem nil_or_snoc (out : List E) : out = [] ∨ ∃ a e, out = a ++ [e] := by
  rcases List.eq_nil_or_concat out with rfl | ⟨a, e, rfl⟩
  · exact .inl rfl
  · exact .inr ⟨a, e, List.concat_eq_append ..⟩
def hitE (out : List E) (b : Int) : Bool := match out.getLast? with
  | some e => e.f0 + e.f1 == b
  | none => false
theorem hitE_snoc (a : List E) (e : E) (b : Int) : hitE (a ++ [e]) b = (e.f0 + e.f1 == b) := by
  unfold hitE
  rw [List.getLast?_concat]
theorem hitE_yes {out : List E} {b : Int} (h : hitE out b = true) : ∃ a e, out = a ++ [e] ∧ e.f0 + e.f1 = b := by
  rcases nil_or_snoc out with rfl | ⟨a, e, rfl⟩
  · cases h
  · rw [hitE_snoc] at h
    exact ⟨a, e, rfl, by simpa using h⟩
theorem stepE_no {out : List E} {h : H} (hh : hitE out h.f0 = false) : stepE out h = out ++ [⟨h.f0, 1, h.f1.f0, h.f1.f0⟩] := by
  rcases nil_or_snoc out with rfl | ⟨a, e, rfl⟩
  · rfl
  · rw [hitE_snoc] at hh
    rw [stepE_snoc, if_neg (by simpa using hh)]
theorem own_cells' {w : World} {B K n cap g : Nat} {T : TypeId} {xs : List Value} (h : w.ownsRow B T K (.slice (some ⟨g, 0, none⟩) n cap) n xs) : ∀ j u, xs[j]? = some u → w.cell? ⟨g, j, none⟩ = some u := by
  intro j u hu
  have h2 := h.cells (g := g) rfl j u hu
  rw [add_lit, Nat.zero_add] at h2
  exact h2
def EPost (l : List E) (W : World) (e : Ending) (w' : World) : Prop :=
  ∃ A cap, e = .returned (.slice A l.length cap) ∧ w'.ownsRow W.heap.size 32 4 (.slice A l.length cap) l.length (flatE l) ∧ l.length ≤ cap ∧ Below W.heap.size W w'
set_option maxRecDepth 20000 in
set_option maxHeartbeats 16000000 in
theorem ext_calls (W : World) (A1 : Option Addr) (c1 : Nat) (l1 : List H) (hl1 : l1.length ≤ 1000) (hs1 : ∀ x ∈ l1, x.f1.f1.size ≤ 140737488355328) (h1 : Rd W A1 c1 l1) :
    Calls Try.prog 16 #[.slice A1 l1.length c1] W (EPost (ofE (ofL [] l1)) W) := by
  have ho1 := of_calls W A1 c1 l1 hl1 hs1 h1
  unfold OfPost at ho1
  have hm := ofL_le l1
  have hok := (ofL_ok l1 [] ⟨List.Pairwise.nil, by simp⟩).2
  generalize ofL [] l1 = m at ho1 hm hok ⊢
  obtain ⟨F, hF⟩ : ∃ F : Nat → List E, F = fun k => ofE (m.take k) := ⟨_, rfl⟩
  have hF0 : F 0 = [] := by rw [hF]; rfl
  have hFe : ofE m = F m.length := by
    rw [hF]
    show _ = ofE (m.take m.length)
    rw [List.take_length]
  have hFl : ∀ k, k ≤ m.length → (F k).length ≤ k := fun k hk => by rw [hF]; exact ofE_len m k hk
  have hFk : ∀ k, k ≤ m.length → ∀ e ∈ F k, okE k e := fun k hk => by rw [hF]; exact ofE_ok m hok k hk
  have hFs : ∀ k (hk : k < m.length), F (k + 1) = stepE (F k) m[k] := fun k hk => by
    rw [hF]
    show ofE (m.take (k + 1)) = stepE (ofE (m.take k)) m[k]
    rw [List.take_succ_eq_append_getElem hk, ofE_snoc]
  rw [hFe]
  have HO1 := Lib.hid ho1
  have HFL := Lib.hid hFl
  have HFK := Lib.hid hFk
  have HFS := Lib.hid hFs
  have HOK := Lib.hid hok
  clear ho1 hs1 h1 hFl hFs hF hFe hFk hok
  go_enter Try.func16, Try.ntmps16
  go_wp2_with fail
  refine HO1.out.mono ?_; rintro e w2 ⟨vm, rfl, hsm, hb2⟩
  have HAL := Lib.hid (all_calls _ _ _ _ _ hsm)
  clear hsm
  go_wp2_with fail
  refine HAL.out.mono ?_; rintro e w3 ⟨Am, cm, rfl, hom, hcm, b3⟩
  have HRM := Lib.hid (own_rd hom).1
  have hb3 := hb2.trans (b3.mono hb2.size)
  clear hom hb2 b3 HAL HO1
  go_wp2_with fail
  go_loopw [3, 13] (fun ov i wr => ∃ (k : Nat) (A : Option Addr) (cap : Nat), i = .int .i64 k ∧ k ≤ m.length ∧ ov = .slice A (F k).length cap ∧ wr.ownsRow w3.heap.size 32 4 (.slice A (F k).length cap) (F k).length (flatE (F k)) ∧ (F k).length ≤ cap ∧ Below w3.heap.size w3 wr) (fun ov i _ => m.length - (intOf i).toNat)
  case atStart => exact ⟨0, none, 0, rfl, by omega, by rw [hF0]; rfl, by rw [hF0]; exact ⟨rfl, .inl ⟨rfl, rfl⟩⟩, by rw [hF0]; exact Nat.le_refl _, Below.refl _ _⟩
  case round =>
    obtain ⟨k, A, cap, rfl, hk, rfl, how, hcap, hb⟩ := hrel
    by_cases hlt : k < m.length
    · have hfl := HFL.out k hk
      have hfk := HFK.out k hk
      have hsn := HFS.out k hlt
      have hxo := HOK.out _ (List.getElem_mem hlt)
      obtain ⟨adm, rfl, c0, c1, c2⟩ := (HRM.out.b hb).at_ hlt
      generalize m[k] = x at c0 c1 c2 hsn hxo
      obtain ⟨x0, ⟨x1, x2⟩⟩ := x
      simp only at c0 c1 c2 hxo
      have bA : Below wr.heap.size wr (wr.alloc (.cells #[.int .i64 x0, .int .u64 x1, .string x2] 30)) := (Below.refl _ _).alloc (Nat.le_refl _) _
      have how2 := own_below how bA
      have hbA := hb.trans (bA.mono hb.size)
      obtain ⟨out, hout⟩ : ∃ out, F k = out := ⟨_, rfl⟩
      rw [hout] at how2 hcap hfl hfk hsn ⊢
      have HSN := Lib.hid hsn
      have HFK2 := Lib.hid hfk
      have HOW := Lib.hid how2
      clear how how2 hb bA hsn hfk hout
      go_upto_region 5 with fail
      refine name_world (fun w => w.ownsRow w3.heap.size 32 4 (.slice A out.length cap) out.length (flatE out) ∧ Blk w wr.heap.size 30 #[.int .i64 x0, .int .u64 x1, .string x2] ∧ Below w3.heap.size w3 w) ⟨HOW.out, Blk.fresh _ _ _, hbA⟩ ?_
      clear HOW hbA
      rintro w5 ⟨how, kB, hb5⟩
      have HOW := Lib.hid how
      have z0 : w5.cell? ⟨wr.heap.size, 0, none⟩ = some (.int .i64 x0) := kB.cell 0
      have z1 : w5.cell? ⟨wr.heap.size, 1, none⟩ = some (.int .u64 x1) := kB.cell 1
      have hsz5 := hb5.size
      clear how
      go_upto_region 7 with fail
      go_cut [3, 7, 41] (fun s3 s7 s wx => s3 = .slice A out.length cap ∧ s7 = .int .i64 out.length ∧ s = .bool (hitE out x0) ∧ ∃ d, wx = w5.drewN d)
      case first =>
        rcases nil_or_snoc out with rfl | ⟨a, e, rfl⟩
        · have hnz : decide ((0 : Int) > 0) = false := by decide
          go_quiet (fail)
          go_wp2_with fail
          go_meet
          exact ⟨rfl, rfl, rfl, _, rfl⟩
        · have hek := HFK2.out e (by simp)
          have hlen : (a ++ [e]).length = a.length + 1 := by simp
          obtain ⟨g, _, cur, hv, hgB, hg, _⟩ := own_block HOW.out (by omega)
          injection hv with hv1 hv2 hv3
          subst hv1
          have e0 := own_cells' HOW.out (a.length * 4 + 0) _ (flatE_last a e 0 _ rfl)
          have e1 := own_cells' HOW.out (a.length * 4 + 1) _ (flatE_last a e 1 _ rfl)
          rw [Nat.add_zero] at e0
          rw [hlen] at hfl ⊢
          obtain ⟨E0, E1, E2, E3⟩ := e
          unfold okE at hek
          simp only at hek e0 e1
          have HLEN := Lib.hid hlen
          clear HOW hv2 hv3 hg HSN HFK2 hlen hcap
          generalize a.length = L at e0 e1 hfl HLEN ⊢
          have hgt : decide ((L : Int) + 1 > 0) = true := decide_eq_true (by omega)
          have hw1 : IntKind.i64.wrap ((L : Int) + 1 - 1) = (L : Int) := by rw [show (L : Int) + 1 - 1 = (L : Int) by omega]; exact IntWalk.i64_in _ (by omega)
          have hw2 : IntKind.i64.wrap (E0 + E1) = E0 + E1 := IntWalk.i64_in _ (by omega)
          go_quiet (fail)
          go_wp2_with fail
          go_meet
          exact ⟨by rw [HLEN.out], by rw [HLEN.out], by rw [hitE_snoc], _, rfl⟩
      case rest =>
        obtain ⟨rfl, rfl, rfl, d, hw⟩ := hcut
        rw [hw]
        have y0 : (w5.drewN d).cell? ⟨wr.heap.size, 0, none⟩ = some (.int .i64 x0) := z0
        have HOW6 := Lib.hid (own_below HOW.out (drewB w5 d))
        have hb6 : Below w3.heap.size w3 (w5.drewN d) := bN hb5 d
        have hsz6 : w3.heap.size ≤ (w5.drewN d).heap.size := hsz5
        clear hw wc z0 z1 HOW hb5 hsz5 kB
        generalize w5.drewN d = w6 at y0 HOW6 hb6 hsz6 ⊢
        cases hh : hitE out x0 with
        | false =>
          have HSN2 : Hid (F (k + 1) = out ++ [⟨x0, 1, x1, x1⟩]) := HSN.out.trans (stepE_no hh)
          clear HSN HFK2
          go_wp2_with (at_builtin
                       refine wpList_appS _ rfl (.tmp 71) (.tmp 77) _ rfl w3.heap.size 32 (.agg #[.int .i64 0, .int .i64 0, .int .u64 0, .int .u64 0]) 4 32 Try.underlying24 infoE rfl (by decide) _ out.length (flatE out) rfl
                         (own_below HOW6.out ((Below.refl _ _).alloc (Nat.le_refl _) _)) (some ⟨_, 0, none⟩) 1 1 (ec ⟨x0, 1, x1, x1⟩) rfl rfl (fun e => (by cases e)) (oneE_cells w6 ⟨x0, 1, x1, x1⟩) (oneE_one _) (by omega) (by omega) (by simp; omega) ?_
                       intro A6 cap6 w7 hr6 hc6 hb7 hs6)
          rw [← oneE_flat, ← flatE_append] at hr6
          go_roundw
          case rel => exact ⟨k + 1, A6, cap6, by go_num, by omega, by rw [HSN2.out]; simp, by rw [HSN2.out]; simpa using hr6, by rw [HSN2.out]; simpa using hc6, (hb6.alloc hb6.size _).trans hb7⟩
          case measure => simp [intOf]; omega
        | true =>
          obtain ⟨a, e, rfl, hee⟩ := hitE_yes hh
          have hek := HFK2.out e (by simp)
          have HSN2 := Lib.hid (HSN.out.trans (stepE_snoc a e _))
          have hlen : (a ++ [e]).length = a.length + 1 := by simp
          obtain ⟨g, _, cur, hv, hgB, hg, _⟩ := own_block HOW6.out (by omega)
          injection hv with hv1 hv2 hv3
          subst hv1
          have d1 := own_cells' HOW6.out (a.length * 4 + 1) _ (flatE_last a e 1 _ rfl)
          have d2 := own_cells' HOW6.out (a.length * 4 + 2) _ (flatE_last a e 2 _ rfl)
          have d3 := own_cells' HOW6.out (a.length * 4 + 3) _ (flatE_last a e 3 _ rfl)
          have f1 : w6.frozen? ⟨g, a.length * 4 + 1, none⟩ = false := Blk.frozen hg _
          have hp1 := own_putK HOW6.out (a.length * 4 + 1) (.int .i64 (e.f1 + 1))
          have hb7 := hb6.setCell (p := ⟨g, a.length * 4 + 1, none⟩) hgB (.int .i64 (e.f1 + 1))
          have g2 : (w6.setCell ⟨g, a.length * 4 + 1, none⟩ (.int .i64 (e.f1 + 1))).cell? ⟨g, a.length * 4 + 2, none⟩ = some (.int .u64 e.f2) := by simp [go_sem, d2]
          have g3 : (w6.setCell ⟨g, a.length * 4 + 1, none⟩ (.int .i64 (e.f1 + 1))).cell? ⟨g, a.length * 4 + 3, none⟩ = some (.int .u64 e.f3) := by simp [go_sem, d3]
          have g4 : (w6.setCell ⟨g, a.length * 4 + 1, none⟩ (.int .i64 (e.f1 + 1))).heap[g]? = some (.cells (cur.setIfInBounds (a.length * 4 + 1) (.int .i64 (e.f1 + 1))) 32 (0, 0)) := heap_set hg _
          unfold okE at hek
          rw [hlen] at hfl
          have hlL : ((a ++ [e]).length : Int) - 1 = (a.length : Int) := by rw [hlen]; omega
          have hltL : (a.length : Int) < ((a ++ [e]).length : Int) := by rw [hlen]; omega
          have HP1 := Lib.hid hp1
          have HG4 := Lib.hid g4
          have HB7 := Lib.hid hb7
          clear hp1 g4 hb7 hg HOW6 hb6 HSN HFK2 hv2 hv3 d2 d3 hh
          go_upto_region 10 with fail
          refine name_world (fun w => w.cell? ⟨g, a.length * 4 + 2, none⟩ = some (.int .u64 e.f2) ∧ w.cell? ⟨g, a.length * 4 + 3, none⟩ = some (.int .u64 e.f3) ∧ (∃ cur', w.heap[g]? = some (.cells cur' 32 (0, 0))) ∧ Below w3.heap.size w3 w ∧ Hid (w.ownsRow w3.heap.size 32 4 (.slice (some ⟨g, 0, none⟩) (a ++ [e]).length cap) (a ++ [e]).length ((flatE (a ++ [e])).set (a.length * 4 + 1) (.int .i64 (e.f1 + 1))))) ⟨g2, g3, ⟨_, HG4.out⟩, HB7.out, HP1⟩ ?_
          clear HP1 HG4 HB7 g2 g3 d1 f1 y0
          rintro w7 ⟨r2, r3, ⟨cur', hc⟩, hb7, HP1⟩
          have f2 : w7.frozen? ⟨g, a.length * 4 + 2, none⟩ = false := Blk.frozen hc _
          have f3 : w7.frozen? ⟨g, a.length * 4 + 3, none⟩ = false := Blk.frozen hc _
          have hp2 := own_putK (own_putK HP1.out (a.length * 4 + 2) (.int .u64 (min e.f2 x1))) (a.length * 4 + 3) (.int .u64 (max e.f3 x1))
          rw [flatE_mid] at hp2
          have HP2 := Lib.hid hp2
          have HB8 := Lib.hid ((hb7.setCell (p := ⟨g, a.length * 4 + 2, none⟩) hgB (.int .u64 (min e.f2 x1))).setCell (p := ⟨g, a.length * 4 + 3, none⟩) hgB (.int .u64 (max e.f3 x1)))
          clear hp2 hb7 HP1 hc
          go_region
          have HN : Hid (F (k + 1) = a ++ [⟨e.f0, e.f1 + 1, min e.f2 x1, max e.f3 x1⟩]) := by have h := HSN2.out; rw [if_pos hee] at h; exact h
          have hl2 : (a ++ [e]).length = (a ++ [(⟨e.f0, e.f1 + 1, min e.f2 x1, max e.f3 x1⟩ : E)]).length := by simp
          have HR8 := Lib.hid (own_below HP2.out (drewB _ 1))
          have HBD := Lib.hid (bN HB8.out 1)
          clear HSN2 HP2 HB8 r2 r3 f2 f3
          have HL2 := Lib.hid hl2
          clear hl2
          go_wp2_with fail
          go_roundw
          case rel => exact ⟨k + 1, some ⟨g, 0, none⟩, cap, by go_num, by omega, by rw [HN.out, ← HL2.out], by rw [HN.out, ← HL2.out]; exact HR8.out, by rw [HN.out, ← HL2.out]; exact hcap, HBD.out⟩
          case measure => simp [intOf]; omega
    · obtain rfl : k = m.length := by omega
      go_wp2_with fail
      go_ret
      exact ⟨A, cap, rfl, own_low' how hb3.size, hcap, hb3.trans (hb.mono hb3.size)⟩
end Go.Proofs.Ytjohfkpgghnpeaa.SetC
end
section
namespace Go.Proofs.Ytjohfkpgghnpeaa.SetC
open Go Go.RowKit
open Go.Proofs.Ytjohfkpgghnpeaa.Gen
open Go.Proofs.Ytjohfkpgghnpeaa.Own
open Go.Proofs.Ytjohfkpgghnpeaa.RowK
open Go.Proofs.Ytjohfkpgghnpeaa.ItemC
open Go.Proofs.Ytjohfkpgghnpeaa.PRef
open Go.Proofs.Ytjohfkpgghnpeaa.ItmPr (ofL ofL_ok ofL_mem)
set_option linter.unusedVariables false
def blkL : List E → Int
  | [] => 0
  | e :: l => e.f1 + blkL l
theorem blkL_snoc : ∀ (l : List E) (e : E), blkL (l ++ [e]) = blkL l + e.f1
  | [], e => by simp [blkL]
  | a :: l, e => by
    show a.f1 + blkL (l ++ [e]) = a.f1 + blkL l + e.f1
    rw [blkL_snoc l e, Int.add_assoc]
set_option maxHeartbeats 2000000 in
theorem blk1_calls (W : World) (n : Int) (e : E) (hn0 : 0 ≤ n) (hn : n ≤ 100000) (he : 1 ≤ e.f1 ∧ e.f1 ≤ 64) :
    Calls Try.prog 57 #[.int .i64 n, .agg #[.int .i64 e.f0, .int .i64 e.f1, .int .u64 e.f2, .int .u64 e.f3]] W fun e' w' => e' = .returned (.int .i64 (n + e.f1)) ∧ Below W.heap.size W w' := by
  have hmx : max e.f1 0 = e.f1 := by omega
  go_enter Try.func57, Try.ntmps57
  go_wp2_with fail
  go_ret
  exact ⟨rfl, (Below.refl _ _).alloc (Nat.le_refl _) _⟩
def RdE (w : World) (A : Option Addr) (l : List E) : Prop := ∀ ad, A = some ad → ∀ (j : Nat) (u : Value), (flatE l)[j]? = some u → w.cell? (ad.add j) = some u
theorem RdE.b {w w' : World} {A : Option Addr} {l : List E} (h : RdE w A l) (hb : Below w.heap.size w w') : RdE w' A l := fun ad e j u hu => cellB hb (h ad e j u hu)
theorem own_rdE {w : World} {B n cap : Nat} {A : Option Addr} {l : List E} (h : w.ownsRow B 32 4 (.slice A n cap) n (flatE l)) : RdE w A l := by
  rintro ad rfl j u hu
  rcases h.2 with ⟨h1, _⟩ | ⟨g, _, _, h1, _⟩
  · cases h1
  · injection h1 with h1 _ _
    injection h1 with h1
    subst h1
    exact h.cells (g := g) rfl j u hu
theorem own_someE {w : World} {B K n cap : Nat} {T : TypeId} {A : Option Addr} {xs : List Value} (h : w.ownsRow B T K (.slice A n cap) n xs) (hn : 0 < n) : ∃ ad, A = some ad := by
  obtain ⟨g, _, _, hv, _⟩ := own_block h hn
  injection hv with hv
  exact ⟨_, hv⟩
theorem flatE_get {l : List E} {j : Nat} {x : E} (h : l[j]? = some x) (i : Nat) (u : Value) (hu : (ec x)[i]? = some u) : (flatE l)[j * 4 + i]? = some u := by
  obtain ⟨hj, rfl⟩ := List.getElem?_eq_some_iff.1 h
  have h1 : l = l.take j ++ l[j] :: l.drop (j + 1) := by rw [← List.drop_eq_getElem_cons hj, List.take_append_drop]
  have h2 : (l.take j).length = j := by rw [List.length_take]; omega
  have hi := (List.getElem?_eq_some_iff.1 hu).1
  generalize l[j] = y at h1 hu hi
  rw [h1, flatE_append, List.getElem?_append_right (by rw [flatE_len, h2]; omega), flatE_len, h2, Nat.add_sub_cancel_left]
  show (ec y ++ flatE _)[i]? = _
  rw [List.getElem?_append_left hi]
  exact hu
theorem RdE.at_ {w : World} {ad : Addr} {l : List E} (h : RdE w (some ad) l) {j : Nat} (hj : j < l.length) : w.cell? (ad.add (j * 4)) = some (.int .i64 l[j].f0) ∧ w.cell? ⟨(ad.add (j * 4)).block, (ad.add (j * 4)).off + 1, none⟩ = some (.int .i64 l[j].f1) ∧ w.cell? ⟨(ad.add (j * 4)).block, (ad.add (j * 4)).off + 2, none⟩ = some (.int .u64 l[j].f2) ∧ w.cell? ⟨(ad.add (j * 4)).block, (ad.add (j * 4)).off + 3, none⟩ = some (.int .u64 l[j].f3) := by
  have hx := List.getElem?_eq_getElem hj
  have h0 := h ad rfl _ _ (flatE_get hx 0 _ rfl)
  have h1 := h ad rfl _ _ (flatE_get hx 1 _ rfl)
  have h2 := h ad rfl _ _ (flatE_get hx 2 _ rfl)
  have h3 := h ad rfl _ _ (flatE_get hx 3 _ rfl)
  rw [← Go.Deep.add_add] at h1 h2 h3
  exact ⟨h0, h1, h2, h3⟩
theorem blkL_le (l : List E) (h : ∀ e ∈ l, 1 ≤ e.f1 ∧ e.f1 ≤ 64) : 0 ≤ blkL l ∧ blkL l ≤ l.length * 64 := by
  induction l with
  | nil => exact ⟨Int.le_refl _, Int.le_refl _⟩
  | cons a l ih =>
    have h1 := h a List.mem_cons_self
    have h2 := ih (fun e he => h e (List.mem_cons_of_mem _ he))
    show 0 ≤ a.f1 + blkL l ∧ a.f1 + blkL l ≤ ((l.length + 1 : Nat) : Int) * 64
    omega
set_option maxRecDepth 20000 in
set_option maxHeartbeats 4000000 in
theorem fold_calls (W : World) (A : Option Addr) (cap : Nat) (l : List E) (hl : l.length ≤ 64) (hA : 0 < l.length → ∃ ad, A = some ad) (hok : ∀ e ∈ l, 1 ≤ e.f1 ∧ e.f1 ≤ 64) (h : RdE W A l) :
    Calls Try.prog 56 #[.slice A l.length cap, .int .i64 0, .func (.func 57) #[] #[]] W fun e' w' => e' = .returned (.int .i64 (blkL l)) ∧ Below W.heap.size W w' := by
  have HR := Lib.hid h
  have HK := Lib.hid hok
  clear h hok
  go_enter Try.func56, Try.ntmps56
  go_wp2_with fail
  go_loopw [1, 11] (fun nv i wr => ∃ k : Nat, i = .int .i64 k ∧ k ≤ l.length ∧ nv = .int .i64 (blkL (l.take k)) ∧ Below W.heap.size W wr) (fun nv i _ => l.length - (intOf i).toNat)
  case atStart => exact ⟨0, rfl, by omega, rfl, Below.refl _ _⟩
  case round =>
    obtain ⟨k, rfl, hk, rfl, hb⟩ := hrel
    by_cases hlt : k < l.length
    · obtain ⟨ad, rfl⟩ := hA (by omega)
      obtain ⟨c0, c1, c2, c3⟩ := (HR.out.b hb).at_ hlt
      have hsn := blkL_snoc (l.take k) l[k]
      rw [← List.take_succ_eq_append_getElem hlt] at hsn
      have hx := HK.out _ (List.getElem_mem hlt)
      have hle := blkL_le (l.take k) (fun e he => HK.out e (List.mem_of_mem_take he))
      rw [List.length_take] at hle
      generalize l[k] = x at c0 c1 c2 c3 hsn hx
      obtain ⟨U, hU⟩ : ∃ U, blkL (l.take k) = U := ⟨_, rfl⟩
      rw [hU] at hsn hle ⊢
      have bA : Below wr.heap.size wr (wr.alloc (.cells #[.int .i64 x.f0, .int .i64 x.f1, .int .u64 x.f2, .int .u64 x.f3] 32)) := (Below.refl _ _).alloc (Nat.le_refl _) _
      have hb1 := hb.trans (bA.mono hb.size)
      have HB := Lib.hid (blk1_calls (wr.alloc (.cells #[.int .i64 x.f0, .int .i64 x.f1, .int .u64 x.f2, .int .u64 x.f3] 32)) U x hle.1 (by omega) hx)
      have HSN := Lib.hid hsn
      clear hsn bA hb hU hle hx
      go_wp2_with fail
      refine HB.out.mono ?_; rintro e w1 ⟨rfl, b1⟩
      have hb2 := hb1.trans (b1.mono hb1.size)
      clear b1 hb1 HB
      go_wp2_with fail
      go_roundw
      case rel => exact ⟨k + 1, by go_num, by omega, by rw [HSN.out], hb2⟩
      case measure => simp [intOf]; omega
    · obtain rfl : k = l.length := by omega
      rw [List.take_length]
      go_wp2_with fail
      go_ret
      exact ⟨rfl, hb⟩
set_option maxRecDepth 20000 in
set_option maxHeartbeats 4000000 in
theorem blocks_calls (W : World) (A : Option Addr) (cap : Nat) (l : List E) (hl : l.length ≤ 64) (hA : 0 < l.length → ∃ ad, A = some ad) (hok : ∀ e ∈ l, 1 ≤ e.f1 ∧ e.f1 ≤ 64) (h : RdE W A l) :
    Calls Try.prog 18 #[.slice A l.length cap] W fun e' w' => e' = .returned (.int .i64 (blkL l)) ∧ Below W.heap.size W w' := by
  have HF := Lib.hid (fold_calls W A cap l hl hA hok h)
  clear h hok hA hl
  go_enter Try.func18, Try.ntmps18
  go_wp2_with fail
  refine HF.out.mono ?_; rintro e w1 ⟨rfl, b1⟩
  go_wp2_with fail
  go_ret
  exact ⟨rfl, b1⟩
def aw48 : List H := [⟨1, ⟨0, ⟨#[]⟩⟩⟩, ⟨2, ⟨0, ⟨#[]⟩⟩⟩, ⟨4, ⟨0, ⟨#[]⟩⟩⟩]
theorem aw48_of : ofE (ofL [] aw48) = [⟨1, 2, 0, 0⟩, ⟨4, 1, 0, 0⟩] := by rfl
theorem aw48_sz : ∀ x ∈ aw48, x.f1.f1.size ≤ 140737488355328 := by
  intro x hx
  simp only [aw48, List.mem_cons, List.not_mem_nil, or_false] at hx
  rcases hx with rfl | rfl | rfl <;> decide
theorem rd_all (w : World) (l : List H) : Rd (w.alloc (.cells (flat l).toArray 30)) (some ⟨w.heap.size, 0, none⟩) l.length l := by
  refine ⟨fun e => (by cases e), fun ad e j u hu => ?_⟩
  injection e with e
  subst e
  rw [add_lit, Nat.zero_add, (Blk.fresh w _ _).cell j, List.getElem?_toArray]
  exact hu
set_option maxRecDepth 20000 in
set_option maxHeartbeats 4000000 in
theorem exawake_calls (W : World) : Calls Try.prog 17 #[] W fun e w' => e = .returned (.bool true) ∧ Below W.heap.size W w' := by
  have bA : Below W.heap.size W (W.alloc (.cells #[.int .i64 1, .int .u64 0, .string ⟨#[]⟩, .int .i64 2, .int .u64 0, .string ⟨#[]⟩, .int .i64 4, .int .u64 0, .string ⟨#[]⟩] 30)) := (Below.refl _ _).alloc (Nat.le_refl _) _
  have he := ext_calls (W.alloc (.cells #[.int .i64 1, .int .u64 0, .string ⟨#[]⟩, .int .i64 2, .int .u64 0, .string ⟨#[]⟩, .int .i64 4, .int .u64 0, .string ⟨#[]⟩] 30)) (some ⟨W.heap.size, 0, none⟩) 3 aw48 (by decide) aw48_sz (rd_all W aw48)
  rw [aw48_of] at he
  unfold EPost at he
  have HE := Lib.hid he
  clear he
  go_enter Try.func17, Try.ntmps17
  go_wp2_with fail
  refine HE.out.mono ?_; rintro e w1 ⟨A, cap, rfl, ho, hc, b1⟩
  have hb1 := bA.trans (b1.mono bA.size)
  obtain ⟨g, _, _, hv, _⟩ := own_block ho (by decide)
  injection hv with hv1 hv2 hv3
  subst hv1
  have hr := own_rdE ho
  have HBL := Lib.hid (blocks_calls w1 (some ⟨g, 0, none⟩) cap [⟨1, 2, 0, 0⟩, ⟨4, 1, 0, 0⟩] (by decide) (fun _ => ⟨_, rfl⟩) (by intro e he; simp only [List.mem_cons, List.not_mem_nil, or_false] at he; rcases he with rfl | rfl <;> decide) hr)
  have a1 : w1.cell? ⟨g, 1, none⟩ = some (.int .i64 2) := own_cells' ho 1 _ rfl
  have a2 : w1.cell? ⟨g, 4, none⟩ = some (.int .i64 4) := own_cells' ho 4 _ rfl
  clear hr ho bA b1 HE hv2 hv3
  go_wp2_with fail
  refine HBL.out.mono ?_; rintro e w2 ⟨rfl, b2⟩
  have hb2 := hb1.trans (b2.mono hb1.size)
  go_wp2_with fail
  go_ret
  exact ⟨rfl, hb2⟩
end Go.Proofs.Ytjohfkpgghnpeaa.SetC
end
